/- Walks, printed by gen.py. -/
import Derived.Test.YtadjcnllmkdgiaaF
import Derived.Test.YtadjcnllmkdgiaaW1
import Derived.Test.YtadjcnllmkdgiaaProg
import Derived.KernelRfl
set_option maxRecDepth 100000
namespace Go.Proofs.Ytadjcnllmkdgiaa
open Go Go.RowKit

set_option maxHeartbeats 2000000 in
theorem W_spec_GraphOk {W : World} {va0_0 : Value} {fa0_0 : List Nat} {a0_0 : (List (List Int))} (ha0_0 : Ro (Rp.sl 2 Rp.int) W fa0_0 va0_0 a0_0) {r : Bool} (hF : F_spec_GraphOk a0_0 = some r) :
    Calls Try.prog 22 [.agg #[va0_0]].toArray W (Ret fun u w' => u = .bool r ∧ Ext W w') := by
  refine f_enter Try.func22 rfl Try.ntmps22 rfl ?_
  intro a ha
  replace ha : Fr 64 [(0, (.agg #[va0_0]))] a := ha
  have hE : Chg [] W W := Chg.refl _ _
  unfold F_spec_GraphOk at hF
  refine wp_seq ?_; refine wp_region_lit ?_
  refine o_box ha rfl rfl rfl ?_; clear ha a; intro b1 w2 hB3 hx4 hlo5 a ha
  have q6 := Zn.one hlo5
  have q7 := Zn.upD q6 hE
  have hE8 := Ext.trans hE hx4
  refine op_g ha rfl (g_assign rfl) ?_; clear ha a; intro a ha; refine wpList_nil ?_; replace ha := ha.sub (σ' := [(1, (.pointer (some ⟨b1, 0, none⟩)))]) ⟨rfl, trivial⟩; refine e_then ?_; refine wp_seq ?_; refine wp_region_lit ?_; refine op_g ha rfl (g_loadA (cs := [va0_0]) Try.isAgg29 Try.sizeOf29 rfl (by simp) hB3.all) ?_; clear ha a; intro a ha; obtain ⟨x9, hc10, hF⟩ := cal_some hF
  refine o_call ha rfl rfl Try.call35 (W_spec_l1Size (ha0_0.ext hE8) hc10) ?_; clear ha a; rintro v11 w12 ⟨⟨rfl, hI14⟩, hx13⟩ a ha
  replace hB3 := hB3.ext hx13
  have hE15 := Ext.trans hE8 hx13
  refine op_g ha rfl (g_assign rfl) ?_; clear ha a; intro a ha; refine wpList_nil ?_; replace ha := ha.sub (σ' := [(1, (.pointer (some ⟨b1, 0, none⟩))), (3, (.int .i64 x9))]) ⟨rfl, rfl, trivial⟩; refine e_then ?_; refine wp_seq ?_; refine wp_seq ?_; refine wp_region_lit ?_; refine op_g ha rfl (g_move rfl) ?_; clear ha a; intro a ha; obtain ⟨x16, hc17, hF⟩ := cal_some hF
  refine o_call ha rfl rfl Try.call46 (W_spec_l1In hI14 (show InI 1 from by decide) (show InI 16 from by decide) hc17) ?_; clear ha a; rintro v18 w19 ⟨rfl, hx20⟩ a ha
  replace hB3 := hB3.ext hx20
  have hE21 := Ext.trans hE15 hx20
  refine op_g ha rfl (g_not rfl) ?_; clear ha a; intro a ha; refine wpList_nil ?_; replace ha := ha.sub (σ' := [(1, (.pointer (some ⟨b1, 0, none⟩))), (3, (.int .i64 x9)), (11, (.bool (!x16)))]) ⟨rfl, rfl, rfl, trivial⟩; refine e_then ?_; refine c_cond (¬ (x16 = true)) ha rfl (n_iff (Iff.rfl)) (fun hp22 => ?_) (fun hp22 => ?_)
  · replace hF := if_t hp22 hF
    refine wp_seq ?_; refine wp_region_lit ?_; refine op_g ha rfl (g_assign rfl) ?_; clear ha a; intro a ha; refine wpList_nil ?_; replace ha := ha.sub (σ' := [(2, (.bool false))]) ⟨rfl, trivial⟩; refine e_then ?_; refine wp_ret ?_; refine e_then_ret ?_; obtain rfl := Option.some.inj hF
    exact f_ret1 ha rfl rfl ⟨rfl, hE21⟩
  replace hF := if_f hp22 hF; refine wp_skip ?_; refine e_then ?_; refine wp_seq ?_; refine wp_seq ?_; refine wp_region_lit ?_; refine op_g ha rfl (g_assign rfl) ?_; clear ha a; intro a ha; refine wpList_nil ?_; replace ha := ha.sub (σ' := [(1, (.pointer (some ⟨b1, 0, none⟩))), (3, (.int .i64 x9)), (4, (.int .i64 0))]) ⟨rfl, rfl, rfl, trivial⟩; refine e_then ?_; obtain ⟨o136, ho137, hK138⟩ := bnd_some hF
  obtain ⟨n139, hn140⟩ := lp_some ho137; clear ho137
  refine c_loop (fun a w => Fr 64 [(1, (.pointer (some ⟨b1, 0, none⟩))), (3, (.int .i64 x9))] a ∧ Chg [] W w ∧ Bx w b1 [va0_0] 29 ∧ Zn W (b1 : Int) ∧ o136 = .inl ()) (fun n a w => ∃ (i80 : Int), Fr 64 [(1, (.pointer (some ⟨b1, 0, none⟩))), (3, (.int .i64 x9)), (4, (.int .i64 i80))] a ∧ Chg [] W w ∧ InI i80 ∧ Bx w b1 [va0_0] 29 ∧ Zn W (b1 : Int) ∧ lpN (fun s => F_spec_GraphOk_l1 a0_0 x9 s) n i80 = some o136) n139 ⟨0, ha.sub ⟨rfl, rfl, rfl, trivial⟩, hE21, (show InI 0 from by decide), hB3, q7, hn140⟩ ?_ ?_
  · rintro m144 a w77 ⟨i80, ha, hE82, hI81, hB78, z79, hF⟩
    cases m144 with
    | zero => exact (lpN_zero hF).elim
    | succ m144 =>
      obtain ⟨z143, hF, hN142⟩ := lpN_succ hF
      have hF : F_spec_GraphOk_l1 a0_0 x9 i80 = some z143 := hF; unfold F_spec_GraphOk_l1 at hF
      refine wp_seq ?_; refine wp_seq ?_; refine wp_region_lit ?_; (iterate 2 refine op_g ha rfl (g_move rfl) ?_; clear ha a; intro a ha); refine op_g ha rfl (g_lss rfl rfl) ?_; clear ha a; intro a ha; refine wpList_nil ?_; replace ha := ha.sub (σ' := [(1, (.pointer (some ⟨b1, 0, none⟩))), (3, (.int .i64 x9)), (4, (.int .i64 i80)), (14, (.bool (decide (i80 < x9))))]) ⟨rfl, rfl, rfl, rfl, trivial⟩; refine e_then ?_; refine c_cond (i80 < x9) ha rfl (decide_eq_true_iff) (fun hp145 => ?_) (fun hp145 => ?_)
      · replace hF := if_t hp145 hF
        refine wp_skip ?_; refine e_then ?_; refine wp_seq ?_; refine wp_block ?_; refine wp_seq ?_; refine wp_region_lit ?_; refine op_g ha rfl (g_field0 st29_0 rfl) ?_; clear ha a; intro a ha; refine op_g ha rfl (g_load Try.isAgg27 rfl (hB78.cell rfl)) ?_; clear ha a; intro a ha; refine op_g ha rfl (g_move rfl) ?_; clear ha a; intro a ha; obtain ⟨x146, g147, gx148, hF⟩ := idx_some hF
        obtain ⟨p149, cs150, f151, hf152, hpb153, hat154, hr155, hi156⟩ := ha0_0.at g147 gx148
        obtain ⟨v157, rfl, h158⟩ := hr155
        have h158 : Ro Rp.int W f151 v157 x146 := h158
        refine op_g ha rfl (hi156.gives sl27 rfl rfl) ?_; clear ha a; intro a ha; refine op_g ha rfl (g_load0 hE82 Try.isAgg35 rfl hat154.one) ?_; clear ha a; intro a ha; refine op_g ha rfl (g_move rfl) ?_; clear ha a; intro a ha; obtain ⟨x160, hc161, hF⟩ := cal_some hF
        refine o_call ha rfl rfl Try.call48 (W_spec_l1Set (h158.ext hE82) hI14 hc161) ?_; clear ha a; rintro v162 w163 ⟨rfl, hx164⟩ a ha
        replace hB78 := hB78.ext hx164
        have hE165 := Ext.trans hE82 hx164
        refine op_g ha rfl (g_not rfl) ?_; clear ha a; intro a ha; refine op_g ha rfl (g_move rfl) ?_; clear ha a; intro a ha
        by_cases hp166 : ¬ (x160 = true)
        · replace hF := if_t hp166 hF
          rw [show (!x160) = true from (n_iff (Iff.rfl)).2 hp166] at ha
          (iterate 7 refine op_unwant ha rfl (yields ha rfl rfl) rfl ?_; clear ha a; intro a ha); refine op_g ha rfl (g_pick rfl rfl) ?_; clear ha a; intro a ha; refine wpList_nil ?_; replace ha := ha.sub (σ' := [(1, (.pointer (some ⟨b1, 0, none⟩))), (3, (.int .i64 x9)), (4, (.int .i64 i80)), (33, (.bool true))]) ⟨rfl, rfl, rfl, rfl, trivial⟩; refine e_then ?_; refine c_true ha rfl ?_; refine wp_seq ?_; refine wp_region_lit ?_; refine op_g ha rfl (g_assign rfl) ?_; clear ha a; intro a ha; refine wpList_nil ?_; replace ha := ha.sub (σ' := [(2, (.bool false))]) ⟨rfl, trivial⟩; refine e_then ?_; refine wp_ret ?_
          refine e_blk_ret ?_; refine e_then_ret ?_; refine e_lq_ret ?_; refine e_then_ret ?_; obtain rfl := Option.some.inj hF
          have e167 := LK_inr hN142; subst e167
          have e168 := BK_inr hK138; subst e168
          exact f_ret1 ha rfl rfl ⟨rfl, hE165⟩
        replace hF := if_f hp166 hF
        rw [show (!x160) = false from b_false (n_iff (Iff.rfl)) hp166] at ha
        refine op_want (yields ha rfl rfl) ?_; refine op_g ha rfl (g_field0 st29_0 rfl) ?_; clear ha a; intro a ha; refine op_want (yields ha rfl rfl) ?_; refine op_g ha rfl (g_load Try.isAgg27 rfl (hB78.cell rfl)) ?_; clear ha a; intro a ha; refine op_want (yields ha rfl rfl) ?_; refine op_g ha rfl (g_move rfl) ?_; clear ha a; intro a ha; refine op_want (yields ha rfl rfl) ?_; obtain ⟨x169, g170, gx171, hF⟩ := idx_some hF
        obtain ⟨p172, cs173, f174, hf175, hpb176, hat177, hr178, hi179⟩ := ha0_0.at g170 gx171
        obtain ⟨v180, rfl, h181⟩ := hr178
        have h181 : Ro Rp.int W f174 v180 x169 := h181
        refine op_g ha rfl (hi179.gives sl27 rfl rfl) ?_; clear ha a; intro a ha; refine op_want (yields ha rfl rfl) ?_; refine op_g ha rfl (g_load0 hE165 Try.isAgg35 rfl hat177.one) ?_; clear ha a; intro a ha; refine op_want (yields ha rfl rfl) ?_; refine op_g ha rfl (g_move rfl) ?_; clear ha a; intro a ha; refine op_want (yields ha rfl rfl) ?_; obtain ⟨x183, hc184, hF⟩ := cal_some hF
        refine o_call ha rfl rfl Try.call50 (W_spec_l1Has (h181.ext hE165) hI81 hc184) ?_; clear ha a; rintro v185 w186 ⟨rfl, hx187⟩ a ha
        replace hB78 := hB78.ext hx187
        have hE188 := Ext.trans hE165 hx187
        refine op_g ha rfl (g_pick rfl rfl) ?_; clear ha a; intro a ha; refine wpList_nil ?_; replace ha := ha.sub (σ' := [(1, (.pointer (some ⟨b1, 0, none⟩))), (3, (.int .i64 x9)), (4, (.int .i64 i80)), (26, (.pointer (some ⟨b1, 0, none⟩))), (27, va0_0), (28, (.int .i64 i80)), (29, (.pointer (some p172))), (30, v180), (31, (.int .i64 i80)), (32, (.bool x183)), (33, (.bool x183))]) ⟨rfl, rfl, rfl, rfl, rfl, rfl, rfl, rfl, rfl, rfl, rfl, trivial⟩; refine e_then ?_; refine c_cond (x183 = true) ha rfl (Iff.rfl) (fun hp189 => ?_) (fun hp189 => ?_)
        · replace hF := if_t hp189 hF
          refine wp_seq ?_; refine wp_region_lit ?_; refine op_g ha rfl (g_assign rfl) ?_; clear ha a; intro a ha; refine wpList_nil ?_; replace ha := ha.sub (σ' := [(2, (.bool false))]) ⟨rfl, trivial⟩; refine e_then ?_; refine wp_ret ?_; refine e_blk_ret ?_; refine e_then_ret ?_; refine e_lq_ret ?_; refine e_then_ret ?_; obtain rfl := Option.some.inj hF
          have e190 := LK_inr hN142; subst e190
          have e191 := BK_inr hK138; subst e191
          exact f_ret1 ha rfl rfl ⟨rfl, hE188⟩
        replace hF := if_f hp189 hF; refine wp_skip ?_; refine e_blk ?_; refine e_then ?_; refine wp_region_lit ?_; refine op_g ha rfl (g_move rfl) ?_; clear ha a; intro a ha; obtain ⟨hI192, hF⟩ := ck_some hF; refine op_g ha rfl (g_add rfl rfl hI192) ?_; clear ha a; intro a ha; refine op_g ha rfl (g_assign rfl) ?_; clear ha a; intro a ha; refine wpList_nil ?_; replace ha := ha.sub (σ' := [(1, (.pointer (some ⟨b1, 0, none⟩))), (3, (.int .i64 x9)), (4, (.int .i64 (i80 + 1))), (26, (.pointer (some ⟨b1, 0, none⟩))), (27, va0_0), (28, (.int .i64 i80)), (29, (.pointer (some p172))), (30, v180), (31, (.int .i64 i80)), (32, (.bool x183))]) ⟨rfl, rfl, rfl, rfl, rfl, rfl, rfl, rfl, rfl, rfl, trivial⟩
        refine e_lq ?_; obtain rfl := Option.some.inj hF
        exact ⟨_, Nat.lt_succ_self _, i80 + 1, ha.sub ⟨rfl, rfl, rfl, trivial⟩, hE188, hI192, hB78, z79, hN142⟩
      replace hF := if_f hp145 hF; refine wp_exit ?_; refine e_then_exit ?_; refine e_lq_eq ?_; obtain rfl := Option.some.inj hF
      exact ⟨ha.sub ⟨rfl, rfl, trivial⟩, hE82, hB78, z79, (LK_inr hN142).symm⟩
  rintro a w133 ⟨ha, hE141, hB134, z135, rfl⟩
  have hF : F_spec_GraphOk_k2 a0_0 x9 = some _ := hK138; clear hK138; unfold F_spec_GraphOk_k2 at hF
  refine e_then ?_; refine wp_seq ?_; refine wp_seq ?_; refine wp_region_lit ?_; refine op_g ha rfl (g_assign rfl) ?_; clear ha a; intro a ha; refine wpList_nil ?_; refine e_then ?_; obtain ⟨o675, ho676, hK677⟩ := bnd_some hF
  obtain ⟨n678, hn679⟩ := lp_some ho676; clear ho676
  refine c_loop (fun a w => Fr 64 [] a ∧ Chg [] W w ∧ o675 = .inl ()) (fun n a w => ∃ (i436 : Int), Fr 64 [(1, (.pointer (some ⟨b1, 0, none⟩))), (3, (.int .i64 x9)), (5, (.int .i64 i436))] a ∧ Chg [] W w ∧ InI i436 ∧ Bx w b1 [va0_0] 29 ∧ Zn W (b1 : Int) ∧ lpN (fun s => F_spec_GraphOk_l3 a0_0 x9 s) n i436 = some o675) n678 ⟨0, ha.sub ⟨rfl, rfl, rfl, trivial⟩, hE141, (show InI 0 from by decide), hB134, z135, hn679⟩ ?_ ?_
  · rintro m683 a w433 ⟨i436, ha, hE438, hI437, hB434, z435, hF⟩
    cases m683 with
    | zero => exact (lpN_zero hF).elim
    | succ m683 =>
      obtain ⟨z682, hF, hN681⟩ := lpN_succ hF
      have hF : F_spec_GraphOk_l3 a0_0 x9 i436 = some z682 := hF; unfold F_spec_GraphOk_l3 at hF
      refine wp_seq ?_; refine wp_seq ?_; refine wp_region_lit ?_; (iterate 2 refine op_g ha rfl (g_move rfl) ?_; clear ha a; intro a ha); refine op_g ha rfl (g_lss rfl rfl) ?_; clear ha a; intro a ha; refine wpList_nil ?_; replace ha := ha.sub (σ' := [(1, (.pointer (some ⟨b1, 0, none⟩))), (3, (.int .i64 x9)), (5, (.int .i64 i436)), (36, (.bool (decide (i436 < x9))))]) ⟨rfl, rfl, rfl, rfl, trivial⟩; refine e_then ?_; refine c_cond (i436 < x9) ha rfl (decide_eq_true_iff) (fun hp684 => ?_) (fun hp684 => ?_)
      · replace hF := if_t hp684 hF
        refine wp_skip ?_; refine e_then ?_; refine wp_seq ?_; refine wp_block ?_; refine wp_seq ?_; refine wp_region_lit ?_; refine op_g ha rfl (g_assign rfl) ?_; clear ha a; intro a ha; refine wpList_nil ?_; replace ha := ha.sub (σ' := [(1, (.pointer (some ⟨b1, 0, none⟩))), (3, (.int .i64 x9)), (5, (.int .i64 i436)), (6, (.int .i64 0))]) ⟨rfl, rfl, rfl, rfl, trivial⟩; refine e_then ?_; obtain ⟨o838, ho839, hK840⟩ := bnd_some hF
        obtain ⟨n841, hn842⟩ := lp_some ho839; clear ho839
        refine c_loop (fun a w => Fr 64 [(1, (.pointer (some ⟨b1, 0, none⟩))), (3, (.int .i64 x9)), (5, (.int .i64 i436))] a ∧ Chg [] W w ∧ Bx w b1 [va0_0] 29 ∧ Zn W (b1 : Int) ∧ o838 = .inl ()) (fun n a w => ∃ (i762 : Int), Fr 64 [(1, (.pointer (some ⟨b1, 0, none⟩))), (3, (.int .i64 x9)), (5, (.int .i64 i436)), (6, (.int .i64 i762))] a ∧ Chg [] W w ∧ InI i762 ∧ Bx w b1 [va0_0] 29 ∧ Zn W (b1 : Int) ∧ lpN (fun s => F_spec_GraphOk_l4 a0_0 i436 s) n i762 = some o838) n841 ⟨0, ha.sub ⟨rfl, rfl, rfl, rfl, trivial⟩, hE438, (show InI 0 from by decide), hB434, z435, hn842⟩ ?_ ?_
        · rintro m846 a w759 ⟨i762, ha, hE764, hI763, hB760, z761, hF⟩
          cases m846 with
          | zero => exact (lpN_zero hF).elim
          | succ m846 =>
            obtain ⟨z845, hF, hN844⟩ := lpN_succ hF
            have hF : F_spec_GraphOk_l4 a0_0 i436 i762 = some z845 := hF; unfold F_spec_GraphOk_l4 at hF
            refine wp_seq ?_; refine wp_seq ?_; refine wp_region_lit ?_; refine op_g ha rfl (g_move rfl) ?_; clear ha a; intro a ha; refine op_g ha rfl (g_field0 st29_0 rfl) ?_; clear ha a; intro a ha; refine op_g ha rfl (g_load Try.isAgg27 rfl (hB760.cell rfl)) ?_; clear ha a; intro a ha; refine op_g ha rfl (g_move rfl) ?_; clear ha a; intro a ha; obtain ⟨x847, g848, gx849, hF⟩ := idx_some hF
            obtain ⟨p850, cs851, f852, hf853, hpb854, hat855, hr856, hi857⟩ := ha0_0.at g848 gx849
            obtain ⟨v858, rfl, h859⟩ := hr856
            have h859 : Ro Rp.int W f852 v858 x847 := h859
            refine op_g ha rfl (hi857.gives sl27 rfl rfl) ?_; clear ha a; intro a ha; refine op_g ha rfl (g_load0 hE764 Try.isAgg35 rfl hat855.one) ?_; clear ha a; intro a ha; refine op_g ha rfl (g_lenR sl35.und h859 rfl) ?_; clear ha a; intro a ha; refine op_g ha rfl (g_lss rfl rfl) ?_; clear ha a; intro a ha; refine wpList_nil ?_; replace ha := ha.sub (σ' := [(1, (.pointer (some ⟨b1, 0, none⟩))), (3, (.int .i64 x9)), (5, (.int .i64 i436)), (6, (.int .i64 i762)), (46, (.bool (decide (i762 < (x847.length : Int)))))]) ⟨rfl, rfl, rfl, rfl, rfl, trivial⟩; refine e_then ?_; refine c_cond (i762 < (x847.length : Int)) ha rfl (decide_eq_true_iff) (fun hp861 => ?_) (fun hp861 => ?_)
            · replace hF := if_t hp861 hF
              refine wp_skip ?_; refine e_then ?_; refine wp_seq ?_; refine wp_block ?_; refine wp_seq ?_; refine d_quiet hmix (by kernel_rfl) ?_; refine q_g ha rfl (g_field0 st29_0 rfl) ?_; clear ha a; intro a ha; refine q_g ha rfl (g_load Try.isAgg27 rfl (hB760.cell rfl)) ?_; clear ha a; intro a ha; refine q_g ha rfl (g_field0 st29_0 rfl) ?_; clear ha a; intro a ha; refine q_g ha rfl (g_load Try.isAgg27 rfl (hB760.cell rfl)) ?_; clear ha a; intro a ha; refine q_g ha rfl (g_move rfl) ?_; clear ha a; intro a ha; obtain ⟨x862, g863, gx864, hF⟩ := idx_some hF
              obtain ⟨p865, cs866, f867, hf868, hpb869, hat870, hr871, hi872⟩ := ha0_0.at g863 gx864
              obtain ⟨v873, rfl, h874⟩ := hr871
              have h874 : Ro Rp.int W f867 v873 x862 := h874
              refine q_g ha rfl (hi872.gives sl27 rfl rfl) ?_; clear ha a; intro a ha; refine q_g ha rfl (g_load0 hE764 Try.isAgg35 rfl hat870.one) ?_; clear ha a; intro a ha; refine q_g ha rfl (g_move rfl) ?_; clear ha a; intro a ha; obtain ⟨x876, g877, gx878, hF⟩ := idx_some hF
              obtain ⟨p879, cs880, f881, hf882, hpb883, hat884, hr885, hi886⟩ := h874.at g877 gx878
              obtain ⟨rfl, hI887, rfl⟩ := hr885
              refine q_g ha rfl (hi886.gives sl35 rfl rfl) ?_; clear ha a; intro a ha; refine q_g ha rfl (g_load0 hE764 Try.isAgg2 rfl hat884.one) ?_; clear ha a; intro a ha; obtain ⟨x888, g889, gx890, hF⟩ := idx_some hF
              obtain ⟨p891, cs892, f893, hf894, hpb895, hat896, hr897, hi898⟩ := ha0_0.at g889 gx890
              obtain ⟨v899, rfl, h900⟩ := hr897
              have h900 : Ro Rp.int W f893 v899 x888 := h900
              refine q_g ha rfl (hi898.gives sl27 rfl rfl) ?_; clear ha a; intro a ha; refine q_g ha rfl (g_load0 hE764 Try.isAgg35 rfl hat896.one) ?_; clear ha a; intro a ha; refine q_g ha rfl (g_move rfl) ?_; clear ha a; intro a ha; obtain ⟨x904, hc905, hF⟩ := cal_some hF; refine q_call (.bool x904) ha rfl rfl Try.call50 (fun w903 hx902 => W_spec_l1Has (h900.ext (Ext.trans hE764 hx902)) hI437 hc905) (fun _ _ _ h => ⟨h.1, h.2⟩) ?_; clear ha a; intro a ha; refine q_g ha rfl (g_not rfl) ?_; clear ha a; intro a ha
              refine q_nil ?_; intro w906 hx907
              replace hB760 := hB760.ext hx907
              have hE908 := Ext.trans hE764 hx907
              replace ha := ha.sub (σ' := [(1, (.pointer (some ⟨b1, 0, none⟩))), (3, (.int .i64 x9)), (5, (.int .i64 i436)), (6, (.int .i64 i762)), (63, (.bool (!x904)))]) ⟨rfl, rfl, rfl, rfl, rfl, trivial⟩; refine e_then ?_; refine c_cond (¬ (x904 = true)) ha rfl (n_iff (Iff.rfl)) (fun hp909 => ?_) (fun hp909 => ?_)
              · replace hF := if_t hp909 hF
                refine wp_seq ?_; refine wp_region_lit ?_; refine op_g ha rfl (g_assign rfl) ?_; clear ha a; intro a ha; refine wpList_nil ?_; replace ha := ha.sub (σ' := [(2, (.bool false))]) ⟨rfl, trivial⟩; refine e_then ?_; refine wp_ret ?_; refine e_blk_ret ?_; refine e_then_ret ?_; refine e_lq_ret ?_; refine e_blk_ret ?_; refine e_then_ret ?_; refine e_lq_ret ?_; refine e_then_ret ?_; obtain rfl := Option.some.inj hF
                have e910 := LK_inr hN844; subst e910
                have e911 := BK_inr hK840; subst e911
                have e912 := LK_inr hN681; subst e912
                have e913 := BK_inr hK677; subst e913
                exact f_ret1 ha rfl rfl ⟨rfl, hE908⟩
              replace hF := if_f hp909 hF; refine wp_skip ?_; refine e_blk ?_; refine e_then ?_; refine wp_region_lit ?_; refine op_g ha rfl (g_move rfl) ?_; clear ha a; intro a ha; obtain ⟨hI914, hF⟩ := ck_some hF; refine op_g ha rfl (g_add rfl rfl hI914) ?_; clear ha a; intro a ha; refine op_g ha rfl (g_assign rfl) ?_; clear ha a; intro a ha; refine wpList_nil ?_; replace ha := ha.sub (σ' := [(1, (.pointer (some ⟨b1, 0, none⟩))), (3, (.int .i64 x9)), (5, (.int .i64 i436)), (6, (.int .i64 (i762 + 1)))]) ⟨rfl, rfl, rfl, rfl, trivial⟩; refine e_lq ?_; obtain rfl := Option.some.inj hF
              exact ⟨_, Nat.lt_succ_self _, i762 + 1, ha.sub ⟨rfl, rfl, rfl, rfl, trivial⟩, hE908, hI914, hB760, z761, hN844⟩
            replace hF := if_f hp861 hF; refine wp_exit ?_; refine e_then_exit ?_; refine e_lq_eq ?_; obtain rfl := Option.some.inj hF
            exact ⟨ha.sub ⟨rfl, rfl, rfl, trivial⟩, hE764, hB760, z761, (LK_inr hN844).symm⟩
        rintro a w835 ⟨ha, hE843, hB836, z837, rfl⟩
        have hF : F_spec_GraphOk_k5 i436 = some _ := hK840; clear hK840; unfold F_spec_GraphOk_k5 at hF
        refine e_blk ?_; refine e_then ?_; refine wp_region_lit ?_; refine op_g ha rfl (g_move rfl) ?_; clear ha a; intro a ha; obtain ⟨hI916, hF⟩ := ck_some hF; refine op_g ha rfl (g_add rfl rfl hI916) ?_; clear ha a; intro a ha; refine op_g ha rfl (g_assign rfl) ?_; clear ha a; intro a ha; refine wpList_nil ?_; replace ha := ha.sub (σ' := [(1, (.pointer (some ⟨b1, 0, none⟩))), (3, (.int .i64 x9)), (5, (.int .i64 (i436 + 1)))]) ⟨rfl, rfl, rfl, trivial⟩; refine e_lq ?_; obtain rfl := Option.some.inj hF
        exact ⟨_, Nat.lt_succ_self _, i436 + 1, ha.sub ⟨rfl, rfl, rfl, trivial⟩, hE843, hI916, hB836, z837, hN681⟩
      replace hF := if_f hp684 hF; refine wp_exit ?_; refine e_then_exit ?_; refine e_lq_eq ?_; obtain rfl := Option.some.inj hF
      exact ⟨ha.sub trivial, hE438, (LK_inr hN681).symm⟩
  rintro a w674 ⟨ha, hE680, rfl⟩
  have hF : F_spec_GraphOk_k6 = some _ := hK677; clear hK677; unfold F_spec_GraphOk_k6 at hF
  refine e_then ?_; refine wp_seq ?_; refine wp_region_lit ?_; refine op_g ha rfl (g_assign rfl) ?_; clear ha a; intro a ha; refine wpList_nil ?_; refine e_then ?_; refine wp_ret ?_; obtain rfl := Option.some.inj hF
  exact f_ret1 ha rfl rfl ⟨rfl, hE680⟩
set_option maxHeartbeats 2000000 in
theorem W_spec_l26None {W : World} {a0 : Int} (ha0 : InI a0) {r : (List Int)} (hF : F_spec_l26None a0 = some r) :
    Calls Try.prog 52 [.int .i64 a0].toArray W (Ret fun u w' => ∃ (b_u : Int), Ow Rp.int 2 true w' [] b_u u r ∧ Zn W b_u ∧ Ext W w') := by
  refine f_enter Try.func52 rfl Try.ntmps52 rfl ?_
  intro a ha
  replace ha : Fr 15 [(0, (.int .i64 a0))] a := ha
  have hE : Chg [] W W := Chg.refl _ _
  unfold F_spec_l26None at hF
  refine wp_seq ?_; refine wp_region_lit ?_; refine op_g ha rfl (g_assign rfl) ?_; clear ha a; intro a ha; refine wpList_nil ?_; replace ha := ha.sub (σ' := [(0, (.int .i64 a0))]) ⟨rfl, trivial⟩; refine e_then ?_; refine wp_seq ?_; refine wp_region_lit ?_
  refine o_lit0 Rp.int ha rfl sl35 ?_; clear ha a; intro v1 w2 h3 hx4 a ha
  obtain ⟨b6, hb6⟩ : ∃ b : Int, b = W.heap.size := ⟨_, rfl⟩; rw [← hb6] at h3
  have q7 := zn_of hb6
  have q8 := Zn.upD q7 hE
  have hE9 := Ext.trans hE hx4
  refine op_g ha rfl (g_assign rfl) ?_; clear ha a; intro a ha; refine wpList_nil ?_; replace ha := ha.sub (σ' := [(0, (.int .i64 a0)), (3, v1)]) ⟨rfl, rfl, trivial⟩; refine e_then ?_; refine wp_seq ?_; refine wp_seq ?_; refine wp_region_lit ?_; refine op_g ha rfl (g_assign rfl) ?_; clear ha a; intro a ha; refine wpList_nil ?_; refine e_then ?_; obtain ⟨o102, ho103, hK104⟩ := bnd_some hF
  obtain ⟨n105, hn106⟩ := lp_some ho103; clear ho103
  refine c_loop (fun a w => ∃ (l99 : (List Int)) (v100 : Value) (b101 : Int), Fr 15 [(3, v100)] a ∧ Chg [] W w ∧ Ow Rp.int 2 true w [] b101 v100 l99 ∧ Zn W b101 ∧ o102 = .inl l99) (fun n a w => ∃ (l54 : (List Int)) (i57 : Int) (v55 : Value) (b56 : Int), Fr 15 [(0, (.int .i64 a0)), (3, v55), (4, (.int .i64 i57))] a ∧ Chg [] W w ∧ InI i57 ∧ Ow Rp.int 2 true w [] b56 v55 l54 ∧ Zn W b56 ∧ lpN (fun s => F_spec_l26None_l1 a0 s.1 s.2) n (l54, i57) = some o102) n105 ⟨([] : (List Int)), 0, v1, b6, ha.sub ⟨rfl, rfl, rfl, trivial⟩, hE9, (show InI 0 from by decide), h3, q8, hn106⟩ ?_ ?_
  · rintro m110 a w50 ⟨l54, i57, v55, b56, ha, hE59, hI58, h52, z53, hF⟩
    cases m110 with
    | zero => exact (lpN_zero hF).elim
    | succ m110 =>
      obtain ⟨z109, hF, hN108⟩ := lpN_succ hF
      have hF : F_spec_l26None_l1 a0 l54 i57 = some z109 := hF; unfold F_spec_l26None_l1 at hF
      refine wp_seq ?_; refine wp_seq ?_; refine wp_region_lit ?_; (iterate 2 refine op_g ha rfl (g_move rfl) ?_; clear ha a; intro a ha); refine op_g ha rfl (g_lss rfl rfl) ?_; clear ha a; intro a ha; refine wpList_nil ?_; replace ha := ha.sub (σ' := [(0, (.int .i64 a0)), (3, v55), (4, (.int .i64 i57)), (8, (.bool (decide (i57 < a0))))]) ⟨rfl, rfl, rfl, rfl, trivial⟩; refine e_then ?_; refine c_cond (i57 < a0) ha rfl (decide_eq_true_iff) (fun hp111 => ?_) (fun hp111 => ?_)
      · replace hF := if_t hp111 hF
        refine wp_skip ?_; refine e_then ?_; refine wp_seq ?_; refine wp_block ?_; refine wp_region_lit ?_; refine op_g ha rfl (g_move rfl) ?_; clear ha a; intro a ha
        refine o_lit1 (o := true) (y := (-1)) Rp.int ha rfl sl35 rfl rfl rfl ⟨rfl, (show InI (-1) from by decide), rfl⟩ ?_; clear ha a; intro v112 w113 h114 hx115 a ha
        obtain ⟨b117, hb117⟩ : ∃ b : Int, b = w50.heap.size := ⟨_, rfl⟩; rw [← hb117] at h114
        have q118 := zn_of hb117
        have q119 := Nq.new h52.fpb q118
        have q120 := Nq.madeO q118 h52.blt
        have q121 := Zn.upD q118 hE59
        replace h52 := h52.ext hx115
        have hE122 := Ext.trans hE59 hx115
        obtain ⟨hl123, hF⟩ := app_some hF
        refine o_append ha rfl sl35 rfl rfl rfl h52 h114.src (Nq.nil _) hl123 ?_; clear ha a; intro v124 w125 b126 h127 hc128 hb129 a ha
        replace h127 : Ow Rp.int 2 true w125 [] b126 v124 _ := h127
        have q131 := Nq.appY q120 h114.fpb hb129
        have q132 := Nq.appX q119 (Nq.nil _) hb129 h114.blt
        have q133 := Zn.appD z53 hb129 hE122
        replace h114 := h114.nq hc128 q120
        have hE134 := Ext.then hE122 hc128 (Zn.bl z53)
        refine op_g ha rfl (g_assign rfl) ?_; clear ha a; intro a ha; refine wpList_nil ?_; replace ha := ha.sub (σ' := [(0, (.int .i64 a0)), (3, v124), (4, (.int .i64 i57))]) ⟨rfl, rfl, rfl, trivial⟩; refine e_blk ?_; refine e_then ?_; refine wp_region_lit ?_; refine op_g ha rfl (g_move rfl) ?_; clear ha a; intro a ha; obtain ⟨hI135, hF⟩ := ck_some hF; refine op_g ha rfl (g_add rfl rfl hI135) ?_; clear ha a; intro a ha; refine op_g ha rfl (g_assign rfl) ?_; clear ha a; intro a ha; refine wpList_nil ?_; replace ha := ha.sub (σ' := [(0, (.int .i64 a0)), (3, v124), (4, (.int .i64 (i57 + 1)))]) ⟨rfl, rfl, rfl, trivial⟩
        refine e_lq ?_; obtain rfl := Option.some.inj hF
        exact ⟨_, Nat.lt_succ_self _, (l54 ++ ([(-1)])), i57 + 1, v124, b126, ha.sub ⟨rfl, rfl, rfl, trivial⟩, hE134, hI135, h127, q133, hN108⟩
      replace hF := if_f hp111 hF; refine wp_exit ?_; refine e_then_exit ?_; refine e_lq_eq ?_; obtain rfl := Option.some.inj hF
      exact ⟨l54, v55, b56, ha.sub ⟨rfl, trivial⟩, hE59, h52, z53, (LK_inr hN108).symm⟩
  rintro a w95 ⟨l99, v100, b101, ha, hE107, h97, z98, rfl⟩
  have hF : F_spec_l26None_k2 l99 = some _ := hK104; clear hK104; unfold F_spec_l26None_k2 at hF
  refine e_then ?_; refine wp_seq ?_; refine wp_region_lit ?_; refine op_g ha rfl (g_move rfl) ?_; clear ha a; intro a ha; refine op_g ha rfl (g_assign rfl) ?_; clear ha a; intro a ha; refine wpList_nil ?_; replace ha := ha.sub (σ' := [(2, v100)]) ⟨rfl, trivial⟩; refine e_then ?_; refine wp_ret ?_; obtain rfl := Option.some.inj hF
  exact f_ret1 ha rfl rfl ⟨_, h97, z98, hE107⟩
set_option maxHeartbeats 2000000 in
theorem W_spec_l26Try_step {rc : (List (List Int)) → (List Int) → Int → Int → Int → Option ((List Int) × Bool)} (ih : ∀ {W : World} {va0_0 : Value} {fa0_0 : List Nat} {a0_0 : (List (List Int))} (ha0_0 : Ro (Rp.sl 2 Rp.int) W fa0_0 va0_0 a0_0) {va1 : Value} {fa1 : List Nat} {a1 : (List Int)} (ha1 : Ro Rp.int W fa1 va1 a1) {a2 : Int} (ha2 : InI a2) {a3 : Int} (ha3 : InI a3) {a4 : Int} (ha4 : InI a4) {r : ((List Int) × Bool)} (hF : rc a0_0 a1 a2 a3 a4 = some r),
    Calls Try.prog 51 [.agg #[va0_0], va1, .int .i64 a2, .int .i64 a3, .int .i64 a4].toArray W (Ret fun u w' => ∃ (u0 : Value) (u1 : Value) (fp_u0 : List Nat), u = .tuple #[u0, u1] ∧ Ro Rp.int w' fp_u0 u0 r.1 ∧ Pv (fa0_0 ++ fa1) W.heap.size fp_u0 ∧ u1 = .bool r.2 ∧ Ext W w')) {W : World} {va0_0 : Value} {fa0_0 : List Nat} {a0_0 : (List (List Int))} (ha0_0 : Ro (Rp.sl 2 Rp.int) W fa0_0 va0_0 a0_0) {va1 : Value} {fa1 : List Nat} {a1 : (List Int)} (ha1 : Ro Rp.int W fa1 va1 a1) {a2 : Int} (ha2 : InI a2) {a3 : Int} (ha3 : InI a3) {a4 : Int} (ha4 : InI a4) {r : ((List Int) × Bool)} (hF : F_spec_l26Try_body rc a0_0 a1 a2 a3 a4 = some r) :
    Calls Try.prog 51 [.agg #[va0_0], va1, .int .i64 a2, .int .i64 a3, .int .i64 a4].toArray W (Ret fun u w' => ∃ (u0 : Value) (u1 : Value) (fp_u0 : List Nat), u = .tuple #[u0, u1] ∧ Ro Rp.int w' fp_u0 u0 r.1 ∧ Pv (fa0_0 ++ fa1) W.heap.size fp_u0 ∧ u1 = .bool r.2 ∧ Ext W w') := by
  refine f_enter Try.func51 rfl Try.ntmps51 rfl ?_
  intro a ha
  replace ha : Fr 88 [(0, (.agg #[va0_0])), (1, va1), (2, (.int .i64 a2)), (3, (.int .i64 a3)), (4, (.int .i64 a4))] a := ha
  have hE : Chg [] W W := Chg.refl _ _
  unfold F_spec_l26Try_body at hF
  refine wp_seq ?_; refine wp_region_lit ?_
  refine o_box ha rfl rfl rfl ?_; clear ha a; intro b1 w2 hB3 hx4 hlo5 a ha
  have q6 := Zn.one hlo5
  have q7 := Zn.upD q6 hE
  have hE8 := Ext.trans hE hx4
  (iterate 2 refine op_g ha rfl (g_assign rfl) ?_; clear ha a; intro a ha); refine wpList_nil ?_; replace ha := ha.sub (σ' := [(1, va1), (2, (.int .i64 a2)), (3, (.int .i64 a3)), (4, (.int .i64 a4)), (5, (.pointer (some ⟨b1, 0, none⟩)))]) ⟨rfl, rfl, rfl, rfl, rfl, trivial⟩; refine e_then ?_; refine wp_seq ?_; refine wp_seq ?_; refine wp_region_lit ?_; refine op_g ha rfl (g_move rfl) ?_; clear ha a; intro a ha; refine op_g ha rfl (g_field0 st29_0 rfl) ?_; clear ha a; intro a ha; refine op_g ha rfl (g_load Try.isAgg27 rfl (hB3.cell rfl)) ?_; clear ha a; intro a ha; refine op_g ha rfl (g_lenR sl27.und ha0_0 rfl) ?_; clear ha a; intro a ha
  refine op_g ha rfl (g_eql rfl rfl) ?_; clear ha a; intro a ha; refine wpList_nil ?_; replace ha := ha.sub (σ' := [(1, va1), (2, (.int .i64 a2)), (3, (.int .i64 a3)), (4, (.int .i64 a4)), (5, (.pointer (some ⟨b1, 0, none⟩))), (23, (.bool (decide (a2 = (a0_0.length : Int)))))]) ⟨rfl, rfl, rfl, rfl, rfl, rfl, trivial⟩; refine e_then ?_; refine c_cond (a2 = (a0_0.length : Int)) ha rfl (decide_eq_true_iff) (fun hp9 => ?_) (fun hp9 => ?_)
  · replace hF := if_t hp9 hF
    refine wp_seq ?_; refine wp_region_lit ?_; refine op_g ha rfl (g_move rfl) ?_; clear ha a; intro a ha; (iterate 2 refine op_g ha rfl (g_assign rfl) ?_; clear ha a; intro a ha); refine wpList_nil ?_; replace ha := ha.sub (σ' := [(10, va1), (11, (.bool true))]) ⟨rfl, rfl, trivial⟩; refine e_then ?_; refine wp_ret ?_; refine e_then_ret ?_; obtain rfl := Option.some.inj hF
    exact f_ret2 ha rfl rfl rfl ⟨_, _, _, rfl, (ha1.ext hE8), (Pv.par (fun _ h => List.mem_append_right _ h)), rfl, hE8⟩
  replace hF := if_f hp9 hF; refine wp_skip ?_; refine e_then ?_; refine wp_seq ?_; refine wp_seq ?_; refine wp_region_lit ?_; refine op_g ha rfl (g_assign rfl) ?_; clear ha a; intro a ha; refine wpList_nil ?_; replace ha := ha.sub (σ' := [(1, va1), (2, (.int .i64 a2)), (3, (.int .i64 a3)), (4, (.int .i64 a4)), (5, (.pointer (some ⟨b1, 0, none⟩))), (12, (.int .i64 0))]) ⟨rfl, rfl, rfl, rfl, rfl, rfl, trivial⟩; refine e_then ?_; obtain ⟨o613, ho614, hK615⟩ := bnd_some hF
  obtain ⟨n616, hn617⟩ := lp_some ho614; clear ho614
  refine c_loop (fun a w => Fr 88 [(1, va1)] a ∧ Chg [] W w ∧ o613 = .inl ()) (fun n a w => ∃ (i313 : Int), Fr 88 [(1, va1), (2, (.int .i64 a2)), (3, (.int .i64 a3)), (4, (.int .i64 a4)), (5, (.pointer (some ⟨b1, 0, none⟩))), (12, (.int .i64 i313))] a ∧ Chg [] W w ∧ InI i313 ∧ Bx w b1 [va0_0] 29 ∧ Zn W (b1 : Int) ∧ lpN (fun s => F_spec_l26Try_l1 a0_0 a1 a2 a3 a4 rc s) n i313 = some o613) n616 ⟨0, ha.sub ⟨rfl, rfl, rfl, rfl, rfl, rfl, trivial⟩, hE8, (show InI 0 from by decide), hB3, q7, hn617⟩ ?_ ?_
  · rintro m621 a w310 ⟨i313, ha, hE315, hI314, hB311, z312, hF⟩
    cases m621 with
    | zero => exact (lpN_zero hF).elim
    | succ m621 =>
      obtain ⟨z620, hF, hN619⟩ := lpN_succ hF
      have hF : F_spec_l26Try_l1 a0_0 a1 a2 a3 a4 rc i313 = some z620 := hF; unfold F_spec_l26Try_l1 at hF
      refine wp_seq ?_; refine wp_seq ?_; refine wp_region_lit ?_; (iterate 2 refine op_g ha rfl (g_move rfl) ?_; clear ha a; intro a ha); refine op_g ha rfl (g_lss rfl rfl) ?_; clear ha a; intro a ha; refine op_g ha rfl (g_move rfl) ?_; clear ha a; intro a ha
      by_cases hp622 : i313 < a4
      · replace hF := if_t hp622 hF
        rw [show (decide (i313 < a4)) = true from (decide_eq_true_iff).2 hp622] at ha
        refine op_want (yields ha rfl rfl) ?_; refine op_g ha rfl (g_move rfl) ?_; clear ha a; intro a ha; refine op_want (yields ha rfl rfl) ?_; refine op_g ha rfl (g_move rfl) ?_; clear ha a; intro a ha; refine op_want (yields ha rfl rfl) ?_; refine op_g ha rfl (g_leq rfl rfl) ?_; clear ha a; intro a ha; refine op_g ha rfl (g_pick rfl rfl) ?_; clear ha a; intro a ha; refine wpList_nil ?_; replace ha := ha.sub (σ' := [(1, va1), (2, (.int .i64 a2)), (3, (.int .i64 a3)), (4, (.int .i64 a4)), (5, (.pointer (some ⟨b1, 0, none⟩))), (12, (.int .i64 i313)), (29, (.int .i64 i313)), (30, (.int .i64 a3)), (31, (.bool (decide (i313 ≤ a3)))), (32, (.bool (decide (i313 ≤ a3))))]) ⟨rfl, rfl, rfl, rfl, rfl, rfl, rfl, rfl, rfl, rfl, trivial⟩
        refine e_then ?_; refine c_cond (i313 ≤ a3) ha rfl (decide_eq_true_iff) (fun hp623 => ?_) (fun hp623 => ?_)
        · replace hF := if_t hp623 hF
          refine wp_skip ?_; refine e_then ?_; refine wp_seq ?_; refine wp_block ?_; refine wp_seq ?_; refine wp_region_lit ?_; refine op_g ha rfl (g_assign rfl) ?_; clear ha a; intro a ha; refine wpList_nil ?_; replace ha := ha.sub (σ' := [(1, va1), (2, (.int .i64 a2)), (3, (.int .i64 a3)), (4, (.int .i64 a4)), (5, (.pointer (some ⟨b1, 0, none⟩))), (12, (.int .i64 i313)), (13, (.bool true)), (29, (.int .i64 i313)), (30, (.int .i64 a3)), (31, (.bool (decide (i313 ≤ a3))))]) ⟨rfl, rfl, rfl, rfl, rfl, rfl, rfl, rfl, rfl, rfl, trivial⟩; refine e_then ?_; refine wp_seq ?_; refine wp_seq ?_; refine wp_region_lit ?_
          refine op_g ha rfl (g_assign rfl) ?_; clear ha a; intro a ha; refine wpList_nil ?_; replace ha := ha.sub (σ' := [(1, va1), (2, (.int .i64 a2)), (3, (.int .i64 a3)), (4, (.int .i64 a4)), (5, (.pointer (some ⟨b1, 0, none⟩))), (12, (.int .i64 i313)), (13, (.bool true)), (14, (.int .i64 0)), (29, (.int .i64 i313)), (30, (.int .i64 a3)), (31, (.bool (decide (i313 ≤ a3))))]) ⟨rfl, rfl, rfl, rfl, rfl, rfl, rfl, rfl, rfl, rfl, rfl, trivial⟩; refine e_then ?_; obtain ⟨o768, ho769, hK770⟩ := bnd_some hF
          obtain ⟨n771, hn772⟩ := lp_some ho769; clear ho769
          refine c_loop (fun a w => ∃ (t767 : Bool), Fr 88 [(1, va1), (2, (.int .i64 a2)), (3, (.int .i64 a3)), (4, (.int .i64 a4)), (5, (.pointer (some ⟨b1, 0, none⟩))), (12, (.int .i64 i313)), (13, (.bool t767)), (29, (.int .i64 i313)), (30, (.int .i64 a3)), (31, (.bool (decide (i313 ≤ a3))))] a ∧ Chg [] W w ∧ Bx w b1 [va0_0] 29 ∧ Zn W (b1 : Int) ∧ o768 = .inl t767) (fun n a w => ∃ (t694 : Bool) (i695 : Int), Fr 88 [(1, va1), (2, (.int .i64 a2)), (3, (.int .i64 a3)), (4, (.int .i64 a4)), (5, (.pointer (some ⟨b1, 0, none⟩))), (12, (.int .i64 i313)), (13, (.bool t694)), (14, (.int .i64 i695)), (29, (.int .i64 i313)), (30, (.int .i64 a3)), (31, (.bool (decide (i313 ≤ a3))))] a ∧ Chg [] W w ∧ InI i695 ∧ Bx w b1 [va0_0] 29 ∧ Zn W (b1 : Int) ∧ lpN (fun s => F_spec_l26Try_l2 a0_0 a1 a2 i313 s.1 s.2) n (t694, i695) = some o768) n771 ⟨true, 0, ha.sub ⟨rfl, rfl, rfl, rfl, rfl, rfl, rfl, rfl, rfl, rfl, rfl, trivial⟩, hE315, (show InI 0 from by decide), hB311, z312, hn772⟩ ?_ ?_
          · rintro m776 a w691 ⟨t694, i695, ha, hE697, hI696, hB692, z693, hF⟩
            cases m776 with
            | zero => exact (lpN_zero hF).elim
            | succ m776 =>
              obtain ⟨z775, hF, hN774⟩ := lpN_succ hF
              have hF : F_spec_l26Try_l2 a0_0 a1 a2 i313 t694 i695 = some z775 := hF; unfold F_spec_l26Try_l2 at hF
              refine wp_seq ?_; refine wp_seq ?_; refine wp_region_lit ?_; refine op_g ha rfl (g_move rfl) ?_; clear ha a; intro a ha; refine op_g ha rfl (g_field0 st29_0 rfl) ?_; clear ha a; intro a ha; refine op_g ha rfl (g_load Try.isAgg27 rfl (hB692.cell rfl)) ?_; clear ha a; intro a ha; refine op_g ha rfl (g_move rfl) ?_; clear ha a; intro a ha; obtain ⟨x777, g778, gx779, hF⟩ := idx_some hF
              obtain ⟨p780, cs781, f782, hf783, hpb784, hat785, hr786, hi787⟩ := ha0_0.at g778 gx779
              obtain ⟨v788, rfl, h789⟩ := hr786
              have h789 : Ro Rp.int W f782 v788 x777 := h789
              have q791 := (Pv.mono (Pv.par (fun _ h => List.mem_append_left _ h)) hf783 : Pv (fa0_0 ++ fa1) W.heap.size f782)
              refine op_g ha rfl (hi787.gives sl27 rfl rfl) ?_; clear ha a; intro a ha; refine op_g ha rfl (g_load0 hE697 Try.isAgg35 rfl hat785.one) ?_; clear ha a; intro a ha; refine op_g ha rfl (g_lenR sl35.und h789 rfl) ?_; clear ha a; intro a ha; refine op_g ha rfl (g_lss rfl rfl) ?_; clear ha a; intro a ha; refine wpList_nil ?_; replace ha := ha.sub (σ' := [(1, va1), (2, (.int .i64 a2)), (3, (.int .i64 a3)), (4, (.int .i64 a4)), (5, (.pointer (some ⟨b1, 0, none⟩))), (12, (.int .i64 i313)), (13, (.bool t694)), (14, (.int .i64 i695)), (29, (.int .i64 i313)), (30, (.int .i64 a3)), (31, (.bool (decide (i313 ≤ a3)))), (42, (.bool (decide (i695 < (x777.length : Int)))))]) ⟨rfl, rfl, rfl, rfl, rfl, rfl, rfl, rfl, rfl, rfl, rfl, rfl, trivial⟩
              refine e_then ?_; refine c_cond (i695 < (x777.length : Int)) ha rfl (decide_eq_true_iff) (fun hp792 => ?_) (fun hp792 => ?_)
              · replace hF := if_t hp792 hF
                refine wp_skip ?_; refine e_then ?_; refine wp_seq ?_; refine wp_block ?_; refine wp_region_lit ?_; (iterate 2 refine op_g ha rfl (g_move rfl) ?_; clear ha a; intro a ha)
                by_cases hp793 : t694 = true
                · replace hF := if_t hp793 hF
                  rw [show (t694) = true from (Iff.rfl).2 hp793] at ha
                  refine op_want (yields ha rfl rfl) ?_; refine op_g ha rfl (g_move rfl) ?_; clear ha a; intro a ha; refine op_want (yields ha rfl rfl) ?_; refine op_g ha rfl (g_field0 st29_0 rfl) ?_; clear ha a; intro a ha; refine op_want (yields ha rfl rfl) ?_; refine op_g ha rfl (g_load Try.isAgg27 rfl (hB692.cell rfl)) ?_; clear ha a; intro a ha; refine op_want (yields ha rfl rfl) ?_; refine op_g ha rfl (g_move rfl) ?_; clear ha a; intro a ha; refine op_want (yields ha rfl rfl) ?_; obtain ⟨x794, g795, gx796, hF⟩ := idx_some hF
                  obtain ⟨p797, cs798, f799, hf800, hpb801, hat802, hr803, hi804⟩ := ha0_0.at g795 gx796
                  obtain ⟨v805, rfl, h806⟩ := hr803
                  have h806 : Ro Rp.int W f799 v805 x794 := h806
                  have q808 := (Pv.mono (Pv.par (fun _ h => List.mem_append_left _ h)) hf800 : Pv (fa0_0 ++ fa1) W.heap.size f799)
                  refine op_g ha rfl (hi804.gives sl27 rfl rfl) ?_; clear ha a; intro a ha; refine op_want (yields ha rfl rfl) ?_; refine op_g ha rfl (g_load0 hE697 Try.isAgg35 rfl hat802.one) ?_; clear ha a; intro a ha; refine op_want (yields ha rfl rfl) ?_; refine op_g ha rfl (g_move rfl) ?_; clear ha a; intro a ha; refine op_want (yields ha rfl rfl) ?_; obtain ⟨x809, g810, gx811, hF⟩ := idx_some hF
                  obtain ⟨p812, cs813, f814, hf815, hpb816, hat817, hr818, hi819⟩ := h806.at g810 gx811
                  obtain ⟨rfl, hI820, rfl⟩ := hr818
                  refine op_g ha rfl (hi819.gives sl35 rfl rfl) ?_; clear ha a; intro a ha; refine op_want (yields ha rfl rfl) ?_; refine op_g ha rfl (g_load0 hE697 Try.isAgg2 rfl hat817.one) ?_; clear ha a; intro a ha; refine op_want (yields ha rfl rfl) ?_; obtain ⟨x821, g822, gx823, hF⟩ := idx_some hF
                  obtain ⟨p824, cs825, f826, hf827, hpb828, hat829, hr830, hi831⟩ := ha1.at g822 gx823
                  obtain ⟨rfl, hI832, rfl⟩ := hr830
                  refine op_g ha rfl (hi831.gives sl35 rfl rfl) ?_; clear ha a; intro a ha; refine op_want (yields ha rfl rfl) ?_; refine op_g ha rfl (g_load0 hE697 Try.isAgg2 rfl hat829.one) ?_; clear ha a; intro a ha; refine op_want (yields ha rfl rfl) ?_; refine op_g ha rfl (g_move rfl) ?_; clear ha a; intro a ha; refine op_want (yields ha rfl rfl) ?_; refine op_g ha rfl (g_neq rfl rfl) ?_; clear ha a; intro a ha; refine op_g ha rfl (g_pick rfl rfl) ?_; clear ha a; intro a ha; refine op_g ha rfl (g_assign rfl) ?_; clear ha a; intro a ha; refine wpList_nil ?_; replace ha := ha.sub (σ' := [(1, va1), (2, (.int .i64 a2)), (3, (.int .i64 a3)), (4, (.int .i64 a4)), (5, (.pointer (some ⟨b1, 0, none⟩))), (12, (.int .i64 i313)), (13, (.bool (decide (x821 ≠ i313)))), (14, (.int .i64 i695)), (29, (.int .i64 i313)), (30, (.int .i64 a3)), (31, (.bool (decide (i313 ≤ a3)))), (47, va1), (48, (.pointer (some ⟨b1, 0, none⟩))), (49, va0_0), (50, (.int .i64 a2)), (51, (.pointer (some p797))), (52, v805), (53, (.int .i64 i695)), (54, (.pointer (some p812))), (55, (.int .i64 x809)), (56, (.pointer (some p824))), (57, (.int .i64 x821)), (58, (.int .i64 i313)), (59, (.bool (decide (x821 ≠ i313))))]) ⟨rfl, rfl, rfl, rfl, rfl, rfl, rfl, rfl, rfl, rfl, rfl, rfl, rfl, rfl, rfl, rfl, rfl, rfl, rfl, rfl, rfl, rfl, rfl, rfl, trivial⟩
                  refine e_blk ?_; refine e_then ?_; refine wp_region_lit ?_; refine op_g ha rfl (g_move rfl) ?_; clear ha a; intro a ha; obtain ⟨hI833, hF⟩ := ck_some hF; refine op_g ha rfl (g_add rfl rfl hI833) ?_; clear ha a; intro a ha; refine op_g ha rfl (g_assign rfl) ?_; clear ha a; intro a ha; refine wpList_nil ?_; replace ha := ha.sub (σ' := [(1, va1), (2, (.int .i64 a2)), (3, (.int .i64 a3)), (4, (.int .i64 a4)), (5, (.pointer (some ⟨b1, 0, none⟩))), (12, (.int .i64 i313)), (13, (.bool (decide (x821 ≠ i313)))), (14, (.int .i64 (i695 + 1))), (29, (.int .i64 i313)), (30, (.int .i64 a3)), (31, (.bool (decide (i313 ≤ a3)))), (47, va1), (48, (.pointer (some ⟨b1, 0, none⟩))), (49, va0_0), (50, (.int .i64 a2)), (51, (.pointer (some p797))), (52, v805), (53, (.int .i64 i695)), (54, (.pointer (some p812))), (55, (.int .i64 x809)), (56, (.pointer (some p824))), (57, (.int .i64 x821)), (58, (.int .i64 i313)), (59, (.bool (decide (x821 ≠ i313))))]) ⟨rfl, rfl, rfl, rfl, rfl, rfl, rfl, rfl, rfl, rfl, rfl, rfl, rfl, rfl, rfl, rfl, rfl, rfl, rfl, rfl, rfl, rfl, rfl, rfl, trivial⟩
                  refine e_lq ?_; obtain rfl := Option.some.inj hF
                  exact ⟨_, Nat.lt_succ_self _, decide (x821 ≠ i313), i695 + 1, ha.sub ⟨rfl, rfl, rfl, rfl, rfl, rfl, rfl, rfl, rfl, rfl, rfl, trivial⟩, hE697, hI833, hB692, z693, hN774⟩
                replace hF := if_f hp793 hF
                rw [show (t694) = false from b_false (Iff.rfl) hp793] at ha
                (iterate 13 refine op_unwant ha rfl (yields ha rfl rfl) rfl ?_; clear ha a; intro a ha); refine op_g ha rfl (g_pick rfl rfl) ?_; clear ha a; intro a ha; refine op_g ha rfl (g_assign rfl) ?_; clear ha a; intro a ha; refine wpList_nil ?_; replace ha := ha.sub (σ' := [(1, va1), (2, (.int .i64 a2)), (3, (.int .i64 a3)), (4, (.int .i64 a4)), (5, (.pointer (some ⟨b1, 0, none⟩))), (12, (.int .i64 i313)), (13, (.bool false)), (14, (.int .i64 i695)), (29, (.int .i64 i313)), (30, (.int .i64 a3)), (31, (.bool (decide (i313 ≤ a3))))]) ⟨rfl, rfl, rfl, rfl, rfl, rfl, rfl, rfl, rfl, rfl, rfl, trivial⟩
                refine e_blk ?_; refine e_then ?_; refine wp_region_lit ?_; refine op_g ha rfl (g_move rfl) ?_; clear ha a; intro a ha; obtain ⟨hI835, hF⟩ := ck_some hF; refine op_g ha rfl (g_add rfl rfl hI835) ?_; clear ha a; intro a ha; refine op_g ha rfl (g_assign rfl) ?_; clear ha a; intro a ha; refine wpList_nil ?_; replace ha := ha.sub (σ' := [(1, va1), (2, (.int .i64 a2)), (3, (.int .i64 a3)), (4, (.int .i64 a4)), (5, (.pointer (some ⟨b1, 0, none⟩))), (12, (.int .i64 i313)), (13, (.bool false)), (14, (.int .i64 (i695 + 1))), (29, (.int .i64 i313)), (30, (.int .i64 a3)), (31, (.bool (decide (i313 ≤ a3))))]) ⟨rfl, rfl, rfl, rfl, rfl, rfl, rfl, rfl, rfl, rfl, rfl, trivial⟩
                refine e_lq ?_; obtain rfl := Option.some.inj hF
                exact ⟨_, Nat.lt_succ_self _, false, i695 + 1, ha.sub ⟨rfl, rfl, rfl, rfl, rfl, rfl, rfl, rfl, rfl, rfl, rfl, trivial⟩, hE697, hI835, hB692, z693, hN774⟩
              replace hF := if_f hp792 hF; refine wp_exit ?_; refine e_then_exit ?_; refine e_lq_eq ?_; obtain rfl := Option.some.inj hF
              exact ⟨t694, ha.sub ⟨rfl, rfl, rfl, rfl, rfl, rfl, rfl, rfl, rfl, rfl, trivial⟩, hE697, hB692, z693, (LK_inr hN774).symm⟩
          rintro a w764 ⟨t767, ha, hE773, hB765, z766, rfl⟩
          have hF : F_spec_l26Try_k3 a0_0 a1 a2 a3 a4 rc i313 t767 = some _ := hK770; clear hK770; unfold F_spec_l26Try_k3 at hF
          refine e_then ?_; refine wp_seq ?_; refine wp_seq ?_; refine wp_region_lit ?_; refine op_g ha rfl (g_move rfl) ?_; clear ha a; intro a ha; refine op_g ha rfl (g_not rfl) ?_; clear ha a; intro a ha; refine wpList_nil ?_; replace ha := ha.sub (σ' := [(1, va1), (2, (.int .i64 a2)), (3, (.int .i64 a3)), (4, (.int .i64 a4)), (5, (.pointer (some ⟨b1, 0, none⟩))), (12, (.int .i64 i313)), (29, (.int .i64 i313)), (30, (.int .i64 a3)), (31, (.bool (decide (i313 ≤ a3)))), (62, (.bool (!t767)))]) ⟨rfl, rfl, rfl, rfl, rfl, rfl, rfl, rfl, rfl, rfl, trivial⟩; refine e_then ?_; refine c_cond (¬ (t767 = true)) ha rfl (n_iff (Iff.rfl)) (fun hp837 => ?_) (fun hp837 => ?_)
          · replace hF := if_t hp837 hF
            refine wp_exit ?_; refine e_then_exit ?_; refine e_blk_eq ?_; refine e_then ?_; refine wp_region_lit ?_; refine op_g ha rfl (g_move rfl) ?_; clear ha a; intro a ha; obtain ⟨hI838, hF⟩ := ck_some hF; refine op_g ha rfl (g_add rfl rfl hI838) ?_; clear ha a; intro a ha; refine op_g ha rfl (g_assign rfl) ?_; clear ha a; intro a ha; refine wpList_nil ?_; replace ha := ha.sub (σ' := [(1, va1), (2, (.int .i64 a2)), (3, (.int .i64 a3)), (4, (.int .i64 a4)), (5, (.pointer (some ⟨b1, 0, none⟩))), (12, (.int .i64 (i313 + 1))), (29, (.int .i64 i313)), (30, (.int .i64 a3)), (31, (.bool (decide (i313 ≤ a3))))]) ⟨rfl, rfl, rfl, rfl, rfl, rfl, rfl, rfl, rfl, trivial⟩
            refine e_lq ?_; obtain rfl := Option.some.inj hF
            exact ⟨_, Nat.lt_succ_self _, i313 + 1, ha.sub ⟨rfl, rfl, rfl, rfl, rfl, rfl, trivial⟩, hE773, hI838, hB765, z766, hN619⟩
          replace hF := if_f hp837 hF; refine wp_skip ?_; refine e_then ?_; refine wp_seq ?_; refine wp_region_lit ?_; refine op_g ha rfl (g_move rfl) ?_; clear ha a; intro a ha; obtain ⟨x840, hc841, hF⟩ := cal_some hF
          refine o_call ha rfl rfl Try.call54 (W_spec_l1Copy (ha1.ext hE773) hc841) ?_; clear ha a; rintro v842 w843 ⟨b845, h846, z847, hx844⟩ a ha
          have q849 := Nq.new hB765.fpb z847
          have q850 := Nq.madeO z847 hB765.bi
          replace hB765 := hB765.ext hx844
          have hE851 := Ext.trans hE773 hx844
          have q852 := Zn.upD z847 hE773
          refine op_g ha rfl (g_assign rfl) ?_; clear ha a; intro a ha; refine wpList_nil ?_; replace ha := ha.sub (σ' := [(1, va1), (2, (.int .i64 a2)), (3, (.int .i64 a3)), (4, (.int .i64 a4)), (5, (.pointer (some ⟨b1, 0, none⟩))), (12, (.int .i64 i313)), (15, v842), (29, (.int .i64 i313)), (30, (.int .i64 a3)), (31, (.bool (decide (i313 ≤ a3))))]) ⟨rfl, rfl, rfl, rfl, rfl, rfl, rfl, rfl, rfl, rfl, trivial⟩; refine e_then ?_; refine wp_seq ?_; refine wp_region_lit ?_; (iterate 3 refine op_g ha rfl (g_move rfl) ?_; clear ha a; intro a ha); obtain ⟨x853, g854, gx855, hF⟩ := idx_some hF
          obtain ⟨p856, cs857, f858, hf859, hpb860, hat861, hr862, hi863⟩ := h846.at g854 gx855
          obtain ⟨rfl, hI864, rfl⟩ := hr862
          refine op_g ha rfl (hi863.gives sl35 rfl rfl) ?_; clear ha a; intro a ha
          refine o_storeE (f := []) (q := i313) ha Try.sizeOf2 rfl rfl rfl h846 hi863 ⟨rfl, hI314, rfl⟩ (Nq.nil _) ?_; intro w865 fs866 h867 hc868 hs869
          obtain rfl := Subst.nil hs869
          replace hB765 := hB765.nq hc868 q849
          have hE870 := Ext.then hE851 hc868 (Zn.bl q852)
          refine wpList_nil ?_; replace ha := ha.sub (σ' := [(1, va1), (2, (.int .i64 a2)), (3, (.int .i64 a3)), (4, (.int .i64 a4)), (5, (.pointer (some ⟨b1, 0, none⟩))), (12, (.int .i64 i313)), (15, v842), (29, (.int .i64 i313)), (30, (.int .i64 a3)), (31, (.bool (decide (i313 ≤ a3))))]) ⟨rfl, rfl, rfl, rfl, rfl, rfl, rfl, rfl, rfl, rfl, trivial⟩; refine e_then ?_; refine wp_seq ?_; refine wp_region_lit ?_; refine op_g ha rfl (g_move rfl) ?_; clear ha a; intro a ha; refine op_g ha rfl (g_assign rfl) ?_; clear ha a; intro a ha; refine wpList_nil ?_; replace ha := ha.sub (σ' := [(1, va1), (2, (.int .i64 a2)), (3, (.int .i64 a3)), (4, (.int .i64 a4)), (5, (.pointer (some ⟨b1, 0, none⟩))), (12, (.int .i64 i313)), (15, v842), (16, (.int .i64 a3)), (29, (.int .i64 i313)), (30, (.int .i64 a3)), (31, (.bool (decide (i313 ≤ a3))))]) ⟨rfl, rfl, rfl, rfl, rfl, rfl, rfl, rfl, rfl, rfl, rfl, trivial⟩
          refine e_then ?_; obtain ⟨o874, ho875, hK876⟩ := bnd_some hF
          have hF := ho875; clear ho875
          refine s_cut (fun a w => ∃ (i883 : Int), Fr 88 [(1, va1), (2, (.int .i64 a2)), (3, (.int .i64 a3)), (4, (.int .i64 a4)), (5, (.pointer (some ⟨b1, 0, none⟩))), (12, (.int .i64 i313)), (15, v842), (16, (.int .i64 i883)), (29, (.int .i64 i313)), (30, (.int .i64 a3)), (31, (.bool (decide (i313 ≤ a3))))] a ∧ Chg [] W w ∧ InI i883 ∧ Bx w b1 [va0_0] 29 ∧ Zn W (b1 : Int) ∧ Ow Rp.int 2 true w [] b845 v842 (x840.set ((a2 : Int).toNat) i313) ∧ Zn W b845 ∧ Nq ([b1]) b845 ∧ Nq (bl b845 ++ []) (b1 : Int) ∧ o874 = .inl i883) ?_ ?_
          · skip
            refine wp_seq ?_; refine wp_region_lit ?_; (iterate 2 refine op_g ha rfl (g_move rfl) ?_; clear ha a; intro a ha); refine op_g ha rfl (g_eql rfl rfl) ?_; clear ha a; intro a ha; refine wpList_nil ?_; replace ha := ha.sub (σ' := [(1, va1), (2, (.int .i64 a2)), (3, (.int .i64 a3)), (4, (.int .i64 a4)), (5, (.pointer (some ⟨b1, 0, none⟩))), (12, (.int .i64 i313)), (15, v842), (16, (.int .i64 a3)), (29, (.int .i64 i313)), (30, (.int .i64 a3)), (31, (.bool (decide (i313 ≤ a3)))), (72, (.bool (decide (i313 = a3))))]) ⟨rfl, rfl, rfl, rfl, rfl, rfl, rfl, rfl, rfl, rfl, rfl, rfl, trivial⟩; refine e_then ?_
            refine c_cond (i313 = a3) ha rfl (decide_eq_true_iff) (fun hp888 => ?_) (fun hp888 => ?_)
            · replace hF := if_t hp888 hF
              refine wp_region_lit ?_; refine op_g ha rfl (g_move rfl) ?_; clear ha a; intro a ha; obtain ⟨hI889, hF⟩ := ck_some hF; refine op_g ha rfl (g_add rfl rfl hI889) ?_; clear ha a; intro a ha; refine op_g ha rfl (g_assign rfl) ?_; clear ha a; intro a ha; refine wpList_nil ?_; replace ha := ha.sub (σ' := [(1, va1), (2, (.int .i64 a2)), (3, (.int .i64 a3)), (4, (.int .i64 a4)), (5, (.pointer (some ⟨b1, 0, none⟩))), (12, (.int .i64 i313)), (15, v842), (16, (.int .i64 (a3 + 1))), (29, (.int .i64 i313)), (30, (.int .i64 a3)), (31, (.bool (decide (i313 ≤ a3))))]) ⟨rfl, rfl, rfl, rfl, rfl, rfl, rfl, rfl, rfl, rfl, rfl, trivial⟩
              refine e_sq ?_; obtain rfl := Option.some.inj hF
              exact ⟨a3 + 1, ha.sub ⟨rfl, rfl, rfl, rfl, rfl, rfl, rfl, rfl, rfl, rfl, rfl, trivial⟩, hE870, hI889, hB765, z766, h867, q852, q849, q850, rfl⟩
            replace hF := if_f hp888 hF; refine wp_skip ?_; refine e_sq ?_; obtain rfl := Option.some.inj hF
            exact ⟨a3, ha.sub ⟨rfl, rfl, rfl, rfl, rfl, rfl, rfl, rfl, rfl, rfl, rfl, trivial⟩, hE870, ha3, hB765, z766, h867, q852, q849, q850, rfl⟩
          rintro a w877 ⟨i883, ha, hE887, hI884, hB878, z879, h881, z882, q885, q886, rfl⟩
          have hF : F_spec_l26Try_k4 a0_0 a2 a4 rc i313 x840 i883 = some _ := hK876; clear hK876; unfold F_spec_l26Try_k4 at hF
          refine wp_seq ?_; refine wp_region_lit ?_; refine op_g ha rfl (g_loadA (cs := [va0_0]) Try.isAgg29 Try.sizeOf29 rfl (by simp) hB878.all) ?_; clear ha a; intro a ha; (iterate 2 refine op_g ha rfl (g_move rfl) ?_; clear ha a; intro a ha); obtain ⟨hI891, hF⟩ := ck_some hF; refine op_g ha rfl (g_add rfl rfl hI891) ?_; clear ha a; intro a ha; (iterate 2 refine op_g ha rfl (g_move rfl) ?_; clear ha a; intro a ha)
          obtain ⟨fp893, hro894, hs895⟩ := h881.roF
          obtain ⟨x896, hc897, hF⟩ := cal_some hF
          refine o_call ha rfl rfl Try.call51 (ih (ha0_0.ext hE887) hro894 hI891 hI884 ha4 hc897) ?_; clear ha a; rintro v898 w899 ⟨u901, u902, fp903, rfl, h904, pv905, rfl, hx900⟩ a ha
          have q907 := Nq.rd pv905 (Nq.append (Nq.new ha0_0.bnd z879) (Nq.mono q886 hs895)) hB878.bi
          have q908 := (Pv.call pv905 (Pv.app (Pv.par (fun _ h => List.mem_append_left _ h)) (Pv.mono (Pv.own z882 (zf_nil _)) hs895)) hE887.size : Pv (fa0_0 ++ fa1) W.heap.size fp903)
          replace hB878 := hB878.ext hx900
          replace h881 := h881.ext hx900
          have hE909 := Ext.trans hE887 hx900
          refine op_g ha rfl (g_move rfl) ?_; clear ha a; intro a ha; (iterate 2 refine op_g ha rfl (g_extract rfl rfl) ?_; clear ha a; intro a ha); (iterate 2 refine op_g ha rfl (g_assign rfl) ?_; clear ha a; intro a ha); refine wpList_nil ?_; replace ha := ha.sub (σ' := [(1, va1), (2, (.int .i64 a2)), (3, (.int .i64 a3)), (4, (.int .i64 a4)), (5, (.pointer (some ⟨b1, 0, none⟩))), (12, (.int .i64 i313)), (17, u901), (18, (.bool x896.2)), (29, (.int .i64 i313)), (30, (.int .i64 a3)), (31, (.bool (decide (i313 ≤ a3))))]) ⟨rfl, rfl, rfl, rfl, rfl, rfl, rfl, rfl, rfl, rfl, rfl, trivial⟩; refine e_then ?_
          refine wp_seq ?_; refine wp_region_lit ?_; refine op_g ha rfl (g_move rfl) ?_; clear ha a; intro a ha; refine wpList_nil ?_; replace ha := ha.sub (σ' := [(1, va1), (2, (.int .i64 a2)), (3, (.int .i64 a3)), (4, (.int .i64 a4)), (5, (.pointer (some ⟨b1, 0, none⟩))), (12, (.int .i64 i313)), (17, u901), (29, (.int .i64 i313)), (30, (.int .i64 a3)), (31, (.bool (decide (i313 ≤ a3)))), (85, (.bool x896.2))]) ⟨rfl, rfl, rfl, rfl, rfl, rfl, rfl, rfl, rfl, rfl, rfl, trivial⟩; refine e_then ?_; refine c_cond (x896.2 = true) ha rfl (Iff.rfl) (fun hp910 => ?_) (fun hp910 => ?_)
          · replace hF := if_t hp910 hF
            refine wp_seq ?_; refine wp_region_lit ?_; refine op_g ha rfl (g_move rfl) ?_; clear ha a; intro a ha; (iterate 2 refine op_g ha rfl (g_assign rfl) ?_; clear ha a; intro a ha); refine wpList_nil ?_; replace ha := ha.sub (σ' := [(10, u901), (11, (.bool true))]) ⟨rfl, rfl, trivial⟩; refine e_then ?_; refine wp_ret ?_; refine e_blk_ret ?_; refine e_then_ret ?_; refine e_lq_ret ?_; refine e_then_ret ?_; obtain rfl := Option.some.inj hF
            have e911 := LK_inr hN619; subst e911
            have e912 := BK_inr hK615; subst e912
            exact f_ret2 ha rfl rfl rfl ⟨_, _, _, rfl, h904, (q908), rfl, hE909⟩
          replace hF := if_f hp910 hF; refine wp_skip ?_; refine e_blk ?_; refine e_then ?_; refine wp_region_lit ?_; refine op_g ha rfl (g_move rfl) ?_; clear ha a; intro a ha; obtain ⟨hI913, hF⟩ := ck_some hF; refine op_g ha rfl (g_add rfl rfl hI913) ?_; clear ha a; intro a ha; refine op_g ha rfl (g_assign rfl) ?_; clear ha a; intro a ha; refine wpList_nil ?_; replace ha := ha.sub (σ' := [(1, va1), (2, (.int .i64 a2)), (3, (.int .i64 a3)), (4, (.int .i64 a4)), (5, (.pointer (some ⟨b1, 0, none⟩))), (12, (.int .i64 (i313 + 1))), (29, (.int .i64 i313)), (30, (.int .i64 a3)), (31, (.bool (decide (i313 ≤ a3))))]) ⟨rfl, rfl, rfl, rfl, rfl, rfl, rfl, rfl, rfl, trivial⟩
          refine e_lq ?_; obtain rfl := Option.some.inj hF
          exact ⟨_, Nat.lt_succ_self _, i313 + 1, ha.sub ⟨rfl, rfl, rfl, rfl, rfl, rfl, trivial⟩, hE909, hI913, hB878, z879, hN619⟩
        replace hF := if_f hp623 hF; refine wp_exit ?_; refine e_then_exit ?_; refine e_lq_eq ?_; obtain rfl := Option.some.inj hF
        exact ⟨ha.sub ⟨rfl, trivial⟩, hE315, (LK_inr hN619).symm⟩
      replace hF := if_f hp622 hF
      rw [show (decide (i313 < a4)) = false from b_false (decide_eq_true_iff) hp622] at ha
      (iterate 3 refine op_unwant ha rfl (yields ha rfl rfl) rfl ?_; clear ha a; intro a ha); refine op_g ha rfl (g_pick rfl rfl) ?_; clear ha a; intro a ha; refine wpList_nil ?_; replace ha := ha.sub (σ' := [(1, va1), (2, (.int .i64 a2)), (3, (.int .i64 a3)), (4, (.int .i64 a4)), (5, (.pointer (some ⟨b1, 0, none⟩))), (12, (.int .i64 i313)), (32, (.bool false))]) ⟨rfl, rfl, rfl, rfl, rfl, rfl, rfl, trivial⟩; refine e_then ?_; refine c_false ha rfl ?_; refine wp_exit ?_; refine e_then_exit ?_; refine e_lq_eq ?_; obtain rfl := Option.some.inj hF
      exact ⟨ha.sub ⟨rfl, trivial⟩, hE315, (LK_inr hN619).symm⟩
  rintro a w612 ⟨ha, hE618, rfl⟩
  have hF : F_spec_l26Try_k5 a1 = some _ := hK615; clear hK615; unfold F_spec_l26Try_k5 at hF
  refine e_then ?_; refine wp_seq ?_; refine wp_region_lit ?_; refine op_g ha rfl (g_move rfl) ?_; clear ha a; intro a ha; (iterate 2 refine op_g ha rfl (g_assign rfl) ?_; clear ha a; intro a ha); refine wpList_nil ?_; replace ha := ha.sub (σ' := [(10, va1), (11, (.bool false))]) ⟨rfl, rfl, trivial⟩; refine e_then ?_; refine wp_ret ?_; obtain rfl := Option.some.inj hF
  exact f_ret2 ha rfl rfl rfl ⟨_, _, _, rfl, (ha1.ext hE618), (Pv.par (fun _ h => List.mem_append_right _ h)), rfl, hE618⟩
theorem W_spec_l26Try_n (n : Nat) : ∀ {W : World} {va0_0 : Value} {fa0_0 : List Nat} {a0_0 : (List (List Int))} (ha0_0 : Ro (Rp.sl 2 Rp.int) W fa0_0 va0_0 a0_0) {va1 : Value} {fa1 : List Nat} {a1 : (List Int)} (ha1 : Ro Rp.int W fa1 va1 a1) {a2 : Int} (ha2 : InI a2) {a3 : Int} (ha3 : InI a3) {a4 : Int} (ha4 : InI a4) {r : ((List Int) × Bool)} (hF : itN (fun (rc : ((List (List Int)) × (List Int) × Int × Int × Int) → Option ((List Int) × Bool)) a => F_spec_l26Try_body (fun z0 z1 z2 z3 z4 => rc (z0, z1, z2, z3, z4)) a.1 a.2.1 a.2.2.1 a.2.2.2.1 a.2.2.2.2) n (a0_0, a1, a2, a3, a4) = some r),
    Calls Try.prog 51 [.agg #[va0_0], va1, .int .i64 a2, .int .i64 a3, .int .i64 a4].toArray W (Ret fun u w' => ∃ (u0 : Value) (u1 : Value) (fp_u0 : List Nat), u = .tuple #[u0, u1] ∧ Ro Rp.int w' fp_u0 u0 r.1 ∧ Pv (fa0_0 ++ fa1) W.heap.size fp_u0 ∧ u1 = .bool r.2 ∧ Ext W w') := by
  induction n with
  | zero => intro W va0_0 fa0_0 a0_0 ha0_0 va1 fa1 a1 ha1 a2 ha2 a3 ha3 a4 ha4 r hF; cases hF
  | succ n ih => intro W va0_0 fa0_0 a0_0 ha0_0 va1 fa1 a1 ha1 a2 ha2 a3 ha3 a4 ha4 r hF; exact W_spec_l26Try_step (rc := fun z0 z1 z2 z3 z4 => itN (fun (rc : ((List (List Int)) × (List Int) × Int × Int × Int) → Option ((List Int) × Bool)) a => F_spec_l26Try_body (fun z0 z1 z2 z3 z4 => rc (z0, z1, z2, z3, z4)) a.1 a.2.1 a.2.2.1 a.2.2.2.1 a.2.2.2.2) n (z0, z1, z2, z3, z4)) @ih ha0_0 ha1 ha2 ha3 ha4 hF
theorem W_spec_l26Try {W : World} {va0_0 : Value} {fa0_0 : List Nat} {a0_0 : (List (List Int))} (ha0_0 : Ro (Rp.sl 2 Rp.int) W fa0_0 va0_0 a0_0) {va1 : Value} {fa1 : List Nat} {a1 : (List Int)} (ha1 : Ro Rp.int W fa1 va1 a1) {a2 : Int} (ha2 : InI a2) {a3 : Int} (ha3 : InI a3) {a4 : Int} (ha4 : InI a4) {r : ((List Int) × Bool)} (hF : F_spec_l26Try a0_0 a1 a2 a3 a4 = some r) :
    Calls Try.prog 51 [.agg #[va0_0], va1, .int .i64 a2, .int .i64 a3, .int .i64 a4].toArray W (Ret fun u w' => ∃ (u0 : Value) (u1 : Value) (fp_u0 : List Nat), u = .tuple #[u0, u1] ∧ Ro Rp.int w' fp_u0 u0 r.1 ∧ Pv (fa0_0 ++ fa1) W.heap.size fp_u0 ∧ u1 = .bool r.2 ∧ Ext W w') := by
  obtain ⟨n, hn⟩ := fixO_some hF
  exact W_spec_l26Try_n n ha0_0 ha1 ha2 ha3 ha4 hn
set_option maxHeartbeats 2000000 in
theorem W_spec_l26Best {W : World} {va0_0 : Value} {fa0_0 : List Nat} {a0_0 : (List (List Int))} (ha0_0 : Ro (Rp.sl 2 Rp.int) W fa0_0 va0_0 a0_0) {r : ((List Int) × Int)} (hF : F_spec_l26Best a0_0 = some r) :
    Calls Try.prog 23 [.agg #[va0_0]].toArray W (Ret fun u w' => ∃ (u0 : Value) (u1 : Value) (fp_u0 : List Nat), u = .tuple #[u0, u1] ∧ Ro Rp.int w' fp_u0 u0 r.1 ∧ Pv (fa0_0) W.heap.size fp_u0 ∧ (u1 = .int .i64 r.2 ∧ InI r.2) ∧ Ext W w') := by
  refine f_enter Try.func23 rfl Try.ntmps23 rfl ?_
  intro a ha
  replace ha : Fr 22 [(0, (.agg #[va0_0]))] a := ha
  have hE : Chg [] W W := Chg.refl _ _
  unfold F_spec_l26Best at hF
  refine wp_seq ?_; refine wp_region_lit ?_
  refine o_box ha rfl rfl rfl ?_; clear ha a; intro b1 w2 hB3 hx4 hlo5 a ha
  have q6 := Zn.one hlo5
  have q7 := Zn.upD q6 hE
  have hE8 := Ext.trans hE hx4
  (iterate 2 refine op_g ha rfl (g_assign rfl) ?_; clear ha a; intro a ha); refine wpList_nil ?_; replace ha := ha.sub (σ' := [(1, (.pointer (some ⟨b1, 0, none⟩)))]) ⟨rfl, trivial⟩; refine e_then ?_; refine wp_seq ?_; refine wp_region_lit ?_; refine op_g ha rfl (g_assign rfl) ?_; clear ha a; intro a ha; refine wpList_nil ?_; refine e_then ?_; obtain ⟨o114, ho115, hK116⟩ := bnd_some hF
  obtain ⟨n117, hn118⟩ := lp_some ho115; clear ho115
  refine c_loop (fun a w => Fr 22 [] a ∧ Chg [] W w ∧ o114 = .inl ()) (fun n a w => ∃ (i63 : Int), Fr 22 [(1, (.pointer (some ⟨b1, 0, none⟩))), (4, (.int .i64 i63))] a ∧ Chg [] W w ∧ InI i63 ∧ Bx w b1 [va0_0] 29 ∧ Zn W (b1 : Int) ∧ lpN (fun s => F_spec_l26Best_l1 a0_0 s) n i63 = some o114) n117 ⟨0, ha.sub ⟨rfl, rfl, trivial⟩, hE8, (show InI 0 from by decide), hB3, q7, hn118⟩ ?_ ?_
  · rintro m122 a w60 ⟨i63, ha, hE65, hI64, hB61, z62, hF⟩
    cases m122 with
    | zero => exact (lpN_zero hF).elim
    | succ m122 =>
      obtain ⟨z121, hF, hN120⟩ := lpN_succ hF
      have hF : F_spec_l26Best_l1 a0_0 i63 = some z121 := hF; unfold F_spec_l26Best_l1 at hF
      refine wp_seq ?_; refine wp_block ?_; refine wp_seq ?_; refine d_region [0, 1, 2, 3, 4, 5, 6, 7, 8, 9, 10, 11] hmix ?_; refine u_g 0 rfl (by kernel_rfl) (want0 _) ha rfl (g_loadA (cs := [va0_0]) Try.isAgg29 Try.sizeOf29 rfl (by simp) hB61.all) ?_; clear ha a; intro a ha; refine u_g 1 rfl (by kernel_rfl) (want0 _) ha rfl (g_field0 st29_0 rfl) ?_; clear ha a; intro a ha; refine u_g 2 rfl (by kernel_rfl) (want0 _) ha rfl (g_load Try.isAgg27 rfl (hB61.cell rfl)) ?_; clear ha a; intro a ha; refine u_g 3 rfl (by kernel_rfl) (want0 _) ha rfl (g_lenR sl27.und ha0_0 rfl) ?_; clear ha a; intro a ha
      refine u_g 5 rfl (by kernel_rfl) (want0 _) ha rfl (g_move rfl) ?_; clear ha a; intro a ha
      refine u_only 4 rfl (by kernel_rfl) ?_; intro w123 hx124
      replace hB61 := hB61.ext hx124
      have hE125 := Ext.trans hE65 hx124
      obtain ⟨x126, hc127, hF⟩ := cal_some hF
      refine o_call ha rfl rfl Try.call52 (W_spec_l26None ha0_0.len hc127) ?_; clear ha a; rintro v128 w129 ⟨b131, h132, z133, hx130⟩ a ha
      have q135 := Nq.new hB61.fpb z133
      have q136 := Nq.madeO z133 hB61.bi
      replace hB61 := hB61.ext hx130
      have hE137 := Ext.trans hE125 hx130
      have q138 := Zn.upD z133 hE125
      refine wpList_nil (e_sq ?_)
      refine ⟨fun _ => hx130, ?_⟩
      refine u_only 6 rfl (by kernel_rfl) ?_; intro w139 hx140
      replace hB61 := hB61.ext hx140
      replace h132 := h132.ext hx140
      have hE141 := Ext.trans hE137 hx140
      obtain ⟨fp142, hro143, hs144⟩ := h132.roF
      obtain ⟨x145, hc146, hF⟩ := cal_some hF
      refine o_call ha rfl rfl Try.call51 (W_spec_l26Try (ha0_0.ext hE141) hro143 (show InI 0 from by decide) (show InI 0 from by decide) hI64 hc146) ?_; clear ha a; rintro v147 w148 ⟨u150, u151, fp152, rfl, h153, pv154, rfl, hx149⟩ a ha
      have q156 := Nq.rd pv154 (Nq.append (Nq.new ha0_0.bnd z62) (Nq.mono q136 hs144)) hB61.bi
      have q157 := (Pv.call pv154 (Pv.app (Pv.par (fun _ h => h)) (Pv.mono (Pv.own q138 (zf_nil _)) hs144)) hE141.size : Pv (fa0_0) W.heap.size fp152)
      replace hB61 := hB61.ext hx149
      replace h132 := h132.ext hx149
      have hE158 := Ext.trans hE141 hx149
      refine wpList_nil (e_sq ?_)
      refine ⟨fun _ => hx149, ?_⟩
      refine u_g 7 rfl (by kernel_rfl) (want0 _) ha rfl (g_move rfl) ?_; clear ha a; intro a ha; refine u_g 8 rfl (by kernel_rfl) (want0 _) ha rfl (g_extract rfl rfl) ?_; clear ha a; intro a ha; refine u_g 9 rfl (by kernel_rfl) (want0 _) ha rfl (g_extract rfl rfl) ?_; clear ha a; intro a ha; refine u_g 10 rfl (by kernel_rfl) (want0 _) ha rfl (g_assign rfl) ?_; clear ha a; intro a ha; refine u_g 11 rfl (by kernel_rfl) (want0 _) ha rfl (g_assign rfl) ?_; clear ha a; intro a ha
      refine u_done (by kernel_rfl) ?_; intro w159 hx160
      replace hB61 := hB61.ext hx160
      replace h132 := h132.ext hx160
      replace h153 := h153.ext hx160
      have hE161 := Ext.trans hE158 hx160
      replace ha := ha.sub (σ' := [(1, (.pointer (some ⟨b1, 0, none⟩))), (4, (.int .i64 i63)), (5, u150), (6, (.bool x145.2))]) ⟨rfl, rfl, rfl, rfl, trivial⟩; refine e_then ?_; refine wp_seq ?_; refine wp_region_lit ?_; refine op_g ha rfl (g_move rfl) ?_; clear ha a; intro a ha; refine wpList_nil ?_; replace ha := ha.sub (σ' := [(1, (.pointer (some ⟨b1, 0, none⟩))), (4, (.int .i64 i63)), (5, u150), (19, (.bool x145.2))]) ⟨rfl, rfl, rfl, rfl, trivial⟩; refine e_then ?_; refine c_cond (x145.2 = true) ha rfl (Iff.rfl) (fun hp162 => ?_) (fun hp162 => ?_)
      · replace hF := if_t hp162 hF
        refine wp_seq ?_; refine wp_region_lit ?_; (iterate 2 refine op_g ha rfl (g_move rfl) ?_; clear ha a; intro a ha); (iterate 2 refine op_g ha rfl (g_assign rfl) ?_; clear ha a; intro a ha); refine wpList_nil ?_; replace ha := ha.sub (σ' := [(2, u150), (3, (.int .i64 i63))]) ⟨rfl, rfl, trivial⟩; refine e_then ?_; refine wp_ret ?_; refine e_blk_ret ?_; refine e_then_ret ?_; refine e_lq_ret ?_; obtain rfl := Option.some.inj hF
        have e163 := LK_inr hN120; subst e163
        have e164 := BK_inr hK116; subst e164
        exact f_ret2 ha rfl rfl rfl ⟨_, _, _, rfl, h153, (q157), ⟨rfl, hI64⟩, hE161⟩
      replace hF := if_f hp162 hF; refine wp_skip ?_; refine e_blk ?_; refine e_then ?_; refine wp_region_lit ?_; refine op_g ha rfl (g_move rfl) ?_; clear ha a; intro a ha; obtain ⟨hI165, hF⟩ := ck_some hF; refine op_g ha rfl (g_add rfl rfl hI165) ?_; clear ha a; intro a ha; refine op_g ha rfl (g_assign rfl) ?_; clear ha a; intro a ha; refine wpList_nil ?_; replace ha := ha.sub (σ' := [(1, (.pointer (some ⟨b1, 0, none⟩))), (4, (.int .i64 (i63 + 1)))]) ⟨rfl, rfl, trivial⟩; refine e_lq ?_; obtain rfl := Option.some.inj hF
      exact ⟨_, Nat.lt_succ_self _, i63 + 1, ha.sub ⟨rfl, rfl, trivial⟩, hE161, hI165, hB61, z62, hN120⟩
  rintro a w113 ⟨ha, hE119, rfl⟩
  cases hK116
set_option maxHeartbeats 2000000 in
theorem W_spec_ChromaticOf {W : World} {va0_0 : Value} {fa0_0 : List Nat} {a0_0 : (List (List Int))} (ha0_0 : Ro (Rp.sl 2 Rp.int) W fa0_0 va0_0 a0_0) {r : Int} (hF : F_spec_ChromaticOf a0_0 = some r) :
    Calls Try.prog 10 [.agg #[va0_0]].toArray W (Ret fun u w' => (u = .int .i64 r ∧ InI r) ∧ Ext W w') := by
  refine f_enter Try.func10 rfl Try.ntmps10 rfl ?_
  intro a ha
  replace ha : Fr 14 [(0, (.agg #[va0_0]))] a := ha
  have hE : Chg [] W W := Chg.refl _ _
  unfold F_spec_ChromaticOf at hF
  refine wp_seq ?_; refine wp_region_lit ?_
  refine o_box ha rfl rfl rfl ?_; clear ha a; intro b1 w2 hB3 hx4 hlo5 a ha
  have q6 := Zn.one hlo5
  have q7 := Zn.upD q6 hE
  have hE8 := Ext.trans hE hx4
  refine op_g ha rfl (g_assign rfl) ?_; clear ha a; intro a ha; refine wpList_nil ?_; replace ha := ha.sub (σ' := [(1, (.pointer (some ⟨b1, 0, none⟩)))]) ⟨rfl, trivial⟩; refine e_then ?_; refine wp_seq ?_; refine wp_seq ?_; refine wp_region_lit ?_; refine op_g ha rfl (g_loadA (cs := [va0_0]) Try.isAgg29 Try.sizeOf29 rfl (by simp) hB3.all) ?_; clear ha a; intro a ha; obtain ⟨x9, hc10, hF⟩ := cal_some hF
  refine o_call ha rfl rfl Try.call22 (W_spec_GraphOk (ha0_0.ext hE8) hc10) ?_; clear ha a; rintro v11 w12 ⟨rfl, hx13⟩ a ha
  replace hB3 := hB3.ext hx13
  have hE14 := Ext.trans hE8 hx13
  refine op_g ha rfl (g_not rfl) ?_; clear ha a; intro a ha; refine wpList_nil ?_; replace ha := ha.sub (σ' := [(1, (.pointer (some ⟨b1, 0, none⟩))), (7, (.bool (!x9)))]) ⟨rfl, rfl, trivial⟩; refine e_then ?_; refine c_cond (¬ (x9 = true)) ha rfl (n_iff (Iff.rfl)) (fun hp15 => ?_) (fun hp15 => ?_)
  · replace hF := if_t hp15 hF
    refine wp_seq ?_; refine wp_region_lit ?_; refine op_g ha rfl (g_assign rfl) ?_; clear ha a; intro a ha; refine wpList_nil ?_; replace ha := ha.sub (σ' := [(2, (.int .i64 (-1)))]) ⟨rfl, trivial⟩; refine e_then ?_; refine wp_ret ?_; refine e_then_ret ?_; obtain rfl := Option.some.inj hF
    exact f_ret1 ha rfl rfl ⟨⟨rfl, (show InI (-1) from by decide)⟩, hE14⟩
  replace hF := if_f hp15 hF; refine wp_skip ?_; refine e_then ?_; refine wp_seq ?_; refine wp_region_lit ?_; refine op_g ha rfl (g_loadA (cs := [va0_0]) Try.isAgg29 Try.sizeOf29 rfl (by simp) hB3.all) ?_; clear ha a; intro a ha; obtain ⟨x16, hc17, hF⟩ := cal_some hF
  refine o_call ha rfl rfl Try.call23 (W_spec_l26Best (ha0_0.ext hE14) hc17) ?_; clear ha a; rintro v18 w19 ⟨u21, u22, fp23, rfl, h24, pv25, ⟨rfl, hI27⟩, hx20⟩ a ha
  have q28 := Nq.rd pv25 (Nq.new ha0_0.bnd q7) hB3.bi
  replace hB3 := hB3.ext hx20
  have hE29 := Ext.trans hE14 hx20
  refine op_g ha rfl (g_move rfl) ?_; clear ha a; intro a ha; (iterate 2 refine op_g ha rfl (g_extract rfl rfl) ?_; clear ha a; intro a ha); (iterate 2 refine op_g ha rfl (g_assign rfl) ?_; clear ha a; intro a ha); refine wpList_nil ?_; replace ha := ha.sub (σ' := [(4, (.int .i64 x16.2))]) ⟨rfl, trivial⟩; refine e_then ?_; refine wp_seq ?_; refine wp_region_lit ?_; refine op_g ha rfl (g_move rfl) ?_; clear ha a; intro a ha; refine op_g ha rfl (g_assign rfl) ?_; clear ha a; intro a ha; refine wpList_nil ?_; replace ha := ha.sub (σ' := [(2, (.int .i64 x16.2))]) ⟨rfl, trivial⟩; refine e_then ?_; refine wp_ret ?_
  obtain rfl := Option.some.inj hF
  exact f_ret1 ha rfl rfl ⟨⟨rfl, hI27⟩, hE29⟩
set_option maxHeartbeats 2000000 in
theorem W_spec_l1Edges {W : World} {va0_0 : Value} {fa0_0 : List Nat} {a0_0 : (List (List Int))} (ha0_0 : Ro (Rp.sl 2 Rp.int) W fa0_0 va0_0 a0_0) {r : (List (List Int))} (hF : F_spec_l1Edges a0_0 = some r) :
    Calls Try.prog 24 [.agg #[va0_0]].toArray W (Ret fun u w' => ∃ (b_u : Int) (fs_u : List Nat), Ow (Rp.sl 2 Rp.int) 35 true w' fs_u b_u u r ∧ Zn W b_u ∧ (∀ k ∈ fs_u, W.heap.size ≤ k) ∧ (bl b_u ++ fs_u).Nodup ∧ Ext W w') := by
  refine f_enter Try.func24 rfl Try.ntmps24 rfl ?_
  intro a ha
  replace ha : Fr 47 [(0, (.agg #[va0_0]))] a := ha
  have hE : Chg [] W W := Chg.refl _ _
  unfold F_spec_l1Edges at hF
  refine wp_seq ?_; refine wp_region_lit ?_
  refine o_box ha rfl rfl rfl ?_; clear ha a; intro b1 w2 hB3 hx4 hlo5 a ha
  have q6 := Zn.one hlo5
  have q7 := Zn.upD q6 hE
  have hE8 := Ext.trans hE hx4
  refine op_g ha rfl (g_assign rfl) ?_; clear ha a; intro a ha; refine wpList_nil ?_; replace ha := ha.sub (σ' := [(1, (.pointer (some ⟨b1, 0, none⟩)))]) ⟨rfl, trivial⟩; refine e_then ?_; refine wp_seq ?_; refine wp_region_lit ?_
  refine o_lit0 (Rp.sl 2 Rp.int) ha rfl sl27 ?_; clear ha a; intro v9 w10 h11 hx12 a ha
  obtain ⟨b14, hb14⟩ : ∃ b : Int, b = w2.heap.size := ⟨_, rfl⟩; rw [← hb14] at h11
  have q15 := zn_of hb14
  have q16 := Nq.new hB3.fpb q15
  have q17 := Nq.madeO q15 hB3.bi
  have q18 := Zn.upD q15 hE8
  replace hB3 := hB3.ext hx12
  have hE19 := Ext.trans hE8 hx12
  refine op_g ha rfl (g_assign rfl) ?_; clear ha a; intro a ha; refine wpList_nil ?_; replace ha := ha.sub (σ' := [(1, (.pointer (some ⟨b1, 0, none⟩))), (3, v9)]) ⟨rfl, rfl, trivial⟩; refine e_then ?_; refine wp_seq ?_; refine wp_seq ?_; refine wp_region_lit ?_; refine op_g ha rfl (g_assign rfl) ?_; clear ha a; intro a ha; refine wpList_nil ?_; refine e_then ?_; obtain ⟨o981, ho982, hK983⟩ := bnd_some hF
  obtain ⟨n984, hn985⟩ := lp_some ho982; clear ho982
  refine c_loop (fun a w => ∃ (l978 : (List (List Int))) (fs975 : List Nat) (v979 : Value) (b980 : Int), Fr 47 [(3, v979)] a ∧ Chg [] W w ∧ Ow (Rp.sl 2 Rp.int) 35 true w fs975 b980 v979 l978 ∧ Zn W b980 ∧ (∀ k ∈ fs975, W.heap.size ≤ k) ∧ (bl b980 ++ fs975).Nodup ∧ o981 = .inl l978) (fun n a w => ∃ (l502 : (List (List Int))) (i505 : Int) (fs499 : List Nat) (v503 : Value) (b504 : Int), Fr 47 [(1, (.pointer (some ⟨b1, 0, none⟩))), (3, v503), (4, (.int .i64 i505))] a ∧ Chg [] W w ∧ InI i505 ∧ Bx w b1 [va0_0] 29 ∧ Zn W (b1 : Int) ∧ Ow (Rp.sl 2 Rp.int) 35 true w fs499 b504 v503 l502 ∧ Zn W b504 ∧ (∀ k ∈ fs499, W.heap.size ≤ k) ∧ (bl b504 ++ fs499).Nodup ∧ Nq ([b1]) b504 ∧ Nq (bl b504 ++ fs499) (b1 : Int) ∧ lpN (fun s => F_spec_l1Edges_l1 a0_0 s.1 s.2) n (l502, i505) = some o981) n984 ⟨([] : (List (List Int))), 0, [], v9, b14, ha.sub ⟨rfl, rfl, rfl, trivial⟩, hE19, (show InI 0 from by decide), hB3, q7, h11, q18, (zf_nil _), (bl_nodup b14), q16, q17, hn985⟩ ?_ ?_
  · rintro m989 a w493 ⟨l502, i505, fs499, v503, b504, ha, hE509, hI506, hB494, z495, h497, z498, zf500, nd501, q507, q508, hF⟩
    cases m989 with
    | zero => exact (lpN_zero hF).elim
    | succ m989 =>
      obtain ⟨z988, hF, hN987⟩ := lpN_succ hF
      have hF : F_spec_l1Edges_l1 a0_0 l502 i505 = some z988 := hF; unfold F_spec_l1Edges_l1 at hF
      refine wp_seq ?_; refine wp_seq ?_; refine wp_region_lit ?_; refine op_g ha rfl (g_move rfl) ?_; clear ha a; intro a ha; refine op_g ha rfl (g_loadA (cs := [va0_0]) Try.isAgg29 Try.sizeOf29 rfl (by simp) hB494.all) ?_; clear ha a; intro a ha; obtain ⟨x990, hc991, hF⟩ := cal_some hF
      refine o_call ha rfl rfl Try.call35 (W_spec_l1Size (ha0_0.ext hE509) hc991) ?_; clear ha a; rintro v992 w993 ⟨⟨rfl, hI995⟩, hx994⟩ a ha
      replace hB494 := hB494.ext hx994
      replace h497 := h497.ext hx994
      have hE996 := Ext.trans hE509 hx994
      refine op_g ha rfl (g_lss rfl rfl) ?_; clear ha a; intro a ha; refine wpList_nil ?_; replace ha := ha.sub (σ' := [(1, (.pointer (some ⟨b1, 0, none⟩))), (3, v503), (4, (.int .i64 i505)), (10, (.bool (decide (i505 < x990))))]) ⟨rfl, rfl, rfl, rfl, trivial⟩; refine e_then ?_; refine c_cond (i505 < x990) ha rfl (decide_eq_true_iff) (fun hp997 => ?_) (fun hp997 => ?_)
      · replace hF := if_t hp997 hF
        refine wp_skip ?_; refine e_then ?_; refine wp_seq ?_; refine wp_block ?_; refine wp_seq ?_; refine wp_region_lit ?_; refine op_g ha rfl (g_assign rfl) ?_; clear ha a; intro a ha; refine wpList_nil ?_; replace ha := ha.sub (σ' := [(1, (.pointer (some ⟨b1, 0, none⟩))), (3, v503), (4, (.int .i64 i505)), (5, (.int .i64 0))]) ⟨rfl, rfl, rfl, rfl, trivial⟩; refine e_then ?_; obtain ⟨o1307, ho1308, hK1309⟩ := bnd_some hF
        obtain ⟨n1310, hn1311⟩ := lp_some ho1308; clear ho1308
        refine c_loop (fun a w => ∃ (l1302 : (List (List Int))) (fs1299 : List Nat) (v1303 : Value) (b1304 : Int), Fr 47 [(1, (.pointer (some ⟨b1, 0, none⟩))), (3, v1303), (4, (.int .i64 i505))] a ∧ Chg [] W w ∧ Bx w b1 [va0_0] 29 ∧ Zn W (b1 : Int) ∧ Ow (Rp.sl 2 Rp.int) 35 true w fs1299 b1304 v1303 l1302 ∧ Zn W b1304 ∧ (∀ k ∈ fs1299, W.heap.size ≤ k) ∧ (bl b1304 ++ fs1299).Nodup ∧ Nq ([b1]) b1304 ∧ Nq (bl b1304 ++ fs1299) (b1 : Int) ∧ o1307 = .inl l1302) (fun n a w => ∃ (l1152 : (List (List Int))) (i1155 : Int) (fs1149 : List Nat) (v1153 : Value) (b1154 : Int), Fr 47 [(1, (.pointer (some ⟨b1, 0, none⟩))), (3, v1153), (4, (.int .i64 i505)), (5, (.int .i64 i1155))] a ∧ Chg [] W w ∧ InI i1155 ∧ Bx w b1 [va0_0] 29 ∧ Zn W (b1 : Int) ∧ Ow (Rp.sl 2 Rp.int) 35 true w fs1149 b1154 v1153 l1152 ∧ Zn W b1154 ∧ (∀ k ∈ fs1149, W.heap.size ≤ k) ∧ (bl b1154 ++ fs1149).Nodup ∧ Nq ([b1]) b1154 ∧ Nq (bl b1154 ++ fs1149) (b1 : Int) ∧ lpN (fun s => F_spec_l1Edges_l2 a0_0 i505 s.1 s.2) n (l1152, i1155) = some o1307) n1310 ⟨l502, 0, fs499, v503, b504, ha.sub ⟨rfl, rfl, rfl, rfl, trivial⟩, hE996, (show InI 0 from by decide), hB494, z495, h497, z498, zf500, nd501, q507, q508, hn1311⟩ ?_ ?_
        · rintro m1315 a w1143 ⟨l1152, i1155, fs1149, v1153, b1154, ha, hE1159, hI1156, hB1144, z1145, h1147, z1148, zf1150, nd1151, q1157, q1158, hF⟩
          cases m1315 with
          | zero => exact (lpN_zero hF).elim
          | succ m1315 =>
            obtain ⟨z1314, hF, hN1313⟩ := lpN_succ hF
            have hF : F_spec_l1Edges_l2 a0_0 i505 l1152 i1155 = some z1314 := hF; unfold F_spec_l1Edges_l2 at hF
            refine wp_seq ?_; refine wp_seq ?_; refine wp_region_lit ?_; refine op_g ha rfl (g_move rfl) ?_; clear ha a; intro a ha; refine op_g ha rfl (g_field0 st29_0 rfl) ?_; clear ha a; intro a ha; refine op_g ha rfl (g_load Try.isAgg27 rfl (hB1144.cell rfl)) ?_; clear ha a; intro a ha; refine op_g ha rfl (g_move rfl) ?_; clear ha a; intro a ha; obtain ⟨x1316, g1317, gx1318, hF⟩ := idx_some hF
            obtain ⟨p1319, cs1320, f1321, hf1322, hpb1323, hat1324, hr1325, hi1326⟩ := ha0_0.at g1317 gx1318
            obtain ⟨v1327, rfl, h1328⟩ := hr1325
            have h1328 : Ro Rp.int W f1321 v1327 x1316 := h1328
            refine op_g ha rfl (hi1326.gives sl27 rfl rfl) ?_; clear ha a; intro a ha; refine op_g ha rfl (g_load0 hE1159 Try.isAgg35 rfl hat1324.one) ?_; clear ha a; intro a ha; refine op_g ha rfl (g_lenR sl35.und h1328 rfl) ?_; clear ha a; intro a ha; refine op_g ha rfl (g_lss rfl rfl) ?_; clear ha a; intro a ha; refine wpList_nil ?_; replace ha := ha.sub (σ' := [(1, (.pointer (some ⟨b1, 0, none⟩))), (3, v1153), (4, (.int .i64 i505)), (5, (.int .i64 i1155)), (20, (.bool (decide (i1155 < (x1316.length : Int)))))]) ⟨rfl, rfl, rfl, rfl, rfl, trivial⟩; refine e_then ?_; refine c_cond (i1155 < (x1316.length : Int)) ha rfl (decide_eq_true_iff) (fun hp1330 => ?_) (fun hp1330 => ?_)
            · replace hF := if_t hp1330 hF
              refine wp_skip ?_; refine e_then ?_; refine wp_seq ?_; refine wp_block ?_; refine wp_seq ?_; refine wp_region_lit ?_; refine op_g ha rfl (g_field0 st29_0 rfl) ?_; clear ha a; intro a ha; refine op_g ha rfl (g_load Try.isAgg27 rfl (hB1144.cell rfl)) ?_; clear ha a; intro a ha; refine op_g ha rfl (g_move rfl) ?_; clear ha a; intro a ha; obtain ⟨x1331, g1332, gx1333, hF⟩ := idx_some hF
              obtain ⟨p1334, cs1335, f1336, hf1337, hpb1338, hat1339, hr1340, hi1341⟩ := ha0_0.at g1332 gx1333
              obtain ⟨v1342, rfl, h1343⟩ := hr1340
              have h1343 : Ro Rp.int W f1336 v1342 x1331 := h1343
              refine op_g ha rfl (hi1341.gives sl27 rfl rfl) ?_; clear ha a; intro a ha; refine op_g ha rfl (g_load0 hE1159 Try.isAgg35 rfl hat1339.one) ?_; clear ha a; intro a ha; refine op_g ha rfl (g_move rfl) ?_; clear ha a; intro a ha; obtain ⟨x1345, g1346, gx1347, hF⟩ := idx_some hF
              obtain ⟨p1348, cs1349, f1350, hf1351, hpb1352, hat1353, hr1354, hi1355⟩ := h1343.at g1346 gx1347
              obtain ⟨rfl, hI1356, rfl⟩ := hr1354
              refine op_g ha rfl (hi1355.gives sl35 rfl rfl) ?_; clear ha a; intro a ha; refine op_g ha rfl (g_load0 hE1159 Try.isAgg2 rfl hat1353.one) ?_; clear ha a; intro a ha; refine op_g ha rfl (g_move rfl) ?_; clear ha a; intro a ha; refine op_g ha rfl (g_gtr rfl rfl) ?_; clear ha a; intro a ha; refine wpList_nil ?_; replace ha := ha.sub (σ' := [(1, (.pointer (some ⟨b1, 0, none⟩))), (3, v1153), (4, (.int .i64 i505)), (5, (.int .i64 i1155)), (32, (.bool (decide (i505 < x1345))))]) ⟨rfl, rfl, rfl, rfl, rfl, trivial⟩; refine e_then ?_; refine c_cond (i505 < x1345) ha rfl (decide_eq_true_iff) (fun hp1357 => ?_) (fun hp1357 => ?_)
              · replace hF := if_t hp1357 hF
                refine wp_region_lit ?_; (iterate 2 refine op_g ha rfl (g_move rfl) ?_; clear ha a; intro a ha); refine op_g ha rfl (g_field0 st29_0 rfl) ?_; clear ha a; intro a ha; refine op_g ha rfl (g_load Try.isAgg27 rfl (hB1144.cell rfl)) ?_; clear ha a; intro a ha; refine op_g ha rfl (g_move rfl) ?_; clear ha a; intro a ha; obtain ⟨x1358, g1359, gx1360, hF⟩ := idx_some hF
                obtain ⟨p1361, cs1362, f1363, hf1364, hpb1365, hat1366, hr1367, hi1368⟩ := ha0_0.at g1359 gx1360
                obtain ⟨v1369, rfl, h1370⟩ := hr1367
                have h1370 : Ro Rp.int W f1363 v1369 x1358 := h1370
                refine op_g ha rfl (hi1368.gives sl27 rfl rfl) ?_; clear ha a; intro a ha; refine op_g ha rfl (g_load0 hE1159 Try.isAgg35 rfl hat1366.one) ?_; clear ha a; intro a ha; refine op_g ha rfl (g_move rfl) ?_; clear ha a; intro a ha; obtain ⟨x1372, g1373, gx1374, hF⟩ := idx_some hF
                obtain ⟨p1375, cs1376, f1377, hf1378, hpb1379, hat1380, hr1381, hi1382⟩ := h1370.at g1373 gx1374
                obtain ⟨rfl, hI1383, rfl⟩ := hr1381
                refine op_g ha rfl (hi1382.gives sl35 rfl rfl) ?_; clear ha a; intro a ha; refine op_g ha rfl (g_load0 hE1159 Try.isAgg2 rfl hat1380.one) ?_; clear ha a; intro a ha
                have hvob1388 : ∀ p ∈ ([((.int .i64 i505), [(.int .i64 i505)]), ((.int .i64 x1372), [(.int .i64 x1372)])] : List (Value × List Value)), p.1.cells = p.2.toArray ∧ p.2.length = 1 := by
                  intro p hp; simp only [List.mem_cons, List.not_mem_nil, or_false] at hp; rcases hp with hp | hp <;> subst hp <;> first | exact ⟨rfl, rfl⟩
                refine o_litM (o := true) (f := []) (ps := [((.int .i64 i505), [(.int .i64 i505)]), ((.int .i64 x1372), [(.int .i64 x1372)])]) (ys := [i505, x1372]) Rp.int ha rfl sl35 rfl rfl rfl rfl hvob1388 ⟨[], [], [(.int .i64 i505)], _, rfl, rfl, ⟨rfl, hI506, rfl⟩, ⟨[], [], [(.int .i64 x1372)], _, rfl, rfl, ⟨rfl, hI1383, rfl⟩, ⟨rfl, rfl⟩⟩⟩ ?_; clear ha a; intro v1384 w1385 h1386 hx1387 a ha
                obtain ⟨b1389, hb1389⟩ : ∃ b : Int, b = w1143.heap.size := ⟨_, rfl⟩; rw [← hb1389] at h1386
                have q1390 := zn_of hb1389
                have q1391 := Nq.new hB1144.fpb q1390
                have q1392 := Nq.madeO q1390 hB1144.bi
                have q1393 := Nq.new h1147.fpb q1390
                have q1394 := Nq.madeO q1390 h1147.blt
                have q1395 := Nf.old q1390 (zf_nil _) h1147.bnd
                have q1396 := Zn.upD q1390 hE1159
                replace hB1144 := hB1144.ext hx1387
                replace h1147 := h1147.ext hx1387
                have hE1397 := Ext.trans hE1159 hx1387
                refine o_lit1 (o := true) (y := [i505, x1372]) (Rp.sl 2 Rp.int) ha rfl sl27 rfl rfl h1386.cells (Rp.mkO h1386) ?_; clear ha a; intro v1398 w1399 h1400 hx1401 a ha
                obtain ⟨b1403, hb1403⟩ : ∃ b : Int, b = w1385.heap.size := ⟨_, rfl⟩; rw [← hb1403] at h1400
                have q1404 := zn_of hb1403
                have q1405 := zf_mv q1396 (zf_nil _)
                have q1406 := dj_of q1393
                have q1407 := Nq.new hB1144.fpb q1404
                have q1408 := Nq.append (Nq.madeL q1404 hB1144.bi) q1392
                have q1409 := Nq.new h1147.fpb q1404
                have q1410 := Nq.append (Nq.madeL q1404 h1147.blt) q1394
                have q1411 := Zn.upD q1404 hE1397
                have q1412 := nd_lit (bl_nodup b1389) h1386.fpb hb1403
                replace hB1144 := hB1144.ext hx1401
                replace h1147 := h1147.ext hx1401
                have hE1413 := Ext.trans hE1397 hx1401
                obtain ⟨hl1414, hF⟩ := app_some hF
                have q1415 := Nq.right q1410
                refine o_append ha rfl sl27 rfl rfl rfl h1147 h1400.src q1415 hl1414 ?_; clear ha a; intro v1416 w1417 b1418 h1419 hc1420 hb1421 a ha
                replace h1419 : Ow (Rp.sl 2 Rp.int) 35 true w1417 (fs1149 ++ (bl b1389 ++ [])) b1418 v1416 _ := h1419
                have q1423 := zf_app zf1150 q1405
                have q1424 := nd_app nd1151 (bl_nodup b1389) q1406 hb1421 h1147.fpb h1400.bnd
                have q1425 := Nq.appY q1157 hB1144.fpb hb1421
                have q1426 := Nq.appX q1158 (Nq.right q1408) hb1421 hB1144.bi
                have q1427 := Zn.appD z1148 hb1421 hE1413
                replace hB1144 := hB1144.nq hc1420 q1157
                have hE1428 := Ext.then hE1413 hc1420 (Zn.bl z1148)
                refine op_g ha rfl (g_assign rfl) ?_; clear ha a; intro a ha; refine wpList_nil ?_; replace ha := ha.sub (σ' := [(1, (.pointer (some ⟨b1, 0, none⟩))), (3, v1416), (4, (.int .i64 i505)), (5, (.int .i64 i1155))]) ⟨rfl, rfl, rfl, rfl, trivial⟩; refine e_blk ?_; refine e_then ?_; refine wp_region_lit ?_; refine op_g ha rfl (g_move rfl) ?_; clear ha a; intro a ha; obtain ⟨hI1429, hF⟩ := ck_some hF; refine op_g ha rfl (g_add rfl rfl hI1429) ?_; clear ha a; intro a ha; refine op_g ha rfl (g_assign rfl) ?_; clear ha a; intro a ha; refine wpList_nil ?_; replace ha := ha.sub (σ' := [(1, (.pointer (some ⟨b1, 0, none⟩))), (3, v1416), (4, (.int .i64 i505)), (5, (.int .i64 (i1155 + 1)))]) ⟨rfl, rfl, rfl, rfl, trivial⟩
                refine e_lq ?_; obtain rfl := Option.some.inj hF
                exact ⟨_, Nat.lt_succ_self _, (l1152 ++ ([[i505, x1372]])), i1155 + 1, (fs1149 ++ (bl b1389 ++ [])), v1416, b1418, ha.sub ⟨rfl, rfl, rfl, rfl, trivial⟩, hE1428, hI1429, hB1144, z1145, h1419, q1427, q1423, q1424, q1425, q1426, hN1313⟩
              replace hF := if_f hp1357 hF; refine wp_skip ?_; refine e_blk ?_; refine e_then ?_; refine wp_region_lit ?_; refine op_g ha rfl (g_move rfl) ?_; clear ha a; intro a ha; obtain ⟨hI1431, hF⟩ := ck_some hF; refine op_g ha rfl (g_add rfl rfl hI1431) ?_; clear ha a; intro a ha; refine op_g ha rfl (g_assign rfl) ?_; clear ha a; intro a ha; refine wpList_nil ?_; replace ha := ha.sub (σ' := [(1, (.pointer (some ⟨b1, 0, none⟩))), (3, v1153), (4, (.int .i64 i505)), (5, (.int .i64 (i1155 + 1)))]) ⟨rfl, rfl, rfl, rfl, trivial⟩; refine e_lq ?_; obtain rfl := Option.some.inj hF
              exact ⟨_, Nat.lt_succ_self _, l1152, i1155 + 1, fs1149, v1153, b1154, ha.sub ⟨rfl, rfl, rfl, rfl, trivial⟩, hE1159, hI1431, hB1144, z1145, h1147, z1148, zf1150, nd1151, q1157, q1158, hN1313⟩
            replace hF := if_f hp1330 hF; refine wp_exit ?_; refine e_then_exit ?_; refine e_lq_eq ?_; obtain rfl := Option.some.inj hF
            exact ⟨l1152, fs1149, v1153, b1154, ha.sub ⟨rfl, rfl, rfl, trivial⟩, hE1159, hB1144, z1145, h1147, z1148, zf1150, nd1151, q1157, q1158, (LK_inr hN1313).symm⟩
        rintro a w1293 ⟨l1302, fs1299, v1303, b1304, ha, hE1312, hB1294, z1295, h1297, z1298, zf1300, nd1301, q1305, q1306, rfl⟩
        have hF : F_spec_l1Edges_k3 i505 l1302 = some _ := hK1309; clear hK1309; unfold F_spec_l1Edges_k3 at hF
        refine e_blk ?_; refine e_then ?_; refine wp_region_lit ?_; refine op_g ha rfl (g_move rfl) ?_; clear ha a; intro a ha; obtain ⟨hI1433, hF⟩ := ck_some hF; refine op_g ha rfl (g_add rfl rfl hI1433) ?_; clear ha a; intro a ha; refine op_g ha rfl (g_assign rfl) ?_; clear ha a; intro a ha; refine wpList_nil ?_; replace ha := ha.sub (σ' := [(1, (.pointer (some ⟨b1, 0, none⟩))), (3, v1303), (4, (.int .i64 (i505 + 1)))]) ⟨rfl, rfl, rfl, trivial⟩; refine e_lq ?_; obtain rfl := Option.some.inj hF
        exact ⟨_, Nat.lt_succ_self _, l1302, i505 + 1, fs1299, v1303, b1304, ha.sub ⟨rfl, rfl, rfl, trivial⟩, hE1312, hI1433, hB1294, z1295, h1297, z1298, zf1300, nd1301, q1305, q1306, hN987⟩
      replace hF := if_f hp997 hF; refine wp_exit ?_; refine e_then_exit ?_; refine e_lq_eq ?_; obtain rfl := Option.some.inj hF
      exact ⟨l502, fs499, v503, b504, ha.sub ⟨rfl, trivial⟩, hE996, h497, z498, zf500, nd501, (LK_inr hN987).symm⟩
  rintro a w971 ⟨l978, fs975, v979, b980, ha, hE986, h973, z974, zf976, nd977, rfl⟩
  have hF : F_spec_l1Edges_k4 l978 = some _ := hK983; clear hK983; unfold F_spec_l1Edges_k4 at hF
  refine e_then ?_; refine wp_seq ?_; refine wp_region_lit ?_; refine op_g ha rfl (g_move rfl) ?_; clear ha a; intro a ha; refine op_g ha rfl (g_assign rfl) ?_; clear ha a; intro a ha; refine wpList_nil ?_; replace ha := ha.sub (σ' := [(2, v979)]) ⟨rfl, trivial⟩; refine e_then ?_; refine wp_ret ?_; obtain rfl := Option.some.inj hF
  exact f_ret1 ha rfl rfl ⟨_, _, h973, z974, zf976, nd977, hE986⟩
set_option maxHeartbeats 2000000 in
theorem W_spec_EdgesOf {W : World} {va0_0 : Value} {fa0_0 : List Nat} {a0_0 : (List (List Int))} (ha0_0 : Ro (Rp.sl 2 Rp.int) W fa0_0 va0_0 a0_0) {r : (List (List Int))} (hF : F_spec_EdgesOf a0_0 = some r) :
    Calls Try.prog 11 [.agg #[va0_0]].toArray W (Ret fun u w' => ∃ (b_u : Int) (fs_u : List Nat), Ow (Rp.sl 2 Rp.int) 35 true w' fs_u b_u u r ∧ Zn W b_u ∧ (∀ k ∈ fs_u, W.heap.size ≤ k) ∧ (bl b_u ++ fs_u).Nodup ∧ Ext W w') := by
  refine f_enter Try.func11 rfl Try.ntmps11 rfl ?_
  intro a ha
  replace ha : Fr 9 [(0, (.agg #[va0_0]))] a := ha
  have hE : Chg [] W W := Chg.refl _ _
  unfold F_spec_EdgesOf at hF
  refine wp_seq ?_; refine wp_region_lit ?_
  refine o_box ha rfl rfl rfl ?_; clear ha a; intro b1 w2 hB3 hx4 hlo5 a ha
  have q6 := Zn.one hlo5
  have q7 := Zn.upD q6 hE
  have hE8 := Ext.trans hE hx4
  refine op_g ha rfl (g_assign rfl) ?_; clear ha a; intro a ha; refine wpList_nil ?_; replace ha := ha.sub (σ' := [(1, (.pointer (some ⟨b1, 0, none⟩)))]) ⟨rfl, trivial⟩; refine e_then ?_; refine wp_seq ?_; refine wp_seq ?_; refine wp_region_lit ?_; refine op_g ha rfl (g_loadA (cs := [va0_0]) Try.isAgg29 Try.sizeOf29 rfl (by simp) hB3.all) ?_; clear ha a; intro a ha; obtain ⟨x9, hc10, hF⟩ := cal_some hF
  refine o_call ha rfl rfl Try.call22 (W_spec_GraphOk (ha0_0.ext hE8) hc10) ?_; clear ha a; rintro v11 w12 ⟨rfl, hx13⟩ a ha
  replace hB3 := hB3.ext hx13
  have hE14 := Ext.trans hE8 hx13
  refine op_g ha rfl (g_not rfl) ?_; clear ha a; intro a ha; refine wpList_nil ?_; replace ha := ha.sub (σ' := [(1, (.pointer (some ⟨b1, 0, none⟩))), (5, (.bool (!x9)))]) ⟨rfl, rfl, trivial⟩; refine e_then ?_; refine c_cond (¬ (x9 = true)) ha rfl (n_iff (Iff.rfl)) (fun hp15 => ?_) (fun hp15 => ?_)
  · replace hF := if_t hp15 hF
    refine wp_seq ?_; refine wp_region_lit ?_
    refine o_lit0 (Rp.sl 2 Rp.int) ha rfl sl27 ?_; clear ha a; intro v16 w17 h18 hx19 a ha
    obtain ⟨b21, hb21⟩ : ∃ b : Int, b = w12.heap.size := ⟨_, rfl⟩; rw [← hb21] at h18
    have q22 := zn_of hb21
    have q23 := Nq.new hB3.fpb q22
    have q24 := Nq.madeO q22 hB3.bi
    have q25 := Zn.upD q22 hE14
    replace hB3 := hB3.ext hx19
    have hE26 := Ext.trans hE14 hx19
    refine op_g ha rfl (g_assign rfl) ?_; clear ha a; intro a ha; refine wpList_nil ?_; replace ha := ha.sub (σ' := [(2, v16)]) ⟨rfl, trivial⟩; refine e_then ?_; refine wp_ret ?_; refine e_then_ret ?_; obtain rfl := Option.some.inj hF
    exact f_ret1 ha rfl rfl ⟨_, _, h18, q25, (zf_nil _), (bl_nodup b21), hE26⟩
  replace hF := if_f hp15 hF; refine wp_skip ?_; refine e_then ?_; refine wp_seq ?_; refine wp_region_lit ?_; refine op_g ha rfl (g_loadA (cs := [va0_0]) Try.isAgg29 Try.sizeOf29 rfl (by simp) hB3.all) ?_; clear ha a; intro a ha; obtain ⟨x27, hc28, hF⟩ := cal_some hF
  refine o_call ha rfl rfl Try.call24 (W_spec_l1Edges (ha0_0.ext hE14) hc28) ?_; clear ha a; rintro v29 w30 ⟨b32, fs36, h33, z34, zf37, nd38, hx31⟩ a ha
  have q39 := Nq.new hB3.fpb z34
  have q40 := Nq.madeF z34 zf37 hB3.bi
  have q41 := Nf.new hB3.fpb zf37
  replace hB3 := hB3.ext hx31
  have hE42 := Ext.trans hE14 hx31
  have q43 := Zn.upD z34 hE14
  have q44 := zf_up zf37 hE14
  refine op_g ha rfl (g_assign rfl) ?_; clear ha a; intro a ha; refine wpList_nil ?_; replace ha := ha.sub (σ' := [(2, v29)]) ⟨rfl, trivial⟩; refine e_then ?_; refine wp_ret ?_; obtain rfl := Option.some.inj hF
  exact f_ret1 ha rfl rfl ⟨_, _, h33, q43, q44, nd38, hE42⟩
set_option maxHeartbeats 2000000 in
theorem W_spec_l1There {W : World} {va0_0 : Value} {fa0_0 : List Nat} {a0_0 : (List (List Int))} (ha0_0 : Ro (Rp.sl 2 Rp.int) W fa0_0 va0_0 a0_0) {a1 : Int} (ha1 : InI a1) {r : Bool} (hF : F_spec_l1There a0_0 a1 = some r) :
    Calls Try.prog 53 [.agg #[va0_0], .int .i64 a1].toArray W (Ret fun u w' => u = .bool r ∧ Ext W w') := by
  refine f_enter Try.func53 rfl Try.ntmps53 rfl ?_
  intro a ha
  replace ha : Fr 10 [(0, (.agg #[va0_0])), (1, (.int .i64 a1))] a := ha
  have hE : Chg [] W W := Chg.refl _ _
  unfold F_spec_l1There at hF
  refine wp_seq ?_; refine wp_region_lit ?_
  refine o_box ha rfl rfl rfl ?_; clear ha a; intro b1 w2 hB3 hx4 hlo5 a ha
  have q6 := Zn.one hlo5
  have q7 := Zn.upD q6 hE
  have hE8 := Ext.trans hE hx4
  refine op_g ha rfl (g_assign rfl) ?_; clear ha a; intro a ha; refine wpList_nil ?_; replace ha := ha.sub (σ' := [(1, (.int .i64 a1)), (2, (.pointer (some ⟨b1, 0, none⟩)))]) ⟨rfl, rfl, trivial⟩; refine e_then ?_; refine wp_seq ?_; refine wp_region_lit ?_; refine op_g ha rfl (g_move rfl) ?_; clear ha a; intro a ha; refine op_g ha rfl (g_loadA (cs := [va0_0]) Try.isAgg29 Try.sizeOf29 rfl (by simp) hB3.all) ?_; clear ha a; intro a ha; obtain ⟨x9, hc10, hF⟩ := cal_some hF
  refine o_call ha rfl rfl Try.call35 (W_spec_l1Size (ha0_0.ext hE8) hc10) ?_; clear ha a; rintro v11 w12 ⟨⟨rfl, hI14⟩, hx13⟩ a ha
  replace hB3 := hB3.ext hx13
  have hE15 := Ext.trans hE8 hx13
  obtain ⟨hI16, hF⟩ := ck_some hF; refine op_g ha rfl (g_sub rfl rfl hI16) ?_; clear ha a; intro a ha; obtain ⟨x18, hc19, hF⟩ := cal_some hF
  refine o_call ha rfl rfl Try.call46 (W_spec_l1In ha1 (show InI 0 from by decide) hI16 hc19) ?_; clear ha a; rintro v20 w21 ⟨rfl, hx22⟩ a ha
  replace hB3 := hB3.ext hx22
  have hE23 := Ext.trans hE15 hx22
  refine op_g ha rfl (g_assign rfl) ?_; clear ha a; intro a ha; refine wpList_nil ?_; replace ha := ha.sub (σ' := [(4, (.bool x18))]) ⟨rfl, trivial⟩; refine e_then ?_; refine wp_ret ?_; obtain rfl := Option.some.inj hF
  exact f_ret1 ha rfl rfl ⟨rfl, hE23⟩
set_option maxHeartbeats 2000000 in
theorem W_spec_l2Pair {W : World} {va0_0 : Value} {fa0_0 : List Nat} {a0_0 : (List (List Int))} (ha0_0 : Ro (Rp.sl 2 Rp.int) W fa0_0 va0_0 a0_0) {a1 : Int} (ha1 : InI a1) {a2 : Int} (ha2 : InI a2) {r : Bool} (hF : F_spec_l2Pair a0_0 a1 a2 = some r) :
    Calls Try.prog 25 [.agg #[va0_0], .int .i64 a1, .int .i64 a2].toArray W (Ret fun u w' => u = .bool r ∧ Ext W w') := by
  refine f_enter Try.func25 rfl Try.ntmps25 rfl ?_
  intro a ha
  replace ha : Fr 24 [(0, (.agg #[va0_0])), (1, (.int .i64 a1)), (2, (.int .i64 a2))] a := ha
  have hE : Chg [] W W := Chg.refl _ _
  unfold F_spec_l2Pair at hF
  refine wp_seq ?_; refine wp_region_lit ?_
  refine o_box ha rfl rfl rfl ?_; clear ha a; intro b1 w2 hB3 hx4 hlo5 a ha
  have q6 := Zn.one hlo5
  have q7 := Zn.upD q6 hE
  have hE8 := Ext.trans hE hx4
  refine op_g ha rfl (g_assign rfl) ?_; clear ha a; intro a ha; refine wpList_nil ?_; replace ha := ha.sub (σ' := [(1, (.int .i64 a1)), (2, (.int .i64 a2)), (3, (.pointer (some ⟨b1, 0, none⟩)))]) ⟨rfl, rfl, rfl, trivial⟩; refine e_then ?_; refine wp_seq ?_; refine wp_region_lit ?_; refine op_g ha rfl (g_loadA (cs := [va0_0]) Try.isAgg29 Try.sizeOf29 rfl (by simp) hB3.all) ?_; clear ha a; intro a ha; obtain ⟨x9, hc10, hF⟩ := cal_some hF
  refine o_call ha rfl rfl Try.call22 (W_spec_GraphOk (ha0_0.ext hE8) hc10) ?_; clear ha a; rintro v11 w12 ⟨rfl, hx13⟩ a ha
  replace hB3 := hB3.ext hx13
  have hE14 := Ext.trans hE8 hx13
  refine op_g ha rfl (g_move rfl) ?_; clear ha a; intro a ha
  by_cases hp15 : x9 = true
  · replace hF := if_t hp15 hF
    rw [show (x9) = true from (Iff.rfl).2 hp15] at ha
    refine op_want (yields ha rfl rfl) ?_; refine op_g ha rfl (g_loadA (cs := [va0_0]) Try.isAgg29 Try.sizeOf29 rfl (by simp) hB3.all) ?_; clear ha a; intro a ha; refine op_want (yields ha rfl rfl) ?_; refine op_g ha rfl (g_move rfl) ?_; clear ha a; intro a ha; refine op_want (yields ha rfl rfl) ?_; obtain ⟨x16, hc17, hF⟩ := cal_some hF
    refine o_call ha rfl rfl Try.call53 (W_spec_l1There (ha0_0.ext hE14) ha1 hc17) ?_; clear ha a; rintro v18 w19 ⟨rfl, hx20⟩ a ha
    replace hB3 := hB3.ext hx20
    have hE21 := Ext.trans hE14 hx20
    refine op_g ha rfl (g_pick rfl rfl) ?_; clear ha a; intro a ha; refine op_g ha rfl (g_move rfl) ?_; clear ha a; intro a ha
    by_cases hp22 : x16 = true
    · replace hF := if_t hp22 hF
      rw [show (x16) = true from (Iff.rfl).2 hp22] at ha
      refine op_want (yields ha rfl rfl) ?_; refine op_g ha rfl (g_loadA (cs := [va0_0]) Try.isAgg29 Try.sizeOf29 rfl (by simp) hB3.all) ?_; clear ha a; intro a ha; refine op_want (yields ha rfl rfl) ?_; refine op_g ha rfl (g_move rfl) ?_; clear ha a; intro a ha; refine op_want (yields ha rfl rfl) ?_; obtain ⟨x23, hc24, hF⟩ := cal_some hF
      refine o_call ha rfl rfl Try.call53 (W_spec_l1There (ha0_0.ext hE21) ha2 hc24) ?_; clear ha a; rintro v25 w26 ⟨rfl, hx27⟩ a ha
      replace hB3 := hB3.ext hx27
      have hE28 := Ext.trans hE21 hx27
      refine op_g ha rfl (g_pick rfl rfl) ?_; clear ha a; intro a ha; refine op_g ha rfl (g_move rfl) ?_; clear ha a; intro a ha
      by_cases hp29 : x23 = true
      · replace hF := if_t hp29 hF
        rw [show (x23) = true from (Iff.rfl).2 hp29] at ha
        refine op_want (yields ha rfl rfl) ?_; refine op_g ha rfl (g_move rfl) ?_; clear ha a; intro a ha; refine op_want (yields ha rfl rfl) ?_; refine op_g ha rfl (g_move rfl) ?_; clear ha a; intro a ha; refine op_want (yields ha rfl rfl) ?_; refine op_g ha rfl (g_neq rfl rfl) ?_; clear ha a; intro a ha; refine op_g ha rfl (g_pick rfl rfl) ?_; clear ha a; intro a ha; refine op_g ha rfl (g_assign rfl) ?_; clear ha a; intro a ha; refine wpList_nil ?_; replace ha := ha.sub (σ' := [(6, (.bool (decide (a1 ≠ a2))))]) ⟨rfl, trivial⟩; refine e_then ?_; refine wp_ret ?_; obtain rfl := Option.some.inj hF
        exact f_ret1 ha rfl rfl ⟨rfl, hE28⟩
      replace hF := if_f hp29 hF
      rw [show (x23) = false from b_false (Iff.rfl) hp29] at ha
      (iterate 3 refine op_unwant ha rfl (yields ha rfl rfl) rfl ?_; clear ha a; intro a ha); refine op_g ha rfl (g_pick rfl rfl) ?_; clear ha a; intro a ha; refine op_g ha rfl (g_assign rfl) ?_; clear ha a; intro a ha; refine wpList_nil ?_; replace ha := ha.sub (σ' := [(6, (.bool false))]) ⟨rfl, trivial⟩; refine e_then ?_; refine wp_ret ?_; obtain rfl := Option.some.inj hF
      exact f_ret1 ha rfl rfl ⟨rfl, hE28⟩
    replace hF := if_f hp22 hF
    rw [show (x16) = false from b_false (Iff.rfl) hp22] at ha
    (iterate 3 refine op_unwant ha rfl (yields ha rfl rfl) rfl ?_; clear ha a; intro a ha); refine op_g ha rfl (g_pick rfl rfl) ?_; clear ha a; intro a ha; refine op_g ha rfl (g_move rfl) ?_; clear ha a; intro a ha; (iterate 3 refine op_unwant ha rfl (yields ha rfl rfl) rfl ?_; clear ha a; intro a ha); refine op_g ha rfl (g_pick rfl rfl) ?_; clear ha a; intro a ha; refine op_g ha rfl (g_assign rfl) ?_; clear ha a; intro a ha; refine wpList_nil ?_; replace ha := ha.sub (σ' := [(6, (.bool false))]) ⟨rfl, trivial⟩; refine e_then ?_; refine wp_ret ?_; obtain rfl := Option.some.inj hF
    exact f_ret1 ha rfl rfl ⟨rfl, hE21⟩
  replace hF := if_f hp15 hF
  rw [show (x9) = false from b_false (Iff.rfl) hp15] at ha
  (iterate 3 refine op_unwant ha rfl (yields ha rfl rfl) rfl ?_; clear ha a; intro a ha); refine op_g ha rfl (g_pick rfl rfl) ?_; clear ha a; intro a ha; refine op_g ha rfl (g_move rfl) ?_; clear ha a; intro a ha; (iterate 3 refine op_unwant ha rfl (yields ha rfl rfl) rfl ?_; clear ha a; intro a ha); refine op_g ha rfl (g_pick rfl rfl) ?_; clear ha a; intro a ha; refine op_g ha rfl (g_move rfl) ?_; clear ha a; intro a ha; (iterate 3 refine op_unwant ha rfl (yields ha rfl rfl) rfl ?_; clear ha a; intro a ha); refine op_g ha rfl (g_pick rfl rfl) ?_; clear ha a; intro a ha; refine op_g ha rfl (g_assign rfl) ?_; clear ha a; intro a ha
  refine wpList_nil ?_; replace ha := ha.sub (σ' := [(6, (.bool false))]) ⟨rfl, trivial⟩; refine e_then ?_; refine wp_ret ?_; obtain rfl := Option.some.inj hF
  exact f_ret1 ha rfl rfl ⟨rfl, hE14⟩
set_option maxHeartbeats 2000000 in
theorem W_spec_l1Edge {W : World} {va0_0 : Value} {fa0_0 : List Nat} {a0_0 : (List (List Int))} (ha0_0 : Ro (Rp.sl 2 Rp.int) W fa0_0 va0_0 a0_0) {a1 : Int} (ha1 : InI a1) {a2 : Int} (ha2 : InI a2) {r : Bool} (hF : F_spec_l1Edge a0_0 a1 a2 = some r) :
    Calls Try.prog 26 [.agg #[va0_0], .int .i64 a1, .int .i64 a2].toArray W (Ret fun u w' => u = .bool r ∧ Ext W w') := by
  refine f_enter Try.func26 rfl Try.ntmps26 rfl ?_
  intro a ha
  replace ha : Fr 14 [(0, (.agg #[va0_0])), (1, (.int .i64 a1)), (2, (.int .i64 a2))] a := ha
  have hE : Chg [] W W := Chg.refl _ _
  unfold F_spec_l1Edge at hF
  refine wp_seq ?_; refine wp_region_lit ?_
  refine o_box ha rfl rfl rfl ?_; clear ha a; intro b1 w2 hB3 hx4 hlo5 a ha
  have q6 := Zn.one hlo5
  have q7 := Zn.upD q6 hE
  have hE8 := Ext.trans hE hx4
  refine op_g ha rfl (g_assign rfl) ?_; clear ha a; intro a ha; refine wpList_nil ?_; replace ha := ha.sub (σ' := [(1, (.int .i64 a1)), (2, (.int .i64 a2)), (3, (.pointer (some ⟨b1, 0, none⟩)))]) ⟨rfl, rfl, rfl, trivial⟩; refine e_then ?_; refine wp_seq ?_; refine wp_region_lit ?_; refine op_g ha rfl (g_field0 st29_0 rfl) ?_; clear ha a; intro a ha; refine op_g ha rfl (g_load Try.isAgg27 rfl (hB3.cell rfl)) ?_; clear ha a; intro a ha; refine op_g ha rfl (g_move rfl) ?_; clear ha a; intro a ha; obtain ⟨x9, g10, gx11, hF⟩ := idx_some hF
  obtain ⟨p12, cs13, f14, hf15, hpb16, hat17, hr18, hi19⟩ := ha0_0.at g10 gx11
  obtain ⟨v20, rfl, h21⟩ := hr18
  have h21 : Ro Rp.int W f14 v20 x9 := h21
  refine op_g ha rfl (hi19.gives sl27 rfl rfl) ?_; clear ha a; intro a ha; refine op_g ha rfl (g_load0 hE8 Try.isAgg35 rfl hat17.one) ?_; clear ha a; intro a ha; refine op_g ha rfl (g_move rfl) ?_; clear ha a; intro a ha; obtain ⟨x23, hc24, hF⟩ := cal_some hF
  refine o_call ha rfl rfl Try.call50 (W_spec_l1Has (h21.ext hE8) ha2 hc24) ?_; clear ha a; rintro v25 w26 ⟨rfl, hx27⟩ a ha
  replace hB3 := hB3.ext hx27
  have hE28 := Ext.trans hE8 hx27
  refine op_g ha rfl (g_assign rfl) ?_; clear ha a; intro a ha; refine wpList_nil ?_; replace ha := ha.sub (σ' := [(6, (.bool x23))]) ⟨rfl, trivial⟩; refine e_then ?_; refine wp_ret ?_; obtain rfl := Option.some.inj hF
  exact f_ret1 ha rfl rfl ⟨rfl, hE28⟩
set_option maxHeartbeats 2000000 in
theorem W_spec_l1CopyGraph {W : World} {va0_0 : Value} {fa0_0 : List Nat} {a0_0 : (List (List Int))} (ha0_0 : Ro (Rp.sl 2 Rp.int) W fa0_0 va0_0 a0_0) {r : (List (List Int))} (hF : F_spec_l1CopyGraph a0_0 = some r) :
    Calls Try.prog 27 [.agg #[va0_0]].toArray W (Ret fun u w' => ∃ (u_0 : Value) (b_u_0 : Int) (fs_u_0 : List Nat), u = .agg #[u_0] ∧ Ow (Rp.sl 2 Rp.int) 35 true w' fs_u_0 b_u_0 u_0 r ∧ Zn W b_u_0 ∧ (∀ k ∈ fs_u_0, W.heap.size ≤ k) ∧ (bl b_u_0 ++ fs_u_0).Nodup ∧ Ext W w') := by
  refine f_enter Try.func27 rfl Try.ntmps27 rfl ?_
  intro a ha
  replace ha : Fr 25 [(0, (.agg #[va0_0]))] a := ha
  have hE : Chg [] W W := Chg.refl _ _
  unfold F_spec_l1CopyGraph at hF
  refine wp_seq ?_; refine wp_region_lit ?_
  refine o_box ha rfl rfl rfl ?_; clear ha a; intro b1 w2 hB3 hx4 hlo5 a ha
  have q6 := Zn.one hlo5
  have q7 := Zn.upD q6 hE
  have hE8 := Ext.trans hE hx4
  refine o_alloc (cs := [(.slice none 0 0)]) ha rfl Try.zeroValue29 rfl ?_; clear ha a; intro b9 w10 hB11 hx12 hlo13 a ha
  have q14 := Zn.one hlo13
  have q15 := Nq.new hB3.fpb q14
  have q16 := Nq.made1 hlo13 hB3.bi
  have q17 := Zn.upD q14 hE8
  replace hB3 := hB3.ext hx12
  have hE18 := Ext.trans hE8 hx12
  refine wpList_nil ?_; replace ha := ha.sub (σ' := [(1, (.pointer (some ⟨b1, 0, none⟩))), (2, (.pointer (some ⟨b9, 0, none⟩)))]) ⟨rfl, rfl, trivial⟩; refine e_then ?_; refine wp_seq ?_; refine wp_region_lit ?_; refine op_g ha rfl (g_build (vs := []) (cells := #[(.slice none 0 0)]) rfl (by rfl)) ?_; clear ha a; intro a ha
  refine o_alloc (cs := [(.slice none 0 0)]) ha rfl Try.zeroValue29 rfl ?_; clear ha a; intro b19 w20 hB21 hx22 hlo23 a ha
  have q24 := Zn.one hlo23
  have q25 := Nq.new hB3.fpb q24
  have q26 := Nq.made1 hlo23 hB3.bi
  have q27 := Nq.new hB11.fpb q24
  have q28 := Nq.made1 hlo23 hB11.bi
  have q29 := Zn.upD q24 hE18
  replace hB3 := hB3.ext hx22
  replace hB11 := hB11.ext hx22
  have hE30 := Ext.trans hE18 hx22
  refine o_storeA (vs := [(.slice none 0 0)]) ha hB21 Try.sizeOf29 rfl rfl (by intro c hc; simp only [List.mem_cons, List.not_mem_nil, or_false] at hc; rcases hc with hc <;> subst hc <;> first | rfl | exact rfl) rfl ?_; intro w31 hB32 hc33
  replace hc33 := hc33.bl
  replace hB32 : Bx w31 b19 [(.slice none 0 0)] 29 := hB32
  replace hB3 := hB3.nq hc33 q25
  replace hB11 := hB11.nq hc33 q27
  have hE34 := Ext.then hE30 hc33 (Zn.bl q29)
  refine wpList_nil ?_; replace ha := ha.sub (σ' := [(1, (.pointer (some ⟨b1, 0, none⟩))), (2, (.pointer (some ⟨b9, 0, none⟩))), (3, (.pointer (some ⟨b19, 0, none⟩)))]) ⟨rfl, rfl, rfl, trivial⟩; refine e_then ?_; refine wp_seq ?_; refine wp_seq ?_; refine wp_region_lit ?_; refine op_g ha rfl (g_assign rfl) ?_; clear ha a; intro a ha; refine wpList_nil ?_; replace ha := ha.sub (σ' := [(1, (.pointer (some ⟨b1, 0, none⟩))), (2, (.pointer (some ⟨b9, 0, none⟩))), (3, (.pointer (some ⟨b19, 0, none⟩))), (4, (.int .i64 0))]) ⟨rfl, rfl, rfl, rfl, trivial⟩; refine e_then ?_; obtain ⟨o364, ho365, hK366⟩ := bnd_some hF
  obtain ⟨n367, hn368⟩ := lp_some ho365; clear ho365
  obtain ⟨b371, hb371⟩ : ∃ b : Int, b = -1 := ⟨_, rfl⟩
  have h370 : Ow (Rp.sl 2 Rp.int) 35 true w31 [] b371 (.slice none 0 0) [] := Ow.nil (by omega)
  have q372 := (.inl (by omega) : Zn w31 b371)
  have q373 := Nq.new hB3.fpb q372
  have q374 := Nq.madeO q372 hB3.bi
  have q375 := Nq.new hB11.fpb q372
  have q376 := Nq.madeO q372 hB11.bi
  have q377 := Nq.new hB32.fpb q372
  have q378 := Nq.madeO q372 hB32.bi
  have q379 := Zn.upD q372 hE34
  refine c_loop (fun a w => ∃ (l355 : (List (List Int))) (fs352 : List Nat) (v356 : Value) (b357 : Int), Fr 25 [(2, (.pointer (some ⟨b9, 0, none⟩))), (3, (.pointer (some ⟨b19, 0, none⟩)))] a ∧ Chg [] W w ∧ Bx w b9 [(.slice none 0 0)] 29 ∧ Zn W (b9 : Int) ∧ Bx w b19 [v356] 29 ∧ Zn W (b19 : Int) ∧ Ow (Rp.sl 2 Rp.int) 35 true w fs352 b357 v356 l355 ∧ Zn W b357 ∧ (∀ k ∈ fs352, W.heap.size ≤ k) ∧ (bl b357 ++ fs352).Nodup ∧ Nq ([b9]) (b19 : Int) ∧ Nq ([b9]) b357 ∧ Nq ([b19]) (b9 : Int) ∧ Nq ([b19]) b357 ∧ Nq (bl b357 ++ fs352) (b9 : Int) ∧ Nq (bl b357 ++ fs352) (b19 : Int) ∧ o364 = .inl l355) (fun n a w => ∃ (l198 : (List (List Int))) (i201 : Int) (fs195 : List Nat) (v199 : Value) (b200 : Int), Fr 25 [(1, (.pointer (some ⟨b1, 0, none⟩))), (2, (.pointer (some ⟨b9, 0, none⟩))), (3, (.pointer (some ⟨b19, 0, none⟩))), (4, (.int .i64 i201))] a ∧ Chg [] W w ∧ InI i201 ∧ Bx w b1 [va0_0] 29 ∧ Zn W (b1 : Int) ∧ Bx w b9 [(.slice none 0 0)] 29 ∧ Zn W (b9 : Int) ∧ Bx w b19 [v199] 29 ∧ Zn W (b19 : Int) ∧ Ow (Rp.sl 2 Rp.int) 35 true w fs195 b200 v199 l198 ∧ Zn W b200 ∧ (∀ k ∈ fs195, W.heap.size ≤ k) ∧ (bl b200 ++ fs195).Nodup ∧ Nq ([b1]) (b9 : Int) ∧ Nq ([b1]) (b19 : Int) ∧ Nq ([b1]) b200 ∧ Nq ([b9]) (b1 : Int) ∧ Nq ([b9]) (b19 : Int) ∧ Nq ([b9]) b200 ∧ Nq ([b19]) (b1 : Int) ∧ Nq ([b19]) (b9 : Int) ∧ Nq ([b19]) b200 ∧ Nq (bl b200 ++ fs195) (b1 : Int) ∧ Nq (bl b200 ++ fs195) (b9 : Int) ∧ Nq (bl b200 ++ fs195) (b19 : Int) ∧ lpN (fun s => F_spec_l1CopyGraph_l1 a0_0 s.1 s.2) n (l198, i201) = some o364) n367 ⟨([] : (List (List Int))), 0, [], (.slice none 0 0), b371, ha.sub ⟨rfl, rfl, rfl, rfl, trivial⟩, hE34, (show InI 0 from by decide), hB3, q7, hB11, q17, hB32, q29, h370, q379, (zf_nil _), (bl_nodup b371), q15, q25, q373, q16, q27, q375, q26, q28, q377, q374, q376, q378, hn368⟩ ?_ ?_
  · rintro m383 a w185 ⟨l198, i201, fs195, v199, b200, ha, hE215, hI202, hB186, z187, hB188, z189, hB190, z191, h193, z194, zf196, nd197, q203, q204, q205, q206, q207, q208, q209, q210, q211, q212, q213, q214, hF⟩
    cases m383 with
    | zero => exact (lpN_zero hF).elim
    | succ m383 =>
      obtain ⟨z382, hF, hN381⟩ := lpN_succ hF
      have hF : F_spec_l1CopyGraph_l1 a0_0 l198 i201 = some z382 := hF; unfold F_spec_l1CopyGraph_l1 at hF
      refine wp_seq ?_; refine wp_seq ?_; refine wp_region_lit ?_; refine op_g ha rfl (g_move rfl) ?_; clear ha a; intro a ha; refine op_g ha rfl (g_field0 st29_0 rfl) ?_; clear ha a; intro a ha; refine op_g ha rfl (g_load Try.isAgg27 rfl (hB186.cell rfl)) ?_; clear ha a; intro a ha; refine op_g ha rfl (g_lenR sl27.und ha0_0 rfl) ?_; clear ha a; intro a ha; refine op_g ha rfl (g_lss rfl rfl) ?_; clear ha a; intro a ha; refine wpList_nil ?_; replace ha := ha.sub (σ' := [(1, (.pointer (some ⟨b1, 0, none⟩))), (2, (.pointer (some ⟨b9, 0, none⟩))), (3, (.pointer (some ⟨b19, 0, none⟩))), (4, (.int .i64 i201)), (10, (.bool (decide (i201 < (a0_0.length : Int)))))]) ⟨rfl, rfl, rfl, rfl, rfl, trivial⟩
      refine e_then ?_; refine c_cond (i201 < (a0_0.length : Int)) ha rfl (decide_eq_true_iff) (fun hp384 => ?_) (fun hp384 => ?_)
      · replace hF := if_t hp384 hF
        refine wp_skip ?_; refine e_then ?_; refine wp_seq ?_; refine wp_block ?_; refine d_region [0, 1, 2, 3, 4, 5, 6, 7, 8] hmix ?_; refine u_g 0 rfl (by kernel_rfl) (want0 _) ha rfl (g_field0 st29_0 rfl) ?_; clear ha a; intro a ha; refine u_g 1 rfl (by kernel_rfl) (want0 _) ha rfl (g_load Try.isAgg27 rfl (hB190.cell rfl)) ?_; clear ha a; intro a ha; refine u_g 2 rfl (by kernel_rfl) (want0 _) ha rfl (g_field0 st29_0 rfl) ?_; clear ha a; intro a ha; refine u_g 3 rfl (by kernel_rfl) (want0 _) ha rfl (g_load Try.isAgg27 rfl (hB186.cell rfl)) ?_; clear ha a; intro a ha; refine u_g 4 rfl (by kernel_rfl) (want0 _) ha rfl (g_move rfl) ?_; clear ha a; intro a ha
        obtain ⟨x385, g386, gx387, hF⟩ := idx_some hF
        obtain ⟨p388, cs389, f390, hf391, hpb392, hat393, hr394, hi395⟩ := ha0_0.at g386 gx387
        obtain ⟨v396, rfl, h397⟩ := hr394
        have h397 : Ro Rp.int W f390 v396 x385 := h397
        refine u_g 5 rfl (by kernel_rfl) (want0 _) ha rfl (hi395.gives sl27 rfl rfl) ?_; clear ha a; intro a ha; refine u_g 6 rfl (by kernel_rfl) (want0 _) ha rfl (g_load0 hE215 Try.isAgg35 rfl hat393.one) ?_; clear ha a; intro a ha
        refine u_only 7 rfl (by kernel_rfl) ?_; intro w399 hx400
        replace hB186 := hB186.ext hx400
        replace hB188 := hB188.ext hx400
        replace hB190 := hB190.ext hx400
        replace h193 := h193.ext hx400
        have hE401 := Ext.trans hE215 hx400
        obtain ⟨x402, hc403, hF⟩ := cal_some hF
        refine o_call ha rfl rfl Try.call54 (W_spec_l1Copy (h397.ext hE401) hc403) ?_; clear ha a; rintro v404 w405 ⟨b407, h408, z409, hx406⟩ a ha
        have q411 := Nq.new hB186.fpb z409
        have q412 := Nq.madeO z409 hB186.bi
        have q413 := Nq.new hB188.fpb z409
        have q414 := Nq.madeO z409 hB188.bi
        have q415 := Nq.new hB190.fpb z409
        have q416 := Nq.madeO z409 hB190.bi
        have q417 := Nq.new h193.fpb z409
        have q418 := Nq.madeO z409 h193.blt
        have q419 := Nf.old z409 (zf_nil _) h193.bnd
        replace hB186 := hB186.ext hx406
        replace hB188 := hB188.ext hx406
        replace hB190 := hB190.ext hx406
        replace h193 := h193.ext hx406
        have hE420 := Ext.trans hE401 hx406
        have q421 := Zn.upD z409 hE401
        refine wpList_nil (e_sq ?_)
        refine ⟨fun _ => hx406, ?_⟩
        refine u_only 8 rfl (by kernel_rfl) ?_; intro w422 hx423
        replace hB186 := hB186.ext hx423
        replace hB188 := hB188.ext hx423
        replace hB190 := hB190.ext hx423
        replace h193 := h193.ext hx423
        replace h408 := h408.ext hx423
        have hE424 := Ext.trans hE420 hx423
        refine o_lit1 (o := true) (y := x402) (Rp.sl 2 Rp.int) ha rfl sl27 rfl rfl h408.cells (Rp.mkO h408) ?_; clear ha a; intro v425 w426 h427 hx428 a ha
        obtain ⟨b430, hb430⟩ : ∃ b : Int, b = w422.heap.size := ⟨_, rfl⟩; rw [← hb430] at h427
        have q431 := zn_of hb430
        have q432 := zf_mv q421 (zf_nil _)
        have q433 := dj_of q417
        have q434 := Nq.new hB186.fpb q431
        have q435 := Nq.append (Nq.madeL q431 hB186.bi) q412
        have q436 := Nq.new hB188.fpb q431
        have q437 := Nq.append (Nq.madeL q431 hB188.bi) q414
        have q438 := Nq.new hB190.fpb q431
        have q439 := Nq.append (Nq.madeL q431 hB190.bi) q416
        have q440 := Nq.new h193.fpb q431
        have q441 := Nq.append (Nq.madeL q431 h193.blt) q418
        have q442 := Zn.upD q431 hE424
        have q443 := nd_lit (bl_nodup b407) h408.fpb hb430
        replace hB186 := hB186.ext hx428
        replace hB188 := hB188.ext hx428
        replace hB190 := hB190.ext hx428
        replace h193 := h193.ext hx428
        have hE444 := Ext.trans hE424 hx428
        refine wpList_nil (e_sq ?_)
        refine ⟨fun _ => hx428, ?_⟩
        refine u_only 9 rfl (by kernel_rfl) ?_; intro w445 hx446
        replace hB186 := hB186.ext hx446
        replace hB188 := hB188.ext hx446
        replace hB190 := hB190.ext hx446
        replace h193 := h193.ext hx446
        replace h427 := h427.ext hx446
        have hE447 := Ext.trans hE444 hx446
        obtain ⟨hl448, hF⟩ := app_some hF
        have q449 := Nq.right q441
        refine o_append ha rfl sl27 rfl rfl rfl h193 h427.src q449 hl448 ?_; clear ha a; intro v450 w451 b452 h453 hc454 hb455 a ha
        replace h453 : Ow (Rp.sl 2 Rp.int) 35 true w451 (fs195 ++ (bl b407 ++ [])) b452 v450 _ := h453
        have q457 := zf_app zf196 q432
        have q458 := nd_app nd197 (bl_nodup b407) q433 hb455 h193.fpb h427.bnd
        have q459 := Nq.appY q205 hB186.fpb hb455
        have q460 := Nq.appX q212 (Nq.right q435) hb455 hB186.bi
        have q461 := Nq.appY q208 hB188.fpb hb455
        have q462 := Nq.appX q213 (Nq.right q437) hb455 hB188.bi
        have q463 := Nq.appY q211 hB190.fpb hb455
        have q464 := Nq.appX q214 (Nq.right q439) hb455 hB190.bi
        have q465 := Zn.appD z194 hb455 hE447
        replace hB186 := hB186.nq hc454 q205
        replace hB188 := hB188.nq hc454 q208
        replace hB190 := hB190.nq hc454 q211
        have hE466 := Ext.then hE447 hc454 (Zn.bl z194)
        refine wpList_nil (e_sq ?_)
        refine ⟨fun h => absurd h (by decide), ?_⟩
        refine u_only 10 rfl (by kernel_rfl) ?_; intro w467 hx468
        replace hB186 := hB186.ext hx468
        replace hB188 := hB188.ext hx468
        replace hB190 := hB190.ext hx468
        replace h453 := h453.ext hx468
        have hE469 := Ext.trans hE466 hx468
        refine op_g ha rfl (g_field0 st29_0 rfl) ?_; clear ha a; intro a ha; refine wpList_nil (e_sq ?_)
        refine ⟨fun h => absurd h (by decide), ?_⟩
        refine u_only 11 rfl (by kernel_rfl) ?_; intro w470 hx471
        replace hB186 := hB186.ext hx471
        replace hB188 := hB188.ext hx471
        replace hB190 := hB190.ext hx471
        replace h453 := h453.ext hx471
        have hE472 := Ext.trans hE469 hx471
        refine o_storeB ha hB190 Try.sizeOf27 rfl rfl h453.cells h453.oneC (Nat.le_of_ble_eq_true rfl) ?_; intro w473 hB474 hc475
        replace hc475 := hc475.bl
        replace hB474 : Bx w473 b19 [v450] 29 := hB474
        replace hB186 := hB186.nq hc475 q204
        replace hB188 := hB188.nq hc475 q207
        replace h453 := h453.nq hc475 q464
        have hE476 := Ext.then hE472 hc475 (Zn.bl z191)
        refine wpList_nil (e_sq ?_)
        refine ⟨fun h => absurd h (by decide), ?_⟩
        refine u_done (by kernel_rfl) ?_; intro w477 hx478
        replace hB186 := hB186.ext hx478
        replace hB188 := hB188.ext hx478
        replace hB474 := hB474.ext hx478
        replace h453 := h453.ext hx478
        have hE479 := Ext.trans hE476 hx478
        replace ha := ha.sub (σ' := [(1, (.pointer (some ⟨b1, 0, none⟩))), (2, (.pointer (some ⟨b9, 0, none⟩))), (3, (.pointer (some ⟨b19, 0, none⟩))), (4, (.int .i64 i201))]) ⟨rfl, rfl, rfl, rfl, trivial⟩; refine e_blk ?_; refine e_then ?_; refine wp_region_lit ?_; refine op_g ha rfl (g_move rfl) ?_; clear ha a; intro a ha; obtain ⟨hI480, hF⟩ := ck_some hF; refine op_g ha rfl (g_add rfl rfl hI480) ?_; clear ha a; intro a ha; refine op_g ha rfl (g_assign rfl) ?_; clear ha a; intro a ha; refine wpList_nil ?_; replace ha := ha.sub (σ' := [(1, (.pointer (some ⟨b1, 0, none⟩))), (2, (.pointer (some ⟨b9, 0, none⟩))), (3, (.pointer (some ⟨b19, 0, none⟩))), (4, (.int .i64 (i201 + 1)))]) ⟨rfl, rfl, rfl, rfl, trivial⟩
        refine e_lq ?_; obtain rfl := Option.some.inj hF
        exact ⟨_, Nat.lt_succ_self _, (l198 ++ ([x402])), i201 + 1, (fs195 ++ (bl b407 ++ [])), v450, b452, ha.sub ⟨rfl, rfl, rfl, rfl, trivial⟩, hE479, hI480, hB186, z187, hB188, z189, hB474, z191, h453, q465, q457, q458, q203, q204, q459, q206, q207, q461, q209, q210, q463, q460, q462, q464, hN381⟩
      replace hF := if_f hp384 hF; refine wp_exit ?_; refine e_then_exit ?_; refine e_lq_eq ?_; obtain rfl := Option.some.inj hF
      exact ⟨l198, fs195, v199, b200, ha.sub ⟨rfl, rfl, trivial⟩, hE215, hB188, z189, hB190, z191, h193, z194, zf196, nd197, q207, q208, q210, q211, q213, q214, (LK_inr hN381).symm⟩
  rintro a w344 ⟨l355, fs352, v356, b357, ha, hE380, hB345, z346, hB347, z348, h350, z351, zf353, nd354, q358, q359, q360, q361, q362, q363, rfl⟩
  have hF : F_spec_l1CopyGraph_k2 l355 = some _ := hK366; clear hK366; unfold F_spec_l1CopyGraph_k2 at hF
  refine e_then ?_; refine wp_seq ?_; refine wp_region_lit ?_; refine op_g ha rfl (g_loadA (cs := [v356]) Try.isAgg29 Try.sizeOf29 rfl (by simp) hB347.all) ?_; clear ha a; intro a ha
  refine o_storeA (vs := [v356]) ha hB345 Try.sizeOf29 rfl rfl (by intro c hc; simp only [List.mem_cons, List.not_mem_nil, or_false] at hc; rcases hc with hc <;> subst hc <;> first | rfl | exact h350.oneC) rfl ?_; intro w482 hB483 hc484
  replace hc484 := hc484.bl
  replace hB483 : Bx w482 b9 [v356] 29 := hB483
  replace hB347 := hB347.nq hc484 q360
  replace h350 := h350.nq hc484 q362
  have hE485 := Ext.then hE380 hc484 (Zn.bl z346)
  refine wpList_nil ?_; replace ha := ha.sub (σ' := [(2, (.pointer (some ⟨b9, 0, none⟩)))]) ⟨rfl, trivial⟩; refine e_then ?_; refine wp_ret ?_; obtain rfl := Option.some.inj hF
  exact f_retC (cs := [v356]) ha rfl rfl Try.isAgg29 Try.sizeOf29 hB483 ⟨_, _, _, rfl, h350, z351, zf353, nd354, hE485⟩
set_option maxHeartbeats 2000000 in
theorem W_spec_l2Without {W : World} {va0 : Value} {fa0 : List Nat} {a0 : (List Int)} (ha0 : Ro Rp.int W fa0 va0 a0) {a1 : Int} (ha1 : InI a1) {r : (List Int)} (hF : F_spec_l2Without a0 a1 = some r) :
    Calls Try.prog 28 [va0, .int .i64 a1].toArray W (Ret fun u w' => ∃ (b_u : Int), Ow Rp.int 2 true w' [] b_u u r ∧ Zn W b_u ∧ Ext W w') := by
  refine f_enter Try.func28 rfl Try.ntmps28 rfl ?_
  intro a ha
  replace ha : Fr 28 [(0, va0), (1, (.int .i64 a1))] a := ha
  have hE : Chg [] W W := Chg.refl _ _
  unfold F_spec_l2Without at hF
  refine wp_seq ?_; refine wp_region_lit ?_; refine op_g ha rfl (g_assign rfl) ?_; clear ha a; intro a ha; refine wpList_nil ?_; replace ha := ha.sub (σ' := [(0, va0), (1, (.int .i64 a1))]) ⟨rfl, rfl, trivial⟩; refine e_then ?_; refine wp_seq ?_; refine wp_region_lit ?_
  refine o_lit0 Rp.int ha rfl sl35 ?_; clear ha a; intro v1 w2 h3 hx4 a ha
  obtain ⟨b6, hb6⟩ : ∃ b : Int, b = W.heap.size := ⟨_, rfl⟩; rw [← hb6] at h3
  have q7 := zn_of hb6
  have q8 := Zn.upD q7 hE
  have hE9 := Ext.trans hE hx4
  refine op_g ha rfl (g_assign rfl) ?_; clear ha a; intro a ha; refine wpList_nil ?_; replace ha := ha.sub (σ' := [(0, va0), (1, (.int .i64 a1)), (5, v1)]) ⟨rfl, rfl, rfl, trivial⟩; refine e_then ?_; refine wp_seq ?_; refine wp_seq ?_; refine wp_region_lit ?_; refine op_g ha rfl (g_assign rfl) ?_; clear ha a; intro a ha; refine wpList_nil ?_; replace ha := ha.sub (σ' := [(0, va0), (1, (.int .i64 a1)), (5, v1), (6, (.int .i64 0))]) ⟨rfl, rfl, rfl, rfl, trivial⟩; refine e_then ?_; obtain ⟨o156, ho157, hK158⟩ := bnd_some hF
  obtain ⟨n159, hn160⟩ := lp_some ho157; clear ho157
  refine c_loop (fun a w => ∃ (l153 : (List Int)) (v154 : Value) (b155 : Int), Fr 28 [(5, v154)] a ∧ Chg [] W w ∧ Ow Rp.int 2 true w [] b155 v154 l153 ∧ Zn W b155 ∧ o156 = .inl l153) (fun n a w => ∃ (l81 : (List Int)) (i84 : Int) (v82 : Value) (b83 : Int), Fr 28 [(0, va0), (1, (.int .i64 a1)), (5, v82), (6, (.int .i64 i84))] a ∧ Chg [] W w ∧ InI i84 ∧ Ow Rp.int 2 true w [] b83 v82 l81 ∧ Zn W b83 ∧ lpN (fun s => F_spec_l2Without_l1 a0 a1 s.1 s.2) n (l81, i84) = some o156) n159 ⟨([] : (List Int)), 0, v1, b6, ha.sub ⟨rfl, rfl, rfl, rfl, trivial⟩, hE9, (show InI 0 from by decide), h3, q8, hn160⟩ ?_ ?_
  · rintro m164 a w77 ⟨l81, i84, v82, b83, ha, hE86, hI85, h79, z80, hF⟩
    cases m164 with
    | zero => exact (lpN_zero hF).elim
    | succ m164 =>
      obtain ⟨z163, hF, hN162⟩ := lpN_succ hF
      have hF : F_spec_l2Without_l1 a0 a1 l81 i84 = some z163 := hF; unfold F_spec_l2Without_l1 at hF
      refine wp_seq ?_; refine wp_seq ?_; refine wp_region_lit ?_; (iterate 2 refine op_g ha rfl (g_move rfl) ?_; clear ha a; intro a ha); refine op_g ha rfl (g_lenR sl35.und ha0 rfl) ?_; clear ha a; intro a ha; refine op_g ha rfl (g_lss rfl rfl) ?_; clear ha a; intro a ha; refine wpList_nil ?_; replace ha := ha.sub (σ' := [(0, va0), (1, (.int .i64 a1)), (5, v82), (6, (.int .i64 i84)), (11, (.bool (decide (i84 < (a0.length : Int)))))]) ⟨rfl, rfl, rfl, rfl, rfl, trivial⟩; refine e_then ?_; refine c_cond (i84 < (a0.length : Int)) ha rfl (decide_eq_true_iff) (fun hp165 => ?_) (fun hp165 => ?_)
      · replace hF := if_t hp165 hF
        refine wp_skip ?_; refine e_then ?_; refine wp_seq ?_; refine wp_block ?_; refine wp_seq ?_; refine wp_region_lit ?_; (iterate 2 refine op_g ha rfl (g_move rfl) ?_; clear ha a; intro a ha); obtain ⟨x166, g167, gx168, hF⟩ := idx_some hF
        obtain ⟨p169, cs170, f171, hf172, hpb173, hat174, hr175, hi176⟩ := ha0.at g167 gx168
        obtain ⟨rfl, hI177, rfl⟩ := hr175
        refine op_g ha rfl (hi176.gives sl35 rfl rfl) ?_; clear ha a; intro a ha; refine op_g ha rfl (g_load0 hE86 Try.isAgg2 rfl hat174.one) ?_; clear ha a; intro a ha; refine op_g ha rfl (g_move rfl) ?_; clear ha a; intro a ha; refine op_g ha rfl (g_neq rfl rfl) ?_; clear ha a; intro a ha; refine wpList_nil ?_; replace ha := ha.sub (σ' := [(0, va0), (1, (.int .i64 a1)), (5, v82), (6, (.int .i64 i84)), (19, (.bool (decide (x166 ≠ a1))))]) ⟨rfl, rfl, rfl, rfl, rfl, trivial⟩; refine e_then ?_; refine c_cond (x166 ≠ a1) ha rfl (decide_eq_true_iff) (fun hp178 => ?_) (fun hp178 => ?_)
        · replace hF := if_t hp178 hF
          refine wp_region_lit ?_; (iterate 3 refine op_g ha rfl (g_move rfl) ?_; clear ha a; intro a ha); obtain ⟨x179, g180, gx181, hF⟩ := idx_some hF
          obtain ⟨p182, cs183, f184, hf185, hpb186, hat187, hr188, hi189⟩ := ha0.at g180 gx181
          obtain ⟨rfl, hI190, rfl⟩ := hr188
          refine op_g ha rfl (hi189.gives sl35 rfl rfl) ?_; clear ha a; intro a ha; refine op_g ha rfl (g_load0 hE86 Try.isAgg2 rfl hat187.one) ?_; clear ha a; intro a ha
          refine o_lit1 (o := true) (y := x179) Rp.int ha rfl sl35 rfl rfl rfl ⟨rfl, hI190, rfl⟩ ?_; clear ha a; intro v191 w192 h193 hx194 a ha
          obtain ⟨b196, hb196⟩ : ∃ b : Int, b = w77.heap.size := ⟨_, rfl⟩; rw [← hb196] at h193
          have q197 := zn_of hb196
          have q198 := Nq.new h79.fpb q197
          have q199 := Nq.madeO q197 h79.blt
          have q200 := Zn.upD q197 hE86
          replace h79 := h79.ext hx194
          have hE201 := Ext.trans hE86 hx194
          obtain ⟨hl202, hF⟩ := app_some hF
          refine o_append ha rfl sl35 rfl rfl rfl h79 h193.src (Nq.nil _) hl202 ?_; clear ha a; intro v203 w204 b205 h206 hc207 hb208 a ha
          replace h206 : Ow Rp.int 2 true w204 [] b205 v203 _ := h206
          have q210 := Nq.appY q199 h193.fpb hb208
          have q211 := Nq.appX q198 (Nq.nil _) hb208 h193.blt
          have q212 := Zn.appD z80 hb208 hE201
          replace h193 := h193.nq hc207 q199
          have hE213 := Ext.then hE201 hc207 (Zn.bl z80)
          refine op_g ha rfl (g_assign rfl) ?_; clear ha a; intro a ha; refine wpList_nil ?_; replace ha := ha.sub (σ' := [(0, va0), (1, (.int .i64 a1)), (5, v203), (6, (.int .i64 i84))]) ⟨rfl, rfl, rfl, rfl, trivial⟩; refine e_blk ?_; refine e_then ?_; refine wp_region_lit ?_; refine op_g ha rfl (g_move rfl) ?_; clear ha a; intro a ha; obtain ⟨hI214, hF⟩ := ck_some hF; refine op_g ha rfl (g_add rfl rfl hI214) ?_; clear ha a; intro a ha; refine op_g ha rfl (g_assign rfl) ?_; clear ha a; intro a ha; refine wpList_nil ?_; replace ha := ha.sub (σ' := [(0, va0), (1, (.int .i64 a1)), (5, v203), (6, (.int .i64 (i84 + 1)))]) ⟨rfl, rfl, rfl, rfl, trivial⟩
          refine e_lq ?_; obtain rfl := Option.some.inj hF
          exact ⟨_, Nat.lt_succ_self _, (l81 ++ ([x179])), i84 + 1, v203, b205, ha.sub ⟨rfl, rfl, rfl, rfl, trivial⟩, hE213, hI214, h206, q212, hN162⟩
        replace hF := if_f hp178 hF; refine wp_skip ?_; refine e_blk ?_; refine e_then ?_; refine wp_region_lit ?_; refine op_g ha rfl (g_move rfl) ?_; clear ha a; intro a ha; obtain ⟨hI216, hF⟩ := ck_some hF; refine op_g ha rfl (g_add rfl rfl hI216) ?_; clear ha a; intro a ha; refine op_g ha rfl (g_assign rfl) ?_; clear ha a; intro a ha; refine wpList_nil ?_; replace ha := ha.sub (σ' := [(0, va0), (1, (.int .i64 a1)), (5, v82), (6, (.int .i64 (i84 + 1)))]) ⟨rfl, rfl, rfl, rfl, trivial⟩; refine e_lq ?_; obtain rfl := Option.some.inj hF
        exact ⟨_, Nat.lt_succ_self _, l81, i84 + 1, v82, b83, ha.sub ⟨rfl, rfl, rfl, rfl, trivial⟩, hE86, hI216, h79, z80, hN162⟩
      replace hF := if_f hp165 hF; refine wp_exit ?_; refine e_then_exit ?_; refine e_lq_eq ?_; obtain rfl := Option.some.inj hF
      exact ⟨l81, v82, b83, ha.sub ⟨rfl, trivial⟩, hE86, h79, z80, (LK_inr hN162).symm⟩
  rintro a w149 ⟨l153, v154, b155, ha, hE161, h151, z152, rfl⟩
  have hF : F_spec_l2Without_k2 l153 = some _ := hK158; clear hK158; unfold F_spec_l2Without_k2 at hF
  refine e_then ?_; refine wp_seq ?_; refine wp_region_lit ?_; refine op_g ha rfl (g_move rfl) ?_; clear ha a; intro a ha; refine op_g ha rfl (g_assign rfl) ?_; clear ha a; intro a ha; refine wpList_nil ?_; replace ha := ha.sub (σ' := [(4, v154)]) ⟨rfl, trivial⟩; refine e_then ?_; refine wp_ret ?_; obtain rfl := Option.some.inj hF
  exact f_ret1 ha rfl rfl ⟨_, h151, z152, hE161⟩
set_option maxHeartbeats 2000000 in
theorem W_spec_CutEdge {W : World} {va0_0 : Value} {fa0_0 : List Nat} {a0_0 : (List (List Int))} (ha0_0 : Ro (Rp.sl 2 Rp.int) W fa0_0 va0_0 a0_0) {a1 : Int} (ha1 : InI a1) {a2 : Int} (ha2 : InI a2) {r : ((List (List Int)) × Bool)} (hF : F_spec_CutEdge a0_0 a1 a2 = some r) :
    Calls Try.prog 12 [.agg #[va0_0], .int .i64 a1, .int .i64 a2].toArray W (Ret fun u w' => ∃ (u0 : Value) (u1 : Value) (u0_0 : Value) (b_u0_0 : Int) (fs_u0_0 : List Nat), u = .tuple #[u0, u1] ∧ u0 = .agg #[u0_0] ∧ Ow (Rp.sl 2 Rp.int) 35 true w' fs_u0_0 b_u0_0 u0_0 r.1 ∧ Zn W b_u0_0 ∧ (∀ k ∈ fs_u0_0, W.heap.size ≤ k) ∧ (bl b_u0_0 ++ fs_u0_0).Nodup ∧ u1 = .bool r.2 ∧ Ext W w') := by
  refine f_enter Try.func12 rfl Try.ntmps12 rfl ?_
  intro a ha
  replace ha : Fr 47 [(0, (.agg #[va0_0])), (1, (.int .i64 a1)), (2, (.int .i64 a2))] a := ha
  have hE : Chg [] W W := Chg.refl _ _
  unfold F_spec_CutEdge at hF
  refine wp_seq ?_; refine wp_region_lit ?_
  refine o_box ha rfl rfl rfl ?_; clear ha a; intro b1 w2 hB3 hx4 hlo5 a ha
  have q6 := Zn.one hlo5
  have q7 := Zn.upD q6 hE
  have hE8 := Ext.trans hE hx4
  refine o_alloc (cs := [(.slice none 0 0)]) ha rfl Try.zeroValue29 rfl ?_; clear ha a; intro b9 w10 hB11 hx12 hlo13 a ha
  have q14 := Zn.one hlo13
  have q15 := Nq.new hB3.fpb q14
  have q16 := Nq.made1 hlo13 hB3.bi
  have q17 := Zn.upD q14 hE8
  replace hB3 := hB3.ext hx12
  have hE18 := Ext.trans hE8 hx12
  refine op_g ha rfl (g_assign rfl) ?_; clear ha a; intro a ha; refine wpList_nil ?_; replace ha := ha.sub (σ' := [(1, (.int .i64 a1)), (2, (.int .i64 a2)), (3, (.pointer (some ⟨b1, 0, none⟩))), (6, (.pointer (some ⟨b9, 0, none⟩)))]) ⟨rfl, rfl, rfl, rfl, trivial⟩; refine e_then ?_; refine wp_seq ?_; refine wp_seq ?_; refine wp_region_lit ?_; refine op_g ha rfl (g_loadA (cs := [va0_0]) Try.isAgg29 Try.sizeOf29 rfl (by simp) hB3.all) ?_; clear ha a; intro a ha; (iterate 2 refine op_g ha rfl (g_move rfl) ?_; clear ha a; intro a ha); obtain ⟨x41, hc42, hF⟩ := cal_some hF
  refine o_call ha rfl rfl Try.call25 (W_spec_l2Pair (ha0_0.ext hE18) ha1 ha2 hc42) ?_; clear ha a; rintro v43 w44 ⟨rfl, hx45⟩ a ha
  replace hB3 := hB3.ext hx45
  replace hB11 := hB11.ext hx45
  have hE46 := Ext.trans hE18 hx45
  refine op_g ha rfl (g_not rfl) ?_; clear ha a; intro a ha; refine op_g ha rfl (g_move rfl) ?_; clear ha a; intro a ha
  by_cases hp47 : ¬ (x41 = true)
  · replace hF := if_t hp47 hF
    rw [show (!x41) = true from (n_iff (Iff.rfl)).2 hp47] at ha
    (iterate 5 refine op_unwant ha rfl (yields ha rfl rfl) rfl ?_; clear ha a; intro a ha); refine op_g ha rfl (g_pick rfl rfl) ?_; clear ha a; intro a ha; refine wpList_nil ?_; replace ha := ha.sub (σ' := [(1, (.int .i64 a1)), (2, (.int .i64 a2)), (3, (.pointer (some ⟨b1, 0, none⟩))), (6, (.pointer (some ⟨b9, 0, none⟩))), (20, (.bool true))]) ⟨rfl, rfl, rfl, rfl, rfl, trivial⟩; refine e_then ?_; refine c_true ha rfl ?_; refine wp_seq ?_; refine wp_region_lit ?_; refine op_g ha rfl (g_build (vs := []) (cells := #[(.slice none 0 0)]) rfl (by rfl)) ?_; clear ha a; intro a ha
    refine o_storeA (vs := [(.slice none 0 0)]) ha hB11 Try.sizeOf29 rfl rfl (by intro c hc; simp only [List.mem_cons, List.not_mem_nil, or_false] at hc; rcases hc with hc <;> subst hc <;> first | rfl | exact rfl) rfl ?_; intro w48 hB49 hc50
    replace hc50 := hc50.bl
    replace hB49 : Bx w48 b9 [(.slice none 0 0)] 29 := hB49
    replace hB3 := hB3.nq hc50 q15
    have hE51 := Ext.then hE46 hc50 (Zn.bl q17)
    refine op_g ha rfl (g_assign rfl) ?_; clear ha a; intro a ha; refine wpList_nil ?_; replace ha := ha.sub (σ' := [(6, (.pointer (some ⟨b9, 0, none⟩))), (7, (.bool false))]) ⟨rfl, rfl, trivial⟩; refine e_then ?_; refine wp_ret ?_; refine e_then_ret ?_; obtain rfl := Option.some.inj hF
    exact f_retC2 (cs := [(.slice none 0 0)]) ha rfl rfl Try.isAgg29 Try.sizeOf29 hB49 rfl ⟨_, _, _, -1, [], rfl, rfl, (Ow.nil (by decide)), (.inl (by decide)), (zf_nil _), (bl_nodup _), rfl, hE51⟩
  replace hF := if_f hp47 hF
  rw [show (!x41) = false from b_false (n_iff (Iff.rfl)) hp47] at ha
  refine op_want (yields ha rfl rfl) ?_; refine op_g ha rfl (g_loadA (cs := [va0_0]) Try.isAgg29 Try.sizeOf29 rfl (by simp) hB3.all) ?_; clear ha a; intro a ha; refine op_want (yields ha rfl rfl) ?_; refine op_g ha rfl (g_move rfl) ?_; clear ha a; intro a ha; refine op_want (yields ha rfl rfl) ?_; refine op_g ha rfl (g_move rfl) ?_; clear ha a; intro a ha; refine op_want (yields ha rfl rfl) ?_; obtain ⟨x52, hc53, hF⟩ := cal_some hF
  refine o_call ha rfl rfl Try.call26 (W_spec_l1Edge (ha0_0.ext hE46) ha1 ha2 hc53) ?_; clear ha a; rintro v54 w55 ⟨rfl, hx56⟩ a ha
  replace hB3 := hB3.ext hx56
  replace hB11 := hB11.ext hx56
  have hE57 := Ext.trans hE46 hx56
  refine op_want (yields ha rfl rfl) ?_; refine op_g ha rfl (g_not rfl) ?_; clear ha a; intro a ha; refine op_g ha rfl (g_pick rfl rfl) ?_; clear ha a; intro a ha; refine wpList_nil ?_; replace ha := ha.sub (σ' := [(1, (.int .i64 a1)), (2, (.int .i64 a2)), (3, (.pointer (some ⟨b1, 0, none⟩))), (6, (.pointer (some ⟨b9, 0, none⟩))), (20, (.bool (!x52)))]) ⟨rfl, rfl, rfl, rfl, rfl, trivial⟩; refine e_then ?_; refine c_cond (¬ (x52 = true)) ha rfl (n_iff (Iff.rfl)) (fun hp58 => ?_) (fun hp58 => ?_)
  · replace hF := if_t hp58 hF
    refine wp_seq ?_; refine wp_region_lit ?_; refine op_g ha rfl (g_build (vs := []) (cells := #[(.slice none 0 0)]) rfl (by rfl)) ?_; clear ha a; intro a ha
    refine o_storeA (vs := [(.slice none 0 0)]) ha hB11 Try.sizeOf29 rfl rfl (by intro c hc; simp only [List.mem_cons, List.not_mem_nil, or_false] at hc; rcases hc with hc <;> subst hc <;> first | rfl | exact rfl) rfl ?_; intro w59 hB60 hc61
    replace hc61 := hc61.bl
    replace hB60 : Bx w59 b9 [(.slice none 0 0)] 29 := hB60
    replace hB3 := hB3.nq hc61 q15
    have hE62 := Ext.then hE57 hc61 (Zn.bl q17)
    refine op_g ha rfl (g_assign rfl) ?_; clear ha a; intro a ha; refine wpList_nil ?_; replace ha := ha.sub (σ' := [(6, (.pointer (some ⟨b9, 0, none⟩))), (7, (.bool false))]) ⟨rfl, rfl, trivial⟩; refine e_then ?_; refine wp_ret ?_; refine e_then_ret ?_; obtain rfl := Option.some.inj hF
    exact f_retC2 (cs := [(.slice none 0 0)]) ha rfl rfl Try.isAgg29 Try.sizeOf29 hB60 rfl ⟨_, _, _, -1, [], rfl, rfl, (Ow.nil (by decide)), (.inl (by decide)), (zf_nil _), (bl_nodup _), rfl, hE62⟩
  replace hF := if_f hp58 hF; refine wp_skip ?_; refine e_then ?_; refine wp_seq ?_; refine wp_region_lit ?_; refine op_g ha rfl (g_loadA (cs := [va0_0]) Try.isAgg29 Try.sizeOf29 rfl (by simp) hB3.all) ?_; clear ha a; intro a ha; obtain ⟨x63, hc64, hF⟩ := cal_some hF
  refine o_call ha rfl rfl Try.call27 (W_spec_l1CopyGraph (ha0_0.ext hE57) hc64) ?_; clear ha a; rintro v65 w66 ⟨u68, b69, fs73, rfl, h70, z71, zf74, nd75, hx67⟩ a ha
  have q76 := Nq.new hB3.fpb z71
  have q77 := Nq.madeF z71 zf74 hB3.bi
  have q78 := Nq.new hB11.fpb z71
  have q79 := Nq.madeF z71 zf74 hB11.bi
  have q80 := Nf.new hB3.fpb zf74
  have q81 := Nf.new hB11.fpb zf74
  replace hB3 := hB3.ext hx67
  replace hB11 := hB11.ext hx67
  have hE82 := Ext.trans hE57 hx67
  have q83 := Zn.upD z71 hE57
  have q84 := zf_up zf74 hE57
  refine o_alloc (cs := [(.slice none 0 0)]) ha rfl Try.zeroValue29 rfl ?_; clear ha a; intro b85 w86 hB87 hx88 hlo89 a ha
  have q90 := Zn.one hlo89
  have q91 := Nq.new hB3.fpb q90
  have q92 := Nq.made1 hlo89 hB3.bi
  have q93 := Nq.new hB11.fpb q90
  have q94 := Nq.made1 hlo89 hB11.bi
  have q95 := Nq.new h70.fpb q90
  have q96 := Nq.made1 hlo89 h70.blt
  have q97 := Zn.upD q90 hE82
  replace hB3 := hB3.ext hx88
  replace hB11 := hB11.ext hx88
  replace h70 := h70.ext hx88
  have hE98 := Ext.trans hE82 hx88
  refine o_storeA (vs := [u68]) ha hB87 Try.sizeOf29 rfl rfl (by intro c hc; simp only [List.mem_cons, List.not_mem_nil, or_false] at hc; rcases hc with hc <;> subst hc <;> first | rfl | exact h70.oneC) rfl ?_; intro w99 hB100 hc101
  replace hc101 := hc101.bl
  replace hB100 : Bx w99 b85 [u68] 29 := hB100
  replace hB3 := hB3.nq hc101 q91
  replace hB11 := hB11.nq hc101 q93
  replace h70 := h70.nq hc101 q95
  have hE102 := Ext.then hE98 hc101 (Zn.bl q97)
  refine wpList_nil ?_; replace ha := ha.sub (σ' := [(1, (.int .i64 a1)), (2, (.int .i64 a2)), (6, (.pointer (some ⟨b9, 0, none⟩))), (8, (.pointer (some ⟨b85, 0, none⟩)))]) ⟨rfl, rfl, rfl, rfl, trivial⟩; refine e_then ?_; refine wp_seq ?_; refine d_region [0, 1, 2, 3, 4, 5, 6, 7, 8, 9, 10] hmix ?_; refine u_g 0 rfl (by kernel_rfl) (want0 _) ha rfl (g_field0 st29_0 rfl) ?_; clear ha a; intro a ha; refine u_g 1 rfl (by kernel_rfl) (want0 _) ha rfl (g_load Try.isAgg27 rfl (hB100.cell rfl)) ?_; clear ha a; intro a ha; refine u_g 2 rfl (by kernel_rfl) (want0 _) ha rfl (g_move rfl) ?_; clear ha a; intro a ha
  refine u_g 3 rfl (by kernel_rfl) (want0 _) ha rfl (g_field0 st29_0 rfl) ?_; clear ha a; intro a ha; refine u_g 4 rfl (by kernel_rfl) (want0 _) ha rfl (g_load Try.isAgg27 rfl (hB100.cell rfl)) ?_; clear ha a; intro a ha; refine u_g 5 rfl (by kernel_rfl) (want0 _) ha rfl (g_move rfl) ?_; clear ha a; intro a ha; obtain ⟨x103, g104, gx105, hF⟩ := idx_some hF
  obtain ⟨p106, cs107, f108, hf109, hpb110, hat111, hr112, hi113⟩ := h70.at g104 gx105
  replace hr112 := (Rp.sl 2 Rp.int).weak hr112
  obtain ⟨v114, rfl, h115⟩ := hr112
  have h115 : Ro Rp.int w99 f108 v114 x103 := h115
  have q117 := Nq.mono q79 (fun k hk => List.mem_append_right (bl b69) (hf109 k hk))
  have q118 := Nq.mono q95 (fun k hk => List.mem_append_right (bl b69) (hf109 k hk))
  have q119 := Nq.mono (Ow.ne h70) hf109
  refine u_g 6 rfl (by kernel_rfl) (want0 _) ha rfl (hi113.gives sl27 rfl rfl) ?_; clear ha a; intro a ha; refine u_g 7 rfl (by kernel_rfl) (want0 _) ha rfl (g_load Try.isAgg35 rfl hat111.one) ?_; clear ha a; intro a ha; refine u_g 8 rfl (by kernel_rfl) (want0 _) ha rfl (g_move rfl) ?_; clear ha a; intro a ha
  refine u_only 9 rfl (by kernel_rfl) ?_; intro w120 hx121
  replace hB11 := hB11.ext hx121
  replace h70 := h70.ext hx121
  replace hB100 := hB100.ext hx121
  replace h115 := h115.ext hx121
  have hE122 := Ext.trans hE102 hx121
  obtain ⟨x123, hc124, hF⟩ := cal_some hF
  refine o_call ha rfl rfl Try.call28 (W_spec_l2Without h115 ha2 hc124) ?_; clear ha a; rintro v125 w126 ⟨b128, h129, z130, hx127⟩ a ha
  have q132 := Nq.new hB11.fpb z130
  have q133 := Nq.madeO z130 hB11.bi
  have q134 := Nq.new h70.fpb z130
  have q135 := Nq.madeO z130 h70.blt
  have q136 := Nq.new hB100.fpb z130
  have q137 := Nq.madeO z130 hB100.bi
  have q138 := Nq.new h115.bnd z130
  have q139 := Nf.old z130 (zf_nil _) h70.bnd
  replace hB11 := hB11.ext hx127
  replace h70 := h70.ext hx127
  replace hB100 := hB100.ext hx127
  replace h115 := h115.ext hx127
  have hE140 := Ext.trans hE122 hx127
  have q141 := Zn.upD z130 hE122
  refine wpList_nil (e_sq ?_)
  refine ⟨fun _ => hx127, ?_⟩
  obtain ⟨x142, g143, gx144, hF⟩ := idx_some hF
  obtain ⟨p145, cs146, f147, hf148, hpb149, hat150, hr151, hi152⟩ := h70.at g143 gx144
  replace hr151 := (Rp.sl 2 Rp.int).weak hr151
  obtain ⟨v153, rfl, h154⟩ := hr151
  have h154 : Ro Rp.int w126 f147 v153 x142 := h154
  have q156 := Nq.mono q79 (fun k hk => List.mem_append_right (bl b69) (hf148 k hk))
  have q157 := Nq.mono q95 (fun k hk => List.mem_append_right (bl b69) (hf148 k hk))
  have q158 := Nq.mono q134 (fun k hk => List.mem_append_right (bl b69) (hf148 k hk))
  have q159 := Nq.mono (Ow.ne h70) hf148
  refine u_g 10 rfl (by kernel_rfl) (want0 _) ha rfl (hi152.gives sl27 rfl rfl) ?_; clear ha a; intro a ha
  refine u_only 11 rfl (by kernel_rfl) ?_; intro w160 hx161
  replace hB11 := hB11.ext hx161
  replace h70 := h70.ext hx161
  replace hB100 := hB100.ext hx161
  replace h115 := h115.ext hx161
  replace h129 := h129.ext hx161
  replace h154 := h154.ext hx161
  have hE162 := Ext.trans hE140 hx161
  refine o_storeE (f := (bl b128 ++ [])) (q := x123) ha Try.sizeOf35 rfl rfl h129.cells h70 hi152 (Rp.mkO h129) q135 ?_; intro w163 fs164 h165 hc166 hs167
  have q168 := zf_mv q141 (zf_nil _)
  have q169 := dj_of q134
  have q170 := zf_set hs167 q84 q168
  have q171 := Subst.nd hs167 nd75 (bl_nodup b128) q169
  have q172 := Nq.setX q79 q133 hs167.mem
  have q173 := Nq.setX q95 q137 hs167.mem
  replace hB11 := hB11.nq hc166 q78
  replace hB100 := hB100.nq hc166 q96
  replace h115 := h115.nq hc166 q119
  replace h154 := h154.nq hc166 q159
  have hE174 := Ext.then hE162 hc166 (Zn.bl q83)
  refine wpList_nil (e_sq ?_)
  refine ⟨fun h => absurd h (by decide), ?_⟩
  refine u_done (by kernel_rfl) ?_; intro w175 hx176
  replace hB11 := hB11.ext hx176
  replace h165 := h165.ext hx176
  replace hB100 := hB100.ext hx176
  replace h115 := h115.ext hx176
  replace h154 := h154.ext hx176
  have hE177 := Ext.trans hE174 hx176
  replace ha := ha.sub (σ' := [(1, (.int .i64 a1)), (2, (.int .i64 a2)), (6, (.pointer (some ⟨b9, 0, none⟩))), (8, (.pointer (some ⟨b85, 0, none⟩)))]) ⟨rfl, rfl, rfl, rfl, trivial⟩; refine e_then ?_; refine wp_seq ?_; refine d_region [0, 1, 2, 3, 4, 5, 6, 7, 8, 9, 10] hmix ?_; refine u_g 0 rfl (by kernel_rfl) (want0 _) ha rfl (g_field0 st29_0 rfl) ?_; clear ha a; intro a ha; refine u_g 1 rfl (by kernel_rfl) (want0 _) ha rfl (g_load Try.isAgg27 rfl (hB100.cell rfl)) ?_; clear ha a; intro a ha; refine u_g 2 rfl (by kernel_rfl) (want0 _) ha rfl (g_move rfl) ?_; clear ha a; intro a ha; refine u_g 3 rfl (by kernel_rfl) (want0 _) ha rfl (g_field0 st29_0 rfl) ?_; clear ha a; intro a ha
  refine u_g 4 rfl (by kernel_rfl) (want0 _) ha rfl (g_load Try.isAgg27 rfl (hB100.cell rfl)) ?_; clear ha a; intro a ha; refine u_g 5 rfl (by kernel_rfl) (want0 _) ha rfl (g_move rfl) ?_; clear ha a; intro a ha; obtain ⟨x178, g179, gx180, hF⟩ := idx_some hF
  obtain ⟨p181, cs182, f183, hf184, hpb185, hat186, hr187, hi188⟩ := h165.at g179 gx180
  replace hr187 := (Rp.sl 2 Rp.int).weak hr187
  obtain ⟨v189, rfl, h190⟩ := hr187
  have h190 : Ro Rp.int w175 f183 v189 x178 := h190
  have q192 := Nq.mono q172 (fun k hk => List.mem_append_right (bl b69) (hf184 k hk))
  have q193 := Nq.mono q173 (fun k hk => List.mem_append_right (bl b69) (hf184 k hk))
  have q194 := Nq.mono (Ow.ne h165) hf184
  refine u_g 6 rfl (by kernel_rfl) (want0 _) ha rfl (hi188.gives sl27 rfl rfl) ?_; clear ha a; intro a ha; refine u_g 7 rfl (by kernel_rfl) (want0 _) ha rfl (g_load Try.isAgg35 rfl hat186.one) ?_; clear ha a; intro a ha; refine u_g 8 rfl (by kernel_rfl) (want0 _) ha rfl (g_move rfl) ?_; clear ha a; intro a ha
  refine u_only 9 rfl (by kernel_rfl) ?_; intro w195 hx196
  replace hB11 := hB11.ext hx196
  replace h165 := h165.ext hx196
  replace hB100 := hB100.ext hx196
  replace h190 := h190.ext hx196
  have hE197 := Ext.trans hE177 hx196
  obtain ⟨x198, hc199, hF⟩ := cal_some hF
  refine o_call ha rfl rfl Try.call28 (W_spec_l2Without h190 ha1 hc199) ?_; clear ha a; rintro v200 w201 ⟨b203, h204, z205, hx202⟩ a ha
  have q207 := Nq.new hB11.fpb z205
  have q208 := Nq.madeO z205 hB11.bi
  have q209 := Nq.new h165.fpb z205
  have q210 := Nq.madeO z205 h165.blt
  have q211 := Nq.new hB100.fpb z205
  have q212 := Nq.madeO z205 hB100.bi
  have q213 := Nq.new h190.bnd z205
  have q214 := Nf.old z205 (zf_nil _) h165.bnd
  replace hB11 := hB11.ext hx202
  replace h165 := h165.ext hx202
  replace hB100 := hB100.ext hx202
  replace h190 := h190.ext hx202
  have hE215 := Ext.trans hE197 hx202
  have q216 := Zn.upD z205 hE197
  refine wpList_nil (e_sq ?_)
  refine ⟨fun _ => hx202, ?_⟩
  obtain ⟨x217, g218, gx219, hF⟩ := idx_some hF
  obtain ⟨p220, cs221, f222, hf223, hpb224, hat225, hr226, hi227⟩ := h165.at g218 gx219
  replace hr226 := (Rp.sl 2 Rp.int).weak hr226
  obtain ⟨v228, rfl, h229⟩ := hr226
  have h229 : Ro Rp.int w201 f222 v228 x217 := h229
  have q231 := Nq.mono q172 (fun k hk => List.mem_append_right (bl b69) (hf223 k hk))
  have q232 := Nq.mono q173 (fun k hk => List.mem_append_right (bl b69) (hf223 k hk))
  have q233 := Nq.mono q209 (fun k hk => List.mem_append_right (bl b69) (hf223 k hk))
  have q234 := Nq.mono (Ow.ne h165) hf223
  refine u_g 10 rfl (by kernel_rfl) (want0 _) ha rfl (hi227.gives sl27 rfl rfl) ?_; clear ha a; intro a ha
  refine u_only 11 rfl (by kernel_rfl) ?_; intro w235 hx236
  replace hB11 := hB11.ext hx236
  replace h165 := h165.ext hx236
  replace hB100 := hB100.ext hx236
  replace h190 := h190.ext hx236
  replace h204 := h204.ext hx236
  replace h229 := h229.ext hx236
  have hE237 := Ext.trans hE215 hx236
  refine o_storeE (f := (bl b203 ++ [])) (q := x198) ha Try.sizeOf35 rfl rfl h204.cells h165 hi227 (Rp.mkO h204) q210 ?_; intro w238 fs239 h240 hc241 hs242
  have q243 := zf_mv q216 (zf_nil _)
  have q244 := dj_of q209
  have q245 := zf_set hs242 q170 q243
  have q246 := Subst.nd hs242 q171 (bl_nodup b203) q244
  have q247 := Nq.setX q172 q208 hs242.mem
  have q248 := Nq.setX q173 q212 hs242.mem
  replace hB11 := hB11.nq hc241 q78
  replace hB100 := hB100.nq hc241 q96
  replace h190 := h190.nq hc241 q194
  replace h229 := h229.nq hc241 q234
  have hE249 := Ext.then hE237 hc241 (Zn.bl q83)
  refine wpList_nil (e_sq ?_)
  refine ⟨fun h => absurd h (by decide), ?_⟩
  refine u_done (by kernel_rfl) ?_; intro w250 hx251
  replace hB11 := hB11.ext hx251
  replace h240 := h240.ext hx251
  replace hB100 := hB100.ext hx251
  replace h190 := h190.ext hx251
  replace h229 := h229.ext hx251
  have hE252 := Ext.trans hE249 hx251
  replace ha := ha.sub (σ' := [(6, (.pointer (some ⟨b9, 0, none⟩))), (8, (.pointer (some ⟨b85, 0, none⟩)))]) ⟨rfl, rfl, trivial⟩; refine e_then ?_; refine wp_seq ?_; refine wp_region_lit ?_; refine op_g ha rfl (g_loadA (cs := [u68]) Try.isAgg29 Try.sizeOf29 rfl (by simp) hB100.all) ?_; clear ha a; intro a ha
  refine o_storeA (vs := [u68]) ha hB11 Try.sizeOf29 rfl rfl (by intro c hc; simp only [List.mem_cons, List.not_mem_nil, or_false] at hc; rcases hc with hc <;> subst hc <;> first | rfl | exact h240.oneC) rfl ?_; intro w253 hB254 hc255
  replace hc255 := hc255.bl
  replace hB254 : Bx w253 b9 [u68] 29 := hB254
  replace h240 := h240.nq hc255 q247
  replace hB100 := hB100.nq hc255 q94
  have hE256 := Ext.then hE252 hc255 (Zn.bl q17)
  refine op_g ha rfl (g_assign rfl) ?_; clear ha a; intro a ha; refine wpList_nil ?_; replace ha := ha.sub (σ' := [(6, (.pointer (some ⟨b9, 0, none⟩))), (7, (.bool true))]) ⟨rfl, rfl, trivial⟩; refine e_then ?_; refine wp_ret ?_; obtain rfl := Option.some.inj hF
  exact f_retC2 (cs := [u68]) ha rfl rfl Try.isAgg29 Try.sizeOf29 hB254 rfl ⟨_, _, _, _, _, rfl, rfl, h240, q83, q245, q246, rfl, hE256⟩
set_option maxHeartbeats 2000000 in
theorem W_spec_EdgeIn {W : World} {va0_0 : Value} {fa0_0 : List Nat} {a0_0 : (List (List Int))} (ha0_0 : Ro (Rp.sl 2 Rp.int) W fa0_0 va0_0 a0_0) {a1 : Int} (ha1 : InI a1) {a2 : Int} (ha2 : InI a2) {r : Bool} (hF : F_spec_EdgeIn a0_0 a1 a2 = some r) :
    Calls Try.prog 29 [.agg #[va0_0], .int .i64 a1, .int .i64 a2].toArray W (Ret fun u w' => u = .bool r ∧ Ext W w') := by
  refine f_enter Try.func29 rfl Try.ntmps29 rfl ?_
  intro a ha
  replace ha : Fr 25 [(0, (.agg #[va0_0])), (1, (.int .i64 a1)), (2, (.int .i64 a2))] a := ha
  have hE : Chg [] W W := Chg.refl _ _
  unfold F_spec_EdgeIn at hF
  refine wp_seq ?_; refine wp_region_lit ?_
  refine o_box ha rfl rfl rfl ?_; clear ha a; intro b1 w2 hB3 hx4 hlo5 a ha
  have q6 := Zn.one hlo5
  have q7 := Zn.upD q6 hE
  have hE8 := Ext.trans hE hx4
  refine op_g ha rfl (g_assign rfl) ?_; clear ha a; intro a ha; refine wpList_nil ?_; replace ha := ha.sub (σ' := [(1, (.int .i64 a1)), (2, (.int .i64 a2)), (3, (.pointer (some ⟨b1, 0, none⟩)))]) ⟨rfl, rfl, rfl, trivial⟩; refine e_then ?_; refine wp_seq ?_; refine wp_region_lit ?_; refine op_g ha rfl (g_loadA (cs := [va0_0]) Try.isAgg29 Try.sizeOf29 rfl (by simp) hB3.all) ?_; clear ha a; intro a ha; obtain ⟨x9, hc10, hF⟩ := cal_some hF
  refine o_call ha rfl rfl Try.call22 (W_spec_GraphOk (ha0_0.ext hE8) hc10) ?_; clear ha a; rintro v11 w12 ⟨rfl, hx13⟩ a ha
  replace hB3 := hB3.ext hx13
  have hE14 := Ext.trans hE8 hx13
  refine op_g ha rfl (g_move rfl) ?_; clear ha a; intro a ha
  by_cases hp15 : x9 = true
  · replace hF := if_t hp15 hF
    rw [show (x9) = true from (Iff.rfl).2 hp15] at ha
    refine op_want (yields ha rfl rfl) ?_; refine op_g ha rfl (g_loadA (cs := [va0_0]) Try.isAgg29 Try.sizeOf29 rfl (by simp) hB3.all) ?_; clear ha a; intro a ha; refine op_want (yields ha rfl rfl) ?_; refine op_g ha rfl (g_move rfl) ?_; clear ha a; intro a ha; refine op_want (yields ha rfl rfl) ?_; obtain ⟨x16, hc17, hF⟩ := cal_some hF
    refine o_call ha rfl rfl Try.call53 (W_spec_l1There (ha0_0.ext hE14) ha1 hc17) ?_; clear ha a; rintro v18 w19 ⟨rfl, hx20⟩ a ha
    replace hB3 := hB3.ext hx20
    have hE21 := Ext.trans hE14 hx20
    refine op_g ha rfl (g_pick rfl rfl) ?_; clear ha a; intro a ha; refine op_g ha rfl (g_move rfl) ?_; clear ha a; intro a ha
    by_cases hp22 : x16 = true
    · replace hF := if_t hp22 hF
      rw [show (x16) = true from (Iff.rfl).2 hp22] at ha
      refine op_want (yields ha rfl rfl) ?_; refine op_g ha rfl (g_loadA (cs := [va0_0]) Try.isAgg29 Try.sizeOf29 rfl (by simp) hB3.all) ?_; clear ha a; intro a ha; refine op_want (yields ha rfl rfl) ?_; refine op_g ha rfl (g_move rfl) ?_; clear ha a; intro a ha; refine op_want (yields ha rfl rfl) ?_; obtain ⟨x23, hc24, hF⟩ := cal_some hF
      refine o_call ha rfl rfl Try.call53 (W_spec_l1There (ha0_0.ext hE21) ha2 hc24) ?_; clear ha a; rintro v25 w26 ⟨rfl, hx27⟩ a ha
      replace hB3 := hB3.ext hx27
      have hE28 := Ext.trans hE21 hx27
      refine op_g ha rfl (g_pick rfl rfl) ?_; clear ha a; intro a ha; refine op_g ha rfl (g_move rfl) ?_; clear ha a; intro a ha
      by_cases hp29 : x23 = true
      · replace hF := if_t hp29 hF
        rw [show (x23) = true from (Iff.rfl).2 hp29] at ha
        refine op_want (yields ha rfl rfl) ?_; refine op_g ha rfl (g_loadA (cs := [va0_0]) Try.isAgg29 Try.sizeOf29 rfl (by simp) hB3.all) ?_; clear ha a; intro a ha; refine op_want (yields ha rfl rfl) ?_; refine op_g ha rfl (g_move rfl) ?_; clear ha a; intro a ha; refine op_want (yields ha rfl rfl) ?_; refine op_g ha rfl (g_move rfl) ?_; clear ha a; intro a ha; refine op_want (yields ha rfl rfl) ?_; obtain ⟨x30, hc31, hF⟩ := cal_some hF
        refine o_call ha rfl rfl Try.call26 (W_spec_l1Edge (ha0_0.ext hE28) ha1 ha2 hc31) ?_; clear ha a; rintro v32 w33 ⟨rfl, hx34⟩ a ha
        replace hB3 := hB3.ext hx34
        have hE35 := Ext.trans hE28 hx34
        refine op_g ha rfl (g_pick rfl rfl) ?_; clear ha a; intro a ha; refine op_g ha rfl (g_assign rfl) ?_; clear ha a; intro a ha; refine wpList_nil ?_; replace ha := ha.sub (σ' := [(6, (.bool x30))]) ⟨rfl, trivial⟩; refine e_then ?_; refine wp_ret ?_; obtain rfl := Option.some.inj hF
        exact f_ret1 ha rfl rfl ⟨rfl, hE35⟩
      replace hF := if_f hp29 hF
      rw [show (x23) = false from b_false (Iff.rfl) hp29] at ha
      (iterate 4 refine op_unwant ha rfl (yields ha rfl rfl) rfl ?_; clear ha a; intro a ha); refine op_g ha rfl (g_pick rfl rfl) ?_; clear ha a; intro a ha; refine op_g ha rfl (g_assign rfl) ?_; clear ha a; intro a ha; refine wpList_nil ?_; replace ha := ha.sub (σ' := [(6, (.bool false))]) ⟨rfl, trivial⟩; refine e_then ?_; refine wp_ret ?_; obtain rfl := Option.some.inj hF
      exact f_ret1 ha rfl rfl ⟨rfl, hE28⟩
    replace hF := if_f hp22 hF
    rw [show (x16) = false from b_false (Iff.rfl) hp22] at ha
    (iterate 3 refine op_unwant ha rfl (yields ha rfl rfl) rfl ?_; clear ha a; intro a ha); refine op_g ha rfl (g_pick rfl rfl) ?_; clear ha a; intro a ha; refine op_g ha rfl (g_move rfl) ?_; clear ha a; intro a ha; (iterate 4 refine op_unwant ha rfl (yields ha rfl rfl) rfl ?_; clear ha a; intro a ha); refine op_g ha rfl (g_pick rfl rfl) ?_; clear ha a; intro a ha; refine op_g ha rfl (g_assign rfl) ?_; clear ha a; intro a ha; refine wpList_nil ?_; replace ha := ha.sub (σ' := [(6, (.bool false))]) ⟨rfl, trivial⟩; refine e_then ?_; refine wp_ret ?_; obtain rfl := Option.some.inj hF
    exact f_ret1 ha rfl rfl ⟨rfl, hE21⟩
  replace hF := if_f hp15 hF
  rw [show (x9) = false from b_false (Iff.rfl) hp15] at ha
  (iterate 3 refine op_unwant ha rfl (yields ha rfl rfl) rfl ?_; clear ha a; intro a ha); refine op_g ha rfl (g_pick rfl rfl) ?_; clear ha a; intro a ha; refine op_g ha rfl (g_move rfl) ?_; clear ha a; intro a ha; (iterate 3 refine op_unwant ha rfl (yields ha rfl rfl) rfl ?_; clear ha a; intro a ha); refine op_g ha rfl (g_pick rfl rfl) ?_; clear ha a; intro a ha; refine op_g ha rfl (g_move rfl) ?_; clear ha a; intro a ha; (iterate 4 refine op_unwant ha rfl (yields ha rfl rfl) rfl ?_; clear ha a; intro a ha); refine op_g ha rfl (g_pick rfl rfl) ?_; clear ha a; intro a ha; refine op_g ha rfl (g_assign rfl) ?_; clear ha a; intro a ha
  refine wpList_nil ?_; replace ha := ha.sub (σ' := [(6, (.bool false))]) ⟨rfl, trivial⟩; refine e_then ?_; refine wp_ret ?_; obtain rfl := Option.some.inj hF
  exact f_ret1 ha rfl rfl ⟨rfl, hE14⟩
set_option maxHeartbeats 2000000 in
theorem W_spec_l1Min {W : World} {a0 : Int} (ha0 : InI a0) {a1 : Int} (ha1 : InI a1) {r : Int} (hF : F_spec_l1Min a0 a1 = some r) :
    Calls Try.prog 30 [.int .i64 a0, .int .i64 a1].toArray W (Ret fun u w' => (u = .int .i64 r ∧ InI r) ∧ Ext W w') := by
  refine f_enter Try.func30 rfl Try.ntmps30 rfl ?_
  intro a ha
  replace ha : Fr 10 [(0, (.int .i64 a0)), (1, (.int .i64 a1))] a := ha
  have hE : Chg [] W W := Chg.refl _ _
  unfold F_spec_l1Min at hF
  refine wp_seq ?_; refine wp_region_lit ?_; refine op_g ha rfl (g_assign rfl) ?_; clear ha a; intro a ha; refine wpList_nil ?_; replace ha := ha.sub (σ' := [(0, (.int .i64 a0)), (1, (.int .i64 a1))]) ⟨rfl, rfl, trivial⟩; refine e_then ?_; refine wp_seq ?_; refine wp_seq ?_; refine wp_region_lit ?_; (iterate 2 refine op_g ha rfl (g_move rfl) ?_; clear ha a; intro a ha); refine op_g ha rfl (g_lss rfl rfl) ?_; clear ha a; intro a ha; refine wpList_nil ?_; replace ha := ha.sub (σ' := [(0, (.int .i64 a0)), (1, (.int .i64 a1)), (7, (.bool (decide (a0 < a1))))]) ⟨rfl, rfl, rfl, trivial⟩; refine e_then ?_
  refine c_cond (a0 < a1) ha rfl (decide_eq_true_iff) (fun hp1 => ?_) (fun hp1 => ?_)
  · replace hF := if_t hp1 hF
    refine wp_seq ?_; refine wp_region_lit ?_; refine op_g ha rfl (g_move rfl) ?_; clear ha a; intro a ha; refine op_g ha rfl (g_assign rfl) ?_; clear ha a; intro a ha; refine wpList_nil ?_; replace ha := ha.sub (σ' := [(4, (.int .i64 a0))]) ⟨rfl, trivial⟩; refine e_then ?_; refine wp_ret ?_; refine e_then_ret ?_; obtain rfl := Option.some.inj hF
    exact f_ret1 ha rfl rfl ⟨⟨rfl, ha0⟩, hE⟩
  replace hF := if_f hp1 hF; refine wp_skip ?_; refine e_then ?_; refine wp_seq ?_; refine wp_region_lit ?_; refine op_g ha rfl (g_move rfl) ?_; clear ha a; intro a ha; refine op_g ha rfl (g_assign rfl) ?_; clear ha a; intro a ha; refine wpList_nil ?_; replace ha := ha.sub (σ' := [(4, (.int .i64 a1))]) ⟨rfl, trivial⟩; refine e_then ?_; refine wp_ret ?_; obtain rfl := Option.some.inj hF
  exact f_ret1 ha rfl rfl ⟨⟨rfl, ha1⟩, hE⟩
set_option maxHeartbeats 2000000 in
theorem W_spec_l1Max {W : World} {a0 : Int} (ha0 : InI a0) {a1 : Int} (ha1 : InI a1) {r : Int} (hF : F_spec_l1Max a0 a1 = some r) :
    Calls Try.prog 31 [.int .i64 a0, .int .i64 a1].toArray W (Ret fun u w' => (u = .int .i64 r ∧ InI r) ∧ Ext W w') := by
  refine f_enter Try.func31 rfl Try.ntmps31 rfl ?_
  intro a ha
  replace ha : Fr 10 [(0, (.int .i64 a0)), (1, (.int .i64 a1))] a := ha
  have hE : Chg [] W W := Chg.refl _ _
  unfold F_spec_l1Max at hF
  refine wp_seq ?_; refine wp_region_lit ?_; refine op_g ha rfl (g_assign rfl) ?_; clear ha a; intro a ha; refine wpList_nil ?_; replace ha := ha.sub (σ' := [(0, (.int .i64 a0)), (1, (.int .i64 a1))]) ⟨rfl, rfl, trivial⟩; refine e_then ?_; refine wp_seq ?_; refine wp_seq ?_; refine wp_region_lit ?_; (iterate 2 refine op_g ha rfl (g_move rfl) ?_; clear ha a; intro a ha); refine op_g ha rfl (g_gtr rfl rfl) ?_; clear ha a; intro a ha; refine wpList_nil ?_; replace ha := ha.sub (σ' := [(0, (.int .i64 a0)), (1, (.int .i64 a1)), (7, (.bool (decide (a1 < a0))))]) ⟨rfl, rfl, rfl, trivial⟩; refine e_then ?_
  refine c_cond (a1 < a0) ha rfl (decide_eq_true_iff) (fun hp1 => ?_) (fun hp1 => ?_)
  · replace hF := if_t hp1 hF
    refine wp_seq ?_; refine wp_region_lit ?_; refine op_g ha rfl (g_move rfl) ?_; clear ha a; intro a ha; refine op_g ha rfl (g_assign rfl) ?_; clear ha a; intro a ha; refine wpList_nil ?_; replace ha := ha.sub (σ' := [(4, (.int .i64 a0))]) ⟨rfl, trivial⟩; refine e_then ?_; refine wp_ret ?_; refine e_then_ret ?_; obtain rfl := Option.some.inj hF
    exact f_ret1 ha rfl rfl ⟨⟨rfl, ha0⟩, hE⟩
  replace hF := if_f hp1 hF; refine wp_skip ?_; refine e_then ?_; refine wp_seq ?_; refine wp_region_lit ?_; refine op_g ha rfl (g_move rfl) ?_; clear ha a; intro a ha; refine op_g ha rfl (g_assign rfl) ?_; clear ha a; intro a ha; refine wpList_nil ?_; replace ha := ha.sub (σ' := [(4, (.int .i64 a1))]) ⟨rfl, trivial⟩; refine e_then ?_; refine wp_ret ?_; obtain rfl := Option.some.inj hF
  exact f_ret1 ha rfl rfl ⟨⟨rfl, ha1⟩, hE⟩
set_option maxHeartbeats 2000000 in
theorem W_spec_l1All {W : World} {a0 : Int} (ha0 : InI a0) {r : (List Int)} (hF : F_spec_l1All a0 = some r) :
    Calls Try.prog 34 [.int .i64 a0].toArray W (Ret fun u w' => ∃ (b_u : Int), Ow Rp.int 2 true w' [] b_u u r ∧ Zn W b_u ∧ Ext W w') := by
  refine f_enter Try.func34 rfl Try.ntmps34 rfl ?_
  intro a ha
  replace ha : Fr 16 [(0, (.int .i64 a0))] a := ha
  have hE : Chg [] W W := Chg.refl _ _
  unfold F_spec_l1All at hF
  refine wp_seq ?_; refine wp_region_lit ?_; refine op_g ha rfl (g_assign rfl) ?_; clear ha a; intro a ha; refine wpList_nil ?_; replace ha := ha.sub (σ' := [(0, (.int .i64 a0))]) ⟨rfl, trivial⟩; refine e_then ?_; refine wp_seq ?_; refine wp_region_lit ?_
  refine o_lit0 Rp.int ha rfl sl35 ?_; clear ha a; intro v1 w2 h3 hx4 a ha
  obtain ⟨b6, hb6⟩ : ∃ b : Int, b = W.heap.size := ⟨_, rfl⟩; rw [← hb6] at h3
  have q7 := zn_of hb6
  have q8 := Zn.upD q7 hE
  have hE9 := Ext.trans hE hx4
  refine op_g ha rfl (g_assign rfl) ?_; clear ha a; intro a ha; refine wpList_nil ?_; replace ha := ha.sub (σ' := [(0, (.int .i64 a0)), (3, v1)]) ⟨rfl, rfl, trivial⟩; refine e_then ?_; refine wp_seq ?_; refine wp_seq ?_; refine wp_region_lit ?_; refine op_g ha rfl (g_assign rfl) ?_; clear ha a; intro a ha; refine wpList_nil ?_; refine e_then ?_; obtain ⟨o102, ho103, hK104⟩ := bnd_some hF
  obtain ⟨n105, hn106⟩ := lp_some ho103; clear ho103
  refine c_loop (fun a w => ∃ (l99 : (List Int)) (v100 : Value) (b101 : Int), Fr 16 [(3, v100)] a ∧ Chg [] W w ∧ Ow Rp.int 2 true w [] b101 v100 l99 ∧ Zn W b101 ∧ o102 = .inl l99) (fun n a w => ∃ (l54 : (List Int)) (i57 : Int) (v55 : Value) (b56 : Int), Fr 16 [(0, (.int .i64 a0)), (3, v55), (4, (.int .i64 i57))] a ∧ Chg [] W w ∧ InI i57 ∧ Ow Rp.int 2 true w [] b56 v55 l54 ∧ Zn W b56 ∧ lpN (fun s => F_spec_l1All_l1 a0 s.1 s.2) n (l54, i57) = some o102) n105 ⟨([] : (List Int)), 0, v1, b6, ha.sub ⟨rfl, rfl, rfl, trivial⟩, hE9, (show InI 0 from by decide), h3, q8, hn106⟩ ?_ ?_
  · rintro m110 a w50 ⟨l54, i57, v55, b56, ha, hE59, hI58, h52, z53, hF⟩
    cases m110 with
    | zero => exact (lpN_zero hF).elim
    | succ m110 =>
      obtain ⟨z109, hF, hN108⟩ := lpN_succ hF
      have hF : F_spec_l1All_l1 a0 l54 i57 = some z109 := hF; unfold F_spec_l1All_l1 at hF
      refine wp_seq ?_; refine wp_seq ?_; refine wp_region_lit ?_; (iterate 2 refine op_g ha rfl (g_move rfl) ?_; clear ha a; intro a ha); refine op_g ha rfl (g_lss rfl rfl) ?_; clear ha a; intro a ha; refine wpList_nil ?_; replace ha := ha.sub (σ' := [(0, (.int .i64 a0)), (3, v55), (4, (.int .i64 i57)), (8, (.bool (decide (i57 < a0))))]) ⟨rfl, rfl, rfl, rfl, trivial⟩; refine e_then ?_; refine c_cond (i57 < a0) ha rfl (decide_eq_true_iff) (fun hp111 => ?_) (fun hp111 => ?_)
      · replace hF := if_t hp111 hF
        refine wp_skip ?_; refine e_then ?_; refine wp_seq ?_; refine wp_block ?_; refine wp_region_lit ?_; (iterate 2 refine op_g ha rfl (g_move rfl) ?_; clear ha a; intro a ha)
        refine o_lit1 (o := true) (y := i57) Rp.int ha rfl sl35 rfl rfl rfl ⟨rfl, hI58, rfl⟩ ?_; clear ha a; intro v112 w113 h114 hx115 a ha
        obtain ⟨b117, hb117⟩ : ∃ b : Int, b = w50.heap.size := ⟨_, rfl⟩; rw [← hb117] at h114
        have q118 := zn_of hb117
        have q119 := Nq.new h52.fpb q118
        have q120 := Nq.madeO q118 h52.blt
        have q121 := Zn.upD q118 hE59
        replace h52 := h52.ext hx115
        have hE122 := Ext.trans hE59 hx115
        obtain ⟨hl123, hF⟩ := app_some hF
        refine o_append ha rfl sl35 rfl rfl rfl h52 h114.src (Nq.nil _) hl123 ?_; clear ha a; intro v124 w125 b126 h127 hc128 hb129 a ha
        replace h127 : Ow Rp.int 2 true w125 [] b126 v124 _ := h127
        have q131 := Nq.appY q120 h114.fpb hb129
        have q132 := Nq.appX q119 (Nq.nil _) hb129 h114.blt
        have q133 := Zn.appD z53 hb129 hE122
        replace h114 := h114.nq hc128 q120
        have hE134 := Ext.then hE122 hc128 (Zn.bl z53)
        refine op_g ha rfl (g_assign rfl) ?_; clear ha a; intro a ha; refine wpList_nil ?_; replace ha := ha.sub (σ' := [(0, (.int .i64 a0)), (3, v124), (4, (.int .i64 i57))]) ⟨rfl, rfl, rfl, trivial⟩; refine e_blk ?_; refine e_then ?_; refine wp_region_lit ?_; refine op_g ha rfl (g_move rfl) ?_; clear ha a; intro a ha; obtain ⟨hI135, hF⟩ := ck_some hF; refine op_g ha rfl (g_add rfl rfl hI135) ?_; clear ha a; intro a ha; refine op_g ha rfl (g_assign rfl) ?_; clear ha a; intro a ha; refine wpList_nil ?_; replace ha := ha.sub (σ' := [(0, (.int .i64 a0)), (3, v124), (4, (.int .i64 (i57 + 1)))]) ⟨rfl, rfl, rfl, trivial⟩
        refine e_lq ?_; obtain rfl := Option.some.inj hF
        exact ⟨_, Nat.lt_succ_self _, (l54 ++ ([i57])), i57 + 1, v124, b126, ha.sub ⟨rfl, rfl, rfl, trivial⟩, hE134, hI135, h127, q133, hN108⟩
      replace hF := if_f hp111 hF; refine wp_exit ?_; refine e_then_exit ?_; refine e_lq_eq ?_; obtain rfl := Option.some.inj hF
      exact ⟨l54, v55, b56, ha.sub ⟨rfl, trivial⟩, hE59, h52, z53, (LK_inr hN108).symm⟩
  rintro a w95 ⟨l99, v100, b101, ha, hE107, h97, z98, rfl⟩
  have hF : F_spec_l1All_k2 l99 = some _ := hK104; clear hK104; unfold F_spec_l1All_k2 at hF
  refine e_then ?_; refine wp_seq ?_; refine wp_region_lit ?_; refine op_g ha rfl (g_move rfl) ?_; clear ha a; intro a ha; refine op_g ha rfl (g_assign rfl) ?_; clear ha a; intro a ha; refine wpList_nil ?_; replace ha := ha.sub (σ' := [(2, v100)]) ⟨rfl, trivial⟩; refine e_then ?_; refine wp_ret ?_; obtain rfl := Option.some.inj hF
  exact f_ret1 ha rfl rfl ⟨_, h97, z98, hE107⟩
set_option maxHeartbeats 2000000 in
theorem W_spec_l2Of {W : World} {va0_0 : Value} {fa0_0 : List Nat} {a0_0 : (List (List Int))} (ha0_0 : Ro (Rp.sl 2 Rp.int) W fa0_0 va0_0 a0_0) {va1 : Value} {fa1 : List Nat} {a1 : (List Int)} (ha1 : Ro Rp.int W fa1 va1 a1) {r : (List (List Int))} (hF : F_spec_l2Of a0_0 a1 = some r) :
    Calls Try.prog 33 [.agg #[va0_0], va1].toArray W (Ret fun u w' => ∃ (u_0 : Value) (fp_u_0 : List Nat), u = .agg #[u_0] ∧ Ro (Rp.sl 2 Rp.int) w' fp_u_0 u_0 r ∧ Pv (fa0_0 ++ fa1) W.heap.size fp_u_0 ∧ Ext W w') := by
  refine f_enter Try.func33 rfl Try.ntmps33 rfl ?_
  intro a ha
  replace ha : Fr 37 [(0, (.agg #[va0_0])), (1, va1)] a := ha
  have hE : Chg [] W W := Chg.refl _ _
  unfold F_spec_l2Of at hF
  refine wp_seq ?_; refine wp_region_lit ?_
  refine o_box ha rfl rfl rfl ?_; clear ha a; intro b1 w2 hB3 hx4 hlo5 a ha
  have q6 := Zn.one hlo5
  have q7 := Zn.upD q6 hE
  have hE8 := Ext.trans hE hx4
  refine o_alloc (cs := [(.slice none 0 0)]) ha rfl Try.zeroValue29 rfl ?_; clear ha a; intro b9 w10 hB11 hx12 hlo13 a ha
  have q14 := Zn.one hlo13
  have q15 := Nq.new hB3.fpb q14
  have q16 := Nq.made1 hlo13 hB3.bi
  have q17 := Zn.upD q14 hE8
  replace hB3 := hB3.ext hx12
  have hE18 := Ext.trans hE8 hx12
  refine wpList_nil ?_; replace ha := ha.sub (σ' := [(1, va1), (2, (.pointer (some ⟨b1, 0, none⟩))), (4, (.pointer (some ⟨b9, 0, none⟩)))]) ⟨rfl, rfl, rfl, trivial⟩; refine e_then ?_; refine wp_seq ?_; refine wp_region_lit ?_; refine op_g ha rfl (g_move rfl) ?_; clear ha a; intro a ha; refine op_g ha rfl (g_lenR sl35.und ha1 rfl) ?_; clear ha a; intro a ha; obtain ⟨x19, hc20, hF⟩ := cal_some hF
  refine o_call ha rfl rfl Try.call47 (W_spec_l1Empty ha1.len hc20) ?_; clear ha a; rintro v21 w22 ⟨u24, b25, fs29, rfl, h26, z27, zf30, nd31, hx23⟩ a ha
  have q32 := Nq.new hB3.fpb z27
  have q33 := Nq.madeF z27 zf30 hB3.bi
  have q34 := Nq.new hB11.fpb z27
  have q35 := Nq.madeF z27 zf30 hB11.bi
  have q36 := Nf.new hB3.fpb zf30
  have q37 := Nf.new hB11.fpb zf30
  replace hB3 := hB3.ext hx23
  replace hB11 := hB11.ext hx23
  have hE38 := Ext.trans hE18 hx23
  have q39 := Zn.upD z27 hE18
  have q40 := zf_up zf30 hE18
  refine o_alloc (cs := [(.slice none 0 0)]) ha rfl Try.zeroValue29 rfl ?_; clear ha a; intro b41 w42 hB43 hx44 hlo45 a ha
  have q46 := Zn.one hlo45
  have q47 := Nq.new hB3.fpb q46
  have q48 := Nq.made1 hlo45 hB3.bi
  have q49 := Nq.new hB11.fpb q46
  have q50 := Nq.made1 hlo45 hB11.bi
  have q51 := Nq.new h26.fpb q46
  have q52 := Nq.made1 hlo45 h26.blt
  have q53 := Zn.upD q46 hE38
  replace hB3 := hB3.ext hx44
  replace hB11 := hB11.ext hx44
  replace h26 := h26.ext hx44
  have hE54 := Ext.trans hE38 hx44
  refine o_storeA (vs := [u24]) ha hB43 Try.sizeOf29 rfl rfl (by intro c hc; simp only [List.mem_cons, List.not_mem_nil, or_false] at hc; rcases hc with hc <;> subst hc <;> first | rfl | exact h26.oneC) rfl ?_; intro w55 hB56 hc57
  replace hc57 := hc57.bl
  replace hB56 : Bx w55 b41 [u24] 29 := hB56
  replace hB3 := hB3.nq hc57 q47
  replace hB11 := hB11.nq hc57 q49
  replace h26 := h26.nq hc57 q51
  have hE58 := Ext.then hE54 hc57 (Zn.bl q53)
  refine wpList_nil ?_; replace ha := ha.sub (σ' := [(1, va1), (2, (.pointer (some ⟨b1, 0, none⟩))), (4, (.pointer (some ⟨b9, 0, none⟩))), (5, (.pointer (some ⟨b41, 0, none⟩)))]) ⟨rfl, rfl, rfl, rfl, trivial⟩; refine e_then ?_; refine wp_seq ?_; refine wp_seq ?_; refine wp_region_lit ?_; refine op_g ha rfl (g_assign rfl) ?_; clear ha a; intro a ha; refine wpList_nil ?_; replace ha := ha.sub (σ' := [(1, va1), (2, (.pointer (some ⟨b1, 0, none⟩))), (4, (.pointer (some ⟨b9, 0, none⟩))), (5, (.pointer (some ⟨b41, 0, none⟩))), (6, (.int .i64 0))]) ⟨rfl, rfl, rfl, rfl, rfl, trivial⟩; refine e_then ?_
  obtain ⟨o840, ho841, hK842⟩ := bnd_some hF
  obtain ⟨n843, hn844⟩ := lp_some ho841; clear ho841
  refine c_loop (fun a w => ∃ (l831 : (List (List Int))) (fs828 : List Nat) (v832 : Value) (b833 : Int), Fr 37 [(4, (.pointer (some ⟨b9, 0, none⟩))), (5, (.pointer (some ⟨b41, 0, none⟩)))] a ∧ Chg [] W w ∧ Bx w b9 [(.slice none 0 0)] 29 ∧ Zn W (b9 : Int) ∧ Bx w b41 [v832] 29 ∧ Zn W (b41 : Int) ∧ Ow (Rp.sl 2 Rp.int) 35 false w fs828 b833 v832 l831 ∧ Zn W b833 ∧ (∀ k ∈ fs828, W.heap.size ≤ k) ∧ Nq ([b9]) (b41 : Int) ∧ Nq ([b9]) b833 ∧ Nq ([b41]) (b9 : Int) ∧ Nq ([b41]) b833 ∧ Nq (bl b833 ++ fs828) (b9 : Int) ∧ Nq (bl b833 ++ fs828) (b41 : Int) ∧ o840 = .inl l831) (fun n a w => ∃ (l450 : (List (List Int))) (i453 : Int) (fs447 : List Nat) (v451 : Value) (b452 : Int), Fr 37 [(1, va1), (2, (.pointer (some ⟨b1, 0, none⟩))), (4, (.pointer (some ⟨b9, 0, none⟩))), (5, (.pointer (some ⟨b41, 0, none⟩))), (6, (.int .i64 i453))] a ∧ Chg [] W w ∧ InI i453 ∧ Bx w b1 [va0_0] 29 ∧ Zn W (b1 : Int) ∧ Bx w b9 [(.slice none 0 0)] 29 ∧ Zn W (b9 : Int) ∧ Bx w b41 [v451] 29 ∧ Zn W (b41 : Int) ∧ Ow (Rp.sl 2 Rp.int) 35 false w fs447 b452 v451 l450 ∧ Zn W b452 ∧ (∀ k ∈ fs447, W.heap.size ≤ k) ∧ Nq ([b1]) (b9 : Int) ∧ Nq ([b1]) (b41 : Int) ∧ Nq ([b1]) b452 ∧ Nq ([b9]) (b1 : Int) ∧ Nq ([b9]) (b41 : Int) ∧ Nq ([b9]) b452 ∧ Nq ([b41]) (b1 : Int) ∧ Nq ([b41]) (b9 : Int) ∧ Nq ([b41]) b452 ∧ Nq (bl b452 ++ fs447) (b1 : Int) ∧ Nq (bl b452 ++ fs447) (b9 : Int) ∧ Nq (bl b452 ++ fs447) (b41 : Int) ∧ lpN (fun s => F_spec_l2Of_l1 a0_0 a1 s.1 s.2) n (l450, i453) = some o840) n843 ⟨x19, 0, fs29, u24, b25, ha.sub ⟨rfl, rfl, rfl, rfl, rfl, trivial⟩, hE58, (show InI 0 from by decide), hB3, q7, hB11, q17, hB56, q53, (Ow.weak h26), q39, q40, q15, q47, q32, q16, q49, q34, q48, q50, q52, q33, q35, q51, hn844⟩ ?_ ?_
  · rintro m848 a w437 ⟨l450, i453, fs447, v451, b452, ha, hE467, hI454, hB438, z439, hB440, z441, hB442, z443, h445, z446, zf448, q455, q456, q457, q458, q459, q460, q461, q462, q463, q464, q465, q466, hF⟩
    cases m848 with
    | zero => exact (lpN_zero hF).elim
    | succ m848 =>
      obtain ⟨z847, hF, hN846⟩ := lpN_succ hF
      have hF : F_spec_l2Of_l1 a0_0 a1 l450 i453 = some z847 := hF; unfold F_spec_l2Of_l1 at hF
      refine wp_seq ?_; refine wp_seq ?_; refine wp_region_lit ?_; (iterate 2 refine op_g ha rfl (g_move rfl) ?_; clear ha a; intro a ha); refine op_g ha rfl (g_lenR sl35.und ha1 rfl) ?_; clear ha a; intro a ha; refine op_g ha rfl (g_lss rfl rfl) ?_; clear ha a; intro a ha; refine wpList_nil ?_; replace ha := ha.sub (σ' := [(1, va1), (2, (.pointer (some ⟨b1, 0, none⟩))), (4, (.pointer (some ⟨b9, 0, none⟩))), (5, (.pointer (some ⟨b41, 0, none⟩))), (6, (.int .i64 i453)), (14, (.bool (decide (i453 < (a1.length : Int)))))]) ⟨rfl, rfl, rfl, rfl, rfl, rfl, trivial⟩; refine e_then ?_; refine c_cond (i453 < (a1.length : Int)) ha rfl (decide_eq_true_iff) (fun hp849 => ?_) (fun hp849 => ?_)
      · replace hF := if_t hp849 hF
        refine wp_skip ?_; refine e_then ?_; refine wp_seq ?_; refine wp_block ?_; refine wp_seq ?_; refine wp_region_lit ?_; refine op_g ha rfl (g_assign rfl) ?_; clear ha a; intro a ha; refine wpList_nil ?_; replace ha := ha.sub (σ' := [(1, va1), (2, (.pointer (some ⟨b1, 0, none⟩))), (4, (.pointer (some ⟨b9, 0, none⟩))), (5, (.pointer (some ⟨b41, 0, none⟩))), (6, (.int .i64 i453)), (7, (.int .i64 0))]) ⟨rfl, rfl, rfl, rfl, rfl, rfl, trivial⟩; refine e_then ?_; obtain ⟨o1105, ho1106, hK1107⟩ := bnd_some hF
        obtain ⟨n1108, hn1109⟩ := lp_some ho1106; clear ho1106
        refine c_loop (fun a w => ∃ (l1090 : (List (List Int))) (fs1087 : List Nat) (v1091 : Value) (b1092 : Int), Fr 37 [(1, va1), (2, (.pointer (some ⟨b1, 0, none⟩))), (4, (.pointer (some ⟨b9, 0, none⟩))), (5, (.pointer (some ⟨b41, 0, none⟩))), (6, (.int .i64 i453))] a ∧ Chg [] W w ∧ Bx w b1 [va0_0] 29 ∧ Zn W (b1 : Int) ∧ Bx w b9 [(.slice none 0 0)] 29 ∧ Zn W (b9 : Int) ∧ Bx w b41 [v1091] 29 ∧ Zn W (b41 : Int) ∧ Ow (Rp.sl 2 Rp.int) 35 false w fs1087 b1092 v1091 l1090 ∧ Zn W b1092 ∧ (∀ k ∈ fs1087, W.heap.size ≤ k) ∧ Nq ([b1]) (b9 : Int) ∧ Nq ([b1]) (b41 : Int) ∧ Nq ([b1]) b1092 ∧ Nq ([b9]) (b1 : Int) ∧ Nq ([b9]) (b41 : Int) ∧ Nq ([b9]) b1092 ∧ Nq ([b41]) (b1 : Int) ∧ Nq ([b41]) (b9 : Int) ∧ Nq ([b41]) b1092 ∧ Nq (bl b1092 ++ fs1087) (b1 : Int) ∧ Nq (bl b1092 ++ fs1087) (b9 : Int) ∧ Nq (bl b1092 ++ fs1087) (b41 : Int) ∧ o1105 = .inl l1090) (fun n a w => ∃ (l974 : (List (List Int))) (i977 : Int) (fs971 : List Nat) (v975 : Value) (b976 : Int), Fr 37 [(1, va1), (2, (.pointer (some ⟨b1, 0, none⟩))), (4, (.pointer (some ⟨b9, 0, none⟩))), (5, (.pointer (some ⟨b41, 0, none⟩))), (6, (.int .i64 i453)), (7, (.int .i64 i977))] a ∧ Chg [] W w ∧ InI i977 ∧ Bx w b1 [va0_0] 29 ∧ Zn W (b1 : Int) ∧ Bx w b9 [(.slice none 0 0)] 29 ∧ Zn W (b9 : Int) ∧ Bx w b41 [v975] 29 ∧ Zn W (b41 : Int) ∧ Ow (Rp.sl 2 Rp.int) 35 false w fs971 b976 v975 l974 ∧ Zn W b976 ∧ (∀ k ∈ fs971, W.heap.size ≤ k) ∧ Nq ([b1]) (b9 : Int) ∧ Nq ([b1]) (b41 : Int) ∧ Nq ([b1]) b976 ∧ Nq ([b9]) (b1 : Int) ∧ Nq ([b9]) (b41 : Int) ∧ Nq ([b9]) b976 ∧ Nq ([b41]) (b1 : Int) ∧ Nq ([b41]) (b9 : Int) ∧ Nq ([b41]) b976 ∧ Nq (bl b976 ++ fs971) (b1 : Int) ∧ Nq (bl b976 ++ fs971) (b9 : Int) ∧ Nq (bl b976 ++ fs971) (b41 : Int) ∧ lpN (fun s => F_spec_l2Of_l2 a0_0 a1 i453 s.1 s.2) n (l974, i977) = some o1105) n1108 ⟨l450, 0, fs447, v451, b452, ha.sub ⟨rfl, rfl, rfl, rfl, rfl, rfl, trivial⟩, hE467, (show InI 0 from by decide), hB438, z439, hB440, z441, hB442, z443, h445, z446, zf448, q455, q456, q457, q458, q459, q460, q461, q462, q463, q464, q465, q466, hn1109⟩ ?_ ?_
        · rintro m1113 a w961 ⟨l974, i977, fs971, v975, b976, ha, hE991, hI978, hB962, z963, hB964, z965, hB966, z967, h969, z970, zf972, q979, q980, q981, q982, q983, q984, q985, q986, q987, q988, q989, q990, hF⟩
          cases m1113 with
          | zero => exact (lpN_zero hF).elim
          | succ m1113 =>
            obtain ⟨z1112, hF, hN1111⟩ := lpN_succ hF
            have hF : F_spec_l2Of_l2 a0_0 a1 i453 l974 i977 = some z1112 := hF; unfold F_spec_l2Of_l2 at hF
            refine wp_seq ?_; refine wp_seq ?_; refine wp_region_lit ?_; (iterate 2 refine op_g ha rfl (g_move rfl) ?_; clear ha a; intro a ha); refine op_g ha rfl (g_lss rfl rfl) ?_; clear ha a; intro a ha; refine wpList_nil ?_; replace ha := ha.sub (σ' := [(1, va1), (2, (.pointer (some ⟨b1, 0, none⟩))), (4, (.pointer (some ⟨b9, 0, none⟩))), (5, (.pointer (some ⟨b41, 0, none⟩))), (6, (.int .i64 i453)), (7, (.int .i64 i977)), (19, (.bool (decide (i977 < i453))))]) ⟨rfl, rfl, rfl, rfl, rfl, rfl, rfl, trivial⟩; refine e_then ?_; refine c_cond (i977 < i453) ha rfl (decide_eq_true_iff) (fun hp1114 => ?_) (fun hp1114 => ?_)
            · replace hF := if_t hp1114 hF
              refine wp_skip ?_; refine e_then ?_; refine wp_seq ?_; refine wp_block ?_; refine wp_seq ?_; refine d_quiet hmix (by kernel_rfl) ?_; refine q_g ha rfl (g_loadA (cs := [va0_0]) Try.isAgg29 Try.sizeOf29 rfl (by simp) hB962.all) ?_; clear ha a; intro a ha; (iterate 2 refine q_g ha rfl (g_move rfl) ?_; clear ha a; intro a ha); obtain ⟨x1115, g1116, gx1117, hF⟩ := idx_some hF
              obtain ⟨p1118, cs1119, f1120, hf1121, hpb1122, hat1123, hr1124, hi1125⟩ := ha1.at g1116 gx1117
              obtain ⟨rfl, hI1126, rfl⟩ := hr1124
              refine q_g ha rfl (hi1125.gives sl35 rfl rfl) ?_; clear ha a; intro a ha; refine q_g ha rfl (g_load0 hE991 Try.isAgg2 rfl hat1123.one) ?_; clear ha a; intro a ha; (iterate 2 refine q_g ha rfl (g_move rfl) ?_; clear ha a; intro a ha); obtain ⟨x1127, g1128, gx1129, hF⟩ := idx_some hF
              obtain ⟨p1130, cs1131, f1132, hf1133, hpb1134, hat1135, hr1136, hi1137⟩ := ha1.at g1128 gx1129
              obtain ⟨rfl, hI1138, rfl⟩ := hr1136
              refine q_g ha rfl (hi1137.gives sl35 rfl rfl) ?_; clear ha a; intro a ha; refine q_g ha rfl (g_load0 hE991 Try.isAgg2 rfl hat1135.one) ?_; clear ha a; intro a ha; obtain ⟨x1141, hc1142, hF⟩ := cal_some hF; refine q_call (.bool x1141) ha rfl rfl Try.call26 (fun w1140 hx1139 => W_spec_l1Edge (ha0_0.ext (Ext.trans hE991 hx1139)) hI1126 hI1138 hc1142) (fun _ _ _ h => ⟨h.1, h.2⟩) ?_; clear ha a; intro a ha
              refine q_nil ?_; intro w1143 hx1144
              replace hB962 := hB962.ext hx1144
              replace hB964 := hB964.ext hx1144
              replace hB966 := hB966.ext hx1144
              replace h969 := h969.ext hx1144
              have hE1145 := Ext.trans hE991 hx1144
              replace ha := ha.sub (σ' := [(1, va1), (2, (.pointer (some ⟨b1, 0, none⟩))), (4, (.pointer (some ⟨b9, 0, none⟩))), (5, (.pointer (some ⟨b41, 0, none⟩))), (6, (.int .i64 i453)), (7, (.int .i64 i977)), (31, (.bool x1141))]) ⟨rfl, rfl, rfl, rfl, rfl, rfl, rfl, trivial⟩; refine e_then ?_; refine c_cond (x1141 = true) ha rfl (Iff.rfl) (fun hp1146 => ?_) (fun hp1146 => ?_)
              · replace hF := if_t hp1146 hF
                refine wp_region_lit ?_; refine op_g ha rfl (g_loadA (cs := [v975]) Try.isAgg29 Try.sizeOf29 rfl (by simp) hB966.all) ?_; clear ha a; intro a ha; (iterate 2 refine op_g ha rfl (g_move rfl) ?_; clear ha a; intro a ha); obtain ⟨x1147, hc1148, hF⟩ := cal_some hF
                refine o_call ha rfl rfl Try.call32 (W_spec_l1Link h969 hI978 hI454 hc1148) ?_; clear ha a; rintro v1149 w1150 ⟨fs1153, rfl, h1152, pv1154, hx1151⟩ a ha
                have q1155 := Nq.grow pv1154 q988 hB962.bi
                have q1156 := Nq.grow pv1154 q989 hB964.bi
                have q1157 := Nq.grow pv1154 q990 hB966.bi
                have q1158 := Chg.size hE1145
                replace hB962 := hB962.nq hx1151 q981
                replace hB964 := hB964.nq hx1151 q984
                replace hB966 := hB966.nq hx1151 q987
                have hE1159 := Ext.then hE1145 hx1151 (Zn.bl z970)
                have q1160 := zf_pv pv1154 zf972 q1158
                refine o_storeA (vs := [v975]) ha hB966 Try.sizeOf29 rfl rfl (by intro c hc; simp only [List.mem_cons, List.not_mem_nil, or_false] at hc; rcases hc with hc <;> subst hc <;> first | rfl | exact h1152.oneC) rfl ?_; intro w1161 hB1162 hc1163
                replace hc1163 := hc1163.bl
                replace hB1162 : Bx w1161 b41 [v975] 29 := hB1162
                replace hB962 := hB962.nq hc1163 q980
                replace hB964 := hB964.nq hc1163 q983
                replace h1152 := h1152.nq hc1163 q1157
                have hE1164 := Ext.then hE1159 hc1163 (Zn.bl z967)
                refine wpList_nil ?_; replace ha := ha.sub (σ' := [(1, va1), (2, (.pointer (some ⟨b1, 0, none⟩))), (4, (.pointer (some ⟨b9, 0, none⟩))), (5, (.pointer (some ⟨b41, 0, none⟩))), (6, (.int .i64 i453)), (7, (.int .i64 i977))]) ⟨rfl, rfl, rfl, rfl, rfl, rfl, trivial⟩; refine e_blk ?_; refine e_then ?_; refine wp_region_lit ?_; refine op_g ha rfl (g_move rfl) ?_; clear ha a; intro a ha; obtain ⟨hI1165, hF⟩ := ck_some hF; refine op_g ha rfl (g_add rfl rfl hI1165) ?_; clear ha a; intro a ha; refine op_g ha rfl (g_assign rfl) ?_; clear ha a; intro a ha; refine wpList_nil ?_; replace ha := ha.sub (σ' := [(1, va1), (2, (.pointer (some ⟨b1, 0, none⟩))), (4, (.pointer (some ⟨b9, 0, none⟩))), (5, (.pointer (some ⟨b41, 0, none⟩))), (6, (.int .i64 i453)), (7, (.int .i64 (i977 + 1)))]) ⟨rfl, rfl, rfl, rfl, rfl, rfl, trivial⟩
                refine e_lq ?_; obtain rfl := Option.some.inj hF
                exact ⟨_, Nat.lt_succ_self _, x1147, i977 + 1, fs1153, v975, b976, ha.sub ⟨rfl, rfl, rfl, rfl, rfl, rfl, trivial⟩, hE1164, hI1165, hB962, z963, hB964, z965, hB1162, z967, h1152, z970, q1160, q979, q980, q981, q982, q983, q984, q985, q986, q987, q1155, q1156, q1157, hN1111⟩
              replace hF := if_f hp1146 hF; refine wp_skip ?_; refine e_blk ?_; refine e_then ?_; refine wp_region_lit ?_; refine op_g ha rfl (g_move rfl) ?_; clear ha a; intro a ha; obtain ⟨hI1167, hF⟩ := ck_some hF; refine op_g ha rfl (g_add rfl rfl hI1167) ?_; clear ha a; intro a ha; refine op_g ha rfl (g_assign rfl) ?_; clear ha a; intro a ha; refine wpList_nil ?_; replace ha := ha.sub (σ' := [(1, va1), (2, (.pointer (some ⟨b1, 0, none⟩))), (4, (.pointer (some ⟨b9, 0, none⟩))), (5, (.pointer (some ⟨b41, 0, none⟩))), (6, (.int .i64 i453)), (7, (.int .i64 (i977 + 1)))]) ⟨rfl, rfl, rfl, rfl, rfl, rfl, trivial⟩
              refine e_lq ?_; obtain rfl := Option.some.inj hF
              exact ⟨_, Nat.lt_succ_self _, l974, i977 + 1, fs971, v975, b976, ha.sub ⟨rfl, rfl, rfl, rfl, rfl, rfl, trivial⟩, hE1145, hI1167, hB962, z963, hB964, z965, hB966, z967, h969, z970, zf972, q979, q980, q981, q982, q983, q984, q985, q986, q987, q988, q989, q990, hN1111⟩
            replace hF := if_f hp1114 hF; refine wp_exit ?_; refine e_then_exit ?_; refine e_lq_eq ?_; obtain rfl := Option.some.inj hF
            exact ⟨l974, fs971, v975, b976, ha.sub ⟨rfl, rfl, rfl, rfl, rfl, trivial⟩, hE991, hB962, z963, hB964, z965, hB966, z967, h969, z970, zf972, q979, q980, q981, q982, q983, q984, q985, q986, q987, q988, q989, q990, (LK_inr hN1111).symm⟩
        rintro a w1077 ⟨l1090, fs1087, v1091, b1092, ha, hE1110, hB1078, z1079, hB1080, z1081, hB1082, z1083, h1085, z1086, zf1088, q1093, q1094, q1095, q1096, q1097, q1098, q1099, q1100, q1101, q1102, q1103, q1104, rfl⟩
        have hF : F_spec_l2Of_k3 i453 l1090 = some _ := hK1107; clear hK1107; unfold F_spec_l2Of_k3 at hF
        refine e_blk ?_; refine e_then ?_; refine wp_region_lit ?_; refine op_g ha rfl (g_move rfl) ?_; clear ha a; intro a ha; obtain ⟨hI1169, hF⟩ := ck_some hF; refine op_g ha rfl (g_add rfl rfl hI1169) ?_; clear ha a; intro a ha; refine op_g ha rfl (g_assign rfl) ?_; clear ha a; intro a ha; refine wpList_nil ?_; replace ha := ha.sub (σ' := [(1, va1), (2, (.pointer (some ⟨b1, 0, none⟩))), (4, (.pointer (some ⟨b9, 0, none⟩))), (5, (.pointer (some ⟨b41, 0, none⟩))), (6, (.int .i64 (i453 + 1)))]) ⟨rfl, rfl, rfl, rfl, rfl, trivial⟩; refine e_lq ?_; obtain rfl := Option.some.inj hF
        exact ⟨_, Nat.lt_succ_self _, l1090, i453 + 1, fs1087, v1091, b1092, ha.sub ⟨rfl, rfl, rfl, rfl, rfl, trivial⟩, hE1110, hI1169, hB1078, z1079, hB1080, z1081, hB1082, z1083, h1085, z1086, zf1088, q1093, q1094, q1095, q1096, q1097, q1098, q1099, q1100, q1101, q1102, q1103, q1104, hN846⟩
      replace hF := if_f hp849 hF; refine wp_exit ?_; refine e_then_exit ?_; refine e_lq_eq ?_; obtain rfl := Option.some.inj hF
      exact ⟨l450, fs447, v451, b452, ha.sub ⟨rfl, rfl, trivial⟩, hE467, hB440, z441, hB442, z443, h445, z446, zf448, q459, q460, q462, q463, q465, q466, (LK_inr hN846).symm⟩
  rintro a w820 ⟨l831, fs828, v832, b833, ha, hE845, hB821, z822, hB823, z824, h826, z827, zf829, q834, q835, q836, q837, q838, q839, rfl⟩
  have hF : F_spec_l2Of_k4 l831 = some _ := hK842; clear hK842; unfold F_spec_l2Of_k4 at hF
  refine e_then ?_; refine wp_seq ?_; refine wp_region_lit ?_; refine op_g ha rfl (g_loadA (cs := [v832]) Try.isAgg29 Try.sizeOf29 rfl (by simp) hB823.all) ?_; clear ha a; intro a ha
  refine o_storeA (vs := [v832]) ha hB821 Try.sizeOf29 rfl rfl (by intro c hc; simp only [List.mem_cons, List.not_mem_nil, or_false] at hc; rcases hc with hc <;> subst hc <;> first | rfl | exact h826.oneC) rfl ?_; intro w1171 hB1172 hc1173
  replace hc1173 := hc1173.bl
  replace hB1172 : Bx w1171 b9 [v832] 29 := hB1172
  replace hB823 := hB823.nq hc1173 q836
  replace h826 := h826.nq hc1173 q838
  have hE1174 := Ext.then hE845 hc1173 (Zn.bl z822)
  refine wpList_nil ?_; replace ha := ha.sub (σ' := [(4, (.pointer (some ⟨b9, 0, none⟩)))]) ⟨rfl, trivial⟩; refine e_then ?_; refine wp_ret ?_
  obtain ⟨fp1175, h1176, hs1177⟩ := h826.roF
  obtain rfl := Option.some.inj hF
  exact f_retC (cs := [v832]) ha rfl rfl Try.isAgg29 Try.sizeOf29 hB1172 ⟨_, _, rfl, h1176, (Pv.mono (Pv.own z827 zf829) hs1177), hE1174⟩
set_option maxHeartbeats 2000000 in
theorem W_spec_Contracted {W : World} {va0_0 : Value} {fa0_0 : List Nat} {a0_0 : (List (List Int))} (ha0_0 : Ro (Rp.sl 2 Rp.int) W fa0_0 va0_0 a0_0) {a1 : Int} (ha1 : InI a1) {a2 : Int} (ha2 : InI a2) {r : ((List (List Int)) × Bool)} (hF : F_spec_Contracted a0_0 a1 a2 = some r) :
    Calls Try.prog 13 [.agg #[va0_0], .int .i64 a1, .int .i64 a2].toArray W (Ret fun u w' => ∃ (u0 : Value) (u1 : Value) (u0_0 : Value) (fp_u0_0 : List Nat), u = .tuple #[u0, u1] ∧ u0 = .agg #[u0_0] ∧ Ro (Rp.sl 2 Rp.int) w' fp_u0_0 u0_0 r.1 ∧ Pv (fa0_0) W.heap.size fp_u0_0 ∧ u1 = .bool r.2 ∧ Ext W w') := by
  refine f_enter Try.func13 rfl Try.ntmps13 rfl ?_
  intro a ha
  replace ha : Fr 64 [(0, (.agg #[va0_0])), (1, (.int .i64 a1)), (2, (.int .i64 a2))] a := ha
  have hE : Chg [] W W := Chg.refl _ _
  unfold F_spec_Contracted at hF
  refine wp_seq ?_; refine wp_region_lit ?_
  refine o_box ha rfl rfl rfl ?_; clear ha a; intro b1 w2 hB3 hx4 hlo5 a ha
  have q6 := Zn.one hlo5
  have q7 := Zn.upD q6 hE
  have hE8 := Ext.trans hE hx4
  refine o_alloc (cs := [(.slice none 0 0)]) ha rfl Try.zeroValue29 rfl ?_; clear ha a; intro b9 w10 hB11 hx12 hlo13 a ha
  have q14 := Zn.one hlo13
  have q15 := Nq.new hB3.fpb q14
  have q16 := Nq.made1 hlo13 hB3.bi
  have q17 := Zn.upD q14 hE8
  replace hB3 := hB3.ext hx12
  have hE18 := Ext.trans hE8 hx12
  refine op_g ha rfl (g_assign rfl) ?_; clear ha a; intro a ha; refine wpList_nil ?_; replace ha := ha.sub (σ' := [(1, (.int .i64 a1)), (2, (.int .i64 a2)), (3, (.pointer (some ⟨b1, 0, none⟩))), (6, (.pointer (some ⟨b9, 0, none⟩)))]) ⟨rfl, rfl, rfl, rfl, trivial⟩; refine e_then ?_; refine wp_seq ?_; refine wp_seq ?_; refine wp_region_lit ?_; refine op_g ha rfl (g_loadA (cs := [va0_0]) Try.isAgg29 Try.sizeOf29 rfl (by simp) hB3.all) ?_; clear ha a; intro a ha; (iterate 2 refine op_g ha rfl (g_move rfl) ?_; clear ha a; intro a ha); obtain ⟨x19, hc20, hF⟩ := cal_some hF
  refine o_call ha rfl rfl Try.call29 (W_spec_EdgeIn (ha0_0.ext hE18) ha1 ha2 hc20) ?_; clear ha a; rintro v21 w22 ⟨rfl, hx23⟩ a ha
  replace hB3 := hB3.ext hx23
  replace hB11 := hB11.ext hx23
  have hE24 := Ext.trans hE18 hx23
  refine op_g ha rfl (g_not rfl) ?_; clear ha a; intro a ha; refine wpList_nil ?_; replace ha := ha.sub (σ' := [(1, (.int .i64 a1)), (2, (.int .i64 a2)), (3, (.pointer (some ⟨b1, 0, none⟩))), (6, (.pointer (some ⟨b9, 0, none⟩))), (16, (.bool (!x19)))]) ⟨rfl, rfl, rfl, rfl, rfl, trivial⟩; refine e_then ?_; refine c_cond (¬ (x19 = true)) ha rfl (n_iff (Iff.rfl)) (fun hp25 => ?_) (fun hp25 => ?_)
  · replace hF := if_t hp25 hF
    refine wp_seq ?_; refine wp_region_lit ?_; refine op_g ha rfl (g_build (vs := []) (cells := #[(.slice none 0 0)]) rfl (by rfl)) ?_; clear ha a; intro a ha
    refine o_storeA (vs := [(.slice none 0 0)]) ha hB11 Try.sizeOf29 rfl rfl (by intro c hc; simp only [List.mem_cons, List.not_mem_nil, or_false] at hc; rcases hc with hc <;> subst hc <;> first | rfl | exact rfl) rfl ?_; intro w26 hB27 hc28
    replace hc28 := hc28.bl
    replace hB27 : Bx w26 b9 [(.slice none 0 0)] 29 := hB27
    replace hB3 := hB3.nq hc28 q15
    have hE29 := Ext.then hE24 hc28 (Zn.bl q17)
    refine op_g ha rfl (g_assign rfl) ?_; clear ha a; intro a ha; refine wpList_nil ?_; replace ha := ha.sub (σ' := [(6, (.pointer (some ⟨b9, 0, none⟩))), (7, (.bool false))]) ⟨rfl, rfl, trivial⟩; refine e_then ?_; refine wp_ret ?_; refine e_then_ret ?_; obtain rfl := Option.some.inj hF
    exact f_retC2 (cs := [(.slice none 0 0)]) ha rfl rfl Try.isAgg29 Try.sizeOf29 hB27 rfl ⟨_, _, _, [], rfl, rfl, (Ro.nil _), (Pv.nil), rfl, hE29⟩
  replace hF := if_f hp25 hF; refine wp_skip ?_; refine e_then ?_; refine wp_seq ?_; refine wp_region_lit ?_; (iterate 2 refine op_g ha rfl (g_move rfl) ?_; clear ha a; intro a ha); obtain ⟨x30, hc31, hF⟩ := cal_some hF
  refine o_call ha rfl rfl Try.call30 (W_spec_l1Min ha1 ha2 hc31) ?_; clear ha a; rintro v32 w33 ⟨⟨rfl, hI35⟩, hx34⟩ a ha
  replace hB3 := hB3.ext hx34
  replace hB11 := hB11.ext hx34
  have hE36 := Ext.trans hE24 hx34
  refine op_g ha rfl (g_assign rfl) ?_; clear ha a; intro a ha; refine wpList_nil ?_; replace ha := ha.sub (σ' := [(1, (.int .i64 a1)), (2, (.int .i64 a2)), (3, (.pointer (some ⟨b1, 0, none⟩))), (6, (.pointer (some ⟨b9, 0, none⟩))), (8, (.int .i64 x30))]) ⟨rfl, rfl, rfl, rfl, rfl, trivial⟩; refine e_then ?_; refine wp_seq ?_; refine wp_region_lit ?_; (iterate 2 refine op_g ha rfl (g_move rfl) ?_; clear ha a; intro a ha); obtain ⟨x37, hc38, hF⟩ := cal_some hF
  refine o_call ha rfl rfl Try.call31 (W_spec_l1Max ha1 ha2 hc38) ?_; clear ha a; rintro v39 w40 ⟨⟨rfl, hI42⟩, hx41⟩ a ha
  replace hB3 := hB3.ext hx41
  replace hB11 := hB11.ext hx41
  have hE43 := Ext.trans hE36 hx41
  refine op_g ha rfl (g_assign rfl) ?_; clear ha a; intro a ha; refine wpList_nil ?_; replace ha := ha.sub (σ' := [(3, (.pointer (some ⟨b1, 0, none⟩))), (6, (.pointer (some ⟨b9, 0, none⟩))), (8, (.int .i64 x30)), (9, (.int .i64 x37))]) ⟨rfl, rfl, rfl, rfl, trivial⟩; refine e_then ?_; refine wp_seq ?_; refine wp_region_lit ?_; refine op_g ha rfl (g_loadA (cs := [va0_0]) Try.isAgg29 Try.sizeOf29 rfl (by simp) hB3.all) ?_; clear ha a; intro a ha; obtain ⟨x44, hc45, hF⟩ := cal_some hF
  refine o_call ha rfl rfl Try.call27 (W_spec_l1CopyGraph (ha0_0.ext hE43) hc45) ?_; clear ha a; rintro v46 w47 ⟨u49, b50, fs54, rfl, h51, z52, zf55, nd56, hx48⟩ a ha
  have q57 := Nq.new hB3.fpb z52
  have q58 := Nq.madeF z52 zf55 hB3.bi
  have q59 := Nq.new hB11.fpb z52
  have q60 := Nq.madeF z52 zf55 hB11.bi
  have q61 := Nf.new hB3.fpb zf55
  have q62 := Nf.new hB11.fpb zf55
  replace hB3 := hB3.ext hx48
  replace hB11 := hB11.ext hx48
  have hE63 := Ext.trans hE43 hx48
  have q64 := Zn.upD z52 hE43
  have q65 := zf_up zf55 hE43
  refine o_alloc (cs := [(.slice none 0 0)]) ha rfl Try.zeroValue29 rfl ?_; clear ha a; intro b66 w67 hB68 hx69 hlo70 a ha
  have q71 := Zn.one hlo70
  have q72 := Nq.new hB3.fpb q71
  have q73 := Nq.made1 hlo70 hB3.bi
  have q74 := Nq.new hB11.fpb q71
  have q75 := Nq.made1 hlo70 hB11.bi
  have q76 := Nq.new h51.fpb q71
  have q77 := Nq.made1 hlo70 h51.blt
  have q78 := Zn.upD q71 hE63
  replace hB3 := hB3.ext hx69
  replace hB11 := hB11.ext hx69
  replace h51 := h51.ext hx69
  have hE79 := Ext.trans hE63 hx69
  refine o_storeA (vs := [u49]) ha hB68 Try.sizeOf29 rfl rfl (by intro c hc; simp only [List.mem_cons, List.not_mem_nil, or_false] at hc; rcases hc with hc <;> subst hc <;> first | rfl | exact h51.oneC) rfl ?_; intro w80 hB81 hc82
  replace hc82 := hc82.bl
  replace hB81 : Bx w80 b66 [u49] 29 := hB81
  replace hB3 := hB3.nq hc82 q72
  replace hB11 := hB11.nq hc82 q74
  replace h51 := h51.nq hc82 q76
  have hE83 := Ext.then hE79 hc82 (Zn.bl q78)
  refine wpList_nil ?_; replace ha := ha.sub (σ' := [(3, (.pointer (some ⟨b1, 0, none⟩))), (6, (.pointer (some ⟨b9, 0, none⟩))), (8, (.int .i64 x30)), (9, (.int .i64 x37)), (10, (.pointer (some ⟨b66, 0, none⟩)))]) ⟨rfl, rfl, rfl, rfl, rfl, trivial⟩; refine e_then ?_; refine wp_seq ?_; refine wp_seq ?_; refine wp_region_lit ?_; refine op_g ha rfl (g_assign rfl) ?_; clear ha a; intro a ha; refine wpList_nil ?_; replace ha := ha.sub (σ' := [(3, (.pointer (some ⟨b1, 0, none⟩))), (6, (.pointer (some ⟨b9, 0, none⟩))), (8, (.int .i64 x30)), (9, (.int .i64 x37)), (10, (.pointer (some ⟨b66, 0, none⟩))), (11, (.int .i64 0))]) ⟨rfl, rfl, rfl, rfl, rfl, rfl, trivial⟩
  refine e_then ?_; obtain ⟨o433, ho434, hK435⟩ := bnd_some hF
  obtain ⟨n436, hn437⟩ := lp_some ho434; clear ho434
  refine c_loop (fun a w => ∃ (l418 : (List (List Int))) (fs415 : List Nat) (v419 : Value) (b420 : Int), Fr 64 [(3, (.pointer (some ⟨b1, 0, none⟩))), (6, (.pointer (some ⟨b9, 0, none⟩))), (9, (.int .i64 x37)), (10, (.pointer (some ⟨b66, 0, none⟩)))] a ∧ Chg [] W w ∧ Bx w b1 [va0_0] 29 ∧ Zn W (b1 : Int) ∧ Bx w b9 [(.slice none 0 0)] 29 ∧ Zn W (b9 : Int) ∧ Bx w b66 [v419] 29 ∧ Zn W (b66 : Int) ∧ Ow (Rp.sl 2 Rp.int) 35 false w fs415 b420 v419 l418 ∧ Zn W b420 ∧ (∀ k ∈ fs415, W.heap.size ≤ k) ∧ Nq ([b1]) (b9 : Int) ∧ Nq ([b1]) (b66 : Int) ∧ Nq ([b1]) b420 ∧ Nq ([b9]) (b1 : Int) ∧ Nq ([b9]) (b66 : Int) ∧ Nq ([b9]) b420 ∧ Nq ([b66]) (b1 : Int) ∧ Nq ([b66]) (b9 : Int) ∧ Nq ([b66]) b420 ∧ Nq (bl b420 ++ fs415) (b1 : Int) ∧ Nq (bl b420 ++ fs415) (b9 : Int) ∧ Nq (bl b420 ++ fs415) (b66 : Int) ∧ o433 = .inl l418) (fun n a w => ∃ (l255 : (List (List Int))) (i258 : Int) (fs252 : List Nat) (v256 : Value) (b257 : Int), Fr 64 [(3, (.pointer (some ⟨b1, 0, none⟩))), (6, (.pointer (some ⟨b9, 0, none⟩))), (8, (.int .i64 x30)), (9, (.int .i64 x37)), (10, (.pointer (some ⟨b66, 0, none⟩))), (11, (.int .i64 i258))] a ∧ Chg [] W w ∧ InI i258 ∧ Bx w b1 [va0_0] 29 ∧ Zn W (b1 : Int) ∧ Bx w b9 [(.slice none 0 0)] 29 ∧ Zn W (b9 : Int) ∧ Bx w b66 [v256] 29 ∧ Zn W (b66 : Int) ∧ Ow (Rp.sl 2 Rp.int) 35 false w fs252 b257 v256 l255 ∧ Zn W b257 ∧ (∀ k ∈ fs252, W.heap.size ≤ k) ∧ Nq ([b1]) (b9 : Int) ∧ Nq ([b1]) (b66 : Int) ∧ Nq ([b1]) b257 ∧ Nq ([b9]) (b1 : Int) ∧ Nq ([b9]) (b66 : Int) ∧ Nq ([b9]) b257 ∧ Nq ([b66]) (b1 : Int) ∧ Nq ([b66]) (b9 : Int) ∧ Nq ([b66]) b257 ∧ Nq (bl b257 ++ fs252) (b1 : Int) ∧ Nq (bl b257 ++ fs252) (b9 : Int) ∧ Nq (bl b257 ++ fs252) (b66 : Int) ∧ lpN (fun s => F_spec_Contracted_l1 a0_0 x30 x37 s.1 s.2) n (l255, i258) = some o433) n436 ⟨x44, 0, fs54, u49, b50, ha.sub ⟨rfl, rfl, rfl, rfl, rfl, rfl, trivial⟩, hE83, (show InI 0 from by decide), hB3, q7, hB11, q17, hB81, q78, (Ow.weak h51), q64, q65, q15, q72, q57, q16, q74, q59, q73, q75, q77, q58, q60, q76, hn437⟩ ?_ ?_
  · rintro m441 a w242 ⟨l255, i258, fs252, v256, b257, ha, hE272, hI259, hB243, z244, hB245, z246, hB247, z248, h250, z251, zf253, q260, q261, q262, q263, q264, q265, q266, q267, q268, q269, q270, q271, hF⟩
    cases m441 with
    | zero => exact (lpN_zero hF).elim
    | succ m441 =>
      obtain ⟨z440, hF, hN439⟩ := lpN_succ hF
      have hF : F_spec_Contracted_l1 a0_0 x30 x37 l255 i258 = some z440 := hF; unfold F_spec_Contracted_l1 at hF
      refine wp_seq ?_; refine wp_seq ?_; refine wp_region_lit ?_; refine op_g ha rfl (g_move rfl) ?_; clear ha a; intro a ha; refine op_g ha rfl (g_field0 st29_0 rfl) ?_; clear ha a; intro a ha; refine op_g ha rfl (g_load Try.isAgg27 rfl (hB243.cell rfl)) ?_; clear ha a; intro a ha; refine op_g ha rfl (g_move rfl) ?_; clear ha a; intro a ha; obtain ⟨x442, g443, gx444, hF⟩ := idx_some hF
      obtain ⟨p445, cs446, f447, hf448, hpb449, hat450, hr451, hi452⟩ := ha0_0.at g443 gx444
      obtain ⟨v453, rfl, h454⟩ := hr451
      have h454 : Ro Rp.int W f447 v453 x442 := h454
      have q456 := (Pv.mono (Pv.par (fun _ h => h)) hf448 : Pv (fa0_0) W.heap.size f447)
      refine op_g ha rfl (hi452.gives sl27 rfl rfl) ?_; clear ha a; intro a ha; refine op_g ha rfl (g_load0 hE272 Try.isAgg35 rfl hat450.one) ?_; clear ha a; intro a ha; refine op_g ha rfl (g_lenR sl35.und h454 rfl) ?_; clear ha a; intro a ha; refine op_g ha rfl (g_lss rfl rfl) ?_; clear ha a; intro a ha; refine wpList_nil ?_; replace ha := ha.sub (σ' := [(3, (.pointer (some ⟨b1, 0, none⟩))), (6, (.pointer (some ⟨b9, 0, none⟩))), (8, (.int .i64 x30)), (9, (.int .i64 x37)), (10, (.pointer (some ⟨b66, 0, none⟩))), (11, (.int .i64 i258)), (33, (.bool (decide (i258 < (x442.length : Int)))))]) ⟨rfl, rfl, rfl, rfl, rfl, rfl, rfl, trivial⟩
      refine e_then ?_; refine c_cond (i258 < (x442.length : Int)) ha rfl (decide_eq_true_iff) (fun hp457 => ?_) (fun hp457 => ?_)
      · replace hF := if_t hp457 hF
        refine wp_skip ?_; refine e_then ?_; refine wp_seq ?_; refine wp_block ?_; refine wp_seq ?_; refine wp_region_lit ?_; refine op_g ha rfl (g_field0 st29_0 rfl) ?_; clear ha a; intro a ha; refine op_g ha rfl (g_load Try.isAgg27 rfl (hB243.cell rfl)) ?_; clear ha a; intro a ha; refine op_g ha rfl (g_move rfl) ?_; clear ha a; intro a ha; obtain ⟨x458, g459, gx460, hF⟩ := idx_some hF
        obtain ⟨p461, cs462, f463, hf464, hpb465, hat466, hr467, hi468⟩ := ha0_0.at g459 gx460
        obtain ⟨v469, rfl, h470⟩ := hr467
        have h470 : Ro Rp.int W f463 v469 x458 := h470
        have q472 := (Pv.mono (Pv.par (fun _ h => h)) hf464 : Pv (fa0_0) W.heap.size f463)
        refine op_g ha rfl (hi468.gives sl27 rfl rfl) ?_; clear ha a; intro a ha; refine op_g ha rfl (g_load0 hE272 Try.isAgg35 rfl hat466.one) ?_; clear ha a; intro a ha; refine op_g ha rfl (g_move rfl) ?_; clear ha a; intro a ha; obtain ⟨x473, g474, gx475, hF⟩ := idx_some hF
        obtain ⟨p476, cs477, f478, hf479, hpb480, hat481, hr482, hi483⟩ := h470.at g474 gx475
        obtain ⟨rfl, hI484, rfl⟩ := hr482
        refine op_g ha rfl (hi483.gives sl35 rfl rfl) ?_; clear ha a; intro a ha; refine op_g ha rfl (g_load0 hE272 Try.isAgg2 rfl hat481.one) ?_; clear ha a; intro a ha; refine op_g ha rfl (g_move rfl) ?_; clear ha a; intro a ha; refine op_g ha rfl (g_neq rfl rfl) ?_; clear ha a; intro a ha; refine wpList_nil ?_; replace ha := ha.sub (σ' := [(3, (.pointer (some ⟨b1, 0, none⟩))), (6, (.pointer (some ⟨b9, 0, none⟩))), (8, (.int .i64 x30)), (9, (.int .i64 x37)), (10, (.pointer (some ⟨b66, 0, none⟩))), (11, (.int .i64 i258)), (45, (.bool (decide (x473 ≠ x30))))]) ⟨rfl, rfl, rfl, rfl, rfl, rfl, rfl, trivial⟩
        refine e_then ?_; refine c_cond (x473 ≠ x30) ha rfl (decide_eq_true_iff) (fun hp485 => ?_) (fun hp485 => ?_)
        · replace hF := if_t hp485 hF
          refine d_region [0, 1, 2, 3, 4, 5, 6, 7, 8, 9] hmix ?_; refine u_g 0 rfl (by kernel_rfl) (want0 _) ha rfl (g_loadA (cs := [v256]) Try.isAgg29 Try.sizeOf29 rfl (by simp) hB247.all) ?_; clear ha a; intro a ha; refine u_g 1 rfl (by kernel_rfl) (want0 _) ha rfl (g_move rfl) ?_; clear ha a; intro a ha; refine u_g 2 rfl (by kernel_rfl) (want0 _) ha rfl (g_field0 st29_0 rfl) ?_; clear ha a; intro a ha; refine u_g 3 rfl (by kernel_rfl) (want0 _) ha rfl (g_load Try.isAgg27 rfl (hB243.cell rfl)) ?_; clear ha a; intro a ha; refine u_g 4 rfl (by kernel_rfl) (want0 _) ha rfl (g_move rfl) ?_; clear ha a; intro a ha
          obtain ⟨x486, g487, gx488, hF⟩ := idx_some hF
          obtain ⟨p489, cs490, f491, hf492, hpb493, hat494, hr495, hi496⟩ := ha0_0.at g487 gx488
          obtain ⟨v497, rfl, h498⟩ := hr495
          have h498 : Ro Rp.int W f491 v497 x486 := h498
          have q500 := (Pv.mono (Pv.par (fun _ h => h)) hf492 : Pv (fa0_0) W.heap.size f491)
          refine u_g 5 rfl (by kernel_rfl) (want0 _) ha rfl (hi496.gives sl27 rfl rfl) ?_; clear ha a; intro a ha; refine u_g 6 rfl (by kernel_rfl) (want0 _) ha rfl (g_load0 hE272 Try.isAgg35 rfl hat494.one) ?_; clear ha a; intro a ha; refine u_g 7 rfl (by kernel_rfl) (want0 _) ha rfl (g_move rfl) ?_; clear ha a; intro a ha; obtain ⟨x501, g502, gx503, hF⟩ := idx_some hF
          obtain ⟨p504, cs505, f506, hf507, hpb508, hat509, hr510, hi511⟩ := h498.at g502 gx503
          obtain ⟨rfl, hI512, rfl⟩ := hr510
          refine u_g 8 rfl (by kernel_rfl) (want0 _) ha rfl (hi511.gives sl35 rfl rfl) ?_; clear ha a; intro a ha; refine u_g 9 rfl (by kernel_rfl) (want0 _) ha rfl (g_load0 hE272 Try.isAgg2 rfl hat509.one) ?_; clear ha a; intro a ha
          refine u_only 10 rfl (by kernel_rfl) ?_; intro w513 hx514
          replace hB243 := hB243.ext hx514
          replace hB245 := hB245.ext hx514
          replace hB247 := hB247.ext hx514
          replace h250 := h250.ext hx514
          have hE515 := Ext.trans hE272 hx514
          obtain ⟨x516, hc517, hF⟩ := cal_some hF
          refine o_call ha rfl rfl Try.call32 (W_spec_l1Link h250 hI35 hI512 hc517) ?_; clear ha a; rintro v518 w519 ⟨fs522, rfl, h521, pv523, hx520⟩ a ha
          have q524 := Nq.grow pv523 q269 hB243.bi
          have q525 := Nq.grow pv523 q270 hB245.bi
          have q526 := Nq.grow pv523 q271 hB247.bi
          have q527 := Chg.size hE515
          replace hB243 := hB243.nq hx520 q262
          replace hB245 := hB245.nq hx520 q265
          replace hB247 := hB247.nq hx520 q268
          have hE528 := Ext.then hE515 hx520 (Zn.bl z251)
          have q529 := zf_pv pv523 zf253 q527
          refine wpList_nil (e_sq ?_)
          refine ⟨fun h => absurd h (by decide), ?_⟩
          refine u_only 11 rfl (by kernel_rfl) ?_; intro w530 hx531
          replace hB243 := hB243.ext hx531
          replace hB245 := hB245.ext hx531
          replace hB247 := hB247.ext hx531
          replace h521 := h521.ext hx531
          have hE532 := Ext.trans hE528 hx531
          refine o_storeA (vs := [v256]) ha hB247 Try.sizeOf29 rfl rfl (by intro c hc; simp only [List.mem_cons, List.not_mem_nil, or_false] at hc; rcases hc with hc <;> subst hc <;> first | rfl | exact h521.oneC) rfl ?_; intro w533 hB534 hc535
          replace hc535 := hc535.bl
          replace hB534 : Bx w533 b66 [v256] 29 := hB534
          replace hB243 := hB243.nq hc535 q261
          replace hB245 := hB245.nq hc535 q264
          replace h521 := h521.nq hc535 q526
          have hE536 := Ext.then hE532 hc535 (Zn.bl z248)
          refine wpList_nil (e_sq ?_)
          refine ⟨fun h => absurd h (by decide), ?_⟩
          refine u_done (by kernel_rfl) ?_; intro w537 hx538
          replace hB243 := hB243.ext hx538
          replace hB245 := hB245.ext hx538
          replace hB534 := hB534.ext hx538
          replace h521 := h521.ext hx538
          have hE539 := Ext.trans hE536 hx538
          replace ha := ha.sub (σ' := [(3, (.pointer (some ⟨b1, 0, none⟩))), (6, (.pointer (some ⟨b9, 0, none⟩))), (8, (.int .i64 x30)), (9, (.int .i64 x37)), (10, (.pointer (some ⟨b66, 0, none⟩))), (11, (.int .i64 i258))]) ⟨rfl, rfl, rfl, rfl, rfl, rfl, trivial⟩; refine e_blk ?_; refine e_then ?_; refine wp_region_lit ?_; refine op_g ha rfl (g_move rfl) ?_; clear ha a; intro a ha; obtain ⟨hI540, hF⟩ := ck_some hF; refine op_g ha rfl (g_add rfl rfl hI540) ?_; clear ha a; intro a ha; refine op_g ha rfl (g_assign rfl) ?_; clear ha a; intro a ha; refine wpList_nil ?_; replace ha := ha.sub (σ' := [(3, (.pointer (some ⟨b1, 0, none⟩))), (6, (.pointer (some ⟨b9, 0, none⟩))), (8, (.int .i64 x30)), (9, (.int .i64 x37)), (10, (.pointer (some ⟨b66, 0, none⟩))), (11, (.int .i64 (i258 + 1)))]) ⟨rfl, rfl, rfl, rfl, rfl, rfl, trivial⟩
          refine e_lq ?_; obtain rfl := Option.some.inj hF
          exact ⟨_, Nat.lt_succ_self _, x516, i258 + 1, fs522, v256, b257, ha.sub ⟨rfl, rfl, rfl, rfl, rfl, rfl, trivial⟩, hE539, hI540, hB243, z244, hB245, z246, hB534, z248, h521, z251, q529, q260, q261, q262, q263, q264, q265, q266, q267, q268, q524, q525, q526, hN439⟩
        replace hF := if_f hp485 hF; refine wp_skip ?_; refine e_blk ?_; refine e_then ?_; refine wp_region_lit ?_; refine op_g ha rfl (g_move rfl) ?_; clear ha a; intro a ha; obtain ⟨hI542, hF⟩ := ck_some hF; refine op_g ha rfl (g_add rfl rfl hI542) ?_; clear ha a; intro a ha; refine op_g ha rfl (g_assign rfl) ?_; clear ha a; intro a ha; refine wpList_nil ?_; replace ha := ha.sub (σ' := [(3, (.pointer (some ⟨b1, 0, none⟩))), (6, (.pointer (some ⟨b9, 0, none⟩))), (8, (.int .i64 x30)), (9, (.int .i64 x37)), (10, (.pointer (some ⟨b66, 0, none⟩))), (11, (.int .i64 (i258 + 1)))]) ⟨rfl, rfl, rfl, rfl, rfl, rfl, trivial⟩
        refine e_lq ?_; obtain rfl := Option.some.inj hF
        exact ⟨_, Nat.lt_succ_self _, l255, i258 + 1, fs252, v256, b257, ha.sub ⟨rfl, rfl, rfl, rfl, rfl, rfl, trivial⟩, hE272, hI542, hB243, z244, hB245, z246, hB247, z248, h250, z251, zf253, q260, q261, q262, q263, q264, q265, q266, q267, q268, q269, q270, q271, hN439⟩
      replace hF := if_f hp457 hF; refine wp_exit ?_; refine e_then_exit ?_; refine e_lq_eq ?_; obtain rfl := Option.some.inj hF
      exact ⟨l255, fs252, v256, b257, ha.sub ⟨rfl, rfl, rfl, rfl, trivial⟩, hE272, hB243, z244, hB245, z246, hB247, z248, h250, z251, zf253, q260, q261, q262, q263, q264, q265, q266, q267, q268, q269, q270, q271, (LK_inr hN439).symm⟩
  rintro a w405 ⟨l418, fs415, v419, b420, ha, hE438, hB406, z407, hB408, z409, hB410, z411, h413, z414, zf416, q421, q422, q423, q424, q425, q426, q427, q428, q429, q430, q431, q432, rfl⟩
  have hF : F_spec_Contracted_k2 a0_0 x37 l418 = some _ := hK435; clear hK435; unfold F_spec_Contracted_k2 at hF
  refine e_then ?_; refine wp_seq ?_; refine d_region [0, 1, 2, 3, 4, 5, 6] hmix ?_; refine u_g 0 rfl (by kernel_rfl) (want0 _) ha rfl (g_loadA (cs := [v419]) Try.isAgg29 Try.sizeOf29 rfl (by simp) hB410.all) ?_; clear ha a; intro a ha; refine u_g 1 rfl (by kernel_rfl) (want0 _) ha rfl (g_loadA (cs := [va0_0]) Try.isAgg29 Try.sizeOf29 rfl (by simp) hB406.all) ?_; clear ha a; intro a ha; obtain ⟨x546, hc547, hF⟩ := cal_some hF; refine u_call (.int .i64 x546) 2 rfl (by kernel_rfl) (want0 _) ha rfl rfl Try.call35 (fun w545 hx544 => W_spec_l1Size (ha0_0.ext (Ext.trans hE438 hx544)) hc547) (fun _ _ _ h => ⟨h.1.1, h.2⟩) ?_; clear ha a; intro a ha
  have hI548 : InI x546 := calls_fact (w := w405) (W_spec_l1Size (ha0_0.ext (Ext.trans hE438 (Chg.refl _ _))) hc547) (fun _ _ h => h.1.2)
  refine u_g 4 rfl (by kernel_rfl) (want0 _) ha rfl (g_move rfl) ?_; clear ha a; intro a ha
  refine u_only 3 rfl (by kernel_rfl) ?_; intro w549 hx550
  replace hB406 := hB406.ext hx550
  replace hB408 := hB408.ext hx550
  replace hB410 := hB410.ext hx550
  replace h413 := h413.ext hx550
  have hE551 := Ext.trans hE438 hx550
  obtain ⟨x552, hc553, hF⟩ := cal_some hF
  refine o_call ha rfl rfl Try.call34 (W_spec_l1All hI548 hc553) ?_; clear ha a; rintro v554 w555 ⟨b557, h558, z559, hx556⟩ a ha
  have q561 := Nq.new hB406.fpb z559
  have q562 := Nq.madeO z559 hB406.bi
  have q563 := Nq.new hB408.fpb z559
  have q564 := Nq.madeO z559 hB408.bi
  have q565 := Nq.new hB410.fpb z559
  have q566 := Nq.madeO z559 hB410.bi
  have q567 := Nq.new h413.fpb z559
  have q568 := Nq.madeO z559 h413.blt
  have q569 := Nf.old z559 (zf_nil _) h413.bnd
  replace hB406 := hB406.ext hx556
  replace hB408 := hB408.ext hx556
  replace hB410 := hB410.ext hx556
  replace h413 := h413.ext hx556
  have hE570 := Ext.trans hE551 hx556
  have q571 := Zn.upD z559 hE551
  refine wpList_nil (e_sq ?_)
  refine ⟨fun _ => hx556, ?_⟩
  refine u_only 5 rfl (by kernel_rfl) ?_; intro w572 hx573
  replace hB406 := hB406.ext hx573
  replace hB408 := hB408.ext hx573
  replace hB410 := hB410.ext hx573
  replace h413 := h413.ext hx573
  replace h558 := h558.ext hx573
  have hE574 := Ext.trans hE570 hx573
  obtain ⟨fp575, hro576, hs577⟩ := h558.roF
  obtain ⟨x578, hc579, hF⟩ := cal_some hF
  refine o_call ha rfl rfl Try.call28 (W_spec_l2Without hro576 hI42 hc579) ?_; clear ha a; rintro v580 w581 ⟨b583, h584, z585, hx582⟩ a ha
  have q587 := Nq.new hB406.fpb z585
  have q588 := Nq.madeO z585 hB406.bi
  have q589 := Nq.new hB408.fpb z585
  have q590 := Nq.madeO z585 hB408.bi
  have q591 := Nq.new hB410.fpb z585
  have q592 := Nq.madeO z585 hB410.bi
  have q593 := Nq.new h413.fpb z585
  have q594 := Nq.madeO z585 h413.blt
  have q595 := Nq.new h558.fpb z585
  have q596 := Nq.madeO z585 h558.blt
  have q597 := Nf.old z585 (zf_nil _) h413.bnd
  replace hB406 := hB406.ext hx582
  replace hB408 := hB408.ext hx582
  replace hB410 := hB410.ext hx582
  replace h413 := h413.ext hx582
  replace h558 := h558.ext hx582
  have hE598 := Ext.trans hE574 hx582
  have q599 := Zn.upD z585 hE574
  refine wpList_nil (e_sq ?_)
  refine ⟨fun _ => hx582, ?_⟩
  refine u_only 6 rfl (by kernel_rfl) ?_; intro w600 hx601
  replace hB406 := hB406.ext hx601
  replace hB408 := hB408.ext hx601
  replace hB410 := hB410.ext hx601
  replace h413 := h413.ext hx601
  replace h558 := h558.ext hx601
  replace h584 := h584.ext hx601
  have hE602 := Ext.trans hE598 hx601
  obtain ⟨fp603, hro604, hs605⟩ := h413.roF
  obtain ⟨fp606, hro607, hs608⟩ := h584.roF
  obtain ⟨x609, hc610, hF⟩ := cal_some hF
  refine o_call ha rfl rfl Try.call33 (W_spec_l2Of hro604 hro607 hc610) ?_; clear ha a; rintro v611 w612 ⟨u614, fp615, rfl, h616, pv617, hx613⟩ a ha
  have q619 := Nq.rd pv617 (Nq.append (Nq.mono q430 hs605) (Nq.mono q588 hs608)) hB406.bi
  have q620 := Nq.rd pv617 (Nq.append (Nq.mono q431 hs605) (Nq.mono q590 hs608)) hB408.bi
  have q621 := Nq.rd pv617 (Nq.append (Nq.mono q432 hs605) (Nq.mono q592 hs608)) hB410.bi
  have q622 := Nq.rd pv617 (Nq.append (Nq.mono q567 hs605) (Nq.mono q596 hs608)) h558.blt
  have q623 := (Pv.call pv617 (Pv.app (Pv.mono (Pv.own z414 zf416) hs605) (Pv.mono (Pv.own q599 (zf_nil _)) hs608)) hE602.size : Pv (fa0_0) W.heap.size fp615)
  replace hB406 := hB406.ext hx613
  replace hB408 := hB408.ext hx613
  replace hB410 := hB410.ext hx613
  replace h413 := h413.ext hx613
  replace h558 := h558.ext hx613
  replace h584 := h584.ext hx613
  have hE624 := Ext.trans hE602 hx613
  refine wpList_nil (e_sq ?_)
  refine ⟨fun _ => hx613, ?_⟩
  refine u_only 7 rfl (by kernel_rfl) ?_; intro w625 hx626
  replace hB406 := hB406.ext hx626
  replace hB408 := hB408.ext hx626
  replace hB410 := hB410.ext hx626
  replace h413 := h413.ext hx626
  replace h558 := h558.ext hx626
  replace h584 := h584.ext hx626
  replace h616 := h616.ext hx626
  have hE627 := Ext.trans hE624 hx626
  refine o_storeA (vs := [u614]) ha hB408 Try.sizeOf29 rfl rfl (by intro c hc; simp only [List.mem_cons, List.not_mem_nil, or_false] at hc; rcases hc with hc <;> subst hc <;> first | rfl | exact h616.oneC) rfl ?_; intro w628 hB629 hc630
  replace hc630 := hc630.bl
  replace hB629 : Bx w628 b9 [u614] 29 := hB629
  replace hB406 := hB406.nq hc630 q421
  replace hB410 := hB410.nq hc630 q428
  replace h413 := h413.nq hc630 q431
  replace h558 := h558.nq hc630 q564
  replace h584 := h584.nq hc630 q590
  replace h616 := h616.nq hc630 q620
  have hE631 := Ext.then hE627 hc630 (Zn.bl z409)
  refine wpList_nil (e_sq ?_)
  refine ⟨fun h => absurd h (by decide), ?_⟩
  refine u_only 8 rfl (by kernel_rfl) ?_; intro w632 hx633
  replace hB406 := hB406.ext hx633
  replace hB629 := hB629.ext hx633
  replace hB410 := hB410.ext hx633
  replace h413 := h413.ext hx633
  replace h558 := h558.ext hx633
  replace h584 := h584.ext hx633
  replace h616 := h616.ext hx633
  have hE634 := Ext.trans hE631 hx633
  refine op_g ha rfl (g_assign rfl) ?_; clear ha a; intro a ha; refine wpList_nil (e_sq ?_)
  refine ⟨fun h => absurd h (by decide), ?_⟩
  refine u_done (by kernel_rfl) ?_; intro w635 hx636
  replace hB406 := hB406.ext hx636
  replace hB629 := hB629.ext hx636
  replace hB410 := hB410.ext hx636
  replace h413 := h413.ext hx636
  replace h558 := h558.ext hx636
  replace h584 := h584.ext hx636
  replace h616 := h616.ext hx636
  have hE637 := Ext.trans hE634 hx636
  replace ha := ha.sub (σ' := [(6, (.pointer (some ⟨b9, 0, none⟩))), (7, (.bool true))]) ⟨rfl, rfl, trivial⟩; refine e_then ?_; refine wp_ret ?_; obtain rfl := Option.some.inj hF
  exact f_retC2 (cs := [u614]) ha rfl rfl Try.isAgg29 Try.sizeOf29 hB629 rfl ⟨_, _, _, _, rfl, rfl, h616, (q623), rfl, hE637⟩
end Go.Proofs.Ytadjcnllmkdgiaa
