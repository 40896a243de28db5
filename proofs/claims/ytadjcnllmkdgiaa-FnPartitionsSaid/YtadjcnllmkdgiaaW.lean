/- Walks, printed by gen.py. -/
import Derived.Test.YtadjcnllmkdgiaaF
import Derived.Test.YtadjcnllmkdgiaaW1
import Derived.Test.YtadjcnllmkdgiaaProg
import Derived.KernelRfl
set_option maxRecDepth 100000
namespace Go.Proofs.Ytadjcnllmkdgiaa
open Go Go.RowKit

set_option maxHeartbeats 2000000 in
theorem W_spec_GraphOk {W : World} {va0_0 : Value} {fa0_0 : List Nat} {a0_0 : (List (List Int))} (ha0_0 : Ro (Rp.sl 2 Rp.int) W fa0_0 va0_0 a0_0) {r : Bool} (hF : F_spec_GraphOk a0_0 = some r) :
    Calls Try.prog 22 [.agg #[va0_0]].toArray W (Ret fun u w' => u = .bool r ∧ Ext W w') := by
  refine f_enter Try.func22 rfl Try.ntmps22 rfl ?_
  intro a ha
  replace ha : Fr 64 [(0, (.agg #[va0_0]))] a := ha
  have hE : Chg [] W W := Chg.refl _ _
  unfold F_spec_GraphOk at hF
  refine wp_seq ?_; refine wp_region_lit ?_
  refine o_box ha rfl rfl rfl ?_; clear ha a; intro b1 w2 hB3 hx4 hlo5 a ha
  have q6 := Zn.one hlo5
  have q7 := Zn.upD q6 hE
  have hE8 := Ext.trans hE hx4
  refine op_g ha rfl (g_assign rfl) ?_; clear ha a; intro a ha; refine wpList_nil ?_; replace ha := ha.sub (σ' := [(1, (.pointer (some ⟨b1, 0, none⟩)))]) ⟨rfl, trivial⟩; refine e_then ?_; refine wp_seq ?_; refine wp_region_lit ?_; refine op_g ha rfl (g_loadA (cs := [va0_0]) Try.isAgg29 Try.sizeOf29 rfl (by simp) hB3.all) ?_; clear ha a; intro a ha; obtain ⟨x9, hc10, hF⟩ := cal_some hF
  refine o_call ha rfl rfl Try.call35 (W_spec_l1Size (ha0_0.ext hE8) hc10) ?_; clear ha a; rintro v11 w12 ⟨⟨rfl, hI14⟩, hx13⟩ a ha
  replace hB3 := hB3.ext hx13
  have hE15 := Ext.trans hE8 hx13
  refine op_g ha rfl (g_assign rfl) ?_; clear ha a; intro a ha; refine wpList_nil ?_; replace ha := ha.sub (σ' := [(1, (.pointer (some ⟨b1, 0, none⟩))), (3, (.int .i64 x9))]) ⟨rfl, rfl, trivial⟩; refine e_then ?_; refine wp_seq ?_; refine wp_seq ?_; refine wp_region_lit ?_; refine op_g ha rfl (g_move rfl) ?_; clear ha a; intro a ha; obtain ⟨x16, hc17, hF⟩ := cal_some hF
  refine o_call ha rfl rfl Try.call46 (W_spec_l1In hI14 (show InI 1 from by decide) (show InI 16 from by decide) hc17) ?_; clear ha a; rintro v18 w19 ⟨rfl, hx20⟩ a ha
  replace hB3 := hB3.ext hx20
  have hE21 := Ext.trans hE15 hx20
  refine op_g ha rfl (g_not rfl) ?_; clear ha a; intro a ha; refine wpList_nil ?_; replace ha := ha.sub (σ' := [(1, (.pointer (some ⟨b1, 0, none⟩))), (3, (.int .i64 x9)), (11, (.bool (!x16)))]) ⟨rfl, rfl, rfl, trivial⟩; refine e_then ?_; refine c_cond (¬ (x16 = true)) ha rfl (n_iff (Iff.rfl)) (fun hp22 => ?_) (fun hp22 => ?_)
  · replace hF := if_t hp22 hF
    refine wp_seq ?_; refine wp_region_lit ?_; refine op_g ha rfl (g_assign rfl) ?_; clear ha a; intro a ha; refine wpList_nil ?_; replace ha := ha.sub (σ' := [(2, (.bool false))]) ⟨rfl, trivial⟩; refine e_then ?_; refine wp_ret ?_; refine e_then_ret ?_; obtain rfl := Option.some.inj hF
    exact f_ret1 ha rfl rfl ⟨rfl, hE21⟩
  replace hF := if_f hp22 hF; refine wp_skip ?_; refine e_then ?_; refine wp_seq ?_; refine wp_seq ?_; refine wp_region_lit ?_; refine op_g ha rfl (g_assign rfl) ?_; clear ha a; intro a ha; refine wpList_nil ?_; replace ha := ha.sub (σ' := [(1, (.pointer (some ⟨b1, 0, none⟩))), (3, (.int .i64 x9)), (4, (.int .i64 0))]) ⟨rfl, rfl, rfl, trivial⟩; refine e_then ?_; obtain ⟨o136, ho137, hK138⟩ := bnd_some hF
  obtain ⟨n139, hn140⟩ := lp_some ho137; clear ho137
  refine c_loop (fun a w => Fr 64 [(1, (.pointer (some ⟨b1, 0, none⟩))), (3, (.int .i64 x9))] a ∧ Chg [] W w ∧ Bx w b1 [va0_0] 29 ∧ Zn W (b1 : Int) ∧ o136 = .inl ()) (fun n a w => ∃ (i80 : Int), Fr 64 [(1, (.pointer (some ⟨b1, 0, none⟩))), (3, (.int .i64 x9)), (4, (.int .i64 i80))] a ∧ Chg [] W w ∧ InI i80 ∧ Bx w b1 [va0_0] 29 ∧ Zn W (b1 : Int) ∧ lpN (fun s => F_spec_GraphOk_l1 a0_0 x9 s) n i80 = some o136) n139 ⟨0, ha.sub ⟨rfl, rfl, rfl, trivial⟩, hE21, (show InI 0 from by decide), hB3, q7, hn140⟩ ?_ ?_
  · rintro m144 a w77 ⟨i80, ha, hE82, hI81, hB78, z79, hF⟩
    cases m144 with
    | zero => exact (lpN_zero hF).elim
    | succ m144 =>
      obtain ⟨z143, hF, hN142⟩ := lpN_succ hF
      have hF : F_spec_GraphOk_l1 a0_0 x9 i80 = some z143 := hF; unfold F_spec_GraphOk_l1 at hF
      refine wp_seq ?_; refine wp_seq ?_; refine wp_region_lit ?_; (iterate 2 refine op_g ha rfl (g_move rfl) ?_; clear ha a; intro a ha); refine op_g ha rfl (g_lss rfl rfl) ?_; clear ha a; intro a ha; refine wpList_nil ?_; replace ha := ha.sub (σ' := [(1, (.pointer (some ⟨b1, 0, none⟩))), (3, (.int .i64 x9)), (4, (.int .i64 i80)), (14, (.bool (decide (i80 < x9))))]) ⟨rfl, rfl, rfl, rfl, trivial⟩; refine e_then ?_; refine c_cond (i80 < x9) ha rfl (decide_eq_true_iff) (fun hp145 => ?_) (fun hp145 => ?_)
      · replace hF := if_t hp145 hF
        refine wp_skip ?_; refine e_then ?_; refine wp_seq ?_; refine wp_block ?_; refine wp_seq ?_; refine wp_region_lit ?_; refine op_g ha rfl (g_field0 st29_0 rfl) ?_; clear ha a; intro a ha; refine op_g ha rfl (g_load Try.isAgg27 rfl (hB78.cell rfl)) ?_; clear ha a; intro a ha; refine op_g ha rfl (g_move rfl) ?_; clear ha a; intro a ha; obtain ⟨x146, g147, gx148, hF⟩ := idx_some hF
        obtain ⟨p149, cs150, f151, hf152, hpb153, hat154, hr155, hi156⟩ := ha0_0.at g147 gx148
        obtain ⟨v157, rfl, h158⟩ := hr155
        have h158 : Ro Rp.int W f151 v157 x146 := h158
        refine op_g ha rfl (hi156.gives sl27 rfl rfl) ?_; clear ha a; intro a ha; refine op_g ha rfl (g_load0 hE82 Try.isAgg35 rfl hat154.one) ?_; clear ha a; intro a ha; refine op_g ha rfl (g_move rfl) ?_; clear ha a; intro a ha; obtain ⟨x160, hc161, hF⟩ := cal_some hF
        refine o_call ha rfl rfl Try.call48 (W_spec_l1Set (h158.ext hE82) hI14 hc161) ?_; clear ha a; rintro v162 w163 ⟨rfl, hx164⟩ a ha
        replace hB78 := hB78.ext hx164
        have hE165 := Ext.trans hE82 hx164
        refine op_g ha rfl (g_not rfl) ?_; clear ha a; intro a ha; refine op_g ha rfl (g_move rfl) ?_; clear ha a; intro a ha
        by_cases hp166 : ¬ (x160 = true)
        · replace hF := if_t hp166 hF
          rw [show (!x160) = true from (n_iff (Iff.rfl)).2 hp166] at ha
          (iterate 7 refine op_unwant ha rfl (yields ha rfl rfl) rfl ?_; clear ha a; intro a ha); refine op_g ha rfl (g_pick rfl rfl) ?_; clear ha a; intro a ha; refine wpList_nil ?_; replace ha := ha.sub (σ' := [(1, (.pointer (some ⟨b1, 0, none⟩))), (3, (.int .i64 x9)), (4, (.int .i64 i80)), (33, (.bool true))]) ⟨rfl, rfl, rfl, rfl, trivial⟩; refine e_then ?_; refine c_true ha rfl ?_; refine wp_seq ?_; refine wp_region_lit ?_; refine op_g ha rfl (g_assign rfl) ?_; clear ha a; intro a ha; refine wpList_nil ?_; replace ha := ha.sub (σ' := [(2, (.bool false))]) ⟨rfl, trivial⟩; refine e_then ?_; refine wp_ret ?_
          refine e_blk_ret ?_; refine e_then_ret ?_; refine e_lq_ret ?_; refine e_then_ret ?_; obtain rfl := Option.some.inj hF
          have e167 := LK_inr hN142; subst e167
          have e168 := BK_inr hK138; subst e168
          exact f_ret1 ha rfl rfl ⟨rfl, hE165⟩
        replace hF := if_f hp166 hF
        rw [show (!x160) = false from b_false (n_iff (Iff.rfl)) hp166] at ha
        refine op_want (yields ha rfl rfl) ?_; refine op_g ha rfl (g_field0 st29_0 rfl) ?_; clear ha a; intro a ha; refine op_want (yields ha rfl rfl) ?_; refine op_g ha rfl (g_load Try.isAgg27 rfl (hB78.cell rfl)) ?_; clear ha a; intro a ha; refine op_want (yields ha rfl rfl) ?_; refine op_g ha rfl (g_move rfl) ?_; clear ha a; intro a ha; refine op_want (yields ha rfl rfl) ?_; obtain ⟨x169, g170, gx171, hF⟩ := idx_some hF
        obtain ⟨p172, cs173, f174, hf175, hpb176, hat177, hr178, hi179⟩ := ha0_0.at g170 gx171
        obtain ⟨v180, rfl, h181⟩ := hr178
        have h181 : Ro Rp.int W f174 v180 x169 := h181
        refine op_g ha rfl (hi179.gives sl27 rfl rfl) ?_; clear ha a; intro a ha; refine op_want (yields ha rfl rfl) ?_; refine op_g ha rfl (g_load0 hE165 Try.isAgg35 rfl hat177.one) ?_; clear ha a; intro a ha; refine op_want (yields ha rfl rfl) ?_; refine op_g ha rfl (g_move rfl) ?_; clear ha a; intro a ha; refine op_want (yields ha rfl rfl) ?_; obtain ⟨x183, hc184, hF⟩ := cal_some hF
        refine o_call ha rfl rfl Try.call50 (W_spec_l1Has (h181.ext hE165) hI81 hc184) ?_; clear ha a; rintro v185 w186 ⟨rfl, hx187⟩ a ha
        replace hB78 := hB78.ext hx187
        have hE188 := Ext.trans hE165 hx187
        refine op_g ha rfl (g_pick rfl rfl) ?_; clear ha a; intro a ha; refine wpList_nil ?_; replace ha := ha.sub (σ' := [(1, (.pointer (some ⟨b1, 0, none⟩))), (3, (.int .i64 x9)), (4, (.int .i64 i80)), (26, (.pointer (some ⟨b1, 0, none⟩))), (27, va0_0), (28, (.int .i64 i80)), (29, (.pointer (some p172))), (30, v180), (31, (.int .i64 i80)), (32, (.bool x183)), (33, (.bool x183))]) ⟨rfl, rfl, rfl, rfl, rfl, rfl, rfl, rfl, rfl, rfl, rfl, trivial⟩; refine e_then ?_; refine c_cond (x183 = true) ha rfl (Iff.rfl) (fun hp189 => ?_) (fun hp189 => ?_)
        · replace hF := if_t hp189 hF
          refine wp_seq ?_; refine wp_region_lit ?_; refine op_g ha rfl (g_assign rfl) ?_; clear ha a; intro a ha; refine wpList_nil ?_; replace ha := ha.sub (σ' := [(2, (.bool false))]) ⟨rfl, trivial⟩; refine e_then ?_; refine wp_ret ?_; refine e_blk_ret ?_; refine e_then_ret ?_; refine e_lq_ret ?_; refine e_then_ret ?_; obtain rfl := Option.some.inj hF
          have e190 := LK_inr hN142; subst e190
          have e191 := BK_inr hK138; subst e191
          exact f_ret1 ha rfl rfl ⟨rfl, hE188⟩
        replace hF := if_f hp189 hF; refine wp_skip ?_; refine e_blk ?_; refine e_then ?_; refine wp_region_lit ?_; refine op_g ha rfl (g_move rfl) ?_; clear ha a; intro a ha; obtain ⟨hI192, hF⟩ := ck_some hF; refine op_g ha rfl (g_add rfl rfl hI192) ?_; clear ha a; intro a ha; refine op_g ha rfl (g_assign rfl) ?_; clear ha a; intro a ha; refine wpList_nil ?_; replace ha := ha.sub (σ' := [(1, (.pointer (some ⟨b1, 0, none⟩))), (3, (.int .i64 x9)), (4, (.int .i64 (i80 + 1))), (26, (.pointer (some ⟨b1, 0, none⟩))), (27, va0_0), (28, (.int .i64 i80)), (29, (.pointer (some p172))), (30, v180), (31, (.int .i64 i80)), (32, (.bool x183))]) ⟨rfl, rfl, rfl, rfl, rfl, rfl, rfl, rfl, rfl, rfl, trivial⟩
        refine e_lq ?_; obtain rfl := Option.some.inj hF
        exact ⟨_, Nat.lt_succ_self _, i80 + 1, ha.sub ⟨rfl, rfl, rfl, trivial⟩, hE188, hI192, hB78, z79, hN142⟩
      replace hF := if_f hp145 hF; refine wp_exit ?_; refine e_then_exit ?_; refine e_lq_eq ?_; obtain rfl := Option.some.inj hF
      exact ⟨ha.sub ⟨rfl, rfl, trivial⟩, hE82, hB78, z79, (LK_inr hN142).symm⟩
  rintro a w133 ⟨ha, hE141, hB134, z135, rfl⟩
  have hF : F_spec_GraphOk_k2 a0_0 x9 = some _ := hK138; clear hK138; unfold F_spec_GraphOk_k2 at hF
  refine e_then ?_; refine wp_seq ?_; refine wp_seq ?_; refine wp_region_lit ?_; refine op_g ha rfl (g_assign rfl) ?_; clear ha a; intro a ha; refine wpList_nil ?_; refine e_then ?_; obtain ⟨o675, ho676, hK677⟩ := bnd_some hF
  obtain ⟨n678, hn679⟩ := lp_some ho676; clear ho676
  refine c_loop (fun a w => Fr 64 [] a ∧ Chg [] W w ∧ o675 = .inl ()) (fun n a w => ∃ (i436 : Int), Fr 64 [(1, (.pointer (some ⟨b1, 0, none⟩))), (3, (.int .i64 x9)), (5, (.int .i64 i436))] a ∧ Chg [] W w ∧ InI i436 ∧ Bx w b1 [va0_0] 29 ∧ Zn W (b1 : Int) ∧ lpN (fun s => F_spec_GraphOk_l3 a0_0 x9 s) n i436 = some o675) n678 ⟨0, ha.sub ⟨rfl, rfl, rfl, trivial⟩, hE141, (show InI 0 from by decide), hB134, z135, hn679⟩ ?_ ?_
  · rintro m683 a w433 ⟨i436, ha, hE438, hI437, hB434, z435, hF⟩
    cases m683 with
    | zero => exact (lpN_zero hF).elim
    | succ m683 =>
      obtain ⟨z682, hF, hN681⟩ := lpN_succ hF
      have hF : F_spec_GraphOk_l3 a0_0 x9 i436 = some z682 := hF; unfold F_spec_GraphOk_l3 at hF
      refine wp_seq ?_; refine wp_seq ?_; refine wp_region_lit ?_; (iterate 2 refine op_g ha rfl (g_move rfl) ?_; clear ha a; intro a ha); refine op_g ha rfl (g_lss rfl rfl) ?_; clear ha a; intro a ha; refine wpList_nil ?_; replace ha := ha.sub (σ' := [(1, (.pointer (some ⟨b1, 0, none⟩))), (3, (.int .i64 x9)), (5, (.int .i64 i436)), (36, (.bool (decide (i436 < x9))))]) ⟨rfl, rfl, rfl, rfl, trivial⟩; refine e_then ?_; refine c_cond (i436 < x9) ha rfl (decide_eq_true_iff) (fun hp684 => ?_) (fun hp684 => ?_)
      · replace hF := if_t hp684 hF
        refine wp_skip ?_; refine e_then ?_; refine wp_seq ?_; refine wp_block ?_; refine wp_seq ?_; refine wp_region_lit ?_; refine op_g ha rfl (g_assign rfl) ?_; clear ha a; intro a ha; refine wpList_nil ?_; replace ha := ha.sub (σ' := [(1, (.pointer (some ⟨b1, 0, none⟩))), (3, (.int .i64 x9)), (5, (.int .i64 i436)), (6, (.int .i64 0))]) ⟨rfl, rfl, rfl, rfl, trivial⟩; refine e_then ?_; obtain ⟨o838, ho839, hK840⟩ := bnd_some hF
        obtain ⟨n841, hn842⟩ := lp_some ho839; clear ho839
        refine c_loop (fun a w => Fr 64 [(1, (.pointer (some ⟨b1, 0, none⟩))), (3, (.int .i64 x9)), (5, (.int .i64 i436))] a ∧ Chg [] W w ∧ Bx w b1 [va0_0] 29 ∧ Zn W (b1 : Int) ∧ o838 = .inl ()) (fun n a w => ∃ (i762 : Int), Fr 64 [(1, (.pointer (some ⟨b1, 0, none⟩))), (3, (.int .i64 x9)), (5, (.int .i64 i436)), (6, (.int .i64 i762))] a ∧ Chg [] W w ∧ InI i762 ∧ Bx w b1 [va0_0] 29 ∧ Zn W (b1 : Int) ∧ lpN (fun s => F_spec_GraphOk_l4 a0_0 i436 s) n i762 = some o838) n841 ⟨0, ha.sub ⟨rfl, rfl, rfl, rfl, trivial⟩, hE438, (show InI 0 from by decide), hB434, z435, hn842⟩ ?_ ?_
        · rintro m846 a w759 ⟨i762, ha, hE764, hI763, hB760, z761, hF⟩
          cases m846 with
          | zero => exact (lpN_zero hF).elim
          | succ m846 =>
            obtain ⟨z845, hF, hN844⟩ := lpN_succ hF
            have hF : F_spec_GraphOk_l4 a0_0 i436 i762 = some z845 := hF; unfold F_spec_GraphOk_l4 at hF
            refine wp_seq ?_; refine wp_seq ?_; refine wp_region_lit ?_; refine op_g ha rfl (g_move rfl) ?_; clear ha a; intro a ha; refine op_g ha rfl (g_field0 st29_0 rfl) ?_; clear ha a; intro a ha; refine op_g ha rfl (g_load Try.isAgg27 rfl (hB760.cell rfl)) ?_; clear ha a; intro a ha; refine op_g ha rfl (g_move rfl) ?_; clear ha a; intro a ha; obtain ⟨x847, g848, gx849, hF⟩ := idx_some hF
            obtain ⟨p850, cs851, f852, hf853, hpb854, hat855, hr856, hi857⟩ := ha0_0.at g848 gx849
            obtain ⟨v858, rfl, h859⟩ := hr856
            have h859 : Ro Rp.int W f852 v858 x847 := h859
            refine op_g ha rfl (hi857.gives sl27 rfl rfl) ?_; clear ha a; intro a ha; refine op_g ha rfl (g_load0 hE764 Try.isAgg35 rfl hat855.one) ?_; clear ha a; intro a ha; refine op_g ha rfl (g_lenR sl35.und h859 rfl) ?_; clear ha a; intro a ha; refine op_g ha rfl (g_lss rfl rfl) ?_; clear ha a; intro a ha; refine wpList_nil ?_; replace ha := ha.sub (σ' := [(1, (.pointer (some ⟨b1, 0, none⟩))), (3, (.int .i64 x9)), (5, (.int .i64 i436)), (6, (.int .i64 i762)), (46, (.bool (decide (i762 < (x847.length : Int)))))]) ⟨rfl, rfl, rfl, rfl, rfl, trivial⟩; refine e_then ?_; refine c_cond (i762 < (x847.length : Int)) ha rfl (decide_eq_true_iff) (fun hp861 => ?_) (fun hp861 => ?_)
            · replace hF := if_t hp861 hF
              refine wp_skip ?_; refine e_then ?_; refine wp_seq ?_; refine wp_block ?_; refine wp_seq ?_; refine d_quiet hmix (by kernel_rfl) ?_; refine q_g ha rfl (g_field0 st29_0 rfl) ?_; clear ha a; intro a ha; refine q_g ha rfl (g_load Try.isAgg27 rfl (hB760.cell rfl)) ?_; clear ha a; intro a ha; refine q_g ha rfl (g_field0 st29_0 rfl) ?_; clear ha a; intro a ha; refine q_g ha rfl (g_load Try.isAgg27 rfl (hB760.cell rfl)) ?_; clear ha a; intro a ha; refine q_g ha rfl (g_move rfl) ?_; clear ha a; intro a ha; obtain ⟨x862, g863, gx864, hF⟩ := idx_some hF
              obtain ⟨p865, cs866, f867, hf868, hpb869, hat870, hr871, hi872⟩ := ha0_0.at g863 gx864
              obtain ⟨v873, rfl, h874⟩ := hr871
              have h874 : Ro Rp.int W f867 v873 x862 := h874
              refine q_g ha rfl (hi872.gives sl27 rfl rfl) ?_; clear ha a; intro a ha; refine q_g ha rfl (g_load0 hE764 Try.isAgg35 rfl hat870.one) ?_; clear ha a; intro a ha; refine q_g ha rfl (g_move rfl) ?_; clear ha a; intro a ha; obtain ⟨x876, g877, gx878, hF⟩ := idx_some hF
              obtain ⟨p879, cs880, f881, hf882, hpb883, hat884, hr885, hi886⟩ := h874.at g877 gx878
              obtain ⟨rfl, hI887, rfl⟩ := hr885
              refine q_g ha rfl (hi886.gives sl35 rfl rfl) ?_; clear ha a; intro a ha; refine q_g ha rfl (g_load0 hE764 Try.isAgg2 rfl hat884.one) ?_; clear ha a; intro a ha; obtain ⟨x888, g889, gx890, hF⟩ := idx_some hF
              obtain ⟨p891, cs892, f893, hf894, hpb895, hat896, hr897, hi898⟩ := ha0_0.at g889 gx890
              obtain ⟨v899, rfl, h900⟩ := hr897
              have h900 : Ro Rp.int W f893 v899 x888 := h900
              refine q_g ha rfl (hi898.gives sl27 rfl rfl) ?_; clear ha a; intro a ha; refine q_g ha rfl (g_load0 hE764 Try.isAgg35 rfl hat896.one) ?_; clear ha a; intro a ha; refine q_g ha rfl (g_move rfl) ?_; clear ha a; intro a ha; obtain ⟨x904, hc905, hF⟩ := cal_some hF; refine q_call (.bool x904) ha rfl rfl Try.call50 (fun w903 hx902 => W_spec_l1Has (h900.ext (Ext.trans hE764 hx902)) hI437 hc905) (fun _ _ _ h => ⟨h.1, h.2⟩) ?_; clear ha a; intro a ha; refine q_g ha rfl (g_not rfl) ?_; clear ha a; intro a ha
              refine q_nil ?_; intro w906 hx907
              replace hB760 := hB760.ext hx907
              have hE908 := Ext.trans hE764 hx907
              replace ha := ha.sub (σ' := [(1, (.pointer (some ⟨b1, 0, none⟩))), (3, (.int .i64 x9)), (5, (.int .i64 i436)), (6, (.int .i64 i762)), (63, (.bool (!x904)))]) ⟨rfl, rfl, rfl, rfl, rfl, trivial⟩; refine e_then ?_; refine c_cond (¬ (x904 = true)) ha rfl (n_iff (Iff.rfl)) (fun hp909 => ?_) (fun hp909 => ?_)
              · replace hF := if_t hp909 hF
                refine wp_seq ?_; refine wp_region_lit ?_; refine op_g ha rfl (g_assign rfl) ?_; clear ha a; intro a ha; refine wpList_nil ?_; replace ha := ha.sub (σ' := [(2, (.bool false))]) ⟨rfl, trivial⟩; refine e_then ?_; refine wp_ret ?_; refine e_blk_ret ?_; refine e_then_ret ?_; refine e_lq_ret ?_; refine e_blk_ret ?_; refine e_then_ret ?_; refine e_lq_ret ?_; refine e_then_ret ?_; obtain rfl := Option.some.inj hF
                have e910 := LK_inr hN844; subst e910
                have e911 := BK_inr hK840; subst e911
                have e912 := LK_inr hN681; subst e912
                have e913 := BK_inr hK677; subst e913
                exact f_ret1 ha rfl rfl ⟨rfl, hE908⟩
              replace hF := if_f hp909 hF; refine wp_skip ?_; refine e_blk ?_; refine e_then ?_; refine wp_region_lit ?_; refine op_g ha rfl (g_move rfl) ?_; clear ha a; intro a ha; obtain ⟨hI914, hF⟩ := ck_some hF; refine op_g ha rfl (g_add rfl rfl hI914) ?_; clear ha a; intro a ha; refine op_g ha rfl (g_assign rfl) ?_; clear ha a; intro a ha; refine wpList_nil ?_; replace ha := ha.sub (σ' := [(1, (.pointer (some ⟨b1, 0, none⟩))), (3, (.int .i64 x9)), (5, (.int .i64 i436)), (6, (.int .i64 (i762 + 1)))]) ⟨rfl, rfl, rfl, rfl, trivial⟩; refine e_lq ?_; obtain rfl := Option.some.inj hF
              exact ⟨_, Nat.lt_succ_self _, i762 + 1, ha.sub ⟨rfl, rfl, rfl, rfl, trivial⟩, hE908, hI914, hB760, z761, hN844⟩
            replace hF := if_f hp861 hF; refine wp_exit ?_; refine e_then_exit ?_; refine e_lq_eq ?_; obtain rfl := Option.some.inj hF
            exact ⟨ha.sub ⟨rfl, rfl, rfl, trivial⟩, hE764, hB760, z761, (LK_inr hN844).symm⟩
        rintro a w835 ⟨ha, hE843, hB836, z837, rfl⟩
        have hF : F_spec_GraphOk_k5 i436 = some _ := hK840; clear hK840; unfold F_spec_GraphOk_k5 at hF
        refine e_blk ?_; refine e_then ?_; refine wp_region_lit ?_; refine op_g ha rfl (g_move rfl) ?_; clear ha a; intro a ha; obtain ⟨hI916, hF⟩ := ck_some hF; refine op_g ha rfl (g_add rfl rfl hI916) ?_; clear ha a; intro a ha; refine op_g ha rfl (g_assign rfl) ?_; clear ha a; intro a ha; refine wpList_nil ?_; replace ha := ha.sub (σ' := [(1, (.pointer (some ⟨b1, 0, none⟩))), (3, (.int .i64 x9)), (5, (.int .i64 (i436 + 1)))]) ⟨rfl, rfl, rfl, trivial⟩; refine e_lq ?_; obtain rfl := Option.some.inj hF
        exact ⟨_, Nat.lt_succ_self _, i436 + 1, ha.sub ⟨rfl, rfl, rfl, trivial⟩, hE843, hI916, hB836, z837, hN681⟩
      replace hF := if_f hp684 hF; refine wp_exit ?_; refine e_then_exit ?_; refine e_lq_eq ?_; obtain rfl := Option.some.inj hF
      exact ⟨ha.sub trivial, hE438, (LK_inr hN681).symm⟩
  rintro a w674 ⟨ha, hE680, rfl⟩
  have hF : F_spec_GraphOk_k6 = some _ := hK677; clear hK677; unfold F_spec_GraphOk_k6 at hF
  refine e_then ?_; refine wp_seq ?_; refine wp_region_lit ?_; refine op_g ha rfl (g_assign rfl) ?_; clear ha a; intro a ha; refine wpList_nil ?_; refine e_then ?_; refine wp_ret ?_; obtain rfl := Option.some.inj hF
  exact f_ret1 ha rfl rfl ⟨rfl, hE680⟩
set_option maxHeartbeats 2000000 in
theorem W_spec_l26Small {W : World} {va0_0 : Value} {fa0_0 : List Nat} {a0_0 : (List (List Int))} (ha0_0 : Ro (Rp.sl 2 Rp.int) W fa0_0 va0_0 a0_0) {r : Bool} (hF : F_spec_l26Small a0_0 = some r) :
    Calls Try.prog 38 [.agg #[va0_0]].toArray W (Ret fun u w' => u = .bool r ∧ Ext W w') := by
  refine f_enter Try.func38 rfl Try.ntmps38 rfl ?_
  intro a ha
  replace ha : Fr 11 [(0, (.agg #[va0_0]))] a := ha
  have hE : Chg [] W W := Chg.refl _ _
  unfold F_spec_l26Small at hF
  refine wp_seq ?_; refine wp_region_lit ?_
  refine o_box ha rfl rfl rfl ?_; clear ha a; intro b1 w2 hB3 hx4 hlo5 a ha
  have q6 := Zn.one hlo5
  have q7 := Zn.upD q6 hE
  have hE8 := Ext.trans hE hx4
  refine op_g ha rfl (g_assign rfl) ?_; clear ha a; intro a ha; refine wpList_nil ?_; replace ha := ha.sub (σ' := [(1, (.pointer (some ⟨b1, 0, none⟩)))]) ⟨rfl, trivial⟩; refine e_then ?_; refine wp_seq ?_; refine wp_region_lit ?_; refine op_g ha rfl (g_loadA (cs := [va0_0]) Try.isAgg29 Try.sizeOf29 rfl (by simp) hB3.all) ?_; clear ha a; intro a ha; obtain ⟨x9, hc10, hF⟩ := cal_some hF
  refine o_call ha rfl rfl Try.call22 (W_spec_GraphOk (ha0_0.ext hE8) hc10) ?_; clear ha a; rintro v11 w12 ⟨rfl, hx13⟩ a ha
  replace hB3 := hB3.ext hx13
  have hE14 := Ext.trans hE8 hx13
  refine op_g ha rfl (g_move rfl) ?_; clear ha a; intro a ha
  by_cases hp15 : x9 = true
  · replace hF := if_t hp15 hF
    rw [show (x9) = true from (Iff.rfl).2 hp15] at ha
    refine op_want (yields ha rfl rfl) ?_; refine op_g ha rfl (g_field0 st29_0 rfl) ?_; clear ha a; intro a ha; refine op_want (yields ha rfl rfl) ?_; refine op_g ha rfl (g_load Try.isAgg27 rfl (hB3.cell rfl)) ?_; clear ha a; intro a ha; refine op_want (yields ha rfl rfl) ?_; refine op_g ha rfl (g_lenR sl27.und ha0_0 rfl) ?_; clear ha a; intro a ha; refine op_want (yields ha rfl rfl) ?_; refine op_g ha rfl (g_leq rfl rfl) ?_; clear ha a; intro a ha; refine op_g ha rfl (g_pick rfl rfl) ?_; clear ha a; intro a ha; refine op_g ha rfl (g_assign rfl) ?_; clear ha a; intro a ha; refine wpList_nil ?_
    replace ha := ha.sub (σ' := [(2, (.bool (decide ((a0_0.length : Int) ≤ 8))))]) ⟨rfl, trivial⟩; refine e_then ?_; refine wp_ret ?_; obtain rfl := Option.some.inj hF
    exact f_ret1 ha rfl rfl ⟨rfl, hE14⟩
  replace hF := if_f hp15 hF
  rw [show (x9) = false from b_false (Iff.rfl) hp15] at ha
  (iterate 4 refine op_unwant ha rfl (yields ha rfl rfl) rfl ?_; clear ha a; intro a ha); refine op_g ha rfl (g_pick rfl rfl) ?_; clear ha a; intro a ha; refine op_g ha rfl (g_assign rfl) ?_; clear ha a; intro a ha; refine wpList_nil ?_; replace ha := ha.sub (σ' := [(2, (.bool false))]) ⟨rfl, trivial⟩; refine e_then ?_; refine wp_ret ?_; obtain rfl := Option.some.inj hF
  exact f_ret1 ha rfl rfl ⟨rfl, hE14⟩
set_option maxHeartbeats 2000000 in
theorem W_spec_l25Bits {W : World} {va0_0 : Value} {fa0_0 : List Nat} {a0_0 : (List (List Int))} (ha0_0 : Ro (Rp.sl 2 Rp.int) W fa0_0 va0_0 a0_0) {r : (List Int)} (hF : F_spec_l25Bits a0_0 = some r) :
    Calls Try.prog 40 [.agg #[va0_0]].toArray W (Ret fun u w' => ∃ (b_u : Int), Ow Rp.int 2 true w' [] b_u u r ∧ Zn W b_u ∧ Ext W w') := by
  refine f_enter Try.func40 rfl Try.ntmps40 rfl ?_
  intro a ha
  replace ha : Fr 42 [(0, (.agg #[va0_0]))] a := ha
  have hE : Chg [] W W := Chg.refl _ _
  unfold F_spec_l25Bits at hF
  refine wp_seq ?_; refine wp_region_lit ?_
  refine o_box ha rfl rfl rfl ?_; clear ha a; intro b1 w2 hB3 hx4 hlo5 a ha
  have q6 := Zn.one hlo5
  have q7 := Zn.upD q6 hE
  have hE8 := Ext.trans hE hx4
  refine op_g ha rfl (g_assign rfl) ?_; clear ha a; intro a ha; refine wpList_nil ?_; replace ha := ha.sub (σ' := [(1, (.pointer (some ⟨b1, 0, none⟩)))]) ⟨rfl, trivial⟩; refine e_then ?_; refine wp_seq ?_; refine wp_region_lit ?_
  refine o_lit0 Rp.int ha rfl sl35 ?_; clear ha a; intro v9 w10 h11 hx12 a ha
  obtain ⟨b14, hb14⟩ : ∃ b : Int, b = w2.heap.size := ⟨_, rfl⟩; rw [← hb14] at h11
  have q15 := zn_of hb14
  have q16 := Nq.new hB3.fpb q15
  have q17 := Nq.madeO q15 hB3.bi
  have q18 := Zn.upD q15 hE8
  replace hB3 := hB3.ext hx12
  have hE19 := Ext.trans hE8 hx12
  refine op_g ha rfl (g_assign rfl) ?_; clear ha a; intro a ha; refine wpList_nil ?_; replace ha := ha.sub (σ' := [(1, (.pointer (some ⟨b1, 0, none⟩))), (3, v9)]) ⟨rfl, rfl, trivial⟩; refine e_then ?_; refine wp_seq ?_; refine wp_seq ?_; refine wp_region_lit ?_; refine op_g ha rfl (g_assign rfl) ?_; clear ha a; intro a ha; refine wpList_nil ?_; refine e_then ?_; obtain ⟨o542, ho543, hK544⟩ := bnd_some hF
  obtain ⟨n545, hn546⟩ := lp_some ho543; clear ho543
  refine c_loop (fun a w => ∃ (l539 : (List Int)) (v540 : Value) (b541 : Int), Fr 42 [(3, v540)] a ∧ Chg [] W w ∧ Ow Rp.int 2 true w [] b541 v540 l539 ∧ Zn W b541 ∧ o542 = .inl l539) (fun n a w => ∃ (l281 : (List Int)) (i284 : Int) (v282 : Value) (b283 : Int), Fr 42 [(1, (.pointer (some ⟨b1, 0, none⟩))), (3, v282), (4, (.int .i64 i284))] a ∧ Chg [] W w ∧ InI i284 ∧ Bx w b1 [va0_0] 29 ∧ Zn W (b1 : Int) ∧ Ow Rp.int 2 true w [] b283 v282 l281 ∧ Zn W b283 ∧ Nq ([b1]) b283 ∧ Nq (bl b283 ++ []) (b1 : Int) ∧ lpN (fun s => F_spec_l25Bits_l1 a0_0 s.1 s.2) n (l281, i284) = some o542) n545 ⟨([] : (List Int)), 0, v9, b14, ha.sub ⟨rfl, rfl, rfl, trivial⟩, hE19, (show InI 0 from by decide), hB3, q7, h11, q18, q16, q17, hn546⟩ ?_ ?_
  · rintro m550 a w275 ⟨l281, i284, v282, b283, ha, hE288, hI285, hB276, z277, h279, z280, q286, q287, hF⟩
    cases m550 with
    | zero => exact (lpN_zero hF).elim
    | succ m550 =>
      obtain ⟨z549, hF, hN548⟩ := lpN_succ hF
      have hF : F_spec_l25Bits_l1 a0_0 l281 i284 = some z549 := hF; unfold F_spec_l25Bits_l1 at hF
      refine wp_seq ?_; refine wp_seq ?_; refine wp_region_lit ?_; refine op_g ha rfl (g_move rfl) ?_; clear ha a; intro a ha; refine op_g ha rfl (g_field0 st29_0 rfl) ?_; clear ha a; intro a ha; refine op_g ha rfl (g_load Try.isAgg27 rfl (hB276.cell rfl)) ?_; clear ha a; intro a ha; refine op_g ha rfl (g_lenR sl27.und ha0_0 rfl) ?_; clear ha a; intro a ha; refine op_g ha rfl (g_lss rfl rfl) ?_; clear ha a; intro a ha; refine wpList_nil ?_; replace ha := ha.sub (σ' := [(1, (.pointer (some ⟨b1, 0, none⟩))), (3, v282), (4, (.int .i64 i284)), (12, (.bool (decide (i284 < (a0_0.length : Int)))))]) ⟨rfl, rfl, rfl, rfl, trivial⟩
      refine e_then ?_; refine c_cond (i284 < (a0_0.length : Int)) ha rfl (decide_eq_true_iff) (fun hp551 => ?_) (fun hp551 => ?_)
      · replace hF := if_t hp551 hF
        refine wp_skip ?_; refine e_then ?_; refine wp_seq ?_; refine wp_block ?_; refine wp_seq ?_; refine wp_region_lit ?_; refine op_g ha rfl (g_assign rfl) ?_; clear ha a; intro a ha; refine wpList_nil ?_; replace ha := ha.sub (σ' := [(1, (.pointer (some ⟨b1, 0, none⟩))), (3, v282), (4, (.int .i64 i284)), (5, (.int .i64 0))]) ⟨rfl, rfl, rfl, rfl, trivial⟩; refine e_then ?_; refine wp_seq ?_; refine wp_seq ?_; refine wp_region_lit ?_; refine op_g ha rfl (g_assign rfl) ?_; clear ha a; intro a ha; refine wpList_nil ?_; replace ha := ha.sub (σ' := [(1, (.pointer (some ⟨b1, 0, none⟩))), (3, v282), (4, (.int .i64 i284)), (5, (.int .i64 0)), (6, (.int .i64 0))]) ⟨rfl, rfl, rfl, rfl, rfl, trivial⟩
        refine e_then ?_; obtain ⟨o700, ho701, hK702⟩ := bnd_some hF
        obtain ⟨n703, hn704⟩ := lp_some ho701; clear ho701
        refine c_loop (fun a w => ∃ (i696 : Int), Fr 42 [(1, (.pointer (some ⟨b1, 0, none⟩))), (3, v282), (4, (.int .i64 i284)), (5, (.int .i64 i696))] a ∧ Chg [] W w ∧ InI i696 ∧ Bx w b1 [va0_0] 29 ∧ Zn W (b1 : Int) ∧ Ow Rp.int 2 true w [] b283 v282 l281 ∧ Zn W b283 ∧ Nq ([b1]) b283 ∧ Nq (bl b283 ++ []) (b1 : Int) ∧ o700 = .inl i696) (fun n a w => ∃ (i625 : Int) (i627 : Int), Fr 42 [(1, (.pointer (some ⟨b1, 0, none⟩))), (3, v282), (4, (.int .i64 i284)), (5, (.int .i64 i625)), (6, (.int .i64 i627))] a ∧ Chg [] W w ∧ InI i625 ∧ InI i627 ∧ Bx w b1 [va0_0] 29 ∧ Zn W (b1 : Int) ∧ Ow Rp.int 2 true w [] b283 v282 l281 ∧ Zn W b283 ∧ Nq ([b1]) b283 ∧ Nq (bl b283 ++ []) (b1 : Int) ∧ lpN (fun s => F_spec_l25Bits_l2 a0_0 i284 s.1 s.2) n (i625, i627) = some o700) n703 ⟨0, 0, ha.sub ⟨rfl, rfl, rfl, rfl, rfl, trivial⟩, hE288, (show InI 0 from by decide), (show InI 0 from by decide), hB276, z277, h279, z280, q286, q287, hn704⟩ ?_ ?_
        · rintro m708 a w619 ⟨i625, i627, ha, hE631, hI626, hI628, hB620, z621, h623, z624, q629, q630, hF⟩
          cases m708 with
          | zero => exact (lpN_zero hF).elim
          | succ m708 =>
            obtain ⟨z707, hF, hN706⟩ := lpN_succ hF
            have hF : F_spec_l25Bits_l2 a0_0 i284 i625 i627 = some z707 := hF; unfold F_spec_l25Bits_l2 at hF
            refine wp_seq ?_; refine wp_seq ?_; refine wp_region_lit ?_; refine op_g ha rfl (g_move rfl) ?_; clear ha a; intro a ha; refine op_g ha rfl (g_field0 st29_0 rfl) ?_; clear ha a; intro a ha; refine op_g ha rfl (g_load Try.isAgg27 rfl (hB620.cell rfl)) ?_; clear ha a; intro a ha; refine op_g ha rfl (g_move rfl) ?_; clear ha a; intro a ha; obtain ⟨x709, g710, gx711, hF⟩ := idx_some hF
            obtain ⟨p712, cs713, f714, hf715, hpb716, hat717, hr718, hi719⟩ := ha0_0.at g710 gx711
            obtain ⟨v720, rfl, h721⟩ := hr718
            have h721 : Ro Rp.int W f714 v720 x709 := h721
            refine op_g ha rfl (hi719.gives sl27 rfl rfl) ?_; clear ha a; intro a ha; refine op_g ha rfl (g_load0 hE631 Try.isAgg35 rfl hat717.one) ?_; clear ha a; intro a ha; refine op_g ha rfl (g_lenR sl35.und h721 rfl) ?_; clear ha a; intro a ha; refine op_g ha rfl (g_lss rfl rfl) ?_; clear ha a; intro a ha; refine wpList_nil ?_; replace ha := ha.sub (σ' := [(1, (.pointer (some ⟨b1, 0, none⟩))), (3, v282), (4, (.int .i64 i284)), (5, (.int .i64 i625)), (6, (.int .i64 i627)), (22, (.bool (decide (i627 < (x709.length : Int)))))]) ⟨rfl, rfl, rfl, rfl, rfl, rfl, trivial⟩; refine e_then ?_; refine c_cond (i627 < (x709.length : Int)) ha rfl (decide_eq_true_iff) (fun hp723 => ?_) (fun hp723 => ?_)
            · replace hF := if_t hp723 hF
              refine wp_skip ?_; refine e_then ?_; refine wp_seq ?_; refine wp_block ?_; refine wp_region_lit ?_; refine op_g ha rfl (g_move rfl) ?_; clear ha a; intro a ha; refine op_g ha rfl (g_field0 st29_0 rfl) ?_; clear ha a; intro a ha; refine op_g ha rfl (g_load Try.isAgg27 rfl (hB620.cell rfl)) ?_; clear ha a; intro a ha; refine op_g ha rfl (g_move rfl) ?_; clear ha a; intro a ha; obtain ⟨x724, g725, gx726, hF⟩ := idx_some hF
              obtain ⟨p727, cs728, f729, hf730, hpb731, hat732, hr733, hi734⟩ := ha0_0.at g725 gx726
              obtain ⟨v735, rfl, h736⟩ := hr733
              have h736 : Ro Rp.int W f729 v735 x724 := h736
              refine op_g ha rfl (hi734.gives sl27 rfl rfl) ?_; clear ha a; intro a ha; refine op_g ha rfl (g_load0 hE631 Try.isAgg35 rfl hat732.one) ?_; clear ha a; intro a ha; refine op_g ha rfl (g_move rfl) ?_; clear ha a; intro a ha; obtain ⟨x738, g739, gx740, hF⟩ := idx_some hF
              obtain ⟨p741, cs742, f743, hf744, hpb745, hat746, hr747, hi748⟩ := h736.at g739 gx740
              obtain ⟨rfl, hI749, rfl⟩ := hr747
              refine op_g ha rfl (hi748.gives sl35 rfl rfl) ?_; clear ha a; intro a ha; refine op_g ha rfl (g_load0 hE631 Try.isAgg2 rfl hat746.one) ?_; clear ha a; intro a ha; obtain ⟨h0750, hF⟩ := grd_some hF; refine op_g ha rfl (g_conv6u un2 un45 rfl hI749 h0750) ?_; clear ha a; intro a ha; obtain ⟨hI751, hF⟩ := ck_some hF; refine op_g ha rfl (g64_shl rfl rfl (inU_of hI749 h0750).1 hI751) ?_; clear ha a; intro a ha; refine op_g ha rfl (g64_or rfl rfl) ?_; clear ha a; intro a ha; refine op_g ha rfl (g_assign rfl) ?_; clear ha a; intro a ha; refine wpList_nil ?_; replace ha := ha.sub (σ' := [(1, (.pointer (some ⟨b1, 0, none⟩))), (3, v282), (4, (.int .i64 i284)), (5, (.int .i64 (i64or i625 (1 * 2 ^ (x738 : Int).toNat)))), (6, (.int .i64 i627))]) ⟨rfl, rfl, rfl, rfl, rfl, trivial⟩
              refine e_blk ?_; refine e_then ?_; refine wp_region_lit ?_; refine op_g ha rfl (g_move rfl) ?_; clear ha a; intro a ha; obtain ⟨hI753, hF⟩ := ck_some hF; refine op_g ha rfl (g_add rfl rfl hI753) ?_; clear ha a; intro a ha; refine op_g ha rfl (g_assign rfl) ?_; clear ha a; intro a ha; refine wpList_nil ?_; replace ha := ha.sub (σ' := [(1, (.pointer (some ⟨b1, 0, none⟩))), (3, v282), (4, (.int .i64 i284)), (5, (.int .i64 (i64or i625 (1 * 2 ^ (x738 : Int).toNat)))), (6, (.int .i64 (i627 + 1)))]) ⟨rfl, rfl, rfl, rfl, rfl, trivial⟩; refine e_lq ?_; obtain rfl := Option.some.inj hF
              exact ⟨_, Nat.lt_succ_self _, i64or i625 (1 * 2 ^ (x738 : Int).toNat), i627 + 1, ha.sub ⟨rfl, rfl, rfl, rfl, rfl, trivial⟩, hE631, (in_i64or _ _), hI753, hB620, z621, h623, z624, q629, q630, hN706⟩
            replace hF := if_f hp723 hF; refine wp_exit ?_; refine e_then_exit ?_; refine e_lq_eq ?_; obtain rfl := Option.some.inj hF
            exact ⟨i625, ha.sub ⟨rfl, rfl, rfl, rfl, trivial⟩, hE631, hI626, hB620, z621, h623, z624, q629, q630, (LK_inr hN706).symm⟩
        rintro a w690 ⟨i696, ha, hE705, hI697, hB691, z692, h694, z695, q698, q699, rfl⟩
        have hF : F_spec_l25Bits_k3 l281 i284 i696 = some _ := hK702; clear hK702; unfold F_spec_l25Bits_k3 at hF
        refine e_then ?_; refine wp_region_lit ?_; (iterate 2 refine op_g ha rfl (g_move rfl) ?_; clear ha a; intro a ha)
        refine o_lit1 (o := true) (y := i696) Rp.int ha rfl sl35 rfl rfl rfl ⟨rfl, hI697, rfl⟩ ?_; clear ha a; intro v755 w756 h757 hx758 a ha
        obtain ⟨b760, hb760⟩ : ∃ b : Int, b = w690.heap.size := ⟨_, rfl⟩; rw [← hb760] at h757
        have q761 := zn_of hb760
        have q762 := Nq.new hB691.fpb q761
        have q763 := Nq.madeO q761 hB691.bi
        have q764 := Nq.new h694.fpb q761
        have q765 := Nq.madeO q761 h694.blt
        have q766 := Zn.upD q761 hE705
        replace hB691 := hB691.ext hx758
        replace h694 := h694.ext hx758
        have hE767 := Ext.trans hE705 hx758
        obtain ⟨hl768, hF⟩ := app_some hF
        refine o_append ha rfl sl35 rfl rfl rfl h694 h757.src (Nq.nil _) hl768 ?_; clear ha a; intro v769 w770 b771 h772 hc773 hb774 a ha
        replace h772 : Ow Rp.int 2 true w770 [] b771 v769 _ := h772
        have q776 := Nq.appY q698 hB691.fpb hb774
        have q777 := Nq.appX q699 (Nq.nil _) hb774 hB691.bi
        have q778 := Nq.appY q765 h757.fpb hb774
        have q779 := Nq.appX q764 (Nq.nil _) hb774 h757.blt
        have q780 := Zn.appD z695 hb774 hE767
        replace hB691 := hB691.nq hc773 q698
        replace h757 := h757.nq hc773 q765
        have hE781 := Ext.then hE767 hc773 (Zn.bl z695)
        refine op_g ha rfl (g_assign rfl) ?_; clear ha a; intro a ha; refine wpList_nil ?_; replace ha := ha.sub (σ' := [(1, (.pointer (some ⟨b1, 0, none⟩))), (3, v769), (4, (.int .i64 i284))]) ⟨rfl, rfl, rfl, trivial⟩; refine e_blk ?_; refine e_then ?_; refine wp_region_lit ?_; refine op_g ha rfl (g_move rfl) ?_; clear ha a; intro a ha; obtain ⟨hI782, hF⟩ := ck_some hF; refine op_g ha rfl (g_add rfl rfl hI782) ?_; clear ha a; intro a ha; refine op_g ha rfl (g_assign rfl) ?_; clear ha a; intro a ha; refine wpList_nil ?_; replace ha := ha.sub (σ' := [(1, (.pointer (some ⟨b1, 0, none⟩))), (3, v769), (4, (.int .i64 (i284 + 1)))]) ⟨rfl, rfl, rfl, trivial⟩
        refine e_lq ?_; obtain rfl := Option.some.inj hF
        exact ⟨_, Nat.lt_succ_self _, (l281 ++ ([i696])), i284 + 1, v769, b771, ha.sub ⟨rfl, rfl, rfl, trivial⟩, hE781, hI782, hB691, z692, h772, q780, q776, q777, hN548⟩
      replace hF := if_f hp551 hF; refine wp_exit ?_; refine e_then_exit ?_; refine e_lq_eq ?_; obtain rfl := Option.some.inj hF
      exact ⟨l281, v282, b283, ha.sub ⟨rfl, trivial⟩, hE288, h279, z280, (LK_inr hN548).symm⟩
  rintro a w535 ⟨l539, v540, b541, ha, hE547, h537, z538, rfl⟩
  have hF : F_spec_l25Bits_k4 l539 = some _ := hK544; clear hK544; unfold F_spec_l25Bits_k4 at hF
  refine e_then ?_; refine wp_seq ?_; refine wp_region_lit ?_; refine op_g ha rfl (g_move rfl) ?_; clear ha a; intro a ha; refine op_g ha rfl (g_assign rfl) ?_; clear ha a; intro a ha; refine wpList_nil ?_; replace ha := ha.sub (σ' := [(2, v540)]) ⟨rfl, trivial⟩; refine e_then ?_; refine wp_ret ?_; obtain rfl := Option.some.inj hF
  exact f_ret1 ha rfl rfl ⟨_, h537, z538, hE547⟩
set_option maxHeartbeats 2000000 in
theorem W_spec_l26Ways_step {rc : (List Int) → Int → (List Int) → (List Int) → Option (List Int)} (ih : ∀ {W : World} {va0 : Value} {fa0 : List Nat} {a0 : (List Int)} (ha0 : Ro Rp.int W fa0 va0 a0) {a1 : Int} (ha1 : InI a1) {va2 : Value} {fa2 : List Nat} {a2 : (List Int)} (ha2 : Ro Rp.int W fa2 va2 a2) {va3 : Value} {ba3 : Int} {a3 : (List Int)} (ha3 : Ow Rp.int 2 true W [] ba3 va3 a3) (qa0 : Nq fa0 ba3) (qa2 : Nq fa2 ba3) {r : (List Int)} (hF : rc a0 a1 a2 a3 = some r),
    Calls Try.prog 39 [va0, .int .i64 a1, va2, va3].toArray W (Ret fun u w' => va3 = u ∧ Ow Rp.int 2 true w' [] ba3 va3 r ∧ Chg (bl ba3) W w')) {W : World} {va0 : Value} {fa0 : List Nat} {a0 : (List Int)} (ha0 : Ro Rp.int W fa0 va0 a0) {a1 : Int} (ha1 : InI a1) {va2 : Value} {fa2 : List Nat} {a2 : (List Int)} (ha2 : Ro Rp.int W fa2 va2 a2) {va3 : Value} {ba3 : Int} {a3 : (List Int)} (ha3 : Ow Rp.int 2 true W [] ba3 va3 a3) (qa0 : Nq fa0 ba3) (qa2 : Nq fa2 ba3) {r : (List Int)} (hF : F_spec_l26Ways_body rc a0 a1 a2 a3 = some r) :
    Calls Try.prog 39 [va0, .int .i64 a1, va2, va3].toArray W (Ret fun u w' => va3 = u ∧ Ow Rp.int 2 true w' [] ba3 va3 r ∧ Chg (bl ba3) W w') := by
  refine f_enter Try.func39 rfl Try.ntmps39 rfl ?_
  intro a ha
  replace ha : Fr 70 [(0, va0), (1, (.int .i64 a1)), (2, va2), (3, va3)] a := ha
  have hE : Chg (bl ba3) W W := Chg.refl _ _
  unfold F_spec_l26Ways_body at hF
  refine wp_seq ?_; refine wp_region_lit ?_; refine op_g ha rfl (g_assign rfl) ?_; clear ha a; intro a ha; refine wpList_nil ?_; replace ha := ha.sub (σ' := [(0, va0), (1, (.int .i64 a1)), (2, va2), (3, va3)]) ⟨rfl, rfl, rfl, rfl, trivial⟩; refine e_then ?_; refine wp_seq ?_; refine wp_seq ?_; refine wp_region_lit ?_; (iterate 2 refine op_g ha rfl (g_move rfl) ?_; clear ha a; intro a ha); refine op_g ha rfl (g_lenR sl35.und ha0 rfl) ?_; clear ha a; intro a ha; refine op_g ha rfl (g_eql rfl rfl) ?_; clear ha a; intro a ha; refine wpList_nil ?_; replace ha := ha.sub (σ' := [(0, va0), (1, (.int .i64 a1)), (2, va2), (3, va3), (14, (.bool (decide (a1 = (a0.length : Int)))))]) ⟨rfl, rfl, rfl, rfl, rfl, trivial⟩
  refine e_then ?_; refine c_cond (a1 = (a0.length : Int)) ha rfl (decide_eq_true_iff) (fun hp1 => ?_) (fun hp1 => ?_)
  · replace hF := if_t hp1 hF
    refine wp_seq ?_; refine wp_region_lit ?_; (iterate 2 refine op_g ha rfl (g_move rfl) ?_; clear ha a; intro a ha); refine op_g ha rfl (g_lenR sl35.und ha2 rfl) ?_; clear ha a; intro a ha; obtain ⟨x2, g3, gx4, hF⟩ := idx_some hF
    obtain ⟨p5, cs6, f7, hf8, hpb9, hat10, hr11, hi12⟩ := ha3.at g3 gx4
    obtain ⟨rfl, hI13, rfl⟩ := hr11
    refine op_g ha rfl (hi12.gives sl35 rfl rfl) ?_; clear ha a; intro a ha; refine op_g ha rfl (g_load Try.isAgg2 rfl hat10.one) ?_; clear ha a; intro a ha; obtain ⟨hI14, hF⟩ := ck_some hF; refine op_g ha rfl (g_add rfl rfl hI14) ?_; clear ha a; intro a ha; obtain ⟨x16, g17, gx18, hF⟩ := idx_some hF
    obtain ⟨p19, cs20, f21, hf22, hpb23, hat24, hr25, hi26⟩ := ha3.at g17 gx18
    obtain ⟨rfl, hI27, rfl⟩ := hr25
    refine op_g ha rfl (hi26.gives sl35 rfl rfl) ?_; clear ha a; intro a ha
    refine o_storeE (f := []) (q := x2 + 1) ha Try.sizeOf2 rfl rfl rfl ha3 hi26 ⟨rfl, hI14, rfl⟩ (Nq.nil _) ?_; intro w28 fs29 h30 hc31 hs32
    obtain rfl := Subst.nil hs32
    replace ha0 := ha0.nq hc31 qa0
    replace ha2 := ha2.nq hc31 qa2
    have hE33 := Chg.same hE hc31
    refine wpList_nil ?_; replace ha := ha.sub (σ' := [(3, va3)]) ⟨rfl, trivial⟩; refine e_then ?_; refine wp_seq ?_; refine wp_region_lit ?_; refine op_g ha rfl (g_move rfl) ?_; clear ha a; intro a ha; refine op_g ha rfl (g_assign rfl) ?_; clear ha a; intro a ha; refine wpList_nil ?_; replace ha := ha.sub (σ' := [(8, va3)]) ⟨rfl, trivial⟩; refine e_then ?_; refine wp_ret ?_; refine e_then_ret ?_; obtain rfl := Option.some.inj hF
    exact f_ret1 ha rfl rfl ⟨rfl, h30, hE33⟩
  replace hF := if_f hp1 hF; refine wp_skip ?_; refine e_then ?_; refine wp_seq ?_; refine wp_seq ?_; refine wp_region_lit ?_; refine op_g ha rfl (g_assign rfl) ?_; clear ha a; intro a ha; refine wpList_nil ?_; replace ha := ha.sub (σ' := [(0, va0), (1, (.int .i64 a1)), (2, va2), (3, va3), (9, (.int .i64 0))]) ⟨rfl, rfl, rfl, rfl, rfl, trivial⟩; refine e_then ?_; obtain ⟨o280, ho281, hK282⟩ := bnd_some hF
  obtain ⟨n283, hn284⟩ := lp_some ho281; clear ho281
  refine c_loop (fun a w => ∃ (l275 : (List Int)), Fr 70 [(0, va0), (1, (.int .i64 a1)), (2, va2), (3, va3)] a ∧ Chg (bl ba3) W w ∧ Ro Rp.int w fa0 va0 a0 ∧ Ro Rp.int w fa2 va2 a2 ∧ Ow Rp.int 2 true w [] ba3 va3 l275 ∧ Nq (fa0) ba3 ∧ Nq (fa2) ba3 ∧ o280 = .inl l275) (fun n a w => ∃ (l155 : (List Int)) (i158 : Int), Fr 70 [(0, va0), (1, (.int .i64 a1)), (2, va2), (3, va3), (9, (.int .i64 i158))] a ∧ Chg (bl ba3) W w ∧ InI i158 ∧ Ro Rp.int w fa0 va0 a0 ∧ Ro Rp.int w fa2 va2 a2 ∧ Ow Rp.int 2 true w [] ba3 va3 l155 ∧ Nq (fa0) ba3 ∧ Nq (fa2) ba3 ∧ lpN (fun s => F_spec_l26Ways_l1 a0 a1 a2 rc s.1 s.2) n (l155, i158) = some o280) n283 ⟨a3, 0, ha.sub ⟨rfl, rfl, rfl, rfl, rfl, trivial⟩, hE, (show InI 0 from by decide), ha0, ha2, ha3, qa0, qa2, hn284⟩ ?_ ?_
  · rintro m288 a w149 ⟨l155, i158, ha, hE162, hI159, h151, h153, h154, q160, q161, hF⟩
    cases m288 with
    | zero => exact (lpN_zero hF).elim
    | succ m288 =>
      obtain ⟨z287, hF, hN286⟩ := lpN_succ hF
      have hF : F_spec_l26Ways_l1 a0 a1 a2 rc l155 i158 = some z287 := hF; unfold F_spec_l26Ways_l1 at hF
      refine wp_seq ?_; refine wp_seq ?_; refine wp_region_lit ?_; (iterate 2 refine op_g ha rfl (g_move rfl) ?_; clear ha a; intro a ha); refine op_g ha rfl (g_lenR sl35.und h153 rfl) ?_; clear ha a; intro a ha; refine op_g ha rfl (g_lss rfl rfl) ?_; clear ha a; intro a ha; refine wpList_nil ?_; replace ha := ha.sub (σ' := [(0, va0), (1, (.int .i64 a1)), (2, va2), (3, va3), (9, (.int .i64 i158)), (26, (.bool (decide (i158 < (a2.length : Int)))))]) ⟨rfl, rfl, rfl, rfl, rfl, rfl, trivial⟩; refine e_then ?_; refine c_cond (i158 < (a2.length : Int)) ha rfl (decide_eq_true_iff) (fun hp289 => ?_) (fun hp289 => ?_)
      · replace hF := if_t hp289 hF
        refine wp_skip ?_; refine e_then ?_; refine wp_seq ?_; refine wp_block ?_; refine wp_seq ?_; refine d_quiet hmix (by kernel_rfl) ?_; (iterate 2 refine q_g ha rfl (g_move rfl) ?_; clear ha a; intro a ha); obtain ⟨x290, g291, gx292, hF⟩ := idx_some hF
        obtain ⟨p293, cs294, f295, hf296, hpb297, hat298, hr299, hi300⟩ := h153.at g291 gx292
        obtain ⟨rfl, hI301, rfl⟩ := hr299
        refine q_g ha rfl (hi300.gives sl35 rfl rfl) ?_; clear ha a; intro a ha; refine q_g ha rfl (g_load Try.isAgg2 rfl hat298.one) ?_; clear ha a; intro a ha; (iterate 2 refine q_g ha rfl (g_move rfl) ?_; clear ha a; intro a ha); obtain ⟨x302, g303, gx304, hF⟩ := idx_some hF
        obtain ⟨p305, cs306, f307, hf308, hpb309, hat310, hr311, hi312⟩ := h151.at g303 gx304
        obtain ⟨rfl, hI313, rfl⟩ := hr311
        refine q_g ha rfl (hi312.gives sl35 rfl rfl) ?_; clear ha a; intro a ha; refine q_g ha rfl (g_load Try.isAgg2 rfl hat310.one) ?_; clear ha a; intro a ha; refine q_g ha rfl (g64_and rfl rfl) ?_; clear ha a; intro a ha; refine q_g ha rfl (g_eql rfl rfl) ?_; clear ha a; intro a ha
        refine q_nil ?_; intro w314 hx315
        replace h151 := h151.ext hx315
        replace h153 := h153.ext hx315
        replace h154 := h154.ext hx315
        have hE316 := Chg.more hE162 hx315
        replace ha := ha.sub (σ' := [(0, va0), (1, (.int .i64 a1)), (2, va2), (3, va3), (9, (.int .i64 i158)), (38, (.bool (decide ((i64and x290 x302) = 0))))]) ⟨rfl, rfl, rfl, rfl, rfl, rfl, trivial⟩; refine e_then ?_; refine c_cond ((i64and x290 x302) = 0) ha rfl (decide_eq_true_iff) (fun hp317 => ?_) (fun hp317 => ?_)
        · replace hF := if_t hp317 hF
          refine wp_seq ?_; refine wp_region_lit ?_; refine op_g ha rfl (g_move rfl) ?_; clear ha a; intro a ha; obtain ⟨x318, hc319, hF⟩ := cal_some hF
          refine o_call ha rfl rfl Try.call54 (W_spec_l1Copy h153 hc319) ?_; clear ha a; rintro v320 w321 ⟨b323, h324, z325, hx322⟩ a ha
          have q327 := Nq.new h151.bnd z325
          have q328 := Nq.new h153.bnd z325
          have q329 := Nq.new h154.fpb z325
          have q330 := Nq.madeO z325 h154.blt
          replace h151 := h151.ext hx322
          replace h153 := h153.ext hx322
          replace h154 := h154.ext hx322
          have hE331 := Chg.more hE316 hx322
          have q332 := Zn.upD z325 hE316
          refine op_g ha rfl (g_assign rfl) ?_; clear ha a; intro a ha; refine wpList_nil ?_; replace ha := ha.sub (σ' := [(0, va0), (1, (.int .i64 a1)), (2, va2), (3, va3), (9, (.int .i64 i158)), (10, v320)]) ⟨rfl, rfl, rfl, rfl, rfl, rfl, trivial⟩; refine e_then ?_; refine wp_seq ?_; refine wp_region_lit ?_; (iterate 4 refine op_g ha rfl (g_move rfl) ?_; clear ha a; intro a ha); obtain ⟨x333, g334, gx335, hF⟩ := idx_some hF
          obtain ⟨p336, cs337, f338, hf339, hpb340, hat341, hr342, hi343⟩ := h324.at g334 gx335
          obtain ⟨rfl, hI344, rfl⟩ := hr342
          refine op_g ha rfl (hi343.gives sl35 rfl rfl) ?_; clear ha a; intro a ha; refine op_g ha rfl (g_load Try.isAgg2 rfl hat341.one) ?_; clear ha a; intro a ha; refine op_g ha rfl (g_move rfl) ?_; clear ha a; intro a ha; obtain ⟨h0345, hF⟩ := grd_some hF; refine op_g ha rfl (g_conv6u un3 un45 rfl ha1 h0345) ?_; clear ha a; intro a ha; obtain ⟨hI346, hF⟩ := ck_some hF; refine op_g ha rfl (g64_shl rfl rfl (inU_of ha1 h0345).1 hI346) ?_; clear ha a; intro a ha; refine op_g ha rfl (g64_or rfl rfl) ?_; clear ha a; intro a ha; obtain ⟨x348, g349, gx350, hF⟩ := idx_some hF
          obtain ⟨p351, cs352, f353, hf354, hpb355, hat356, hr357, hi358⟩ := h324.at g349 gx350
          obtain ⟨rfl, hI359, rfl⟩ := hr357
          refine op_g ha rfl (hi358.gives sl35 rfl rfl) ?_; clear ha a; intro a ha
          refine o_storeE (f := []) (q := i64or x333 (1 * 2 ^ (a1 : Int).toNat)) ha Try.sizeOf2 rfl rfl rfl h324 hi358 ⟨rfl, (in_i64or _ _), rfl⟩ (Nq.nil _) ?_; intro w360 fs361 h362 hc363 hs364
          obtain rfl := Subst.nil hs364
          replace h151 := h151.nq hc363 q327
          replace h153 := h153.nq hc363 q328
          replace h154 := h154.nq hc363 q329
          have hE365 := Chg.own hE331 hc363 (Zn.bl q332)
          refine wpList_nil ?_; replace ha := ha.sub (σ' := [(0, va0), (1, (.int .i64 a1)), (2, va2), (3, va3), (9, (.int .i64 i158)), (10, v320)]) ⟨rfl, rfl, rfl, rfl, rfl, rfl, trivial⟩; refine e_then ?_; refine wp_region_lit ?_; (iterate 2 refine op_g ha rfl (g_move rfl) ?_; clear ha a; intro a ha); obtain ⟨hI366, hF⟩ := ck_some hF; refine op_g ha rfl (g_add rfl rfl hI366) ?_; clear ha a; intro a ha; (iterate 2 refine op_g ha rfl (g_move rfl) ?_; clear ha a; intro a ha)
          obtain ⟨fp368, hro369, hs370⟩ := h362.roF
          obtain ⟨x371, hc372, hF⟩ := cal_some hF
          refine o_call ha rfl rfl Try.call39 (ih h151 hI366 hro369 h154 q160 (Nq.mono q330 hs370) hc372) ?_; clear ha a; rintro v373 w374 ⟨rfl, h376, hx375⟩ a ha
          replace h151 := h151.nq hx375 q160
          replace h153 := h153.nq hx375 q161
          replace h362 := h362.nq hx375 q330
          have hE377 := Chg.same hE365 hx375
          refine op_g ha rfl (g_assign rfl) ?_; clear ha a; intro a ha; refine wpList_nil ?_; replace ha := ha.sub (σ' := [(0, va0), (1, (.int .i64 a1)), (2, va2), (3, va3), (9, (.int .i64 i158))]) ⟨rfl, rfl, rfl, rfl, rfl, trivial⟩; refine e_blk ?_; refine e_then ?_; refine wp_region_lit ?_; refine op_g ha rfl (g_move rfl) ?_; clear ha a; intro a ha; obtain ⟨hI378, hF⟩ := ck_some hF; refine op_g ha rfl (g_add rfl rfl hI378) ?_; clear ha a; intro a ha; refine op_g ha rfl (g_assign rfl) ?_; clear ha a; intro a ha; refine wpList_nil ?_; replace ha := ha.sub (σ' := [(0, va0), (1, (.int .i64 a1)), (2, va2), (3, va3), (9, (.int .i64 (i158 + 1)))]) ⟨rfl, rfl, rfl, rfl, rfl, trivial⟩
          refine e_lq ?_; obtain rfl := Option.some.inj hF
          exact ⟨_, Nat.lt_succ_self _, x371, i158 + 1, ha.sub ⟨rfl, rfl, rfl, rfl, rfl, trivial⟩, hE377, hI378, h151, h153, h376, q160, q161, hN286⟩
        replace hF := if_f hp317 hF; refine wp_skip ?_; refine e_blk ?_; refine e_then ?_; refine wp_region_lit ?_; refine op_g ha rfl (g_move rfl) ?_; clear ha a; intro a ha; obtain ⟨hI380, hF⟩ := ck_some hF; refine op_g ha rfl (g_add rfl rfl hI380) ?_; clear ha a; intro a ha; refine op_g ha rfl (g_assign rfl) ?_; clear ha a; intro a ha; refine wpList_nil ?_; replace ha := ha.sub (σ' := [(0, va0), (1, (.int .i64 a1)), (2, va2), (3, va3), (9, (.int .i64 (i158 + 1)))]) ⟨rfl, rfl, rfl, rfl, rfl, trivial⟩; refine e_lq ?_; obtain rfl := Option.some.inj hF
        exact ⟨_, Nat.lt_succ_self _, l155, i158 + 1, ha.sub ⟨rfl, rfl, rfl, rfl, rfl, trivial⟩, hE316, hI380, h151, h153, h154, q160, q161, hN286⟩
      replace hF := if_f hp289 hF; refine wp_exit ?_; refine e_then_exit ?_; refine e_lq_eq ?_; obtain rfl := Option.some.inj hF
      exact ⟨l155, ha.sub ⟨rfl, rfl, rfl, rfl, trivial⟩, hE162, h151, h153, h154, q160, q161, (LK_inr hN286).symm⟩
  rintro a w269 ⟨l275, ha, hE285, h271, h273, h274, q278, q279, rfl⟩
  have hF : F_spec_l26Ways_k2 a0 a1 a2 rc l275 = some _ := hK282; clear hK282; unfold F_spec_l26Ways_k2 at hF
  refine e_then ?_; refine wp_seq ?_; refine wp_region_lit ?_; (iterate 2 refine op_g ha rfl (g_move rfl) ?_; clear ha a; intro a ha); obtain ⟨hI382, hF⟩ := ck_some hF; refine op_g ha rfl (g_add rfl rfl hI382) ?_; clear ha a; intro a ha; refine op_g ha rfl (g_move rfl) ?_; clear ha a; intro a ha; obtain ⟨x384, hc385, hF⟩ := cal_some hF
  refine o_call ha rfl rfl Try.call54 (W_spec_l1Copy h273 hc385) ?_; clear ha a; rintro v386 w387 ⟨b389, h390, z391, hx388⟩ a ha
  have q393 := Nq.new h271.bnd z391
  have q394 := Nq.new h273.bnd z391
  have q395 := Nq.new h274.fpb z391
  have q396 := Nq.madeO z391 h274.blt
  replace h271 := h271.ext hx388
  replace h273 := h273.ext hx388
  replace h274 := h274.ext hx388
  have hE397 := Chg.more hE285 hx388
  have q398 := Zn.upD z391 hE285
  refine op_g ha rfl (g_move rfl) ?_; clear ha a; intro a ha; obtain ⟨h0399, hF⟩ := grd_some hF; refine op_g ha rfl (g_conv6u un3 un45 rfl ha1 h0399) ?_; clear ha a; intro a ha; obtain ⟨hI400, hF⟩ := ck_some hF; refine op_g ha rfl (g64_shl rfl rfl (inU_of ha1 h0399).1 hI400) ?_; clear ha a; intro a ha
  refine o_lit1 (o := true) (y := 1 * 2 ^ (a1 : Int).toNat) Rp.int ha rfl sl35 rfl rfl rfl ⟨rfl, hI400, rfl⟩ ?_; clear ha a; intro v402 w403 h404 hx405 a ha
  obtain ⟨b407, hb407⟩ : ∃ b : Int, b = w387.heap.size := ⟨_, rfl⟩; rw [← hb407] at h404
  have q408 := zn_of hb407
  have q409 := Nq.new h271.bnd q408
  have q410 := Nq.new h273.bnd q408
  have q411 := Nq.new h274.fpb q408
  have q412 := Nq.madeO q408 h274.blt
  have q413 := Nq.new h390.fpb q408
  have q414 := Nq.madeO q408 h390.blt
  have q415 := Zn.upD q408 hE397
  replace h271 := h271.ext hx405
  replace h273 := h273.ext hx405
  replace h274 := h274.ext hx405
  replace h390 := h390.ext hx405
  have hE416 := Chg.more hE397 hx405
  obtain ⟨hl417, hF⟩ := app_some hF
  refine o_append ha rfl sl35 rfl rfl rfl h390 h404.src (Nq.nil _) hl417 ?_; clear ha a; intro v418 w419 b420 h421 hc422 hb423 a ha
  replace h421 : Ow Rp.int 2 true w419 [] b420 v418 _ := h421
  have q425 := Nq.appY q393 h271.bnd hb423
  have q426 := Nq.appY q394 h273.bnd hb423
  have q427 := Nq.appY q395 h274.fpb hb423
  have q428 := Nq.appX q396 (Nq.nil _) hb423 h274.blt
  have q429 := Nq.appY q414 h404.fpb hb423
  have q430 := Nq.appX q413 (Nq.nil _) hb423 h404.blt
  have q431 := Zn.appD q398 hb423 hE416
  replace h271 := h271.nq hc422 q393
  replace h273 := h273.nq hc422 q394
  replace h274 := h274.nq hc422 q395
  replace h404 := h404.nq hc422 q414
  have hE432 := Chg.own hE416 hc422 (Zn.bl q398)
  refine op_g ha rfl (g_move rfl) ?_; clear ha a; intro a ha
  obtain ⟨fp433, hro434, hs435⟩ := h421.roF
  obtain ⟨x436, hc437, hF⟩ := cal_some hF
  refine o_call ha rfl rfl Try.call39 (ih h271 hI382 hro434 h274 q278 (Nq.mono q428 hs435) hc437) ?_; clear ha a; rintro v438 w439 ⟨rfl, h441, hx440⟩ a ha
  replace h271 := h271.nq hx440 q278
  replace h273 := h273.nq hx440 q279
  replace h404 := h404.nq hx440 q412
  replace h421 := h421.nq hx440 q428
  have hE442 := Chg.same hE432 hx440
  refine op_g ha rfl (g_assign rfl) ?_; clear ha a; intro a ha; refine wpList_nil ?_; replace ha := ha.sub (σ' := [(8, va3)]) ⟨rfl, trivial⟩; refine e_then ?_; refine wp_ret ?_; obtain rfl := Option.some.inj hF
  exact f_ret1 ha rfl rfl ⟨rfl, h441, hE442⟩
theorem W_spec_l26Ways_n (n : Nat) : ∀ {W : World} {va0 : Value} {fa0 : List Nat} {a0 : (List Int)} (ha0 : Ro Rp.int W fa0 va0 a0) {a1 : Int} (ha1 : InI a1) {va2 : Value} {fa2 : List Nat} {a2 : (List Int)} (ha2 : Ro Rp.int W fa2 va2 a2) {va3 : Value} {ba3 : Int} {a3 : (List Int)} (ha3 : Ow Rp.int 2 true W [] ba3 va3 a3) (qa0 : Nq fa0 ba3) (qa2 : Nq fa2 ba3) {r : (List Int)} (hF : itN (fun (rc : ((List Int) × Int × (List Int) × (List Int)) → Option (List Int)) a => F_spec_l26Ways_body (fun z0 z1 z2 z3 => rc (z0, z1, z2, z3)) a.1 a.2.1 a.2.2.1 a.2.2.2) n (a0, a1, a2, a3) = some r),
    Calls Try.prog 39 [va0, .int .i64 a1, va2, va3].toArray W (Ret fun u w' => va3 = u ∧ Ow Rp.int 2 true w' [] ba3 va3 r ∧ Chg (bl ba3) W w') := by
  induction n with
  | zero => intro W va0 fa0 a0 ha0 a1 ha1 va2 fa2 a2 ha2 va3 ba3 a3 ha3 qa0 qa2 r hF; cases hF
  | succ n ih => intro W va0 fa0 a0 ha0 a1 ha1 va2 fa2 a2 ha2 va3 ba3 a3 ha3 qa0 qa2 r hF; exact W_spec_l26Ways_step (rc := fun z0 z1 z2 z3 => itN (fun (rc : ((List Int) × Int × (List Int) × (List Int)) → Option (List Int)) a => F_spec_l26Ways_body (fun z0 z1 z2 z3 => rc (z0, z1, z2, z3)) a.1 a.2.1 a.2.2.1 a.2.2.2) n (z0, z1, z2, z3)) @ih ha0 ha1 ha2 ha3 qa0 qa2 hF
theorem W_spec_l26Ways {W : World} {va0 : Value} {fa0 : List Nat} {a0 : (List Int)} (ha0 : Ro Rp.int W fa0 va0 a0) {a1 : Int} (ha1 : InI a1) {va2 : Value} {fa2 : List Nat} {a2 : (List Int)} (ha2 : Ro Rp.int W fa2 va2 a2) {va3 : Value} {ba3 : Int} {a3 : (List Int)} (ha3 : Ow Rp.int 2 true W [] ba3 va3 a3) (qa0 : Nq fa0 ba3) (qa2 : Nq fa2 ba3) {r : (List Int)} (hF : F_spec_l26Ways a0 a1 a2 a3 = some r) :
    Calls Try.prog 39 [va0, .int .i64 a1, va2, va3].toArray W (Ret fun u w' => va3 = u ∧ Ow Rp.int 2 true w' [] ba3 va3 r ∧ Chg (bl ba3) W w') := by
  obtain ⟨n, hn⟩ := fixO_some hF
  exact W_spec_l26Ways_n n ha0 ha1 ha2 ha3 qa0 qa2 hn
set_option maxHeartbeats 2000000 in
theorem W_spec_PartitionsBy {W : World} {va0_0 : Value} {fa0_0 : List Nat} {a0_0 : (List (List Int))} (ha0_0 : Ro (Rp.sl 2 Rp.int) W fa0_0 va0_0 a0_0) {r : (List Int)} (hF : F_spec_PartitionsBy a0_0 = some r) :
    Calls Try.prog 16 [.agg #[va0_0]].toArray W (Ret fun u w' => ∃ (b_u : Int), Ow Rp.int 2 true w' [] b_u u r ∧ Zn W b_u ∧ Ext W w') := by
  refine f_enter Try.func16 rfl Try.ntmps16 rfl ?_
  intro a ha
  replace ha : Fr 16 [(0, (.agg #[va0_0]))] a := ha
  have hE : Chg [] W W := Chg.refl _ _
  unfold F_spec_PartitionsBy at hF
  refine wp_seq ?_; refine wp_region_lit ?_
  refine o_box ha rfl rfl rfl ?_; clear ha a; intro b1 w2 hB3 hx4 hlo5 a ha
  have q6 := Zn.one hlo5
  have q7 := Zn.upD q6 hE
  have hE8 := Ext.trans hE hx4
  refine op_g ha rfl (g_assign rfl) ?_; clear ha a; intro a ha; refine wpList_nil ?_; replace ha := ha.sub (σ' := [(1, (.pointer (some ⟨b1, 0, none⟩)))]) ⟨rfl, trivial⟩; refine e_then ?_; refine wp_seq ?_; refine wp_seq ?_; refine wp_region_lit ?_; refine op_g ha rfl (g_loadA (cs := [va0_0]) Try.isAgg29 Try.sizeOf29 rfl (by simp) hB3.all) ?_; clear ha a; intro a ha; obtain ⟨x9, hc10, hF⟩ := cal_some hF
  refine o_call ha rfl rfl Try.call38 (W_spec_l26Small (ha0_0.ext hE8) hc10) ?_; clear ha a; rintro v11 w12 ⟨rfl, hx13⟩ a ha
  replace hB3 := hB3.ext hx13
  have hE14 := Ext.trans hE8 hx13
  refine op_g ha rfl (g_not rfl) ?_; clear ha a; intro a ha; refine wpList_nil ?_; replace ha := ha.sub (σ' := [(1, (.pointer (some ⟨b1, 0, none⟩))), (5, (.bool (!x9)))]) ⟨rfl, rfl, trivial⟩; refine e_then ?_; refine c_cond (¬ (x9 = true)) ha rfl (n_iff (Iff.rfl)) (fun hp15 => ?_) (fun hp15 => ?_)
  · replace hF := if_t hp15 hF
    refine wp_seq ?_; refine wp_region_lit ?_
    refine o_lit0 Rp.int ha rfl sl35 ?_; clear ha a; intro v16 w17 h18 hx19 a ha
    obtain ⟨b21, hb21⟩ : ∃ b : Int, b = w12.heap.size := ⟨_, rfl⟩; rw [← hb21] at h18
    have q22 := zn_of hb21
    have q23 := Nq.new hB3.fpb q22
    have q24 := Nq.madeO q22 hB3.bi
    have q25 := Zn.upD q22 hE14
    replace hB3 := hB3.ext hx19
    have hE26 := Ext.trans hE14 hx19
    refine op_g ha rfl (g_assign rfl) ?_; clear ha a; intro a ha; refine wpList_nil ?_; replace ha := ha.sub (σ' := [(2, v16)]) ⟨rfl, trivial⟩; refine e_then ?_; refine wp_ret ?_; refine e_then_ret ?_; obtain rfl := Option.some.inj hF
    exact f_ret1 ha rfl rfl ⟨_, h18, q25, hE26⟩
  replace hF := if_f hp15 hF; refine wp_skip ?_; refine e_then ?_; refine wp_seq ?_; refine d_region [0, 1, 2, 3, 4, 5, 6, 7] hmix ?_; refine u_g 0 rfl (by kernel_rfl) (want0 _) ha rfl (g_loadA (cs := [va0_0]) Try.isAgg29 Try.sizeOf29 rfl (by simp) hB3.all) ?_; clear ha a; intro a ha; refine u_g 3 rfl (by kernel_rfl) (want0 _) ha rfl (g_field0 st29_0 rfl) ?_; clear ha a; intro a ha; refine u_g 4 rfl (by kernel_rfl) (want0 _) ha rfl (g_load Try.isAgg27 rfl (hB3.cell rfl)) ?_; clear ha a; intro a ha; refine u_g 5 rfl (by kernel_rfl) (want0 _) ha rfl (g_lenR sl27.und ha0_0 rfl) ?_; clear ha a; intro a ha
  obtain ⟨hI27, hF⟩ := ck_some hF; refine u_g 6 rfl (by kernel_rfl) (want0 _) ha rfl (g_add rfl rfl hI27) ?_; clear ha a; intro a ha; obtain ⟨xqr1o1_1, hcqr1o1_1, hF⟩ := cal_some hF; obtain ⟨gqr1o7_1, gqr1o7_1b, hF⟩ := mkS_some hF; obtain ⟨xqr1o8_1, hcqr1o8_1, hF⟩ := cal_some hF; refine u_many [1, 2, 7] (by kernel_rfl) rfl fun wqr1_1 hxqr1_1 => ⟨⟨_, rfl, ?_⟩, ⟨_, rfl, ?_⟩, ⟨_, rfl, ?_⟩, trivial⟩
  · skip
    replace hB3 := hB3.ext hxqr1_1
    have hEqr1o1_1 := Ext.trans hE14 hxqr1_1
    refine o_call ha rfl rfl Try.call40 (W_spec_l25Bits (ha0_0.ext hEqr1o1_1) hcqr1o1_1) ?_; clear ha a; rintro vqr1o1_1 wqr1o1_1 ⟨bqr1o1_1, hqr1o1_1, zqr1o1_1, hxqr1o1_1⟩ a ha
    have qqr1o1_1 := Nq.new hB3.fpb zqr1o1_1
    have qqr1o1_2 := Nq.madeO zqr1o1_1 hB3.bi
    replace hB3 := hB3.ext hxqr1o1_1
    have hEqr1o1_2 := Ext.trans hEqr1o1_1 hxqr1o1_1
    have qqr1o1_3 := Zn.upD zqr1o1_1 hEqr1o1_1
    refine wpList_nil (e_sq ?_)
    refine ⟨fun _ => hxqr1o1_1, ?_⟩
    refine u_many [2, 7] (by kernel_rfl) rfl fun wqr1o1_2 hxqr1o1_2 => ⟨⟨_, rfl, ?_⟩, ⟨_, rfl, ?_⟩, trivial⟩
    · skip
      replace hB3 := hB3.ext hxqr1o1_2
      replace hqr1o1_1 := hqr1o1_1.ext hxqr1o1_2
      have hEqr1o2_1 := Ext.trans hEqr1o1_2 hxqr1o1_2
      refine o_lit0 Rp.int ha rfl sl35 ?_; clear ha a; intro vqr1o2_1 wqr1o2_1 hqr1o2_1 hxqr1o2_1 a ha
      obtain ⟨bqr1o2_1, hbqr1o2_1⟩ : ∃ b : Int, b = wqr1o1_2.heap.size := ⟨_, rfl⟩; rw [← hbqr1o2_1] at hqr1o2_1
      have qqr1o2_1 := zn_of hbqr1o2_1
      have qqr1o2_2 := Nq.new hB3.fpb qqr1o2_1
      have qqr1o2_3 := Nq.madeO qqr1o2_1 hB3.bi
      have qqr1o2_4 := Nq.new hqr1o1_1.fpb qqr1o2_1
      have qqr1o2_5 := Nq.madeO qqr1o2_1 hqr1o1_1.blt
      have qqr1o2_6 := Zn.upD qqr1o2_1 hEqr1o2_1
      replace hB3 := hB3.ext hxqr1o2_1
      replace hqr1o1_1 := hqr1o1_1.ext hxqr1o2_1
      have hEqr1o2_2 := Ext.trans hEqr1o2_1 hxqr1o2_1
      refine wpList_nil (e_sq ?_)
      refine ⟨fun _ => hxqr1o2_1, ?_⟩
      refine u_only 7 rfl (by kernel_rfl) ?_; intro wqr1o7_1 hxqr1o7_1
      replace hB3 := hB3.ext hxqr1o7_1
      replace hqr1o1_1 := hqr1o1_1.ext hxqr1o7_1
      replace hqr1o2_1 := hqr1o2_1.ext hxqr1o7_1
      have hEqr1o7_1 := Ext.trans hEqr1o2_2 hxqr1o7_1
      refine o_make (z0 := (0 : Int)) Rp.int ha rfl sl35 rfl (fun w => ⟨rfl, by decide, rfl⟩) rfl gqr1o7_1 gqr1o7_1b ?_; clear ha a; intro vqr1o7_1 wqr1o7_2 hqr1o7_1 hxqr1o7_2 a ha
      obtain ⟨bqr1o7_1, hbqr1o7_1⟩ : ∃ b : Int, b = wqr1o7_1.heap.size := ⟨_, rfl⟩; rw [← hbqr1o7_1] at hqr1o7_1
      have qqr1o7_1 := zn_of hbqr1o7_1
      have qqr1o7_2 := Nq.new hB3.fpb qqr1o7_1
      have qqr1o7_3 := Nq.madeO qqr1o7_1 hB3.bi
      have qqr1o7_4 := Nq.new hqr1o1_1.fpb qqr1o7_1
      have qqr1o7_5 := Nq.madeO qqr1o7_1 hqr1o1_1.blt
      have qqr1o7_6 := Nq.new hqr1o2_1.fpb qqr1o7_1
      have qqr1o7_7 := Nq.madeO qqr1o7_1 hqr1o2_1.blt
      have qqr1o7_8 := Zn.upD qqr1o7_1 hEqr1o7_1
      replace hB3 := hB3.ext hxqr1o7_2
      replace hqr1o1_1 := hqr1o1_1.ext hxqr1o7_2
      replace hqr1o2_1 := hqr1o2_1.ext hxqr1o7_2
      have hEqr1o7_2 := Ext.trans hEqr1o7_1 hxqr1o7_2
      refine wpList_nil (e_sq ?_)
      refine ⟨fun _ => hxqr1o7_2, ?_⟩
      refine u_only 8 rfl (by kernel_rfl) ?_; intro wqr1o8_1 hxqr1o8_1
      replace hB3 := hB3.ext hxqr1o8_1
      replace hqr1o1_1 := hqr1o1_1.ext hxqr1o8_1
      replace hqr1o2_1 := hqr1o2_1.ext hxqr1o8_1
      replace hqr1o7_1 := hqr1o7_1.ext hxqr1o8_1
      have hEqr1o8_1 := Ext.trans hEqr1o7_2 hxqr1o8_1
      obtain ⟨fpqr1o8_1, hroqr1o8_1, hsqr1o8_1⟩ := hqr1o1_1.roF
      obtain ⟨fpqr1o8_2, hroqr1o8_2, hsqr1o8_2⟩ := hqr1o2_1.roF
      refine o_call ha rfl rfl Try.call39 (W_spec_l26Ways hroqr1o8_1 (show InI 0 from by decide) hroqr1o8_2 hqr1o7_1 (Nq.mono qqr1o7_4 hsqr1o8_1) (Nq.mono qqr1o7_6 hsqr1o8_2) hcqr1o8_1) ?_; clear ha a; rintro vqr1o8_1 wqr1o8_2 ⟨rfl, hqr1o8_1, hxqr1o8_2⟩ a ha
      replace hB3 := hB3.nq hxqr1o8_2 qqr1o7_2
      replace hqr1o1_1 := hqr1o1_1.nq hxqr1o8_2 qqr1o7_4
      replace hqr1o2_1 := hqr1o2_1.nq hxqr1o8_2 qqr1o7_6
      have hEqr1o8_2 := Ext.then hEqr1o8_1 hxqr1o8_2 (Zn.bl qqr1o7_8)
      refine wpList_nil (e_sq ?_)
      refine ⟨fun h => absurd h (by decide), ?_⟩
      refine u_only 9 rfl (by kernel_rfl) ?_; intro wqr1o9_1 hxqr1o9_1
      replace hB3 := hB3.ext hxqr1o9_1
      replace hqr1o1_1 := hqr1o1_1.ext hxqr1o9_1
      replace hqr1o2_1 := hqr1o2_1.ext hxqr1o9_1
      replace hqr1o8_1 := hqr1o8_1.ext hxqr1o9_1
      have hEqr1o9_1 := Ext.trans hEqr1o8_2 hxqr1o9_1
      refine op_g ha rfl (g_assign rfl) ?_; clear ha a; intro a ha; refine wpList_nil (e_sq ?_)
      refine ⟨fun h => absurd h (by decide), ?_⟩
      refine u_done (by kernel_rfl) ?_; intro w29 hx30
      replace hB3 := hB3.ext hx30
      replace hqr1o1_1 := hqr1o1_1.ext hx30
      replace hqr1o2_1 := hqr1o2_1.ext hx30
      replace hqr1o8_1 := hqr1o8_1.ext hx30
      have hE31 := Ext.trans hEqr1o9_1 hx30
      replace ha := ha.sub (σ' := [(2, vqr1o7_1)]) ⟨rfl, trivial⟩; refine e_then ?_; refine wp_ret ?_; obtain rfl := Option.some.inj hF
      exact f_ret1 ha rfl rfl ⟨_, hqr1o8_1, qqr1o7_8, hE31⟩
    skip
    replace hB3 := hB3.ext hxqr1o1_2
    replace hqr1o1_1 := hqr1o1_1.ext hxqr1o1_2
    have hEqr1o7_1 := Ext.trans hEqr1o1_2 hxqr1o1_2
    refine o_make (z0 := (0 : Int)) Rp.int ha rfl sl35 rfl (fun w => ⟨rfl, by decide, rfl⟩) rfl gqr1o7_1 gqr1o7_1b ?_; clear ha a; intro vqr1o7_1 wqr1o7_1 hqr1o7_1 hxqr1o7_1 a ha
    obtain ⟨bqr1o7_1, hbqr1o7_1⟩ : ∃ b : Int, b = wqr1o1_2.heap.size := ⟨_, rfl⟩; rw [← hbqr1o7_1] at hqr1o7_1
    have qqr1o7_1 := zn_of hbqr1o7_1
    have qqr1o7_2 := Nq.new hB3.fpb qqr1o7_1
    have qqr1o7_3 := Nq.madeO qqr1o7_1 hB3.bi
    have qqr1o7_4 := Nq.new hqr1o1_1.fpb qqr1o7_1
    have qqr1o7_5 := Nq.madeO qqr1o7_1 hqr1o1_1.blt
    have qqr1o7_6 := Zn.upD qqr1o7_1 hEqr1o7_1
    replace hB3 := hB3.ext hxqr1o7_1
    replace hqr1o1_1 := hqr1o1_1.ext hxqr1o7_1
    have hEqr1o7_2 := Ext.trans hEqr1o7_1 hxqr1o7_1
    refine wpList_nil (e_sq ?_)
    refine ⟨fun _ => hxqr1o7_1, ?_⟩
    refine u_only 2 rfl (by kernel_rfl) ?_; intro wqr1o2_1 hxqr1o2_1
    replace hB3 := hB3.ext hxqr1o2_1
    replace hqr1o1_1 := hqr1o1_1.ext hxqr1o2_1
    replace hqr1o7_1 := hqr1o7_1.ext hxqr1o2_1
    have hEqr1o2_1 := Ext.trans hEqr1o7_2 hxqr1o2_1
    refine o_lit0 Rp.int ha rfl sl35 ?_; clear ha a; intro vqr1o2_1 wqr1o2_2 hqr1o2_1 hxqr1o2_2 a ha
    obtain ⟨bqr1o2_1, hbqr1o2_1⟩ : ∃ b : Int, b = wqr1o2_1.heap.size := ⟨_, rfl⟩; rw [← hbqr1o2_1] at hqr1o2_1
    have qqr1o2_1 := zn_of hbqr1o2_1
    have qqr1o2_2 := Nq.new hB3.fpb qqr1o2_1
    have qqr1o2_3 := Nq.madeO qqr1o2_1 hB3.bi
    have qqr1o2_4 := Nq.new hqr1o1_1.fpb qqr1o2_1
    have qqr1o2_5 := Nq.madeO qqr1o2_1 hqr1o1_1.blt
    have qqr1o2_6 := Nq.new hqr1o7_1.fpb qqr1o2_1
    have qqr1o2_7 := Nq.madeO qqr1o2_1 hqr1o7_1.blt
    have qqr1o2_8 := Zn.upD qqr1o2_1 hEqr1o2_1
    replace hB3 := hB3.ext hxqr1o2_2
    replace hqr1o1_1 := hqr1o1_1.ext hxqr1o2_2
    replace hqr1o7_1 := hqr1o7_1.ext hxqr1o2_2
    have hEqr1o2_2 := Ext.trans hEqr1o2_1 hxqr1o2_2
    refine wpList_nil (e_sq ?_)
    refine ⟨fun _ => hxqr1o2_2, ?_⟩
    refine u_only 8 rfl (by kernel_rfl) ?_; intro wqr1o8_1 hxqr1o8_1
    replace hB3 := hB3.ext hxqr1o8_1
    replace hqr1o1_1 := hqr1o1_1.ext hxqr1o8_1
    replace hqr1o7_1 := hqr1o7_1.ext hxqr1o8_1
    replace hqr1o2_1 := hqr1o2_1.ext hxqr1o8_1
    have hEqr1o8_1 := Ext.trans hEqr1o2_2 hxqr1o8_1
    obtain ⟨fpqr1o8_1, hroqr1o8_1, hsqr1o8_1⟩ := hqr1o1_1.roF
    obtain ⟨fpqr1o8_2, hroqr1o8_2, hsqr1o8_2⟩ := hqr1o2_1.roF
    refine o_call ha rfl rfl Try.call39 (W_spec_l26Ways hroqr1o8_1 (show InI 0 from by decide) hroqr1o8_2 hqr1o7_1 (Nq.mono qqr1o7_4 hsqr1o8_1) (Nq.mono qqr1o2_7 hsqr1o8_2) hcqr1o8_1) ?_; clear ha a; rintro vqr1o8_1 wqr1o8_2 ⟨rfl, hqr1o8_1, hxqr1o8_2⟩ a ha
    replace hB3 := hB3.nq hxqr1o8_2 qqr1o7_2
    replace hqr1o1_1 := hqr1o1_1.nq hxqr1o8_2 qqr1o7_4
    replace hqr1o2_1 := hqr1o2_1.nq hxqr1o8_2 qqr1o2_7
    have hEqr1o8_2 := Ext.then hEqr1o8_1 hxqr1o8_2 (Zn.bl qqr1o7_6)
    refine wpList_nil (e_sq ?_)
    refine ⟨fun h => absurd h (by decide), ?_⟩
    refine u_only 9 rfl (by kernel_rfl) ?_; intro wqr1o9_1 hxqr1o9_1
    replace hB3 := hB3.ext hxqr1o9_1
    replace hqr1o1_1 := hqr1o1_1.ext hxqr1o9_1
    replace hqr1o8_1 := hqr1o8_1.ext hxqr1o9_1
    replace hqr1o2_1 := hqr1o2_1.ext hxqr1o9_1
    have hEqr1o9_1 := Ext.trans hEqr1o8_2 hxqr1o9_1
    refine op_g ha rfl (g_assign rfl) ?_; clear ha a; intro a ha; refine wpList_nil (e_sq ?_)
    refine ⟨fun h => absurd h (by decide), ?_⟩
    refine u_done (by kernel_rfl) ?_; intro w29 hx30
    replace hB3 := hB3.ext hx30
    replace hqr1o1_1 := hqr1o1_1.ext hx30
    replace hqr1o8_1 := hqr1o8_1.ext hx30
    replace hqr1o2_1 := hqr1o2_1.ext hx30
    have hE31 := Ext.trans hEqr1o9_1 hx30
    replace ha := ha.sub (σ' := [(2, vqr1o7_1)]) ⟨rfl, trivial⟩; refine e_then ?_; refine wp_ret ?_; obtain rfl := Option.some.inj hF
    exact f_ret1 ha rfl rfl ⟨_, hqr1o8_1, qqr1o7_6, hE31⟩
  · skip
    replace hB3 := hB3.ext hxqr1_1
    have hEqr1o2_1 := Ext.trans hE14 hxqr1_1
    refine o_lit0 Rp.int ha rfl sl35 ?_; clear ha a; intro vqr1o2_1 wqr1o2_1 hqr1o2_1 hxqr1o2_1 a ha
    obtain ⟨bqr1o2_1, hbqr1o2_1⟩ : ∃ b : Int, b = wqr1_1.heap.size := ⟨_, rfl⟩; rw [← hbqr1o2_1] at hqr1o2_1
    have qqr1o2_1 := zn_of hbqr1o2_1
    have qqr1o2_2 := Nq.new hB3.fpb qqr1o2_1
    have qqr1o2_3 := Nq.madeO qqr1o2_1 hB3.bi
    have qqr1o2_4 := Zn.upD qqr1o2_1 hEqr1o2_1
    replace hB3 := hB3.ext hxqr1o2_1
    have hEqr1o2_2 := Ext.trans hEqr1o2_1 hxqr1o2_1
    refine wpList_nil (e_sq ?_)
    refine ⟨fun _ => hxqr1o2_1, ?_⟩
    refine u_many [1, 7] (by kernel_rfl) rfl fun wqr1o2_2 hxqr1o2_2 => ⟨⟨_, rfl, ?_⟩, ⟨_, rfl, ?_⟩, trivial⟩
    · skip
      replace hB3 := hB3.ext hxqr1o2_2
      replace hqr1o2_1 := hqr1o2_1.ext hxqr1o2_2
      have hEqr1o1_1 := Ext.trans hEqr1o2_2 hxqr1o2_2
      refine o_call ha rfl rfl Try.call40 (W_spec_l25Bits (ha0_0.ext hEqr1o1_1) hcqr1o1_1) ?_; clear ha a; rintro vqr1o1_1 wqr1o1_1 ⟨bqr1o1_1, hqr1o1_1, zqr1o1_1, hxqr1o1_1⟩ a ha
      have qqr1o1_1 := Nq.new hB3.fpb zqr1o1_1
      have qqr1o1_2 := Nq.madeO zqr1o1_1 hB3.bi
      have qqr1o1_3 := Nq.new hqr1o2_1.fpb zqr1o1_1
      have qqr1o1_4 := Nq.madeO zqr1o1_1 hqr1o2_1.blt
      replace hB3 := hB3.ext hxqr1o1_1
      replace hqr1o2_1 := hqr1o2_1.ext hxqr1o1_1
      have hEqr1o1_2 := Ext.trans hEqr1o1_1 hxqr1o1_1
      have qqr1o1_5 := Zn.upD zqr1o1_1 hEqr1o1_1
      refine wpList_nil (e_sq ?_)
      refine ⟨fun _ => hxqr1o1_1, ?_⟩
      refine u_only 7 rfl (by kernel_rfl) ?_; intro wqr1o7_1 hxqr1o7_1
      replace hB3 := hB3.ext hxqr1o7_1
      replace hqr1o2_1 := hqr1o2_1.ext hxqr1o7_1
      replace hqr1o1_1 := hqr1o1_1.ext hxqr1o7_1
      have hEqr1o7_1 := Ext.trans hEqr1o1_2 hxqr1o7_1
      refine o_make (z0 := (0 : Int)) Rp.int ha rfl sl35 rfl (fun w => ⟨rfl, by decide, rfl⟩) rfl gqr1o7_1 gqr1o7_1b ?_; clear ha a; intro vqr1o7_1 wqr1o7_2 hqr1o7_1 hxqr1o7_2 a ha
      obtain ⟨bqr1o7_1, hbqr1o7_1⟩ : ∃ b : Int, b = wqr1o7_1.heap.size := ⟨_, rfl⟩; rw [← hbqr1o7_1] at hqr1o7_1
      have qqr1o7_1 := zn_of hbqr1o7_1
      have qqr1o7_2 := Nq.new hB3.fpb qqr1o7_1
      have qqr1o7_3 := Nq.madeO qqr1o7_1 hB3.bi
      have qqr1o7_4 := Nq.new hqr1o2_1.fpb qqr1o7_1
      have qqr1o7_5 := Nq.madeO qqr1o7_1 hqr1o2_1.blt
      have qqr1o7_6 := Nq.new hqr1o1_1.fpb qqr1o7_1
      have qqr1o7_7 := Nq.madeO qqr1o7_1 hqr1o1_1.blt
      have qqr1o7_8 := Zn.upD qqr1o7_1 hEqr1o7_1
      replace hB3 := hB3.ext hxqr1o7_2
      replace hqr1o2_1 := hqr1o2_1.ext hxqr1o7_2
      replace hqr1o1_1 := hqr1o1_1.ext hxqr1o7_2
      have hEqr1o7_2 := Ext.trans hEqr1o7_1 hxqr1o7_2
      refine wpList_nil (e_sq ?_)
      refine ⟨fun _ => hxqr1o7_2, ?_⟩
      refine u_only 8 rfl (by kernel_rfl) ?_; intro wqr1o8_1 hxqr1o8_1
      replace hB3 := hB3.ext hxqr1o8_1
      replace hqr1o2_1 := hqr1o2_1.ext hxqr1o8_1
      replace hqr1o1_1 := hqr1o1_1.ext hxqr1o8_1
      replace hqr1o7_1 := hqr1o7_1.ext hxqr1o8_1
      have hEqr1o8_1 := Ext.trans hEqr1o7_2 hxqr1o8_1
      obtain ⟨fpqr1o8_1, hroqr1o8_1, hsqr1o8_1⟩ := hqr1o1_1.roF
      obtain ⟨fpqr1o8_2, hroqr1o8_2, hsqr1o8_2⟩ := hqr1o2_1.roF
      refine o_call ha rfl rfl Try.call39 (W_spec_l26Ways hroqr1o8_1 (show InI 0 from by decide) hroqr1o8_2 hqr1o7_1 (Nq.mono qqr1o7_6 hsqr1o8_1) (Nq.mono qqr1o7_4 hsqr1o8_2) hcqr1o8_1) ?_; clear ha a; rintro vqr1o8_1 wqr1o8_2 ⟨rfl, hqr1o8_1, hxqr1o8_2⟩ a ha
      replace hB3 := hB3.nq hxqr1o8_2 qqr1o7_2
      replace hqr1o2_1 := hqr1o2_1.nq hxqr1o8_2 qqr1o7_4
      replace hqr1o1_1 := hqr1o1_1.nq hxqr1o8_2 qqr1o7_6
      have hEqr1o8_2 := Ext.then hEqr1o8_1 hxqr1o8_2 (Zn.bl qqr1o7_8)
      refine wpList_nil (e_sq ?_)
      refine ⟨fun h => absurd h (by decide), ?_⟩
      refine u_only 9 rfl (by kernel_rfl) ?_; intro wqr1o9_1 hxqr1o9_1
      replace hB3 := hB3.ext hxqr1o9_1
      replace hqr1o2_1 := hqr1o2_1.ext hxqr1o9_1
      replace hqr1o1_1 := hqr1o1_1.ext hxqr1o9_1
      replace hqr1o8_1 := hqr1o8_1.ext hxqr1o9_1
      have hEqr1o9_1 := Ext.trans hEqr1o8_2 hxqr1o9_1
      refine op_g ha rfl (g_assign rfl) ?_; clear ha a; intro a ha; refine wpList_nil (e_sq ?_)
      refine ⟨fun h => absurd h (by decide), ?_⟩
      refine u_done (by kernel_rfl) ?_; intro w29 hx30
      replace hB3 := hB3.ext hx30
      replace hqr1o2_1 := hqr1o2_1.ext hx30
      replace hqr1o1_1 := hqr1o1_1.ext hx30
      replace hqr1o8_1 := hqr1o8_1.ext hx30
      have hE31 := Ext.trans hEqr1o9_1 hx30
      replace ha := ha.sub (σ' := [(2, vqr1o7_1)]) ⟨rfl, trivial⟩; refine e_then ?_; refine wp_ret ?_; obtain rfl := Option.some.inj hF
      exact f_ret1 ha rfl rfl ⟨_, hqr1o8_1, qqr1o7_8, hE31⟩
    skip
    replace hB3 := hB3.ext hxqr1o2_2
    replace hqr1o2_1 := hqr1o2_1.ext hxqr1o2_2
    have hEqr1o7_1 := Ext.trans hEqr1o2_2 hxqr1o2_2
    refine o_make (z0 := (0 : Int)) Rp.int ha rfl sl35 rfl (fun w => ⟨rfl, by decide, rfl⟩) rfl gqr1o7_1 gqr1o7_1b ?_; clear ha a; intro vqr1o7_1 wqr1o7_1 hqr1o7_1 hxqr1o7_1 a ha
    obtain ⟨bqr1o7_1, hbqr1o7_1⟩ : ∃ b : Int, b = wqr1o2_2.heap.size := ⟨_, rfl⟩; rw [← hbqr1o7_1] at hqr1o7_1
    have qqr1o7_1 := zn_of hbqr1o7_1
    have qqr1o7_2 := Nq.new hB3.fpb qqr1o7_1
    have qqr1o7_3 := Nq.madeO qqr1o7_1 hB3.bi
    have qqr1o7_4 := Nq.new hqr1o2_1.fpb qqr1o7_1
    have qqr1o7_5 := Nq.madeO qqr1o7_1 hqr1o2_1.blt
    have qqr1o7_6 := Zn.upD qqr1o7_1 hEqr1o7_1
    replace hB3 := hB3.ext hxqr1o7_1
    replace hqr1o2_1 := hqr1o2_1.ext hxqr1o7_1
    have hEqr1o7_2 := Ext.trans hEqr1o7_1 hxqr1o7_1
    refine wpList_nil (e_sq ?_)
    refine ⟨fun _ => hxqr1o7_1, ?_⟩
    refine u_only 1 rfl (by kernel_rfl) ?_; intro wqr1o1_1 hxqr1o1_1
    replace hB3 := hB3.ext hxqr1o1_1
    replace hqr1o2_1 := hqr1o2_1.ext hxqr1o1_1
    replace hqr1o7_1 := hqr1o7_1.ext hxqr1o1_1
    have hEqr1o1_1 := Ext.trans hEqr1o7_2 hxqr1o1_1
    refine o_call ha rfl rfl Try.call40 (W_spec_l25Bits (ha0_0.ext hEqr1o1_1) hcqr1o1_1) ?_; clear ha a; rintro vqr1o1_1 wqr1o1_2 ⟨bqr1o1_1, hqr1o1_1, zqr1o1_1, hxqr1o1_2⟩ a ha
    have qqr1o1_1 := Nq.new hB3.fpb zqr1o1_1
    have qqr1o1_2 := Nq.madeO zqr1o1_1 hB3.bi
    have qqr1o1_3 := Nq.new hqr1o2_1.fpb zqr1o1_1
    have qqr1o1_4 := Nq.madeO zqr1o1_1 hqr1o2_1.blt
    have qqr1o1_5 := Nq.new hqr1o7_1.fpb zqr1o1_1
    have qqr1o1_6 := Nq.madeO zqr1o1_1 hqr1o7_1.blt
    replace hB3 := hB3.ext hxqr1o1_2
    replace hqr1o2_1 := hqr1o2_1.ext hxqr1o1_2
    replace hqr1o7_1 := hqr1o7_1.ext hxqr1o1_2
    have hEqr1o1_2 := Ext.trans hEqr1o1_1 hxqr1o1_2
    have qqr1o1_7 := Zn.upD zqr1o1_1 hEqr1o1_1
    refine wpList_nil (e_sq ?_)
    refine ⟨fun _ => hxqr1o1_2, ?_⟩
    refine u_only 8 rfl (by kernel_rfl) ?_; intro wqr1o8_1 hxqr1o8_1
    replace hB3 := hB3.ext hxqr1o8_1
    replace hqr1o2_1 := hqr1o2_1.ext hxqr1o8_1
    replace hqr1o7_1 := hqr1o7_1.ext hxqr1o8_1
    replace hqr1o1_1 := hqr1o1_1.ext hxqr1o8_1
    have hEqr1o8_1 := Ext.trans hEqr1o1_2 hxqr1o8_1
    obtain ⟨fpqr1o8_1, hroqr1o8_1, hsqr1o8_1⟩ := hqr1o1_1.roF
    obtain ⟨fpqr1o8_2, hroqr1o8_2, hsqr1o8_2⟩ := hqr1o2_1.roF
    refine o_call ha rfl rfl Try.call39 (W_spec_l26Ways hroqr1o8_1 (show InI 0 from by decide) hroqr1o8_2 hqr1o7_1 (Nq.mono qqr1o1_6 hsqr1o8_1) (Nq.mono qqr1o7_4 hsqr1o8_2) hcqr1o8_1) ?_; clear ha a; rintro vqr1o8_1 wqr1o8_2 ⟨rfl, hqr1o8_1, hxqr1o8_2⟩ a ha
    replace hB3 := hB3.nq hxqr1o8_2 qqr1o7_2
    replace hqr1o2_1 := hqr1o2_1.nq hxqr1o8_2 qqr1o7_4
    replace hqr1o1_1 := hqr1o1_1.nq hxqr1o8_2 qqr1o1_6
    have hEqr1o8_2 := Ext.then hEqr1o8_1 hxqr1o8_2 (Zn.bl qqr1o7_6)
    refine wpList_nil (e_sq ?_)
    refine ⟨fun h => absurd h (by decide), ?_⟩
    refine u_only 9 rfl (by kernel_rfl) ?_; intro wqr1o9_1 hxqr1o9_1
    replace hB3 := hB3.ext hxqr1o9_1
    replace hqr1o2_1 := hqr1o2_1.ext hxqr1o9_1
    replace hqr1o8_1 := hqr1o8_1.ext hxqr1o9_1
    replace hqr1o1_1 := hqr1o1_1.ext hxqr1o9_1
    have hEqr1o9_1 := Ext.trans hEqr1o8_2 hxqr1o9_1
    refine op_g ha rfl (g_assign rfl) ?_; clear ha a; intro a ha; refine wpList_nil (e_sq ?_)
    refine ⟨fun h => absurd h (by decide), ?_⟩
    refine u_done (by kernel_rfl) ?_; intro w29 hx30
    replace hB3 := hB3.ext hx30
    replace hqr1o2_1 := hqr1o2_1.ext hx30
    replace hqr1o8_1 := hqr1o8_1.ext hx30
    replace hqr1o1_1 := hqr1o1_1.ext hx30
    have hE31 := Ext.trans hEqr1o9_1 hx30
    replace ha := ha.sub (σ' := [(2, vqr1o7_1)]) ⟨rfl, trivial⟩; refine e_then ?_; refine wp_ret ?_; obtain rfl := Option.some.inj hF
    exact f_ret1 ha rfl rfl ⟨_, hqr1o8_1, qqr1o7_6, hE31⟩
  skip
  replace hB3 := hB3.ext hxqr1_1
  have hEqr1o7_1 := Ext.trans hE14 hxqr1_1
  refine o_make (z0 := (0 : Int)) Rp.int ha rfl sl35 rfl (fun w => ⟨rfl, by decide, rfl⟩) rfl gqr1o7_1 gqr1o7_1b ?_; clear ha a; intro vqr1o7_1 wqr1o7_1 hqr1o7_1 hxqr1o7_1 a ha
  obtain ⟨bqr1o7_1, hbqr1o7_1⟩ : ∃ b : Int, b = wqr1_1.heap.size := ⟨_, rfl⟩; rw [← hbqr1o7_1] at hqr1o7_1
  have qqr1o7_1 := zn_of hbqr1o7_1
  have qqr1o7_2 := Nq.new hB3.fpb qqr1o7_1
  have qqr1o7_3 := Nq.madeO qqr1o7_1 hB3.bi
  have qqr1o7_4 := Zn.upD qqr1o7_1 hEqr1o7_1
  replace hB3 := hB3.ext hxqr1o7_1
  have hEqr1o7_2 := Ext.trans hEqr1o7_1 hxqr1o7_1
  refine wpList_nil (e_sq ?_)
  refine ⟨fun _ => hxqr1o7_1, ?_⟩
  refine u_many [1, 2] (by kernel_rfl) rfl fun wqr1o7_2 hxqr1o7_2 => ⟨⟨_, rfl, ?_⟩, ⟨_, rfl, ?_⟩, trivial⟩
  · skip
    replace hB3 := hB3.ext hxqr1o7_2
    replace hqr1o7_1 := hqr1o7_1.ext hxqr1o7_2
    have hEqr1o1_1 := Ext.trans hEqr1o7_2 hxqr1o7_2
    refine o_call ha rfl rfl Try.call40 (W_spec_l25Bits (ha0_0.ext hEqr1o1_1) hcqr1o1_1) ?_; clear ha a; rintro vqr1o1_1 wqr1o1_1 ⟨bqr1o1_1, hqr1o1_1, zqr1o1_1, hxqr1o1_1⟩ a ha
    have qqr1o1_1 := Nq.new hB3.fpb zqr1o1_1
    have qqr1o1_2 := Nq.madeO zqr1o1_1 hB3.bi
    have qqr1o1_3 := Nq.new hqr1o7_1.fpb zqr1o1_1
    have qqr1o1_4 := Nq.madeO zqr1o1_1 hqr1o7_1.blt
    replace hB3 := hB3.ext hxqr1o1_1
    replace hqr1o7_1 := hqr1o7_1.ext hxqr1o1_1
    have hEqr1o1_2 := Ext.trans hEqr1o1_1 hxqr1o1_1
    have qqr1o1_5 := Zn.upD zqr1o1_1 hEqr1o1_1
    refine wpList_nil (e_sq ?_)
    refine ⟨fun _ => hxqr1o1_1, ?_⟩
    refine u_only 2 rfl (by kernel_rfl) ?_; intro wqr1o2_1 hxqr1o2_1
    replace hB3 := hB3.ext hxqr1o2_1
    replace hqr1o7_1 := hqr1o7_1.ext hxqr1o2_1
    replace hqr1o1_1 := hqr1o1_1.ext hxqr1o2_1
    have hEqr1o2_1 := Ext.trans hEqr1o1_2 hxqr1o2_1
    refine o_lit0 Rp.int ha rfl sl35 ?_; clear ha a; intro vqr1o2_1 wqr1o2_2 hqr1o2_1 hxqr1o2_2 a ha
    obtain ⟨bqr1o2_1, hbqr1o2_1⟩ : ∃ b : Int, b = wqr1o2_1.heap.size := ⟨_, rfl⟩; rw [← hbqr1o2_1] at hqr1o2_1
    have qqr1o2_1 := zn_of hbqr1o2_1
    have qqr1o2_2 := Nq.new hB3.fpb qqr1o2_1
    have qqr1o2_3 := Nq.madeO qqr1o2_1 hB3.bi
    have qqr1o2_4 := Nq.new hqr1o7_1.fpb qqr1o2_1
    have qqr1o2_5 := Nq.madeO qqr1o2_1 hqr1o7_1.blt
    have qqr1o2_6 := Nq.new hqr1o1_1.fpb qqr1o2_1
    have qqr1o2_7 := Nq.madeO qqr1o2_1 hqr1o1_1.blt
    have qqr1o2_8 := Zn.upD qqr1o2_1 hEqr1o2_1
    replace hB3 := hB3.ext hxqr1o2_2
    replace hqr1o7_1 := hqr1o7_1.ext hxqr1o2_2
    replace hqr1o1_1 := hqr1o1_1.ext hxqr1o2_2
    have hEqr1o2_2 := Ext.trans hEqr1o2_1 hxqr1o2_2
    refine wpList_nil (e_sq ?_)
    refine ⟨fun _ => hxqr1o2_2, ?_⟩
    refine u_only 8 rfl (by kernel_rfl) ?_; intro wqr1o8_1 hxqr1o8_1
    replace hB3 := hB3.ext hxqr1o8_1
    replace hqr1o7_1 := hqr1o7_1.ext hxqr1o8_1
    replace hqr1o1_1 := hqr1o1_1.ext hxqr1o8_1
    replace hqr1o2_1 := hqr1o2_1.ext hxqr1o8_1
    have hEqr1o8_1 := Ext.trans hEqr1o2_2 hxqr1o8_1
    obtain ⟨fpqr1o8_1, hroqr1o8_1, hsqr1o8_1⟩ := hqr1o1_1.roF
    obtain ⟨fpqr1o8_2, hroqr1o8_2, hsqr1o8_2⟩ := hqr1o2_1.roF
    refine o_call ha rfl rfl Try.call39 (W_spec_l26Ways hroqr1o8_1 (show InI 0 from by decide) hroqr1o8_2 hqr1o7_1 (Nq.mono qqr1o1_4 hsqr1o8_1) (Nq.mono qqr1o2_5 hsqr1o8_2) hcqr1o8_1) ?_; clear ha a; rintro vqr1o8_1 wqr1o8_2 ⟨rfl, hqr1o8_1, hxqr1o8_2⟩ a ha
    replace hB3 := hB3.nq hxqr1o8_2 qqr1o7_2
    replace hqr1o1_1 := hqr1o1_1.nq hxqr1o8_2 qqr1o1_4
    replace hqr1o2_1 := hqr1o2_1.nq hxqr1o8_2 qqr1o2_5
    have hEqr1o8_2 := Ext.then hEqr1o8_1 hxqr1o8_2 (Zn.bl qqr1o7_4)
    refine wpList_nil (e_sq ?_)
    refine ⟨fun h => absurd h (by decide), ?_⟩
    refine u_only 9 rfl (by kernel_rfl) ?_; intro wqr1o9_1 hxqr1o9_1
    replace hB3 := hB3.ext hxqr1o9_1
    replace hqr1o8_1 := hqr1o8_1.ext hxqr1o9_1
    replace hqr1o1_1 := hqr1o1_1.ext hxqr1o9_1
    replace hqr1o2_1 := hqr1o2_1.ext hxqr1o9_1
    have hEqr1o9_1 := Ext.trans hEqr1o8_2 hxqr1o9_1
    refine op_g ha rfl (g_assign rfl) ?_; clear ha a; intro a ha; refine wpList_nil (e_sq ?_)
    refine ⟨fun h => absurd h (by decide), ?_⟩
    refine u_done (by kernel_rfl) ?_; intro w29 hx30
    replace hB3 := hB3.ext hx30
    replace hqr1o8_1 := hqr1o8_1.ext hx30
    replace hqr1o1_1 := hqr1o1_1.ext hx30
    replace hqr1o2_1 := hqr1o2_1.ext hx30
    have hE31 := Ext.trans hEqr1o9_1 hx30
    replace ha := ha.sub (σ' := [(2, vqr1o7_1)]) ⟨rfl, trivial⟩; refine e_then ?_; refine wp_ret ?_; obtain rfl := Option.some.inj hF
    exact f_ret1 ha rfl rfl ⟨_, hqr1o8_1, qqr1o7_4, hE31⟩
  skip
  replace hB3 := hB3.ext hxqr1o7_2
  replace hqr1o7_1 := hqr1o7_1.ext hxqr1o7_2
  have hEqr1o2_1 := Ext.trans hEqr1o7_2 hxqr1o7_2
  refine o_lit0 Rp.int ha rfl sl35 ?_; clear ha a; intro vqr1o2_1 wqr1o2_1 hqr1o2_1 hxqr1o2_1 a ha
  obtain ⟨bqr1o2_1, hbqr1o2_1⟩ : ∃ b : Int, b = wqr1o7_2.heap.size := ⟨_, rfl⟩; rw [← hbqr1o2_1] at hqr1o2_1
  have qqr1o2_1 := zn_of hbqr1o2_1
  have qqr1o2_2 := Nq.new hB3.fpb qqr1o2_1
  have qqr1o2_3 := Nq.madeO qqr1o2_1 hB3.bi
  have qqr1o2_4 := Nq.new hqr1o7_1.fpb qqr1o2_1
  have qqr1o2_5 := Nq.madeO qqr1o2_1 hqr1o7_1.blt
  have qqr1o2_6 := Zn.upD qqr1o2_1 hEqr1o2_1
  replace hB3 := hB3.ext hxqr1o2_1
  replace hqr1o7_1 := hqr1o7_1.ext hxqr1o2_1
  have hEqr1o2_2 := Ext.trans hEqr1o2_1 hxqr1o2_1
  refine wpList_nil (e_sq ?_)
  refine ⟨fun _ => hxqr1o2_1, ?_⟩
  refine u_only 1 rfl (by kernel_rfl) ?_; intro wqr1o1_1 hxqr1o1_1
  replace hB3 := hB3.ext hxqr1o1_1
  replace hqr1o7_1 := hqr1o7_1.ext hxqr1o1_1
  replace hqr1o2_1 := hqr1o2_1.ext hxqr1o1_1
  have hEqr1o1_1 := Ext.trans hEqr1o2_2 hxqr1o1_1
  refine o_call ha rfl rfl Try.call40 (W_spec_l25Bits (ha0_0.ext hEqr1o1_1) hcqr1o1_1) ?_; clear ha a; rintro vqr1o1_1 wqr1o1_2 ⟨bqr1o1_1, hqr1o1_1, zqr1o1_1, hxqr1o1_2⟩ a ha
  have qqr1o1_1 := Nq.new hB3.fpb zqr1o1_1
  have qqr1o1_2 := Nq.madeO zqr1o1_1 hB3.bi
  have qqr1o1_3 := Nq.new hqr1o7_1.fpb zqr1o1_1
  have qqr1o1_4 := Nq.madeO zqr1o1_1 hqr1o7_1.blt
  have qqr1o1_5 := Nq.new hqr1o2_1.fpb zqr1o1_1
  have qqr1o1_6 := Nq.madeO zqr1o1_1 hqr1o2_1.blt
  replace hB3 := hB3.ext hxqr1o1_2
  replace hqr1o7_1 := hqr1o7_1.ext hxqr1o1_2
  replace hqr1o2_1 := hqr1o2_1.ext hxqr1o1_2
  have hEqr1o1_2 := Ext.trans hEqr1o1_1 hxqr1o1_2
  have qqr1o1_7 := Zn.upD zqr1o1_1 hEqr1o1_1
  refine wpList_nil (e_sq ?_)
  refine ⟨fun _ => hxqr1o1_2, ?_⟩
  refine u_only 8 rfl (by kernel_rfl) ?_; intro wqr1o8_1 hxqr1o8_1
  replace hB3 := hB3.ext hxqr1o8_1
  replace hqr1o7_1 := hqr1o7_1.ext hxqr1o8_1
  replace hqr1o2_1 := hqr1o2_1.ext hxqr1o8_1
  replace hqr1o1_1 := hqr1o1_1.ext hxqr1o8_1
  have hEqr1o8_1 := Ext.trans hEqr1o1_2 hxqr1o8_1
  obtain ⟨fpqr1o8_1, hroqr1o8_1, hsqr1o8_1⟩ := hqr1o1_1.roF
  obtain ⟨fpqr1o8_2, hroqr1o8_2, hsqr1o8_2⟩ := hqr1o2_1.roF
  refine o_call ha rfl rfl Try.call39 (W_spec_l26Ways hroqr1o8_1 (show InI 0 from by decide) hroqr1o8_2 hqr1o7_1 (Nq.mono qqr1o1_4 hsqr1o8_1) (Nq.mono qqr1o2_5 hsqr1o8_2) hcqr1o8_1) ?_; clear ha a; rintro vqr1o8_1 wqr1o8_2 ⟨rfl, hqr1o8_1, hxqr1o8_2⟩ a ha
  replace hB3 := hB3.nq hxqr1o8_2 qqr1o7_2
  replace hqr1o2_1 := hqr1o2_1.nq hxqr1o8_2 qqr1o2_5
  replace hqr1o1_1 := hqr1o1_1.nq hxqr1o8_2 qqr1o1_4
  have hEqr1o8_2 := Ext.then hEqr1o8_1 hxqr1o8_2 (Zn.bl qqr1o7_4)
  refine wpList_nil (e_sq ?_)
  refine ⟨fun h => absurd h (by decide), ?_⟩
  refine u_only 9 rfl (by kernel_rfl) ?_; intro wqr1o9_1 hxqr1o9_1
  replace hB3 := hB3.ext hxqr1o9_1
  replace hqr1o8_1 := hqr1o8_1.ext hxqr1o9_1
  replace hqr1o2_1 := hqr1o2_1.ext hxqr1o9_1
  replace hqr1o1_1 := hqr1o1_1.ext hxqr1o9_1
  have hEqr1o9_1 := Ext.trans hEqr1o8_2 hxqr1o9_1
  refine op_g ha rfl (g_assign rfl) ?_; clear ha a; intro a ha; refine wpList_nil (e_sq ?_)
  refine ⟨fun h => absurd h (by decide), ?_⟩
  refine u_done (by kernel_rfl) ?_; intro w29 hx30
  replace hB3 := hB3.ext hx30
  replace hqr1o8_1 := hqr1o8_1.ext hx30
  replace hqr1o2_1 := hqr1o2_1.ext hx30
  replace hqr1o1_1 := hqr1o1_1.ext hx30
  have hE31 := Ext.trans hEqr1o9_1 hx30
  replace ha := ha.sub (σ' := [(2, vqr1o7_1)]) ⟨rfl, trivial⟩; refine e_then ?_; refine wp_ret ?_; obtain rfl := Option.some.inj hF
  exact f_ret1 ha rfl rfl ⟨_, hqr1o8_1, qqr1o7_4, hE31⟩
set_option maxHeartbeats 2000000 in
theorem W_laws_likeInts {W : World} {va0 : Value} {fa0 : List Nat} {a0 : (List Int)} (ha0 : Ro Rp.int W fa0 va0 a0) {va1 : Value} {fa1 : List Nat} {a1 : (List Int)} (ha1 : Ro Rp.int W fa1 va1 a1) {r : Bool} (hF : F_laws_likeInts a0 a1 = some r) :
    Calls Try.prog 15 [va0, va1].toArray W (Ret fun u w' => u = .bool r ∧ Ext W w') := by
  refine f_enter Try.func15 rfl Try.ntmps15 rfl ?_
  intro a ha
  replace ha : Fr 26 [(0, va0), (1, va1)] a := ha
  have hE : Chg [] W W := Chg.refl _ _
  unfold F_laws_likeInts at hF
  refine wp_seq ?_; refine wp_region_lit ?_; refine op_g ha rfl (g_assign rfl) ?_; clear ha a; intro a ha; refine wpList_nil ?_; replace ha := ha.sub (σ' := [(0, va0), (1, va1)]) ⟨rfl, rfl, trivial⟩; refine e_then ?_; refine wp_seq ?_; refine wp_seq ?_; refine wp_region_lit ?_; refine op_g ha rfl (g_move rfl) ?_; clear ha a; intro a ha; refine op_g ha rfl (g_lenR sl35.und ha0 rfl) ?_; clear ha a; intro a ha; refine op_g ha rfl (g_move rfl) ?_; clear ha a; intro a ha; refine op_g ha rfl (g_lenR sl35.und ha1 rfl) ?_; clear ha a; intro a ha; refine op_g ha rfl (g_neq rfl rfl) ?_; clear ha a; intro a ha
  refine wpList_nil ?_; replace ha := ha.sub (σ' := [(0, va0), (1, va1), (10, (.bool (decide ((a0.length : Int) ≠ (a1.length : Int)))))]) ⟨rfl, rfl, rfl, trivial⟩; refine e_then ?_; refine c_cond ((a0.length : Int) ≠ (a1.length : Int)) ha rfl (decide_eq_true_iff) (fun hp1 => ?_) (fun hp1 => ?_)
  · replace hF := if_t hp1 hF
    refine wp_seq ?_; refine wp_region_lit ?_; refine op_g ha rfl (g_assign rfl) ?_; clear ha a; intro a ha; refine wpList_nil ?_; replace ha := ha.sub (σ' := [(4, (.bool false))]) ⟨rfl, trivial⟩; refine e_then ?_; refine wp_ret ?_; refine e_then_ret ?_; obtain rfl := Option.some.inj hF
    exact f_ret1 ha rfl rfl ⟨rfl, hE⟩
  replace hF := if_f hp1 hF; refine wp_skip ?_; refine e_then ?_; refine wp_seq ?_; refine wp_seq ?_; refine wp_region_lit ?_; refine op_g ha rfl (g_assign rfl) ?_; clear ha a; intro a ha; refine wpList_nil ?_; replace ha := ha.sub (σ' := [(0, va0), (1, va1), (5, (.int .i64 0))]) ⟨rfl, rfl, rfl, trivial⟩; refine e_then ?_; obtain ⟨o77, ho78, hK79⟩ := bnd_some hF
  obtain ⟨n80, hn81⟩ := lp_some ho78; clear ho78
  refine c_loop (fun a w => Fr 26 [] a ∧ Chg [] W w ∧ o77 = .inl ()) (fun n a w => ∃ (i39 : Int), Fr 26 [(0, va0), (1, va1), (5, (.int .i64 i39))] a ∧ Chg [] W w ∧ InI i39 ∧ lpN (fun s => F_laws_likeInts_l1 a0 a1 s) n i39 = some o77) n80 ⟨0, ha.sub ⟨rfl, rfl, rfl, trivial⟩, hE, (show InI 0 from by decide), hn81⟩ ?_ ?_
  · rintro m85 a w38 ⟨i39, ha, hE41, hI40, hF⟩
    cases m85 with
    | zero => exact (lpN_zero hF).elim
    | succ m85 =>
      obtain ⟨z84, hF, hN83⟩ := lpN_succ hF
      have hF : F_laws_likeInts_l1 a0 a1 i39 = some z84 := hF; unfold F_laws_likeInts_l1 at hF
      refine wp_seq ?_; refine wp_seq ?_; refine wp_region_lit ?_; (iterate 2 refine op_g ha rfl (g_move rfl) ?_; clear ha a; intro a ha); refine op_g ha rfl (g_lenR sl35.und ha0 rfl) ?_; clear ha a; intro a ha; refine op_g ha rfl (g_lss rfl rfl) ?_; clear ha a; intro a ha; refine wpList_nil ?_; replace ha := ha.sub (σ' := [(0, va0), (1, va1), (5, (.int .i64 i39)), (14, (.bool (decide (i39 < (a0.length : Int)))))]) ⟨rfl, rfl, rfl, rfl, trivial⟩; refine e_then ?_; refine c_cond (i39 < (a0.length : Int)) ha rfl (decide_eq_true_iff) (fun hp86 => ?_) (fun hp86 => ?_)
      · replace hF := if_t hp86 hF
        refine wp_skip ?_; refine e_then ?_; refine wp_seq ?_; refine wp_block ?_; refine wp_seq ?_; refine d_quiet hmix (by kernel_rfl) ?_; (iterate 2 refine q_g ha rfl (g_move rfl) ?_; clear ha a; intro a ha); obtain ⟨x87, g88, gx89, hF⟩ := idx_some hF
        obtain ⟨p90, cs91, f92, hf93, hpb94, hat95, hr96, hi97⟩ := ha0.at g88 gx89
        obtain ⟨rfl, hI98, rfl⟩ := hr96
        refine q_g ha rfl (hi97.gives sl35 rfl rfl) ?_; clear ha a; intro a ha; refine q_g ha rfl (g_load0 hE41 Try.isAgg2 rfl hat95.one) ?_; clear ha a; intro a ha; (iterate 2 refine q_g ha rfl (g_move rfl) ?_; clear ha a; intro a ha); obtain ⟨x99, g100, gx101, hF⟩ := idx_some hF
        obtain ⟨p102, cs103, f104, hf105, hpb106, hat107, hr108, hi109⟩ := ha1.at g100 gx101
        obtain ⟨rfl, hI110, rfl⟩ := hr108
        refine q_g ha rfl (hi109.gives sl35 rfl rfl) ?_; clear ha a; intro a ha; refine q_g ha rfl (g_load0 hE41 Try.isAgg2 rfl hat107.one) ?_; clear ha a; intro a ha; refine q_g ha rfl (g_neq rfl rfl) ?_; clear ha a; intro a ha
        refine q_nil ?_; intro w111 hx112
        have hE113 := Ext.trans hE41 hx112
        replace ha := ha.sub (σ' := [(0, va0), (1, va1), (5, (.int .i64 i39)), (25, (.bool (decide (x87 ≠ x99))))]) ⟨rfl, rfl, rfl, rfl, trivial⟩; refine e_then ?_; refine c_cond (x87 ≠ x99) ha rfl (decide_eq_true_iff) (fun hp114 => ?_) (fun hp114 => ?_)
        · replace hF := if_t hp114 hF
          refine wp_seq ?_; refine wp_region_lit ?_; refine op_g ha rfl (g_assign rfl) ?_; clear ha a; intro a ha; refine wpList_nil ?_; replace ha := ha.sub (σ' := [(4, (.bool false))]) ⟨rfl, trivial⟩; refine e_then ?_; refine wp_ret ?_; refine e_blk_ret ?_; refine e_then_ret ?_; refine e_lq_ret ?_; refine e_then_ret ?_; obtain rfl := Option.some.inj hF
          have e115 := LK_inr hN83; subst e115
          have e116 := BK_inr hK79; subst e116
          exact f_ret1 ha rfl rfl ⟨rfl, hE113⟩
        replace hF := if_f hp114 hF; refine wp_skip ?_; refine e_blk ?_; refine e_then ?_; refine wp_region_lit ?_; refine op_g ha rfl (g_move rfl) ?_; clear ha a; intro a ha; obtain ⟨hI117, hF⟩ := ck_some hF; refine op_g ha rfl (g_add rfl rfl hI117) ?_; clear ha a; intro a ha; refine op_g ha rfl (g_assign rfl) ?_; clear ha a; intro a ha; refine wpList_nil ?_; replace ha := ha.sub (σ' := [(0, va0), (1, va1), (5, (.int .i64 (i39 + 1)))]) ⟨rfl, rfl, rfl, trivial⟩; refine e_lq ?_; obtain rfl := Option.some.inj hF
        exact ⟨_, Nat.lt_succ_self _, i39 + 1, ha.sub ⟨rfl, rfl, rfl, trivial⟩, hE113, hI117, hN83⟩
      replace hF := if_f hp86 hF; refine wp_exit ?_; refine e_then_exit ?_; refine e_lq_eq ?_; obtain rfl := Option.some.inj hF
      exact ⟨ha.sub trivial, hE41, (LK_inr hN83).symm⟩
  rintro a w76 ⟨ha, hE82, rfl⟩
  have hF : F_laws_likeInts_k2 = some _ := hK79; clear hK79; unfold F_laws_likeInts_k2 at hF
  refine e_then ?_; refine wp_seq ?_; refine wp_region_lit ?_; refine op_g ha rfl (g_assign rfl) ?_; clear ha a; intro a ha; refine wpList_nil ?_; refine e_then ?_; refine wp_ret ?_; obtain rfl := Option.some.inj hF
  exact f_ret1 ha rfl rfl ⟨rfl, hE82⟩
set_option maxHeartbeats 2000000 in
theorem W_spec_l26None {W : World} {a0 : Int} (ha0 : InI a0) {r : (List Int)} (hF : F_spec_l26None a0 = some r) :
    Calls Try.prog 52 [.int .i64 a0].toArray W (Ret fun u w' => ∃ (b_u : Int), Ow Rp.int 2 true w' [] b_u u r ∧ Zn W b_u ∧ Ext W w') := by
  refine f_enter Try.func52 rfl Try.ntmps52 rfl ?_
  intro a ha
  replace ha : Fr 15 [(0, (.int .i64 a0))] a := ha
  have hE : Chg [] W W := Chg.refl _ _
  unfold F_spec_l26None at hF
  refine wp_seq ?_; refine wp_region_lit ?_; refine op_g ha rfl (g_assign rfl) ?_; clear ha a; intro a ha; refine wpList_nil ?_; replace ha := ha.sub (σ' := [(0, (.int .i64 a0))]) ⟨rfl, trivial⟩; refine e_then ?_; refine wp_seq ?_; refine wp_region_lit ?_
  refine o_lit0 Rp.int ha rfl sl35 ?_; clear ha a; intro v1 w2 h3 hx4 a ha
  obtain ⟨b6, hb6⟩ : ∃ b : Int, b = W.heap.size := ⟨_, rfl⟩; rw [← hb6] at h3
  have q7 := zn_of hb6
  have q8 := Zn.upD q7 hE
  have hE9 := Ext.trans hE hx4
  refine op_g ha rfl (g_assign rfl) ?_; clear ha a; intro a ha; refine wpList_nil ?_; replace ha := ha.sub (σ' := [(0, (.int .i64 a0)), (3, v1)]) ⟨rfl, rfl, trivial⟩; refine e_then ?_; refine wp_seq ?_; refine wp_seq ?_; refine wp_region_lit ?_; refine op_g ha rfl (g_assign rfl) ?_; clear ha a; intro a ha; refine wpList_nil ?_; refine e_then ?_; obtain ⟨o102, ho103, hK104⟩ := bnd_some hF
  obtain ⟨n105, hn106⟩ := lp_some ho103; clear ho103
  refine c_loop (fun a w => ∃ (l99 : (List Int)) (v100 : Value) (b101 : Int), Fr 15 [(3, v100)] a ∧ Chg [] W w ∧ Ow Rp.int 2 true w [] b101 v100 l99 ∧ Zn W b101 ∧ o102 = .inl l99) (fun n a w => ∃ (l54 : (List Int)) (i57 : Int) (v55 : Value) (b56 : Int), Fr 15 [(0, (.int .i64 a0)), (3, v55), (4, (.int .i64 i57))] a ∧ Chg [] W w ∧ InI i57 ∧ Ow Rp.int 2 true w [] b56 v55 l54 ∧ Zn W b56 ∧ lpN (fun s => F_spec_l26None_l1 a0 s.1 s.2) n (l54, i57) = some o102) n105 ⟨([] : (List Int)), 0, v1, b6, ha.sub ⟨rfl, rfl, rfl, trivial⟩, hE9, (show InI 0 from by decide), h3, q8, hn106⟩ ?_ ?_
  · rintro m110 a w50 ⟨l54, i57, v55, b56, ha, hE59, hI58, h52, z53, hF⟩
    cases m110 with
    | zero => exact (lpN_zero hF).elim
    | succ m110 =>
      obtain ⟨z109, hF, hN108⟩ := lpN_succ hF
      have hF : F_spec_l26None_l1 a0 l54 i57 = some z109 := hF; unfold F_spec_l26None_l1 at hF
      refine wp_seq ?_; refine wp_seq ?_; refine wp_region_lit ?_; (iterate 2 refine op_g ha rfl (g_move rfl) ?_; clear ha a; intro a ha); refine op_g ha rfl (g_lss rfl rfl) ?_; clear ha a; intro a ha; refine wpList_nil ?_; replace ha := ha.sub (σ' := [(0, (.int .i64 a0)), (3, v55), (4, (.int .i64 i57)), (8, (.bool (decide (i57 < a0))))]) ⟨rfl, rfl, rfl, rfl, trivial⟩; refine e_then ?_; refine c_cond (i57 < a0) ha rfl (decide_eq_true_iff) (fun hp111 => ?_) (fun hp111 => ?_)
      · replace hF := if_t hp111 hF
        refine wp_skip ?_; refine e_then ?_; refine wp_seq ?_; refine wp_block ?_; refine wp_region_lit ?_; refine op_g ha rfl (g_move rfl) ?_; clear ha a; intro a ha
        refine o_lit1 (o := true) (y := (-1)) Rp.int ha rfl sl35 rfl rfl rfl ⟨rfl, (show InI (-1) from by decide), rfl⟩ ?_; clear ha a; intro v112 w113 h114 hx115 a ha
        obtain ⟨b117, hb117⟩ : ∃ b : Int, b = w50.heap.size := ⟨_, rfl⟩; rw [← hb117] at h114
        have q118 := zn_of hb117
        have q119 := Nq.new h52.fpb q118
        have q120 := Nq.madeO q118 h52.blt
        have q121 := Zn.upD q118 hE59
        replace h52 := h52.ext hx115
        have hE122 := Ext.trans hE59 hx115
        obtain ⟨hl123, hF⟩ := app_some hF
        refine o_append ha rfl sl35 rfl rfl rfl h52 h114.src (Nq.nil _) hl123 ?_; clear ha a; intro v124 w125 b126 h127 hc128 hb129 a ha
        replace h127 : Ow Rp.int 2 true w125 [] b126 v124 _ := h127
        have q131 := Nq.appY q120 h114.fpb hb129
        have q132 := Nq.appX q119 (Nq.nil _) hb129 h114.blt
        have q133 := Zn.appD z53 hb129 hE122
        replace h114 := h114.nq hc128 q120
        have hE134 := Ext.then hE122 hc128 (Zn.bl z53)
        refine op_g ha rfl (g_assign rfl) ?_; clear ha a; intro a ha; refine wpList_nil ?_; replace ha := ha.sub (σ' := [(0, (.int .i64 a0)), (3, v124), (4, (.int .i64 i57))]) ⟨rfl, rfl, rfl, trivial⟩; refine e_blk ?_; refine e_then ?_; refine wp_region_lit ?_; refine op_g ha rfl (g_move rfl) ?_; clear ha a; intro a ha; obtain ⟨hI135, hF⟩ := ck_some hF; refine op_g ha rfl (g_add rfl rfl hI135) ?_; clear ha a; intro a ha; refine op_g ha rfl (g_assign rfl) ?_; clear ha a; intro a ha; refine wpList_nil ?_; replace ha := ha.sub (σ' := [(0, (.int .i64 a0)), (3, v124), (4, (.int .i64 (i57 + 1)))]) ⟨rfl, rfl, rfl, trivial⟩
        refine e_lq ?_; obtain rfl := Option.some.inj hF
        exact ⟨_, Nat.lt_succ_self _, (l54 ++ ([(-1)])), i57 + 1, v124, b126, ha.sub ⟨rfl, rfl, rfl, trivial⟩, hE134, hI135, h127, q133, hN108⟩
      replace hF := if_f hp111 hF; refine wp_exit ?_; refine e_then_exit ?_; refine e_lq_eq ?_; obtain rfl := Option.some.inj hF
      exact ⟨l54, v55, b56, ha.sub ⟨rfl, trivial⟩, hE59, h52, z53, (LK_inr hN108).symm⟩
  rintro a w95 ⟨l99, v100, b101, ha, hE107, h97, z98, rfl⟩
  have hF : F_spec_l26None_k2 l99 = some _ := hK104; clear hK104; unfold F_spec_l26None_k2 at hF
  refine e_then ?_; refine wp_seq ?_; refine wp_region_lit ?_; refine op_g ha rfl (g_move rfl) ?_; clear ha a; intro a ha; refine op_g ha rfl (g_assign rfl) ?_; clear ha a; intro a ha; refine wpList_nil ?_; replace ha := ha.sub (σ' := [(2, v100)]) ⟨rfl, trivial⟩; refine e_then ?_; refine wp_ret ?_; obtain rfl := Option.some.inj hF
  exact f_ret1 ha rfl rfl ⟨_, h97, z98, hE107⟩
set_option maxHeartbeats 2000000 in
theorem W_spec_l26Try_step {rc : (List (List Int)) → (List Int) → Int → Int → Int → Option ((List Int) × Bool)} (ih : ∀ {W : World} {va0_0 : Value} {fa0_0 : List Nat} {a0_0 : (List (List Int))} (ha0_0 : Ro (Rp.sl 2 Rp.int) W fa0_0 va0_0 a0_0) {va1 : Value} {fa1 : List Nat} {a1 : (List Int)} (ha1 : Ro Rp.int W fa1 va1 a1) {a2 : Int} (ha2 : InI a2) {a3 : Int} (ha3 : InI a3) {a4 : Int} (ha4 : InI a4) {r : ((List Int) × Bool)} (hF : rc a0_0 a1 a2 a3 a4 = some r),
    Calls Try.prog 51 [.agg #[va0_0], va1, .int .i64 a2, .int .i64 a3, .int .i64 a4].toArray W (Ret fun u w' => ∃ (u0 : Value) (u1 : Value) (fp_u0 : List Nat), u = .tuple #[u0, u1] ∧ Ro Rp.int w' fp_u0 u0 r.1 ∧ Pv (fa0_0 ++ fa1) W.heap.size fp_u0 ∧ u1 = .bool r.2 ∧ Ext W w')) {W : World} {va0_0 : Value} {fa0_0 : List Nat} {a0_0 : (List (List Int))} (ha0_0 : Ro (Rp.sl 2 Rp.int) W fa0_0 va0_0 a0_0) {va1 : Value} {fa1 : List Nat} {a1 : (List Int)} (ha1 : Ro Rp.int W fa1 va1 a1) {a2 : Int} (ha2 : InI a2) {a3 : Int} (ha3 : InI a3) {a4 : Int} (ha4 : InI a4) {r : ((List Int) × Bool)} (hF : F_spec_l26Try_body rc a0_0 a1 a2 a3 a4 = some r) :
    Calls Try.prog 51 [.agg #[va0_0], va1, .int .i64 a2, .int .i64 a3, .int .i64 a4].toArray W (Ret fun u w' => ∃ (u0 : Value) (u1 : Value) (fp_u0 : List Nat), u = .tuple #[u0, u1] ∧ Ro Rp.int w' fp_u0 u0 r.1 ∧ Pv (fa0_0 ++ fa1) W.heap.size fp_u0 ∧ u1 = .bool r.2 ∧ Ext W w') := by
  refine f_enter Try.func51 rfl Try.ntmps51 rfl ?_
  intro a ha
  replace ha : Fr 88 [(0, (.agg #[va0_0])), (1, va1), (2, (.int .i64 a2)), (3, (.int .i64 a3)), (4, (.int .i64 a4))] a := ha
  have hE : Chg [] W W := Chg.refl _ _
  unfold F_spec_l26Try_body at hF
  refine wp_seq ?_; refine wp_region_lit ?_
  refine o_box ha rfl rfl rfl ?_; clear ha a; intro b1 w2 hB3 hx4 hlo5 a ha
  have q6 := Zn.one hlo5
  have q7 := Zn.upD q6 hE
  have hE8 := Ext.trans hE hx4
  (iterate 2 refine op_g ha rfl (g_assign rfl) ?_; clear ha a; intro a ha); refine wpList_nil ?_; replace ha := ha.sub (σ' := [(1, va1), (2, (.int .i64 a2)), (3, (.int .i64 a3)), (4, (.int .i64 a4)), (5, (.pointer (some ⟨b1, 0, none⟩)))]) ⟨rfl, rfl, rfl, rfl, rfl, trivial⟩; refine e_then ?_; refine wp_seq ?_; refine wp_seq ?_; refine wp_region_lit ?_; refine op_g ha rfl (g_move rfl) ?_; clear ha a; intro a ha; refine op_g ha rfl (g_field0 st29_0 rfl) ?_; clear ha a; intro a ha; refine op_g ha rfl (g_load Try.isAgg27 rfl (hB3.cell rfl)) ?_; clear ha a; intro a ha; refine op_g ha rfl (g_lenR sl27.und ha0_0 rfl) ?_; clear ha a; intro a ha
  refine op_g ha rfl (g_eql rfl rfl) ?_; clear ha a; intro a ha; refine wpList_nil ?_; replace ha := ha.sub (σ' := [(1, va1), (2, (.int .i64 a2)), (3, (.int .i64 a3)), (4, (.int .i64 a4)), (5, (.pointer (some ⟨b1, 0, none⟩))), (23, (.bool (decide (a2 = (a0_0.length : Int)))))]) ⟨rfl, rfl, rfl, rfl, rfl, rfl, trivial⟩; refine e_then ?_; refine c_cond (a2 = (a0_0.length : Int)) ha rfl (decide_eq_true_iff) (fun hp9 => ?_) (fun hp9 => ?_)
  · replace hF := if_t hp9 hF
    refine wp_seq ?_; refine wp_region_lit ?_; refine op_g ha rfl (g_move rfl) ?_; clear ha a; intro a ha; (iterate 2 refine op_g ha rfl (g_assign rfl) ?_; clear ha a; intro a ha); refine wpList_nil ?_; replace ha := ha.sub (σ' := [(10, va1), (11, (.bool true))]) ⟨rfl, rfl, trivial⟩; refine e_then ?_; refine wp_ret ?_; refine e_then_ret ?_; obtain rfl := Option.some.inj hF
    exact f_ret2 ha rfl rfl rfl ⟨_, _, _, rfl, (ha1.ext hE8), (Pv.par (fun _ h => List.mem_append_right _ h)), rfl, hE8⟩
  replace hF := if_f hp9 hF; refine wp_skip ?_; refine e_then ?_; refine wp_seq ?_; refine wp_seq ?_; refine wp_region_lit ?_; refine op_g ha rfl (g_assign rfl) ?_; clear ha a; intro a ha; refine wpList_nil ?_; replace ha := ha.sub (σ' := [(1, va1), (2, (.int .i64 a2)), (3, (.int .i64 a3)), (4, (.int .i64 a4)), (5, (.pointer (some ⟨b1, 0, none⟩))), (12, (.int .i64 0))]) ⟨rfl, rfl, rfl, rfl, rfl, rfl, trivial⟩; refine e_then ?_; obtain ⟨o613, ho614, hK615⟩ := bnd_some hF
  obtain ⟨n616, hn617⟩ := lp_some ho614; clear ho614
  refine c_loop (fun a w => Fr 88 [(1, va1)] a ∧ Chg [] W w ∧ o613 = .inl ()) (fun n a w => ∃ (i313 : Int), Fr 88 [(1, va1), (2, (.int .i64 a2)), (3, (.int .i64 a3)), (4, (.int .i64 a4)), (5, (.pointer (some ⟨b1, 0, none⟩))), (12, (.int .i64 i313))] a ∧ Chg [] W w ∧ InI i313 ∧ Bx w b1 [va0_0] 29 ∧ Zn W (b1 : Int) ∧ lpN (fun s => F_spec_l26Try_l1 a0_0 a1 a2 a3 a4 rc s) n i313 = some o613) n616 ⟨0, ha.sub ⟨rfl, rfl, rfl, rfl, rfl, rfl, trivial⟩, hE8, (show InI 0 from by decide), hB3, q7, hn617⟩ ?_ ?_
  · rintro m621 a w310 ⟨i313, ha, hE315, hI314, hB311, z312, hF⟩
    cases m621 with
    | zero => exact (lpN_zero hF).elim
    | succ m621 =>
      obtain ⟨z620, hF, hN619⟩ := lpN_succ hF
      have hF : F_spec_l26Try_l1 a0_0 a1 a2 a3 a4 rc i313 = some z620 := hF; unfold F_spec_l26Try_l1 at hF
      refine wp_seq ?_; refine wp_seq ?_; refine wp_region_lit ?_; (iterate 2 refine op_g ha rfl (g_move rfl) ?_; clear ha a; intro a ha); refine op_g ha rfl (g_lss rfl rfl) ?_; clear ha a; intro a ha; refine op_g ha rfl (g_move rfl) ?_; clear ha a; intro a ha
      by_cases hp622 : i313 < a4
      · replace hF := if_t hp622 hF
        rw [show (decide (i313 < a4)) = true from (decide_eq_true_iff).2 hp622] at ha
        refine op_want (yields ha rfl rfl) ?_; refine op_g ha rfl (g_move rfl) ?_; clear ha a; intro a ha; refine op_want (yields ha rfl rfl) ?_; refine op_g ha rfl (g_move rfl) ?_; clear ha a; intro a ha; refine op_want (yields ha rfl rfl) ?_; refine op_g ha rfl (g_leq rfl rfl) ?_; clear ha a; intro a ha; refine op_g ha rfl (g_pick rfl rfl) ?_; clear ha a; intro a ha; refine wpList_nil ?_; replace ha := ha.sub (σ' := [(1, va1), (2, (.int .i64 a2)), (3, (.int .i64 a3)), (4, (.int .i64 a4)), (5, (.pointer (some ⟨b1, 0, none⟩))), (12, (.int .i64 i313)), (29, (.int .i64 i313)), (30, (.int .i64 a3)), (31, (.bool (decide (i313 ≤ a3)))), (32, (.bool (decide (i313 ≤ a3))))]) ⟨rfl, rfl, rfl, rfl, rfl, rfl, rfl, rfl, rfl, rfl, trivial⟩
        refine e_then ?_; refine c_cond (i313 ≤ a3) ha rfl (decide_eq_true_iff) (fun hp623 => ?_) (fun hp623 => ?_)
        · replace hF := if_t hp623 hF
          refine wp_skip ?_; refine e_then ?_; refine wp_seq ?_; refine wp_block ?_; refine wp_seq ?_; refine wp_region_lit ?_; refine op_g ha rfl (g_assign rfl) ?_; clear ha a; intro a ha; refine wpList_nil ?_; replace ha := ha.sub (σ' := [(1, va1), (2, (.int .i64 a2)), (3, (.int .i64 a3)), (4, (.int .i64 a4)), (5, (.pointer (some ⟨b1, 0, none⟩))), (12, (.int .i64 i313)), (13, (.bool true)), (29, (.int .i64 i313)), (30, (.int .i64 a3)), (31, (.bool (decide (i313 ≤ a3))))]) ⟨rfl, rfl, rfl, rfl, rfl, rfl, rfl, rfl, rfl, rfl, trivial⟩; refine e_then ?_; refine wp_seq ?_; refine wp_seq ?_; refine wp_region_lit ?_
          refine op_g ha rfl (g_assign rfl) ?_; clear ha a; intro a ha; refine wpList_nil ?_; replace ha := ha.sub (σ' := [(1, va1), (2, (.int .i64 a2)), (3, (.int .i64 a3)), (4, (.int .i64 a4)), (5, (.pointer (some ⟨b1, 0, none⟩))), (12, (.int .i64 i313)), (13, (.bool true)), (14, (.int .i64 0)), (29, (.int .i64 i313)), (30, (.int .i64 a3)), (31, (.bool (decide (i313 ≤ a3))))]) ⟨rfl, rfl, rfl, rfl, rfl, rfl, rfl, rfl, rfl, rfl, rfl, trivial⟩; refine e_then ?_; obtain ⟨o768, ho769, hK770⟩ := bnd_some hF
          obtain ⟨n771, hn772⟩ := lp_some ho769; clear ho769
          refine c_loop (fun a w => ∃ (t767 : Bool), Fr 88 [(1, va1), (2, (.int .i64 a2)), (3, (.int .i64 a3)), (4, (.int .i64 a4)), (5, (.pointer (some ⟨b1, 0, none⟩))), (12, (.int .i64 i313)), (13, (.bool t767)), (29, (.int .i64 i313)), (30, (.int .i64 a3)), (31, (.bool (decide (i313 ≤ a3))))] a ∧ Chg [] W w ∧ Bx w b1 [va0_0] 29 ∧ Zn W (b1 : Int) ∧ o768 = .inl t767) (fun n a w => ∃ (t694 : Bool) (i695 : Int), Fr 88 [(1, va1), (2, (.int .i64 a2)), (3, (.int .i64 a3)), (4, (.int .i64 a4)), (5, (.pointer (some ⟨b1, 0, none⟩))), (12, (.int .i64 i313)), (13, (.bool t694)), (14, (.int .i64 i695)), (29, (.int .i64 i313)), (30, (.int .i64 a3)), (31, (.bool (decide (i313 ≤ a3))))] a ∧ Chg [] W w ∧ InI i695 ∧ Bx w b1 [va0_0] 29 ∧ Zn W (b1 : Int) ∧ lpN (fun s => F_spec_l26Try_l2 a0_0 a1 a2 i313 s.1 s.2) n (t694, i695) = some o768) n771 ⟨true, 0, ha.sub ⟨rfl, rfl, rfl, rfl, rfl, rfl, rfl, rfl, rfl, rfl, rfl, trivial⟩, hE315, (show InI 0 from by decide), hB311, z312, hn772⟩ ?_ ?_
          · rintro m776 a w691 ⟨t694, i695, ha, hE697, hI696, hB692, z693, hF⟩
            cases m776 with
            | zero => exact (lpN_zero hF).elim
            | succ m776 =>
              obtain ⟨z775, hF, hN774⟩ := lpN_succ hF
              have hF : F_spec_l26Try_l2 a0_0 a1 a2 i313 t694 i695 = some z775 := hF; unfold F_spec_l26Try_l2 at hF
              refine wp_seq ?_; refine wp_seq ?_; refine wp_region_lit ?_; refine op_g ha rfl (g_move rfl) ?_; clear ha a; intro a ha; refine op_g ha rfl (g_field0 st29_0 rfl) ?_; clear ha a; intro a ha; refine op_g ha rfl (g_load Try.isAgg27 rfl (hB692.cell rfl)) ?_; clear ha a; intro a ha; refine op_g ha rfl (g_move rfl) ?_; clear ha a; intro a ha; obtain ⟨x777, g778, gx779, hF⟩ := idx_some hF
              obtain ⟨p780, cs781, f782, hf783, hpb784, hat785, hr786, hi787⟩ := ha0_0.at g778 gx779
              obtain ⟨v788, rfl, h789⟩ := hr786
              have h789 : Ro Rp.int W f782 v788 x777 := h789
              have q791 := (Pv.mono (Pv.par (fun _ h => List.mem_append_left _ h)) hf783 : Pv (fa0_0 ++ fa1) W.heap.size f782)
              refine op_g ha rfl (hi787.gives sl27 rfl rfl) ?_; clear ha a; intro a ha; refine op_g ha rfl (g_load0 hE697 Try.isAgg35 rfl hat785.one) ?_; clear ha a; intro a ha; refine op_g ha rfl (g_lenR sl35.und h789 rfl) ?_; clear ha a; intro a ha; refine op_g ha rfl (g_lss rfl rfl) ?_; clear ha a; intro a ha; refine wpList_nil ?_; replace ha := ha.sub (σ' := [(1, va1), (2, (.int .i64 a2)), (3, (.int .i64 a3)), (4, (.int .i64 a4)), (5, (.pointer (some ⟨b1, 0, none⟩))), (12, (.int .i64 i313)), (13, (.bool t694)), (14, (.int .i64 i695)), (29, (.int .i64 i313)), (30, (.int .i64 a3)), (31, (.bool (decide (i313 ≤ a3)))), (42, (.bool (decide (i695 < (x777.length : Int)))))]) ⟨rfl, rfl, rfl, rfl, rfl, rfl, rfl, rfl, rfl, rfl, rfl, rfl, trivial⟩
              refine e_then ?_; refine c_cond (i695 < (x777.length : Int)) ha rfl (decide_eq_true_iff) (fun hp792 => ?_) (fun hp792 => ?_)
              · replace hF := if_t hp792 hF
                refine wp_skip ?_; refine e_then ?_; refine wp_seq ?_; refine wp_block ?_; refine wp_region_lit ?_; (iterate 2 refine op_g ha rfl (g_move rfl) ?_; clear ha a; intro a ha)
                by_cases hp793 : t694 = true
                · replace hF := if_t hp793 hF
                  rw [show (t694) = true from (Iff.rfl).2 hp793] at ha
                  refine op_want (yields ha rfl rfl) ?_; refine op_g ha rfl (g_move rfl) ?_; clear ha a; intro a ha; refine op_want (yields ha rfl rfl) ?_; refine op_g ha rfl (g_field0 st29_0 rfl) ?_; clear ha a; intro a ha; refine op_want (yields ha rfl rfl) ?_; refine op_g ha rfl (g_load Try.isAgg27 rfl (hB692.cell rfl)) ?_; clear ha a; intro a ha; refine op_want (yields ha rfl rfl) ?_; refine op_g ha rfl (g_move rfl) ?_; clear ha a; intro a ha; refine op_want (yields ha rfl rfl) ?_; obtain ⟨x794, g795, gx796, hF⟩ := idx_some hF
                  obtain ⟨p797, cs798, f799, hf800, hpb801, hat802, hr803, hi804⟩ := ha0_0.at g795 gx796
                  obtain ⟨v805, rfl, h806⟩ := hr803
                  have h806 : Ro Rp.int W f799 v805 x794 := h806
                  have q808 := (Pv.mono (Pv.par (fun _ h => List.mem_append_left _ h)) hf800 : Pv (fa0_0 ++ fa1) W.heap.size f799)
                  refine op_g ha rfl (hi804.gives sl27 rfl rfl) ?_; clear ha a; intro a ha; refine op_want (yields ha rfl rfl) ?_; refine op_g ha rfl (g_load0 hE697 Try.isAgg35 rfl hat802.one) ?_; clear ha a; intro a ha; refine op_want (yields ha rfl rfl) ?_; refine op_g ha rfl (g_move rfl) ?_; clear ha a; intro a ha; refine op_want (yields ha rfl rfl) ?_; obtain ⟨x809, g810, gx811, hF⟩ := idx_some hF
                  obtain ⟨p812, cs813, f814, hf815, hpb816, hat817, hr818, hi819⟩ := h806.at g810 gx811
                  obtain ⟨rfl, hI820, rfl⟩ := hr818
                  refine op_g ha rfl (hi819.gives sl35 rfl rfl) ?_; clear ha a; intro a ha; refine op_want (yields ha rfl rfl) ?_; refine op_g ha rfl (g_load0 hE697 Try.isAgg2 rfl hat817.one) ?_; clear ha a; intro a ha; refine op_want (yields ha rfl rfl) ?_; obtain ⟨x821, g822, gx823, hF⟩ := idx_some hF
                  obtain ⟨p824, cs825, f826, hf827, hpb828, hat829, hr830, hi831⟩ := ha1.at g822 gx823
                  obtain ⟨rfl, hI832, rfl⟩ := hr830
                  refine op_g ha rfl (hi831.gives sl35 rfl rfl) ?_; clear ha a; intro a ha; refine op_want (yields ha rfl rfl) ?_; refine op_g ha rfl (g_load0 hE697 Try.isAgg2 rfl hat829.one) ?_; clear ha a; intro a ha; refine op_want (yields ha rfl rfl) ?_; refine op_g ha rfl (g_move rfl) ?_; clear ha a; intro a ha; refine op_want (yields ha rfl rfl) ?_; refine op_g ha rfl (g_neq rfl rfl) ?_; clear ha a; intro a ha; refine op_g ha rfl (g_pick rfl rfl) ?_; clear ha a; intro a ha; refine op_g ha rfl (g_assign rfl) ?_; clear ha a; intro a ha; refine wpList_nil ?_; replace ha := ha.sub (σ' := [(1, va1), (2, (.int .i64 a2)), (3, (.int .i64 a3)), (4, (.int .i64 a4)), (5, (.pointer (some ⟨b1, 0, none⟩))), (12, (.int .i64 i313)), (13, (.bool (decide (x821 ≠ i313)))), (14, (.int .i64 i695)), (29, (.int .i64 i313)), (30, (.int .i64 a3)), (31, (.bool (decide (i313 ≤ a3)))), (47, va1), (48, (.pointer (some ⟨b1, 0, none⟩))), (49, va0_0), (50, (.int .i64 a2)), (51, (.pointer (some p797))), (52, v805), (53, (.int .i64 i695)), (54, (.pointer (some p812))), (55, (.int .i64 x809)), (56, (.pointer (some p824))), (57, (.int .i64 x821)), (58, (.int .i64 i313)), (59, (.bool (decide (x821 ≠ i313))))]) ⟨rfl, rfl, rfl, rfl, rfl, rfl, rfl, rfl, rfl, rfl, rfl, rfl, rfl, rfl, rfl, rfl, rfl, rfl, rfl, rfl, rfl, rfl, rfl, rfl, trivial⟩
                  refine e_blk ?_; refine e_then ?_; refine wp_region_lit ?_; refine op_g ha rfl (g_move rfl) ?_; clear ha a; intro a ha; obtain ⟨hI833, hF⟩ := ck_some hF; refine op_g ha rfl (g_add rfl rfl hI833) ?_; clear ha a; intro a ha; refine op_g ha rfl (g_assign rfl) ?_; clear ha a; intro a ha; refine wpList_nil ?_; replace ha := ha.sub (σ' := [(1, va1), (2, (.int .i64 a2)), (3, (.int .i64 a3)), (4, (.int .i64 a4)), (5, (.pointer (some ⟨b1, 0, none⟩))), (12, (.int .i64 i313)), (13, (.bool (decide (x821 ≠ i313)))), (14, (.int .i64 (i695 + 1))), (29, (.int .i64 i313)), (30, (.int .i64 a3)), (31, (.bool (decide (i313 ≤ a3)))), (47, va1), (48, (.pointer (some ⟨b1, 0, none⟩))), (49, va0_0), (50, (.int .i64 a2)), (51, (.pointer (some p797))), (52, v805), (53, (.int .i64 i695)), (54, (.pointer (some p812))), (55, (.int .i64 x809)), (56, (.pointer (some p824))), (57, (.int .i64 x821)), (58, (.int .i64 i313)), (59, (.bool (decide (x821 ≠ i313))))]) ⟨rfl, rfl, rfl, rfl, rfl, rfl, rfl, rfl, rfl, rfl, rfl, rfl, rfl, rfl, rfl, rfl, rfl, rfl, rfl, rfl, rfl, rfl, rfl, rfl, trivial⟩
                  refine e_lq ?_; obtain rfl := Option.some.inj hF
                  exact ⟨_, Nat.lt_succ_self _, decide (x821 ≠ i313), i695 + 1, ha.sub ⟨rfl, rfl, rfl, rfl, rfl, rfl, rfl, rfl, rfl, rfl, rfl, trivial⟩, hE697, hI833, hB692, z693, hN774⟩
                replace hF := if_f hp793 hF
                rw [show (t694) = false from b_false (Iff.rfl) hp793] at ha
                (iterate 13 refine op_unwant ha rfl (yields ha rfl rfl) rfl ?_; clear ha a; intro a ha); refine op_g ha rfl (g_pick rfl rfl) ?_; clear ha a; intro a ha; refine op_g ha rfl (g_assign rfl) ?_; clear ha a; intro a ha; refine wpList_nil ?_; replace ha := ha.sub (σ' := [(1, va1), (2, (.int .i64 a2)), (3, (.int .i64 a3)), (4, (.int .i64 a4)), (5, (.pointer (some ⟨b1, 0, none⟩))), (12, (.int .i64 i313)), (13, (.bool false)), (14, (.int .i64 i695)), (29, (.int .i64 i313)), (30, (.int .i64 a3)), (31, (.bool (decide (i313 ≤ a3))))]) ⟨rfl, rfl, rfl, rfl, rfl, rfl, rfl, rfl, rfl, rfl, rfl, trivial⟩
                refine e_blk ?_; refine e_then ?_; refine wp_region_lit ?_; refine op_g ha rfl (g_move rfl) ?_; clear ha a; intro a ha; obtain ⟨hI835, hF⟩ := ck_some hF; refine op_g ha rfl (g_add rfl rfl hI835) ?_; clear ha a; intro a ha; refine op_g ha rfl (g_assign rfl) ?_; clear ha a; intro a ha; refine wpList_nil ?_; replace ha := ha.sub (σ' := [(1, va1), (2, (.int .i64 a2)), (3, (.int .i64 a3)), (4, (.int .i64 a4)), (5, (.pointer (some ⟨b1, 0, none⟩))), (12, (.int .i64 i313)), (13, (.bool false)), (14, (.int .i64 (i695 + 1))), (29, (.int .i64 i313)), (30, (.int .i64 a3)), (31, (.bool (decide (i313 ≤ a3))))]) ⟨rfl, rfl, rfl, rfl, rfl, rfl, rfl, rfl, rfl, rfl, rfl, trivial⟩
                refine e_lq ?_; obtain rfl := Option.some.inj hF
                exact ⟨_, Nat.lt_succ_self _, false, i695 + 1, ha.sub ⟨rfl, rfl, rfl, rfl, rfl, rfl, rfl, rfl, rfl, rfl, rfl, trivial⟩, hE697, hI835, hB692, z693, hN774⟩
              replace hF := if_f hp792 hF; refine wp_exit ?_; refine e_then_exit ?_; refine e_lq_eq ?_; obtain rfl := Option.some.inj hF
              exact ⟨t694, ha.sub ⟨rfl, rfl, rfl, rfl, rfl, rfl, rfl, rfl, rfl, rfl, trivial⟩, hE697, hB692, z693, (LK_inr hN774).symm⟩
          rintro a w764 ⟨t767, ha, hE773, hB765, z766, rfl⟩
          have hF : F_spec_l26Try_k3 a0_0 a1 a2 a3 a4 rc i313 t767 = some _ := hK770; clear hK770; unfold F_spec_l26Try_k3 at hF
          refine e_then ?_; refine wp_seq ?_; refine wp_seq ?_; refine wp_region_lit ?_; refine op_g ha rfl (g_move rfl) ?_; clear ha a; intro a ha; refine op_g ha rfl (g_not rfl) ?_; clear ha a; intro a ha; refine wpList_nil ?_; replace ha := ha.sub (σ' := [(1, va1), (2, (.int .i64 a2)), (3, (.int .i64 a3)), (4, (.int .i64 a4)), (5, (.pointer (some ⟨b1, 0, none⟩))), (12, (.int .i64 i313)), (29, (.int .i64 i313)), (30, (.int .i64 a3)), (31, (.bool (decide (i313 ≤ a3)))), (62, (.bool (!t767)))]) ⟨rfl, rfl, rfl, rfl, rfl, rfl, rfl, rfl, rfl, rfl, trivial⟩; refine e_then ?_; refine c_cond (¬ (t767 = true)) ha rfl (n_iff (Iff.rfl)) (fun hp837 => ?_) (fun hp837 => ?_)
          · replace hF := if_t hp837 hF
            refine wp_exit ?_; refine e_then_exit ?_; refine e_blk_eq ?_; refine e_then ?_; refine wp_region_lit ?_; refine op_g ha rfl (g_move rfl) ?_; clear ha a; intro a ha; obtain ⟨hI838, hF⟩ := ck_some hF; refine op_g ha rfl (g_add rfl rfl hI838) ?_; clear ha a; intro a ha; refine op_g ha rfl (g_assign rfl) ?_; clear ha a; intro a ha; refine wpList_nil ?_; replace ha := ha.sub (σ' := [(1, va1), (2, (.int .i64 a2)), (3, (.int .i64 a3)), (4, (.int .i64 a4)), (5, (.pointer (some ⟨b1, 0, none⟩))), (12, (.int .i64 (i313 + 1))), (29, (.int .i64 i313)), (30, (.int .i64 a3)), (31, (.bool (decide (i313 ≤ a3))))]) ⟨rfl, rfl, rfl, rfl, rfl, rfl, rfl, rfl, rfl, trivial⟩
            refine e_lq ?_; obtain rfl := Option.some.inj hF
            exact ⟨_, Nat.lt_succ_self _, i313 + 1, ha.sub ⟨rfl, rfl, rfl, rfl, rfl, rfl, trivial⟩, hE773, hI838, hB765, z766, hN619⟩
          replace hF := if_f hp837 hF; refine wp_skip ?_; refine e_then ?_; refine wp_seq ?_; refine wp_region_lit ?_; refine op_g ha rfl (g_move rfl) ?_; clear ha a; intro a ha; obtain ⟨x840, hc841, hF⟩ := cal_some hF
          refine o_call ha rfl rfl Try.call54 (W_spec_l1Copy (ha1.ext hE773) hc841) ?_; clear ha a; rintro v842 w843 ⟨b845, h846, z847, hx844⟩ a ha
          have q849 := Nq.new hB765.fpb z847
          have q850 := Nq.madeO z847 hB765.bi
          replace hB765 := hB765.ext hx844
          have hE851 := Ext.trans hE773 hx844
          have q852 := Zn.upD z847 hE773
          refine op_g ha rfl (g_assign rfl) ?_; clear ha a; intro a ha; refine wpList_nil ?_; replace ha := ha.sub (σ' := [(1, va1), (2, (.int .i64 a2)), (3, (.int .i64 a3)), (4, (.int .i64 a4)), (5, (.pointer (some ⟨b1, 0, none⟩))), (12, (.int .i64 i313)), (15, v842), (29, (.int .i64 i313)), (30, (.int .i64 a3)), (31, (.bool (decide (i313 ≤ a3))))]) ⟨rfl, rfl, rfl, rfl, rfl, rfl, rfl, rfl, rfl, rfl, trivial⟩; refine e_then ?_; refine wp_seq ?_; refine wp_region_lit ?_; (iterate 3 refine op_g ha rfl (g_move rfl) ?_; clear ha a; intro a ha); obtain ⟨x853, g854, gx855, hF⟩ := idx_some hF
          obtain ⟨p856, cs857, f858, hf859, hpb860, hat861, hr862, hi863⟩ := h846.at g854 gx855
          obtain ⟨rfl, hI864, rfl⟩ := hr862
          refine op_g ha rfl (hi863.gives sl35 rfl rfl) ?_; clear ha a; intro a ha
          refine o_storeE (f := []) (q := i313) ha Try.sizeOf2 rfl rfl rfl h846 hi863 ⟨rfl, hI314, rfl⟩ (Nq.nil _) ?_; intro w865 fs866 h867 hc868 hs869
          obtain rfl := Subst.nil hs869
          replace hB765 := hB765.nq hc868 q849
          have hE870 := Ext.then hE851 hc868 (Zn.bl q852)
          refine wpList_nil ?_; replace ha := ha.sub (σ' := [(1, va1), (2, (.int .i64 a2)), (3, (.int .i64 a3)), (4, (.int .i64 a4)), (5, (.pointer (some ⟨b1, 0, none⟩))), (12, (.int .i64 i313)), (15, v842), (29, (.int .i64 i313)), (30, (.int .i64 a3)), (31, (.bool (decide (i313 ≤ a3))))]) ⟨rfl, rfl, rfl, rfl, rfl, rfl, rfl, rfl, rfl, rfl, trivial⟩; refine e_then ?_; refine wp_seq ?_; refine wp_region_lit ?_; refine op_g ha rfl (g_move rfl) ?_; clear ha a; intro a ha; refine op_g ha rfl (g_assign rfl) ?_; clear ha a; intro a ha; refine wpList_nil ?_; replace ha := ha.sub (σ' := [(1, va1), (2, (.int .i64 a2)), (3, (.int .i64 a3)), (4, (.int .i64 a4)), (5, (.pointer (some ⟨b1, 0, none⟩))), (12, (.int .i64 i313)), (15, v842), (16, (.int .i64 a3)), (29, (.int .i64 i313)), (30, (.int .i64 a3)), (31, (.bool (decide (i313 ≤ a3))))]) ⟨rfl, rfl, rfl, rfl, rfl, rfl, rfl, rfl, rfl, rfl, rfl, trivial⟩
          refine e_then ?_; obtain ⟨o874, ho875, hK876⟩ := bnd_some hF
          have hF := ho875; clear ho875
          refine s_cut (fun a w => ∃ (i883 : Int), Fr 88 [(1, va1), (2, (.int .i64 a2)), (3, (.int .i64 a3)), (4, (.int .i64 a4)), (5, (.pointer (some ⟨b1, 0, none⟩))), (12, (.int .i64 i313)), (15, v842), (16, (.int .i64 i883)), (29, (.int .i64 i313)), (30, (.int .i64 a3)), (31, (.bool (decide (i313 ≤ a3))))] a ∧ Chg [] W w ∧ InI i883 ∧ Bx w b1 [va0_0] 29 ∧ Zn W (b1 : Int) ∧ Ow Rp.int 2 true w [] b845 v842 (x840.set ((a2 : Int).toNat) i313) ∧ Zn W b845 ∧ Nq ([b1]) b845 ∧ Nq (bl b845 ++ []) (b1 : Int) ∧ o874 = .inl i883) ?_ ?_
          · skip
            refine wp_seq ?_; refine wp_region_lit ?_; (iterate 2 refine op_g ha rfl (g_move rfl) ?_; clear ha a; intro a ha); refine op_g ha rfl (g_eql rfl rfl) ?_; clear ha a; intro a ha; refine wpList_nil ?_; replace ha := ha.sub (σ' := [(1, va1), (2, (.int .i64 a2)), (3, (.int .i64 a3)), (4, (.int .i64 a4)), (5, (.pointer (some ⟨b1, 0, none⟩))), (12, (.int .i64 i313)), (15, v842), (16, (.int .i64 a3)), (29, (.int .i64 i313)), (30, (.int .i64 a3)), (31, (.bool (decide (i313 ≤ a3)))), (72, (.bool (decide (i313 = a3))))]) ⟨rfl, rfl, rfl, rfl, rfl, rfl, rfl, rfl, rfl, rfl, rfl, rfl, trivial⟩; refine e_then ?_
            refine c_cond (i313 = a3) ha rfl (decide_eq_true_iff) (fun hp888 => ?_) (fun hp888 => ?_)
            · replace hF := if_t hp888 hF
              refine wp_region_lit ?_; refine op_g ha rfl (g_move rfl) ?_; clear ha a; intro a ha; obtain ⟨hI889, hF⟩ := ck_some hF; refine op_g ha rfl (g_add rfl rfl hI889) ?_; clear ha a; intro a ha; refine op_g ha rfl (g_assign rfl) ?_; clear ha a; intro a ha; refine wpList_nil ?_; replace ha := ha.sub (σ' := [(1, va1), (2, (.int .i64 a2)), (3, (.int .i64 a3)), (4, (.int .i64 a4)), (5, (.pointer (some ⟨b1, 0, none⟩))), (12, (.int .i64 i313)), (15, v842), (16, (.int .i64 (a3 + 1))), (29, (.int .i64 i313)), (30, (.int .i64 a3)), (31, (.bool (decide (i313 ≤ a3))))]) ⟨rfl, rfl, rfl, rfl, rfl, rfl, rfl, rfl, rfl, rfl, rfl, trivial⟩
              refine e_sq ?_; obtain rfl := Option.some.inj hF
              exact ⟨a3 + 1, ha.sub ⟨rfl, rfl, rfl, rfl, rfl, rfl, rfl, rfl, rfl, rfl, rfl, trivial⟩, hE870, hI889, hB765, z766, h867, q852, q849, q850, rfl⟩
            replace hF := if_f hp888 hF; refine wp_skip ?_; refine e_sq ?_; obtain rfl := Option.some.inj hF
            exact ⟨a3, ha.sub ⟨rfl, rfl, rfl, rfl, rfl, rfl, rfl, rfl, rfl, rfl, rfl, trivial⟩, hE870, ha3, hB765, z766, h867, q852, q849, q850, rfl⟩
          rintro a w877 ⟨i883, ha, hE887, hI884, hB878, z879, h881, z882, q885, q886, rfl⟩
          have hF : F_spec_l26Try_k4 a0_0 a2 a4 rc i313 x840 i883 = some _ := hK876; clear hK876; unfold F_spec_l26Try_k4 at hF
          refine wp_seq ?_; refine wp_region_lit ?_; refine op_g ha rfl (g_loadA (cs := [va0_0]) Try.isAgg29 Try.sizeOf29 rfl (by simp) hB878.all) ?_; clear ha a; intro a ha; (iterate 2 refine op_g ha rfl (g_move rfl) ?_; clear ha a; intro a ha); obtain ⟨hI891, hF⟩ := ck_some hF; refine op_g ha rfl (g_add rfl rfl hI891) ?_; clear ha a; intro a ha; (iterate 2 refine op_g ha rfl (g_move rfl) ?_; clear ha a; intro a ha)
          obtain ⟨fp893, hro894, hs895⟩ := h881.roF
          obtain ⟨x896, hc897, hF⟩ := cal_some hF
          refine o_call ha rfl rfl Try.call51 (ih (ha0_0.ext hE887) hro894 hI891 hI884 ha4 hc897) ?_; clear ha a; rintro v898 w899 ⟨u901, u902, fp903, rfl, h904, pv905, rfl, hx900⟩ a ha
          have q907 := Nq.rd pv905 (Nq.append (Nq.new ha0_0.bnd z879) (Nq.mono q886 hs895)) hB878.bi
          have q908 := (Pv.call pv905 (Pv.app (Pv.par (fun _ h => List.mem_append_left _ h)) (Pv.mono (Pv.own z882 (zf_nil _)) hs895)) hE887.size : Pv (fa0_0 ++ fa1) W.heap.size fp903)
          replace hB878 := hB878.ext hx900
          replace h881 := h881.ext hx900
          have hE909 := Ext.trans hE887 hx900
          refine op_g ha rfl (g_move rfl) ?_; clear ha a; intro a ha; (iterate 2 refine op_g ha rfl (g_extract rfl rfl) ?_; clear ha a; intro a ha); (iterate 2 refine op_g ha rfl (g_assign rfl) ?_; clear ha a; intro a ha); refine wpList_nil ?_; replace ha := ha.sub (σ' := [(1, va1), (2, (.int .i64 a2)), (3, (.int .i64 a3)), (4, (.int .i64 a4)), (5, (.pointer (some ⟨b1, 0, none⟩))), (12, (.int .i64 i313)), (17, u901), (18, (.bool x896.2)), (29, (.int .i64 i313)), (30, (.int .i64 a3)), (31, (.bool (decide (i313 ≤ a3))))]) ⟨rfl, rfl, rfl, rfl, rfl, rfl, rfl, rfl, rfl, rfl, rfl, trivial⟩; refine e_then ?_
          refine wp_seq ?_; refine wp_region_lit ?_; refine op_g ha rfl (g_move rfl) ?_; clear ha a; intro a ha; refine wpList_nil ?_; replace ha := ha.sub (σ' := [(1, va1), (2, (.int .i64 a2)), (3, (.int .i64 a3)), (4, (.int .i64 a4)), (5, (.pointer (some ⟨b1, 0, none⟩))), (12, (.int .i64 i313)), (17, u901), (29, (.int .i64 i313)), (30, (.int .i64 a3)), (31, (.bool (decide (i313 ≤ a3)))), (85, (.bool x896.2))]) ⟨rfl, rfl, rfl, rfl, rfl, rfl, rfl, rfl, rfl, rfl, rfl, trivial⟩; refine e_then ?_; refine c_cond (x896.2 = true) ha rfl (Iff.rfl) (fun hp910 => ?_) (fun hp910 => ?_)
          · replace hF := if_t hp910 hF
            refine wp_seq ?_; refine wp_region_lit ?_; refine op_g ha rfl (g_move rfl) ?_; clear ha a; intro a ha; (iterate 2 refine op_g ha rfl (g_assign rfl) ?_; clear ha a; intro a ha); refine wpList_nil ?_; replace ha := ha.sub (σ' := [(10, u901), (11, (.bool true))]) ⟨rfl, rfl, trivial⟩; refine e_then ?_; refine wp_ret ?_; refine e_blk_ret ?_; refine e_then_ret ?_; refine e_lq_ret ?_; refine e_then_ret ?_; obtain rfl := Option.some.inj hF
            have e911 := LK_inr hN619; subst e911
            have e912 := BK_inr hK615; subst e912
            exact f_ret2 ha rfl rfl rfl ⟨_, _, _, rfl, h904, (q908), rfl, hE909⟩
          replace hF := if_f hp910 hF; refine wp_skip ?_; refine e_blk ?_; refine e_then ?_; refine wp_region_lit ?_; refine op_g ha rfl (g_move rfl) ?_; clear ha a; intro a ha; obtain ⟨hI913, hF⟩ := ck_some hF; refine op_g ha rfl (g_add rfl rfl hI913) ?_; clear ha a; intro a ha; refine op_g ha rfl (g_assign rfl) ?_; clear ha a; intro a ha; refine wpList_nil ?_; replace ha := ha.sub (σ' := [(1, va1), (2, (.int .i64 a2)), (3, (.int .i64 a3)), (4, (.int .i64 a4)), (5, (.pointer (some ⟨b1, 0, none⟩))), (12, (.int .i64 (i313 + 1))), (29, (.int .i64 i313)), (30, (.int .i64 a3)), (31, (.bool (decide (i313 ≤ a3))))]) ⟨rfl, rfl, rfl, rfl, rfl, rfl, rfl, rfl, rfl, trivial⟩
          refine e_lq ?_; obtain rfl := Option.some.inj hF
          exact ⟨_, Nat.lt_succ_self _, i313 + 1, ha.sub ⟨rfl, rfl, rfl, rfl, rfl, rfl, trivial⟩, hE909, hI913, hB878, z879, hN619⟩
        replace hF := if_f hp623 hF; refine wp_exit ?_; refine e_then_exit ?_; refine e_lq_eq ?_; obtain rfl := Option.some.inj hF
        exact ⟨ha.sub ⟨rfl, trivial⟩, hE315, (LK_inr hN619).symm⟩
      replace hF := if_f hp622 hF
      rw [show (decide (i313 < a4)) = false from b_false (decide_eq_true_iff) hp622] at ha
      (iterate 3 refine op_unwant ha rfl (yields ha rfl rfl) rfl ?_; clear ha a; intro a ha); refine op_g ha rfl (g_pick rfl rfl) ?_; clear ha a; intro a ha; refine wpList_nil ?_; replace ha := ha.sub (σ' := [(1, va1), (2, (.int .i64 a2)), (3, (.int .i64 a3)), (4, (.int .i64 a4)), (5, (.pointer (some ⟨b1, 0, none⟩))), (12, (.int .i64 i313)), (32, (.bool false))]) ⟨rfl, rfl, rfl, rfl, rfl, rfl, rfl, trivial⟩; refine e_then ?_; refine c_false ha rfl ?_; refine wp_exit ?_; refine e_then_exit ?_; refine e_lq_eq ?_; obtain rfl := Option.some.inj hF
      exact ⟨ha.sub ⟨rfl, trivial⟩, hE315, (LK_inr hN619).symm⟩
  rintro a w612 ⟨ha, hE618, rfl⟩
  have hF : F_spec_l26Try_k5 a1 = some _ := hK615; clear hK615; unfold F_spec_l26Try_k5 at hF
  refine e_then ?_; refine wp_seq ?_; refine wp_region_lit ?_; refine op_g ha rfl (g_move rfl) ?_; clear ha a; intro a ha; (iterate 2 refine op_g ha rfl (g_assign rfl) ?_; clear ha a; intro a ha); refine wpList_nil ?_; replace ha := ha.sub (σ' := [(10, va1), (11, (.bool false))]) ⟨rfl, rfl, trivial⟩; refine e_then ?_; refine wp_ret ?_; obtain rfl := Option.some.inj hF
  exact f_ret2 ha rfl rfl rfl ⟨_, _, _, rfl, (ha1.ext hE618), (Pv.par (fun _ h => List.mem_append_right _ h)), rfl, hE618⟩
theorem W_spec_l26Try_n (n : Nat) : ∀ {W : World} {va0_0 : Value} {fa0_0 : List Nat} {a0_0 : (List (List Int))} (ha0_0 : Ro (Rp.sl 2 Rp.int) W fa0_0 va0_0 a0_0) {va1 : Value} {fa1 : List Nat} {a1 : (List Int)} (ha1 : Ro Rp.int W fa1 va1 a1) {a2 : Int} (ha2 : InI a2) {a3 : Int} (ha3 : InI a3) {a4 : Int} (ha4 : InI a4) {r : ((List Int) × Bool)} (hF : itN (fun (rc : ((List (List Int)) × (List Int) × Int × Int × Int) → Option ((List Int) × Bool)) a => F_spec_l26Try_body (fun z0 z1 z2 z3 z4 => rc (z0, z1, z2, z3, z4)) a.1 a.2.1 a.2.2.1 a.2.2.2.1 a.2.2.2.2) n (a0_0, a1, a2, a3, a4) = some r),
    Calls Try.prog 51 [.agg #[va0_0], va1, .int .i64 a2, .int .i64 a3, .int .i64 a4].toArray W (Ret fun u w' => ∃ (u0 : Value) (u1 : Value) (fp_u0 : List Nat), u = .tuple #[u0, u1] ∧ Ro Rp.int w' fp_u0 u0 r.1 ∧ Pv (fa0_0 ++ fa1) W.heap.size fp_u0 ∧ u1 = .bool r.2 ∧ Ext W w') := by
  induction n with
  | zero => intro W va0_0 fa0_0 a0_0 ha0_0 va1 fa1 a1 ha1 a2 ha2 a3 ha3 a4 ha4 r hF; cases hF
  | succ n ih => intro W va0_0 fa0_0 a0_0 ha0_0 va1 fa1 a1 ha1 a2 ha2 a3 ha3 a4 ha4 r hF; exact W_spec_l26Try_step (rc := fun z0 z1 z2 z3 z4 => itN (fun (rc : ((List (List Int)) × (List Int) × Int × Int × Int) → Option ((List Int) × Bool)) a => F_spec_l26Try_body (fun z0 z1 z2 z3 z4 => rc (z0, z1, z2, z3, z4)) a.1 a.2.1 a.2.2.1 a.2.2.2.1 a.2.2.2.2) n (z0, z1, z2, z3, z4)) @ih ha0_0 ha1 ha2 ha3 ha4 hF
theorem W_spec_l26Try {W : World} {va0_0 : Value} {fa0_0 : List Nat} {a0_0 : (List (List Int))} (ha0_0 : Ro (Rp.sl 2 Rp.int) W fa0_0 va0_0 a0_0) {va1 : Value} {fa1 : List Nat} {a1 : (List Int)} (ha1 : Ro Rp.int W fa1 va1 a1) {a2 : Int} (ha2 : InI a2) {a3 : Int} (ha3 : InI a3) {a4 : Int} (ha4 : InI a4) {r : ((List Int) × Bool)} (hF : F_spec_l26Try a0_0 a1 a2 a3 a4 = some r) :
    Calls Try.prog 51 [.agg #[va0_0], va1, .int .i64 a2, .int .i64 a3, .int .i64 a4].toArray W (Ret fun u w' => ∃ (u0 : Value) (u1 : Value) (fp_u0 : List Nat), u = .tuple #[u0, u1] ∧ Ro Rp.int w' fp_u0 u0 r.1 ∧ Pv (fa0_0 ++ fa1) W.heap.size fp_u0 ∧ u1 = .bool r.2 ∧ Ext W w') := by
  obtain ⟨n, hn⟩ := fixO_some hF
  exact W_spec_l26Try_n n ha0_0 ha1 ha2 ha3 ha4 hn
set_option maxHeartbeats 2000000 in
theorem W_spec_l26Best {W : World} {va0_0 : Value} {fa0_0 : List Nat} {a0_0 : (List (List Int))} (ha0_0 : Ro (Rp.sl 2 Rp.int) W fa0_0 va0_0 a0_0) {r : ((List Int) × Int)} (hF : F_spec_l26Best a0_0 = some r) :
    Calls Try.prog 23 [.agg #[va0_0]].toArray W (Ret fun u w' => ∃ (u0 : Value) (u1 : Value) (fp_u0 : List Nat), u = .tuple #[u0, u1] ∧ Ro Rp.int w' fp_u0 u0 r.1 ∧ Pv (fa0_0) W.heap.size fp_u0 ∧ (u1 = .int .i64 r.2 ∧ InI r.2) ∧ Ext W w') := by
  refine f_enter Try.func23 rfl Try.ntmps23 rfl ?_
  intro a ha
  replace ha : Fr 22 [(0, (.agg #[va0_0]))] a := ha
  have hE : Chg [] W W := Chg.refl _ _
  unfold F_spec_l26Best at hF
  refine wp_seq ?_; refine wp_region_lit ?_
  refine o_box ha rfl rfl rfl ?_; clear ha a; intro b1 w2 hB3 hx4 hlo5 a ha
  have q6 := Zn.one hlo5
  have q7 := Zn.upD q6 hE
  have hE8 := Ext.trans hE hx4
  (iterate 2 refine op_g ha rfl (g_assign rfl) ?_; clear ha a; intro a ha); refine wpList_nil ?_; replace ha := ha.sub (σ' := [(1, (.pointer (some ⟨b1, 0, none⟩)))]) ⟨rfl, trivial⟩; refine e_then ?_; refine wp_seq ?_; refine wp_region_lit ?_; refine op_g ha rfl (g_assign rfl) ?_; clear ha a; intro a ha; refine wpList_nil ?_; refine e_then ?_; obtain ⟨o114, ho115, hK116⟩ := bnd_some hF
  obtain ⟨n117, hn118⟩ := lp_some ho115; clear ho115
  refine c_loop (fun a w => Fr 22 [] a ∧ Chg [] W w ∧ o114 = .inl ()) (fun n a w => ∃ (i63 : Int), Fr 22 [(1, (.pointer (some ⟨b1, 0, none⟩))), (4, (.int .i64 i63))] a ∧ Chg [] W w ∧ InI i63 ∧ Bx w b1 [va0_0] 29 ∧ Zn W (b1 : Int) ∧ lpN (fun s => F_spec_l26Best_l1 a0_0 s) n i63 = some o114) n117 ⟨0, ha.sub ⟨rfl, rfl, trivial⟩, hE8, (show InI 0 from by decide), hB3, q7, hn118⟩ ?_ ?_
  · rintro m122 a w60 ⟨i63, ha, hE65, hI64, hB61, z62, hF⟩
    cases m122 with
    | zero => exact (lpN_zero hF).elim
    | succ m122 =>
      obtain ⟨z121, hF, hN120⟩ := lpN_succ hF
      have hF : F_spec_l26Best_l1 a0_0 i63 = some z121 := hF; unfold F_spec_l26Best_l1 at hF
      refine wp_seq ?_; refine wp_block ?_; refine wp_seq ?_; refine d_region [0, 1, 2, 3, 4, 5, 6, 7, 8, 9, 10, 11] hmix ?_; refine u_g 0 rfl (by kernel_rfl) (want0 _) ha rfl (g_loadA (cs := [va0_0]) Try.isAgg29 Try.sizeOf29 rfl (by simp) hB61.all) ?_; clear ha a; intro a ha; refine u_g 1 rfl (by kernel_rfl) (want0 _) ha rfl (g_field0 st29_0 rfl) ?_; clear ha a; intro a ha; refine u_g 2 rfl (by kernel_rfl) (want0 _) ha rfl (g_load Try.isAgg27 rfl (hB61.cell rfl)) ?_; clear ha a; intro a ha; refine u_g 3 rfl (by kernel_rfl) (want0 _) ha rfl (g_lenR sl27.und ha0_0 rfl) ?_; clear ha a; intro a ha
      refine u_g 5 rfl (by kernel_rfl) (want0 _) ha rfl (g_move rfl) ?_; clear ha a; intro a ha
      refine u_only 4 rfl (by kernel_rfl) ?_; intro w123 hx124
      replace hB61 := hB61.ext hx124
      have hE125 := Ext.trans hE65 hx124
      obtain ⟨x126, hc127, hF⟩ := cal_some hF
      refine o_call ha rfl rfl Try.call52 (W_spec_l26None ha0_0.len hc127) ?_; clear ha a; rintro v128 w129 ⟨b131, h132, z133, hx130⟩ a ha
      have q135 := Nq.new hB61.fpb z133
      have q136 := Nq.madeO z133 hB61.bi
      replace hB61 := hB61.ext hx130
      have hE137 := Ext.trans hE125 hx130
      have q138 := Zn.upD z133 hE125
      refine wpList_nil (e_sq ?_)
      refine ⟨fun _ => hx130, ?_⟩
      refine u_only 6 rfl (by kernel_rfl) ?_; intro w139 hx140
      replace hB61 := hB61.ext hx140
      replace h132 := h132.ext hx140
      have hE141 := Ext.trans hE137 hx140
      obtain ⟨fp142, hro143, hs144⟩ := h132.roF
      obtain ⟨x145, hc146, hF⟩ := cal_some hF
      refine o_call ha rfl rfl Try.call51 (W_spec_l26Try (ha0_0.ext hE141) hro143 (show InI 0 from by decide) (show InI 0 from by decide) hI64 hc146) ?_; clear ha a; rintro v147 w148 ⟨u150, u151, fp152, rfl, h153, pv154, rfl, hx149⟩ a ha
      have q156 := Nq.rd pv154 (Nq.append (Nq.new ha0_0.bnd z62) (Nq.mono q136 hs144)) hB61.bi
      have q157 := (Pv.call pv154 (Pv.app (Pv.par (fun _ h => h)) (Pv.mono (Pv.own q138 (zf_nil _)) hs144)) hE141.size : Pv (fa0_0) W.heap.size fp152)
      replace hB61 := hB61.ext hx149
      replace h132 := h132.ext hx149
      have hE158 := Ext.trans hE141 hx149
      refine wpList_nil (e_sq ?_)
      refine ⟨fun _ => hx149, ?_⟩
      refine u_g 7 rfl (by kernel_rfl) (want0 _) ha rfl (g_move rfl) ?_; clear ha a; intro a ha; refine u_g 8 rfl (by kernel_rfl) (want0 _) ha rfl (g_extract rfl rfl) ?_; clear ha a; intro a ha; refine u_g 9 rfl (by kernel_rfl) (want0 _) ha rfl (g_extract rfl rfl) ?_; clear ha a; intro a ha; refine u_g 10 rfl (by kernel_rfl) (want0 _) ha rfl (g_assign rfl) ?_; clear ha a; intro a ha; refine u_g 11 rfl (by kernel_rfl) (want0 _) ha rfl (g_assign rfl) ?_; clear ha a; intro a ha
      refine u_done (by kernel_rfl) ?_; intro w159 hx160
      replace hB61 := hB61.ext hx160
      replace h132 := h132.ext hx160
      replace h153 := h153.ext hx160
      have hE161 := Ext.trans hE158 hx160
      replace ha := ha.sub (σ' := [(1, (.pointer (some ⟨b1, 0, none⟩))), (4, (.int .i64 i63)), (5, u150), (6, (.bool x145.2))]) ⟨rfl, rfl, rfl, rfl, trivial⟩; refine e_then ?_; refine wp_seq ?_; refine wp_region_lit ?_; refine op_g ha rfl (g_move rfl) ?_; clear ha a; intro a ha; refine wpList_nil ?_; replace ha := ha.sub (σ' := [(1, (.pointer (some ⟨b1, 0, none⟩))), (4, (.int .i64 i63)), (5, u150), (19, (.bool x145.2))]) ⟨rfl, rfl, rfl, rfl, trivial⟩; refine e_then ?_; refine c_cond (x145.2 = true) ha rfl (Iff.rfl) (fun hp162 => ?_) (fun hp162 => ?_)
      · replace hF := if_t hp162 hF
        refine wp_seq ?_; refine wp_region_lit ?_; (iterate 2 refine op_g ha rfl (g_move rfl) ?_; clear ha a; intro a ha); (iterate 2 refine op_g ha rfl (g_assign rfl) ?_; clear ha a; intro a ha); refine wpList_nil ?_; replace ha := ha.sub (σ' := [(2, u150), (3, (.int .i64 i63))]) ⟨rfl, rfl, trivial⟩; refine e_then ?_; refine wp_ret ?_; refine e_blk_ret ?_; refine e_then_ret ?_; refine e_lq_ret ?_; obtain rfl := Option.some.inj hF
        have e163 := LK_inr hN120; subst e163
        have e164 := BK_inr hK116; subst e164
        exact f_ret2 ha rfl rfl rfl ⟨_, _, _, rfl, h153, (q157), ⟨rfl, hI64⟩, hE161⟩
      replace hF := if_f hp162 hF; refine wp_skip ?_; refine e_blk ?_; refine e_then ?_; refine wp_region_lit ?_; refine op_g ha rfl (g_move rfl) ?_; clear ha a; intro a ha; obtain ⟨hI165, hF⟩ := ck_some hF; refine op_g ha rfl (g_add rfl rfl hI165) ?_; clear ha a; intro a ha; refine op_g ha rfl (g_assign rfl) ?_; clear ha a; intro a ha; refine wpList_nil ?_; replace ha := ha.sub (σ' := [(1, (.pointer (some ⟨b1, 0, none⟩))), (4, (.int .i64 (i63 + 1)))]) ⟨rfl, rfl, trivial⟩; refine e_lq ?_; obtain rfl := Option.some.inj hF
      exact ⟨_, Nat.lt_succ_self _, i63 + 1, ha.sub ⟨rfl, rfl, trivial⟩, hE161, hI165, hB61, z62, hN120⟩
  rintro a w113 ⟨ha, hE119, rfl⟩
  cases hK116
set_option maxHeartbeats 2000000 in
theorem W_spec_ChromaticOf {W : World} {va0_0 : Value} {fa0_0 : List Nat} {a0_0 : (List (List Int))} (ha0_0 : Ro (Rp.sl 2 Rp.int) W fa0_0 va0_0 a0_0) {r : Int} (hF : F_spec_ChromaticOf a0_0 = some r) :
    Calls Try.prog 10 [.agg #[va0_0]].toArray W (Ret fun u w' => (u = .int .i64 r ∧ InI r) ∧ Ext W w') := by
  refine f_enter Try.func10 rfl Try.ntmps10 rfl ?_
  intro a ha
  replace ha : Fr 14 [(0, (.agg #[va0_0]))] a := ha
  have hE : Chg [] W W := Chg.refl _ _
  unfold F_spec_ChromaticOf at hF
  refine wp_seq ?_; refine wp_region_lit ?_
  refine o_box ha rfl rfl rfl ?_; clear ha a; intro b1 w2 hB3 hx4 hlo5 a ha
  have q6 := Zn.one hlo5
  have q7 := Zn.upD q6 hE
  have hE8 := Ext.trans hE hx4
  refine op_g ha rfl (g_assign rfl) ?_; clear ha a; intro a ha; refine wpList_nil ?_; replace ha := ha.sub (σ' := [(1, (.pointer (some ⟨b1, 0, none⟩)))]) ⟨rfl, trivial⟩; refine e_then ?_; refine wp_seq ?_; refine wp_seq ?_; refine wp_region_lit ?_; refine op_g ha rfl (g_loadA (cs := [va0_0]) Try.isAgg29 Try.sizeOf29 rfl (by simp) hB3.all) ?_; clear ha a; intro a ha; obtain ⟨x9, hc10, hF⟩ := cal_some hF
  refine o_call ha rfl rfl Try.call22 (W_spec_GraphOk (ha0_0.ext hE8) hc10) ?_; clear ha a; rintro v11 w12 ⟨rfl, hx13⟩ a ha
  replace hB3 := hB3.ext hx13
  have hE14 := Ext.trans hE8 hx13
  refine op_g ha rfl (g_not rfl) ?_; clear ha a; intro a ha; refine wpList_nil ?_; replace ha := ha.sub (σ' := [(1, (.pointer (some ⟨b1, 0, none⟩))), (7, (.bool (!x9)))]) ⟨rfl, rfl, trivial⟩; refine e_then ?_; refine c_cond (¬ (x9 = true)) ha rfl (n_iff (Iff.rfl)) (fun hp15 => ?_) (fun hp15 => ?_)
  · replace hF := if_t hp15 hF
    refine wp_seq ?_; refine wp_region_lit ?_; refine op_g ha rfl (g_assign rfl) ?_; clear ha a; intro a ha; refine wpList_nil ?_; replace ha := ha.sub (σ' := [(2, (.int .i64 (-1)))]) ⟨rfl, trivial⟩; refine e_then ?_; refine wp_ret ?_; refine e_then_ret ?_; obtain rfl := Option.some.inj hF
    exact f_ret1 ha rfl rfl ⟨⟨rfl, (show InI (-1) from by decide)⟩, hE14⟩
  replace hF := if_f hp15 hF; refine wp_skip ?_; refine e_then ?_; refine wp_seq ?_; refine wp_region_lit ?_; refine op_g ha rfl (g_loadA (cs := [va0_0]) Try.isAgg29 Try.sizeOf29 rfl (by simp) hB3.all) ?_; clear ha a; intro a ha; obtain ⟨x16, hc17, hF⟩ := cal_some hF
  refine o_call ha rfl rfl Try.call23 (W_spec_l26Best (ha0_0.ext hE14) hc17) ?_; clear ha a; rintro v18 w19 ⟨u21, u22, fp23, rfl, h24, pv25, ⟨rfl, hI27⟩, hx20⟩ a ha
  have q28 := Nq.rd pv25 (Nq.new ha0_0.bnd q7) hB3.bi
  replace hB3 := hB3.ext hx20
  have hE29 := Ext.trans hE14 hx20
  refine op_g ha rfl (g_move rfl) ?_; clear ha a; intro a ha; (iterate 2 refine op_g ha rfl (g_extract rfl rfl) ?_; clear ha a; intro a ha); (iterate 2 refine op_g ha rfl (g_assign rfl) ?_; clear ha a; intro a ha); refine wpList_nil ?_; replace ha := ha.sub (σ' := [(4, (.int .i64 x16.2))]) ⟨rfl, trivial⟩; refine e_then ?_; refine wp_seq ?_; refine wp_region_lit ?_; refine op_g ha rfl (g_move rfl) ?_; clear ha a; intro a ha; refine op_g ha rfl (g_assign rfl) ?_; clear ha a; intro a ha; refine wpList_nil ?_; replace ha := ha.sub (σ' := [(2, (.int .i64 x16.2))]) ⟨rfl, trivial⟩; refine e_then ?_; refine wp_ret ?_
  obtain rfl := Option.some.inj hF
  exact f_ret1 ha rfl rfl ⟨⟨rfl, hI27⟩, hE29⟩
set_option maxHeartbeats 2000000 in
theorem W_impl_LeastNames {W : World} {va0 : Value} {fa0 : List Nat} {a0 : (List Int)} (ha0 : Ro Rp.int W fa0 va0 a0) {r : (List Int)} (hF : F_impl_LeastNames a0 = some r) :
    Calls Try.prog 17 [va0].toArray W (Ret fun u w' => ∃ (b_u : Int), Ow Rp.int 2 true w' [] b_u u r ∧ Zn W b_u ∧ Ext W w') := by
  refine f_enter Try.func17 rfl Try.ntmps17 rfl ?_
  intro a ha
  replace ha : Fr 34 [(0, va0)] a := ha
  have hE : Chg [] W W := Chg.refl _ _
  unfold F_impl_LeastNames at hF
  refine wp_seq ?_; refine wp_region_lit ?_; refine op_g ha rfl (g_assign rfl) ?_; clear ha a; intro a ha; refine wpList_nil ?_; replace ha := ha.sub (σ' := [(0, va0)]) ⟨rfl, trivial⟩; refine e_then ?_; refine wp_seq ?_; refine wp_seq ?_; refine wp_region_lit ?_; refine op_g ha rfl (g_move rfl) ?_; clear ha a; intro a ha; refine op_g ha rfl (g_lenR sl35.und ha0 rfl) ?_; clear ha a; intro a ha; refine op_g ha rfl (g_gtr rfl rfl) ?_; clear ha a; intro a ha; refine wpList_nil ?_; replace ha := ha.sub (σ' := [(0, va0), (9, (.bool (decide (16 < (a0.length : Int)))))]) ⟨rfl, rfl, trivial⟩; refine e_then ?_
  refine c_cond (16 < (a0.length : Int)) ha rfl (decide_eq_true_iff) (fun hp1 => ?_) (fun hp1 => ?_)
  · replace hF := if_t hp1 hF
    refine wp_seq ?_; refine wp_region_lit ?_; refine op_g ha rfl (g_assign rfl) ?_; clear ha a; intro a ha; refine wpList_nil ?_; replace ha := ha.sub (σ' := [(2, (.slice none 0 0))]) ⟨rfl, trivial⟩; refine e_then ?_; refine wp_ret ?_; refine e_then_ret ?_; obtain rfl := Option.some.inj hF
    exact f_ret1 ha rfl rfl ⟨-1, (Ow.nil (by decide)), (.inl (by decide)), hE⟩
  replace hF := if_f hp1 hF; refine wp_skip ?_; refine e_then ?_; refine wp_seq ?_; refine wp_region_lit ?_
  refine o_lit0 Rp.int ha rfl sl35 ?_; clear ha a; intro v2 w3 h4 hx5 a ha
  obtain ⟨b7, hb7⟩ : ∃ b : Int, b = W.heap.size := ⟨_, rfl⟩; rw [← hb7] at h4
  have q8 := zn_of hb7
  have q9 := Zn.upD q8 hE
  have hE10 := Ext.trans hE hx5
  refine o_lit0 Rp.int ha rfl sl35 ?_; clear ha a; intro v11 w12 h13 hx14 a ha
  obtain ⟨b16, hb16⟩ : ∃ b : Int, b = w3.heap.size := ⟨_, rfl⟩; rw [← hb16] at h13
  have q17 := zn_of hb16
  have q18 := Nq.new h4.fpb q17
  have q19 := Nq.madeO q17 h4.blt
  have q20 := Zn.upD q17 hE10
  replace h4 := h4.ext hx14
  have hE21 := Ext.trans hE10 hx14
  (iterate 2 refine op_g ha rfl (g_assign rfl) ?_; clear ha a; intro a ha); refine wpList_nil ?_; replace ha := ha.sub (σ' := [(0, va0), (3, v2), (4, v11)]) ⟨rfl, rfl, rfl, trivial⟩; refine e_then ?_; refine wp_seq ?_; refine wp_seq ?_; refine wp_region_lit ?_; refine op_g ha rfl (g_move rfl) ?_; clear ha a; intro a ha; refine op_g ha rfl (g_lenR sl35.und ha0 rfl) ?_; clear ha a; intro a ha; refine op_g ha rfl (g_move rfl) ?_; clear ha a; intro a ha; refine wpList_nil ?_; replace ha := ha.sub (σ' := [(3, v2), (4, v11), (12, va0), (13, (.int .i64 (a0.length : Int))), (14, (.int .i64 0))]) ⟨rfl, rfl, rfl, rfl, rfl, trivial⟩
  refine e_then ?_; obtain ⟨o347, ho348, hK349⟩ := bnd_some hF
  obtain ⟨n350, hn351⟩ := lp_some ho348; clear ho348
  refine c_loop (fun a w => ∃ (l344 : (List Int)) (v345 : Value) (b346 : Int), Fr 34 [(4, v345)] a ∧ Chg [] W w ∧ Ow Rp.int 2 true w [] b346 v345 l344 ∧ Zn W b346 ∧ o347 = .inl l344) (fun n a w => ∃ (l181 : (List Int)) (l187 : (List Int)) (i190 : Int) (v182 : Value) (b183 : Int) (v188 : Value) (b189 : Int), Fr 34 [(3, v182), (4, v188), (12, va0), (13, (.int .i64 (a0.length : Int))), (14, (.int .i64 i190))] a ∧ Chg [] W w ∧ InI i190 ∧ Ow Rp.int 2 true w [] b183 v182 l181 ∧ Zn W b183 ∧ Ow Rp.int 2 true w [] b189 v188 l187 ∧ Zn W b189 ∧ Nq (bl b183 ++ []) b189 ∧ Nq (bl b189 ++ []) b183 ∧ lpN (fun s => F_impl_LeastNames_l1 a0 s.1 s.2.1 s.2.2) n (l181, l187, i190) = some o347) n350 ⟨([] : (List Int)), ([] : (List Int)), 0, v2, b7, v11, b16, ha.sub ⟨rfl, rfl, rfl, rfl, rfl, trivial⟩, hE21, (show InI 0 from by decide), h4, q9, h13, q20, q18, q19, hn351⟩ ?_ ?_
  · rintro m355 a w177 ⟨l181, l187, i190, v182, b183, v188, b189, ha, hE194, hI191, h179, z180, h185, z186, q192, q193, hF⟩
    cases m355 with
    | zero => exact (lpN_zero hF).elim
    | succ m355 =>
      obtain ⟨z354, hF, hN353⟩ := lpN_succ hF
      have hF : F_impl_LeastNames_l1 a0 l181 l187 i190 = some z354 := hF; unfold F_impl_LeastNames_l1 at hF
      refine wp_seq ?_; refine wp_region_lit ?_; refine op_g ha rfl (g_lss rfl rfl) ?_; clear ha a; intro a ha; refine wpList_nil ?_; replace ha := ha.sub (σ' := [(3, v182), (4, v188), (12, va0), (13, (.int .i64 (a0.length : Int))), (14, (.int .i64 i190)), (15, (.bool (decide (i190 < (a0.length : Int)))))]) ⟨rfl, rfl, rfl, rfl, rfl, rfl, trivial⟩; refine e_then ?_; refine wp_seq ?_; refine c_cond (i190 < (a0.length : Int)) ha rfl (decide_eq_true_iff) (fun hp356 => ?_) (fun hp356 => ?_)
      · replace hF := if_t hp356 hF
        refine wp_skip ?_; refine e_then ?_; refine wp_seq ?_; refine wp_block ?_; refine wp_seq ?_; refine wp_region_lit ?_; obtain ⟨x357, g358, gx359, hF⟩ := idx_some hF
        obtain ⟨p360, cs361, f362, hf363, hpb364, hat365, hr366, hi367⟩ := ha0.at g358 gx359
        obtain ⟨rfl, hI368, rfl⟩ := hr366
        refine op_g ha rfl (hi367.gives sl35 rfl rfl) ?_; clear ha a; intro a ha; refine op_g ha rfl (g_load0 hE194 Try.isAgg2 rfl hat365.one) ?_; clear ha a; intro a ha; refine op_g ha rfl (g_assign rfl) ?_; clear ha a; intro a ha; refine wpList_nil ?_; replace ha := ha.sub (σ' := [(3, v182), (4, v188), (6, (.int .i64 x357)), (12, va0), (13, (.int .i64 (a0.length : Int))), (14, (.int .i64 i190))]) ⟨rfl, rfl, rfl, rfl, rfl, rfl, trivial⟩; refine e_then ?_; refine wp_seq ?_; refine wp_seq ?_; refine wp_region_lit ?_; (iterate 2 refine op_g ha rfl (g_move rfl) ?_; clear ha a; intro a ha)
        obtain ⟨fp369, hro370, hs371⟩ := h179.roF
        obtain ⟨x372, hc373, hF⟩ := cal_some hF
        refine o_call ha rfl rfl Try.call41 (W_slices_Contains_int64 hro370 hI368 hc373) ?_; clear ha a; rintro v374 w375 ⟨rfl, hx376⟩ a ha
        replace h179 := h179.ext hx376
        replace h185 := h185.ext hx376
        have hE377 := Ext.trans hE194 hx376
        refine op_g ha rfl (g_not rfl) ?_; clear ha a; intro a ha; refine wpList_nil ?_; replace ha := ha.sub (σ' := [(3, v182), (4, v188), (6, (.int .i64 x357)), (12, va0), (13, (.int .i64 (a0.length : Int))), (14, (.int .i64 i190)), (21, (.bool (!x372)))]) ⟨rfl, rfl, rfl, rfl, rfl, rfl, rfl, trivial⟩; refine e_then ?_; refine c_cond (¬ (x372 = true)) ha rfl (n_iff (Iff.rfl)) (fun hp378 => ?_) (fun hp378 => ?_)
        · replace hF := if_t hp378 hF
          refine wp_region_lit ?_; (iterate 2 refine op_g ha rfl (g_move rfl) ?_; clear ha a; intro a ha)
          refine o_lit1 (o := true) (y := x357) Rp.int ha rfl sl35 rfl rfl rfl ⟨rfl, hI368, rfl⟩ ?_; clear ha a; intro v379 w380 h381 hx382 a ha
          obtain ⟨b384, hb384⟩ : ∃ b : Int, b = w375.heap.size := ⟨_, rfl⟩; rw [← hb384] at h381
          have q385 := zn_of hb384
          have q386 := Nq.new h179.fpb q385
          have q387 := Nq.madeO q385 h179.blt
          have q388 := Nq.new h185.fpb q385
          have q389 := Nq.madeO q385 h185.blt
          have q390 := Zn.upD q385 hE377
          replace h179 := h179.ext hx382
          replace h185 := h185.ext hx382
          have hE391 := Ext.trans hE377 hx382
          obtain ⟨hl392, hF⟩ := app_some hF
          refine o_append ha rfl sl35 rfl rfl rfl h179 h381.src (Nq.nil _) hl392 ?_; clear ha a; intro v393 w394 b395 h396 hc397 hb398 a ha
          replace h396 : Ow Rp.int 2 true w394 [] b395 v393 _ := h396
          have q400 := Nq.appY q193 h185.fpb hb398
          have q401 := Nq.appX q192 (Nq.nil _) hb398 h185.blt
          have q402 := Nq.appY q387 h381.fpb hb398
          have q403 := Nq.appX q386 (Nq.nil _) hb398 h381.blt
          have q404 := Zn.appD z180 hb398 hE391
          replace h185 := h185.nq hc397 q193
          replace h381 := h381.nq hc397 q387
          have hE405 := Ext.then hE391 hc397 (Zn.bl z180)
          refine op_g ha rfl (g_assign rfl) ?_; clear ha a; intro a ha; refine wpList_nil ?_; replace ha := ha.sub (σ' := [(3, v393), (4, v188), (6, (.int .i64 x357)), (12, va0), (13, (.int .i64 (a0.length : Int))), (14, (.int .i64 i190))]) ⟨rfl, rfl, rfl, rfl, rfl, rfl, trivial⟩; refine e_then ?_; refine wp_region_lit ?_; (iterate 3 refine op_g ha rfl (g_move rfl) ?_; clear ha a; intro a ha)
          obtain ⟨fp406, hro407, hs408⟩ := h396.roF
          obtain ⟨x409, hc410, hF⟩ := cal_some hF
          refine o_call ha rfl rfl Try.call42 (W_slices_Index_int64 hro407 hI368 hc410) ?_; clear ha a; rintro v411 w412 ⟨⟨rfl, hI414⟩, hx413⟩ a ha
          replace h185 := h185.ext hx413
          replace h396 := h396.ext hx413
          have hE415 := Ext.trans hE405 hx413
          refine o_lit1 (o := true) (y := x409) Rp.int ha rfl sl35 rfl rfl rfl ⟨rfl, hI414, rfl⟩ ?_; clear ha a; intro v416 w417 h418 hx419 a ha
          obtain ⟨b421, hb421⟩ : ∃ b : Int, b = w412.heap.size := ⟨_, rfl⟩; rw [← hb421] at h418
          have q422 := zn_of hb421
          have q423 := Nq.new h185.fpb q422
          have q424 := Nq.madeO q422 h185.blt
          have q425 := Nq.new h396.fpb q422
          have q426 := Nq.madeO q422 h396.blt
          have q427 := Zn.upD q422 hE415
          replace h185 := h185.ext hx419
          replace h396 := h396.ext hx419
          have hE428 := Ext.trans hE415 hx419
          obtain ⟨hl429, hF⟩ := app_some hF
          refine o_append ha rfl sl35 rfl rfl rfl h185 h418.src (Nq.nil _) hl429 ?_; clear ha a; intro v430 w431 b432 h433 hc434 hb435 a ha
          replace h433 : Ow Rp.int 2 true w431 [] b432 v430 _ := h433
          have q437 := Nq.appY q401 h396.fpb hb435
          have q438 := Nq.appX q400 (Nq.nil _) hb435 h396.blt
          have q439 := Nq.appY q424 h418.fpb hb435
          have q440 := Nq.appX q423 (Nq.nil _) hb435 h418.blt
          have q441 := Zn.appD z186 hb435 hE428
          replace h396 := h396.nq hc434 q401
          replace h418 := h418.nq hc434 q424
          have hE442 := Ext.then hE428 hc434 (Zn.bl z186)
          refine op_g ha rfl (g_assign rfl) ?_; clear ha a; intro a ha; refine wpList_nil ?_; replace ha := ha.sub (σ' := [(3, v393), (4, v430), (12, va0), (13, (.int .i64 (a0.length : Int))), (14, (.int .i64 i190))]) ⟨rfl, rfl, rfl, rfl, rfl, trivial⟩; refine e_blk ?_; refine e_then ?_; refine wp_region_lit ?_; obtain ⟨hI443, hF⟩ := ck_some hF; refine op_g ha rfl (g_add rfl rfl hI443) ?_; clear ha a; intro a ha; refine op_g ha rfl (g_move rfl) ?_; clear ha a; intro a ha; refine wpList_nil ?_; replace ha := ha.sub (σ' := [(3, v393), (4, v430), (12, va0), (13, (.int .i64 (a0.length : Int))), (14, (.int .i64 (i190 + 1)))]) ⟨rfl, rfl, rfl, rfl, rfl, trivial⟩
          refine e_lq ?_; obtain rfl := Option.some.inj hF
          exact ⟨_, Nat.lt_succ_self _, (l181 ++ ([x357])), (l187 ++ ([x409])), i190 + 1, v393, b395, v430, b432, ha.sub ⟨rfl, rfl, rfl, rfl, rfl, trivial⟩, hE442, hI443, h396, q404, h433, q441, q437, q438, hN353⟩
        replace hF := if_f hp378 hF; refine wp_skip ?_; refine e_then ?_; refine wp_region_lit ?_; (iterate 3 refine op_g ha rfl (g_move rfl) ?_; clear ha a; intro a ha)
        obtain ⟨fp445, hro446, hs447⟩ := h179.roF
        obtain ⟨x448, hc449, hF⟩ := cal_some hF
        refine o_call ha rfl rfl Try.call42 (W_slices_Index_int64 hro446 hI368 hc449) ?_; clear ha a; rintro v450 w451 ⟨⟨rfl, hI453⟩, hx452⟩ a ha
        replace h179 := h179.ext hx452
        replace h185 := h185.ext hx452
        have hE454 := Ext.trans hE377 hx452
        refine o_lit1 (o := true) (y := x448) Rp.int ha rfl sl35 rfl rfl rfl ⟨rfl, hI453, rfl⟩ ?_; clear ha a; intro v455 w456 h457 hx458 a ha
        obtain ⟨b460, hb460⟩ : ∃ b : Int, b = w451.heap.size := ⟨_, rfl⟩; rw [← hb460] at h457
        have q461 := zn_of hb460
        have q462 := Nq.new h179.fpb q461
        have q463 := Nq.madeO q461 h179.blt
        have q464 := Nq.new h185.fpb q461
        have q465 := Nq.madeO q461 h185.blt
        have q466 := Zn.upD q461 hE454
        replace h179 := h179.ext hx458
        replace h185 := h185.ext hx458
        have hE467 := Ext.trans hE454 hx458
        obtain ⟨hl468, hF⟩ := app_some hF
        refine o_append ha rfl sl35 rfl rfl rfl h185 h457.src (Nq.nil _) hl468 ?_; clear ha a; intro v469 w470 b471 h472 hc473 hb474 a ha
        replace h472 : Ow Rp.int 2 true w470 [] b471 v469 _ := h472
        have q476 := Nq.appY q192 h179.fpb hb474
        have q477 := Nq.appX q193 (Nq.nil _) hb474 h179.blt
        have q478 := Nq.appY q465 h457.fpb hb474
        have q479 := Nq.appX q464 (Nq.nil _) hb474 h457.blt
        have q480 := Zn.appD z186 hb474 hE467
        replace h179 := h179.nq hc473 q192
        replace h457 := h457.nq hc473 q465
        have hE481 := Ext.then hE467 hc473 (Zn.bl z186)
        refine op_g ha rfl (g_assign rfl) ?_; clear ha a; intro a ha; refine wpList_nil ?_; replace ha := ha.sub (σ' := [(3, v182), (4, v469), (12, va0), (13, (.int .i64 (a0.length : Int))), (14, (.int .i64 i190))]) ⟨rfl, rfl, rfl, rfl, rfl, trivial⟩; refine e_blk ?_; refine e_then ?_; refine wp_region_lit ?_; obtain ⟨hI482, hF⟩ := ck_some hF; refine op_g ha rfl (g_add rfl rfl hI482) ?_; clear ha a; intro a ha; refine op_g ha rfl (g_move rfl) ?_; clear ha a; intro a ha; refine wpList_nil ?_; replace ha := ha.sub (σ' := [(3, v182), (4, v469), (12, va0), (13, (.int .i64 (a0.length : Int))), (14, (.int .i64 (i190 + 1)))]) ⟨rfl, rfl, rfl, rfl, rfl, trivial⟩
        refine e_lq ?_; obtain rfl := Option.some.inj hF
        exact ⟨_, Nat.lt_succ_self _, l181, (l187 ++ ([x448])), i190 + 1, v182, b183, v469, b471, ha.sub ⟨rfl, rfl, rfl, rfl, rfl, trivial⟩, hE481, hI482, h179, z180, h472, q480, q476, q477, hN353⟩
      replace hF := if_f hp356 hF; refine wp_exit ?_; refine e_then_exit ?_; refine e_lq_eq ?_; obtain rfl := Option.some.inj hF
      exact ⟨l187, v188, b189, ha.sub ⟨rfl, trivial⟩, hE194, h185, z186, (LK_inr hN353).symm⟩
  rintro a w340 ⟨l344, v345, b346, ha, hE352, h342, z343, rfl⟩
  have hF : F_impl_LeastNames_k2 l344 = some _ := hK349; clear hK349; unfold F_impl_LeastNames_k2 at hF
  refine e_then ?_; refine wp_seq ?_; refine wp_region_lit ?_; refine op_g ha rfl (g_move rfl) ?_; clear ha a; intro a ha; refine op_g ha rfl (g_assign rfl) ?_; clear ha a; intro a ha; refine wpList_nil ?_; replace ha := ha.sub (σ' := [(2, v345)]) ⟨rfl, trivial⟩; refine e_then ?_; refine wp_ret ?_; obtain rfl := Option.some.inj hF
  exact f_ret1 ha rfl rfl ⟨_, h342, z343, hE352⟩
set_option maxHeartbeats 2000000 in

set_option maxHeartbeats 2000000 in

set_option maxHeartbeats 2000000 in

set_option maxHeartbeats 2000000 in
theorem W_slices_Sorted_int64 {W : World} {va0 : Value} {a0 : (List Int)} (ha0 : Seq2 W va0 a0) {r : (List Int)} (hF : F_slices_Sorted_int64 a0 = some r) :
    Calls Try.prog 44 [va0].toArray W (Ret fun u w' => ∃ (b_u : Int), Ow Rp.int 2 true w' [] b_u u r ∧ Zn W b_u ∧ Ext W w') := by
  refine f_enter Try.func44 rfl Try.ntmps44 rfl ?_
  intro a ha
  replace ha : Fr 9 [(0, va0)] a := ha
  have hE : Chg [] W W := Chg.refl _ _
  unfold F_slices_Sorted_int64 at hF
  refine wp_seq ?_; refine wp_region_lit ?_; refine op_g ha rfl (g_assign rfl) ?_; clear ha a; intro a ha; refine wpList_nil ?_; replace ha := ha.sub (σ' := [(0, va0)]) ⟨rfl, trivial⟩; refine e_then ?_; refine wp_seq ?_; refine wp_region_lit ?_; refine op_g ha rfl (g_move rfl) ?_; clear ha a; intro a ha; obtain ⟨x1, hc2, hF⟩ := cal_some hF
  refine o_call ha rfl rfl Try.call59 (W_slices_Collect_int64 ha0 hc2) ?_; clear ha a; rintro v3 w4 ⟨b6, h7, z8, hx5⟩ a ha
  have hE10 := Ext.trans hE hx5
  have q11 := Zn.upD z8 hE
  refine op_g ha rfl (g_assign rfl) ?_; clear ha a; intro a ha; refine wpList_nil ?_; replace ha := ha.sub (σ' := [(3, v3)]) ⟨rfl, trivial⟩; refine e_then ?_; refine wp_seq ?_; refine wp_region_lit ?_; refine op_g ha rfl (g_move rfl) ?_; clear ha a; intro a ha; obtain ⟨x12, hc13, hF⟩ := cal_some hF
  refine o_call ha rfl rfl Try.call60 (W_slices_Sort_int64 h7 hc13) ?_; clear ha a; rintro v14 w15 ⟨rfl, h17, hx16⟩ a ha
  have hE18 := Ext.then hE10 hx16 (Zn.bl q11)
  refine wpList_nil ?_; replace ha := ha.sub (σ' := [(3, v3)]) ⟨rfl, trivial⟩; refine e_then ?_; refine wp_seq ?_; refine wp_region_lit ?_; refine op_g ha rfl (g_move rfl) ?_; clear ha a; intro a ha; refine op_g ha rfl (g_assign rfl) ?_; clear ha a; intro a ha; refine wpList_nil ?_; replace ha := ha.sub (σ' := [(2, v3)]) ⟨rfl, trivial⟩; refine e_then ?_; refine wp_ret ?_; obtain rfl := Option.some.inj hF
  exact f_ret1 ha rfl rfl ⟨_, h17, q11, hE18⟩
set_option maxHeartbeats 2000000 in

set_option maxHeartbeats 2000000 in
theorem W_impl_ColoursMany {W : World} {va0 : Value} {fa0 : List Nat} {a0 : (List Int)} (ha0 : Ro Rp.int W fa0 va0 a0) {r : Int} (hF : F_impl_ColoursMany a0 = some r) :
    Calls Try.prog 18 [va0].toArray W (Ret fun u w' => (u = .int .i64 r ∧ InI r) ∧ Ext W w') := by
  refine f_enter Try.func18 rfl Try.ntmps18 rfl ?_
  intro a ha
  replace ha : Fr 11 [(0, va0)] a := ha
  have hE : Chg [] W W := Chg.refl _ _
  unfold F_impl_ColoursMany at hF
  refine wp_seq ?_; refine wp_region_lit ?_; refine op_g ha rfl (g_assign rfl) ?_; clear ha a; intro a ha; refine wpList_nil ?_; replace ha := ha.sub (σ' := [(0, va0)]) ⟨rfl, trivial⟩; refine e_then ?_; refine wp_seq ?_; refine wp_seq ?_; refine wp_region_lit ?_; refine op_g ha rfl (g_move rfl) ?_; clear ha a; intro a ha; refine op_g ha rfl (g_lenR sl35.und ha0 rfl) ?_; clear ha a; intro a ha; refine op_g ha rfl (g_gtr rfl rfl) ?_; clear ha a; intro a ha; refine wpList_nil ?_; replace ha := ha.sub (σ' := [(0, va0), (5, (.bool (decide (16 < (a0.length : Int)))))]) ⟨rfl, rfl, trivial⟩; refine e_then ?_
  refine c_cond (16 < (a0.length : Int)) ha rfl (decide_eq_true_iff) (fun hp1 => ?_) (fun hp1 => ?_)
  · replace hF := if_t hp1 hF
    refine wp_seq ?_; refine wp_region_lit ?_; refine op_g ha rfl (g_assign rfl) ?_; clear ha a; intro a ha; refine wpList_nil ?_; replace ha := ha.sub (σ' := [(2, (.int .i64 (-1)))]) ⟨rfl, trivial⟩; refine e_then ?_; refine wp_ret ?_; refine e_then_ret ?_; obtain rfl := Option.some.inj hF
    exact f_ret1 ha rfl rfl ⟨⟨rfl, (show InI (-1) from by decide)⟩, hE⟩
  replace hF := if_f hp1 hF; refine wp_skip ?_; refine e_then ?_; refine wp_seq ?_; refine wp_region_lit ?_; refine op_g ha rfl (g_move rfl) ?_; clear ha a; intro a ha; obtain ⟨x2, hc3, hF⟩ := cal_some hF
  refine o_call ha rfl rfl Try.call45 (W_slices_Values_int64 (ha0.ext hE) hc3) ?_; clear ha a; rintro v4 w5 ⟨h7, hx6⟩ a ha
  have hE8 := Ext.trans hE hx6
  obtain ⟨x9, hc10, hF⟩ := cal_some hF
  refine o_call ha rfl rfl Try.call44 (W_slices_Sorted_int64 h7 hc10) ?_; clear ha a; rintro v11 w12 ⟨b14, h15, z16, hx13⟩ a ha
  have hE18 := Ext.trans hE8 hx13
  have q19 := Zn.upD z16 hE8
  obtain ⟨x20, hc21, hF⟩ := cal_some hF
  refine o_call ha rfl rfl Try.call43 (W_slices_Compact_int64 h15 hc21) ?_; clear ha a; rintro v22 w23 ⟨h25, h26, hx24⟩ a ha
  have hE27 := Ext.then hE18 hx24 (Zn.bl q19)
  refine op_g ha rfl (g_lenS sl35.und h25.1 rfl) ?_; clear ha a; intro a ha; refine op_g ha rfl (g_assign rfl) ?_; clear ha a; intro a ha; refine wpList_nil ?_; replace ha := ha.sub (σ' := [(2, (.int .i64 (x20.1.length : Int)))]) ⟨rfl, trivial⟩; refine e_then ?_; refine wp_ret ?_; obtain rfl := Option.some.inj hF
  exact f_ret1 ha rfl rfl ⟨⟨rfl, h25.2⟩, hE27⟩
set_option maxHeartbeats 2000000 in
theorem W_laws_FnPartitions {W : World} {va0 : Value} {fa0 : List Nat} {a0 : (List (BitVec 8))} (ha0 : Ro Rp.u8 W fa0 va0 a0) {r : Bool} (hF : F_laws_FnPartitions a0 = some r) :
    Calls Try.prog 4 [va0].toArray W (Ret fun u w' => u = .bool r ∧ Ext W w') := by
  refine f_enter Try.func4 rfl Try.ntmps4 rfl ?_
  intro a ha
  replace ha : Fr 117 [(0, va0)] a := ha
  have hE : Chg [] W W := Chg.refl _ _
  unfold F_laws_FnPartitions at hF
  refine wp_seq ?_; refine wp_region_lit ?_; refine op_g ha rfl (g_assign rfl) ?_; clear ha a; intro a ha; refine wpList_nil ?_; replace ha := ha.sub (σ' := [(0, va0)]) ⟨rfl, trivial⟩; refine e_then ?_; refine wp_seq ?_; refine wp_seq ?_; refine wp_region_lit ?_; refine op_g ha rfl (g_move rfl) ?_; clear ha a; intro a ha; obtain ⟨x1, hc2, hF⟩ := cal_some hF
  refine o_call ha rfl rfl Try.call5 (W_laws_big (ha0.ext hE) hc2) ?_; clear ha a; rintro v3 w4 ⟨rfl, hx5⟩ a ha
  have hE6 := Ext.trans hE hx5
  refine wpList_nil ?_; replace ha := ha.sub (σ' := [(0, va0), (14, (.bool x1))]) ⟨rfl, rfl, trivial⟩; refine e_then ?_; refine c_cond (x1 = true) ha rfl (Iff.rfl) (fun hp7 => ?_) (fun hp7 => ?_)
  · replace hF := if_t hp7 hF
    refine wp_seq ?_; refine wp_region_lit ?_; refine op_g ha rfl (g_assign rfl) ?_; clear ha a; intro a ha; refine wpList_nil ?_; replace ha := ha.sub (σ' := [(2, (.bool true))]) ⟨rfl, trivial⟩; refine e_then ?_; refine wp_ret ?_; refine e_then_ret ?_; obtain rfl := Option.some.inj hF
    exact f_ret1 ha rfl rfl ⟨rfl, hE6⟩
  replace hF := if_f hp7 hF; refine wp_skip ?_; refine e_then ?_; refine wp_seq ?_; refine wp_region_lit ?_; refine op_g ha rfl (g_move rfl) ?_; clear ha a; intro a ha; obtain ⟨x8, hc9, hF⟩ := cal_some hF
  refine o_call ha rfl rfl Try.call6 (W_laws_roll (ha0.ext hE6) (show InU 806 from by decide) hc9) ?_; clear ha a; rintro v10 w11 ⟨b13, fs14, h15, z16, hl17, hx12⟩ a ha
  have hE19 := Ext.trans hE6 hx12
  have q20 := Zn.upD z16 hE6
  refine op_g ha rfl (g_assign rfl) ?_; clear ha a; intro a ha; refine wpList_nil ?_; replace ha := ha.sub (σ' := [(3, v10)]) ⟨rfl, trivial⟩; refine e_then ?_; refine wp_seq ?_; refine wp_region_lit ?_; refine op_g ha rfl (g_move rfl) ?_; clear ha a; intro a ha; obtain ⟨x21, hc22, hF⟩ := cal_some hF
  refine o_call ha rfl rfl Try.call7 (W_laws_w6Graph h15 (show InI 8 from by decide) hc22) ?_; clear ha a; rintro v23 w24 ⟨u26, fp27, rfl, h28, pv29, h31, hx25⟩ a ha
  have q32 := Nq.rd pv29 (Nq.nil _) h15.blt
  have hE33 := Ext.then hE19 hx25 (Zn.bl q20)
  refine o_alloc (cs := [(.slice none 0 0)]) ha rfl Try.zeroValue29 rfl ?_; clear ha a; intro b34 w35 hB36 hx37 hlo38 a ha
  have q39 := Zn.one hlo38
  have q40 := Nq.new h31.fpb q39
  have q41 := Nq.made1 hlo38 h31.blt
  have q42 := Nq.new h28.bnd q39
  have q43 := Zn.upD q39 hE33
  replace h31 := h31.ext hx37
  replace h28 := h28.ext hx37
  have hE44 := Ext.trans hE33 hx37
  refine o_storeA (vs := [u26]) ha hB36 Try.sizeOf29 rfl rfl (by intro c hc; simp only [List.mem_cons, List.not_mem_nil, or_false] at hc; rcases hc with hc <;> subst hc <;> first | rfl | exact h28.oneC) rfl ?_; intro w45 hB46 hc47
  replace hc47 := hc47.bl
  replace hB46 : Bx w45 b34 [u26] 29 := hB46
  replace h31 := h31.nq hc47 q40
  replace h28 := h28.nq hc47 q42
  have hE48 := Ext.then hE44 hc47 (Zn.bl q43)
  refine wpList_nil ?_; replace ha := ha.sub (σ' := [(3, v10), (4, (.pointer (some ⟨b34, 0, none⟩)))]) ⟨rfl, rfl, trivial⟩; refine e_then ?_; refine wp_seq ?_; refine wp_region_lit ?_; refine op_g ha rfl (g_loadA (cs := [u26]) Try.isAgg29 Try.sizeOf29 rfl (by simp) hB46.all) ?_; clear ha a; intro a ha; obtain ⟨x49, hc50, hF⟩ := cal_some hF
  refine o_call ha rfl rfl Try.call14 (W_impl_PartitionsBy h28 hc50) ?_; clear ha a; rintro v51 w52 ⟨b54, h55, z56, hx53⟩ a ha
  have q58 := Nq.new h31.fpb z56
  have q59 := Nq.madeO z56 h31.blt
  have q60 := Nq.new h28.bnd z56
  have q61 := Nq.new hB46.fpb z56
  have q62 := Nq.madeO z56 hB46.bi
  replace h31 := h31.ext hx53
  replace h28 := h28.ext hx53
  replace hB46 := hB46.ext hx53
  have hE63 := Ext.trans hE48 hx53
  have q64 := Zn.upD z56 hE48
  refine op_g ha rfl (g_assign rfl) ?_; clear ha a; intro a ha; refine wpList_nil ?_; replace ha := ha.sub (σ' := [(3, v10), (4, (.pointer (some ⟨b34, 0, none⟩))), (5, v51)]) ⟨rfl, rfl, rfl, trivial⟩; refine e_then ?_; refine wp_seq ?_; refine wp_region_lit ?_; refine op_g ha rfl (g_field0 st29_0 rfl) ?_; clear ha a; intro a ha; refine op_g ha rfl (g_load Try.isAgg27 rfl (hB46.cell rfl)) ?_; clear ha a; intro a ha; refine op_g ha rfl (g_lenR sl27.und h28 rfl) ?_; clear ha a; intro a ha; refine op_g ha rfl (g_assign rfl) ?_; clear ha a; intro a ha; refine wpList_nil ?_; replace ha := ha.sub (σ' := [(3, v10), (4, (.pointer (some ⟨b34, 0, none⟩))), (5, v51), (6, (.int .i64 (x21.1.length : Int)))]) ⟨rfl, rfl, rfl, rfl, trivial⟩
  refine e_then ?_; refine wp_seq ?_; refine wp_seq ?_; refine wp_region_lit ?_; refine op_g ha rfl (g_move rfl) ?_; clear ha a; intro a ha; refine op_g ha rfl (g_lenO sl35.und h55 rfl) ?_; clear ha a; intro a ha; refine op_g ha rfl (g_move rfl) ?_; clear ha a; intro a ha; obtain ⟨hI112, hF⟩ := ck_some hF; refine op_g ha rfl (g_add rfl rfl hI112) ?_; clear ha a; intro a ha; refine op_g ha rfl (g_neq rfl rfl) ?_; clear ha a; intro a ha; refine op_g ha rfl (g_move rfl) ?_; clear ha a; intro a ha
  by_cases hp114 : (x49.length : Int) ≠ ((x21.1.length : Int) + 1)
  · replace hF := if_t hp114 hF
    rw [show (decide ((x49.length : Int) ≠ ((x21.1.length : Int) + 1))) = true from (decide_eq_true_iff).2 hp114] at ha
    (iterate 5 refine op_unwant ha rfl (yields ha rfl rfl) rfl ?_; clear ha a; intro a ha); refine op_g ha rfl (g_pick rfl rfl) ?_; clear ha a; intro a ha; refine op_g ha rfl (g_move rfl) ?_; clear ha a; intro a ha; (iterate 5 refine op_unwant ha rfl (yields ha rfl rfl) rfl ?_; clear ha a; intro a ha); refine op_g ha rfl (g_pick rfl rfl) ?_; clear ha a; intro a ha; refine wpList_nil ?_; replace ha := ha.sub (σ' := [(3, v10), (4, (.pointer (some ⟨b34, 0, none⟩))), (5, v51), (6, (.int .i64 (x21.1.length : Int))), (42, (.bool true))]) ⟨rfl, rfl, rfl, rfl, rfl, trivial⟩; refine e_then ?_; refine c_true ha rfl ?_
    refine wp_seq ?_; refine wp_region_lit ?_; refine op_g ha rfl (g_assign rfl) ?_; clear ha a; intro a ha; refine wpList_nil ?_; replace ha := ha.sub (σ' := [(2, (.bool false))]) ⟨rfl, trivial⟩; refine e_then ?_; refine wp_ret ?_; refine e_then_ret ?_; obtain rfl := Option.some.inj hF
    exact f_ret1 ha rfl rfl ⟨rfl, hE63⟩
  replace hF := if_f hp114 hF
  rw [show (decide ((x49.length : Int) ≠ ((x21.1.length : Int) + 1))) = false from b_false (decide_eq_true_iff) hp114] at ha
  refine op_want (yields ha rfl rfl) ?_; refine op_g ha rfl (g_move rfl) ?_; clear ha a; intro a ha; refine op_want (yields ha rfl rfl) ?_; refine op_g ha rfl (g_loadA (cs := [u26]) Try.isAgg29 Try.sizeOf29 rfl (by simp) hB46.all) ?_; clear ha a; intro a ha; refine op_want (yields ha rfl rfl) ?_; obtain ⟨x115, hc116, hF⟩ := cal_some hF
  refine o_call ha rfl rfl Try.call16 (W_spec_PartitionsBy h28 hc116) ?_; clear ha a; rintro v117 w118 ⟨b120, h121, z122, hx119⟩ a ha
  have q124 := Nq.new h31.fpb z122
  have q125 := Nq.madeO z122 h31.blt
  have q126 := Nq.new h28.bnd z122
  have q127 := Nq.new hB46.fpb z122
  have q128 := Nq.madeO z122 hB46.bi
  have q129 := Nq.new h55.fpb z122
  have q130 := Nq.madeO z122 h55.blt
  replace h31 := h31.ext hx119
  replace h28 := h28.ext hx119
  replace hB46 := hB46.ext hx119
  replace h55 := h55.ext hx119
  have hE131 := Ext.trans hE63 hx119
  have q132 := Zn.upD z122 hE63
  refine op_want (yields ha rfl rfl) ?_
  obtain ⟨fp133, hro134, hs135⟩ := h55.roF
  obtain ⟨fp136, hro137, hs138⟩ := h121.roF
  obtain ⟨x139, hc140, hF⟩ := cal_some hF
  refine o_call ha rfl rfl Try.call15 (W_laws_likeInts hro134 hro137 hc140) ?_; clear ha a; rintro v141 w142 ⟨rfl, hx143⟩ a ha
  replace h31 := h31.ext hx143
  replace h28 := h28.ext hx143
  replace hB46 := hB46.ext hx143
  replace h55 := h55.ext hx143
  replace h121 := h121.ext hx143
  have hE144 := Ext.trans hE131 hx143
  refine op_want (yields ha rfl rfl) ?_; refine op_g ha rfl (g_not rfl) ?_; clear ha a; intro a ha; refine op_g ha rfl (g_pick rfl rfl) ?_; clear ha a; intro a ha; refine op_g ha rfl (g_move rfl) ?_; clear ha a; intro a ha
  by_cases hp145 : ¬ (x139 = true)
  · replace hF := if_t hp145 hF
    rw [show (!x139) = true from (n_iff (Iff.rfl)).2 hp145] at ha
    (iterate 5 refine op_unwant ha rfl (yields ha rfl rfl) rfl ?_; clear ha a; intro a ha); refine op_g ha rfl (g_pick rfl rfl) ?_; clear ha a; intro a ha; refine wpList_nil ?_; replace ha := ha.sub (σ' := [(3, v10), (4, (.pointer (some ⟨b34, 0, none⟩))), (5, v51), (6, (.int .i64 (x21.1.length : Int))), (42, (.bool true))]) ⟨rfl, rfl, rfl, rfl, rfl, trivial⟩; refine e_then ?_; refine c_true ha rfl ?_; refine wp_seq ?_; refine wp_region_lit ?_; refine op_g ha rfl (g_assign rfl) ?_; clear ha a; intro a ha; refine wpList_nil ?_; replace ha := ha.sub (σ' := [(2, (.bool false))]) ⟨rfl, trivial⟩; refine e_then ?_
    refine wp_ret ?_; refine e_then_ret ?_; obtain rfl := Option.some.inj hF
    exact f_ret1 ha rfl rfl ⟨rfl, hE144⟩
  replace hF := if_f hp145 hF
  rw [show (!x139) = false from b_false (n_iff (Iff.rfl)) hp145] at ha
  refine op_want (yields ha rfl rfl) ?_; refine op_g ha rfl (g_move rfl) ?_; clear ha a; intro a ha; refine op_want (yields ha rfl rfl) ?_; refine op_g ha rfl (g_move rfl) ?_; clear ha a; intro a ha; refine op_want (yields ha rfl rfl) ?_; obtain ⟨x146, g147, gx148, hF⟩ := idx_some hF
  obtain ⟨p149, cs150, f151, hf152, hpb153, hat154, hr155, hi156⟩ := h55.at g147 gx148
  obtain ⟨rfl, hI157, rfl⟩ := hr155
  refine op_g ha rfl (hi156.gives sl35 rfl rfl) ?_; clear ha a; intro a ha; refine op_want (yields ha rfl rfl) ?_; refine op_g ha rfl (g_load Try.isAgg2 rfl hat154.one) ?_; clear ha a; intro a ha; refine op_want (yields ha rfl rfl) ?_; refine op_g ha rfl (g_neq rfl rfl) ?_; clear ha a; intro a ha; refine op_g ha rfl (g_pick rfl rfl) ?_; clear ha a; intro a ha; refine wpList_nil ?_; replace ha := ha.sub (σ' := [(3, v10), (4, (.pointer (some ⟨b34, 0, none⟩))), (5, v51), (6, (.int .i64 (x21.1.length : Int))), (42, (.bool (decide (x146 ≠ 1))))]) ⟨rfl, rfl, rfl, rfl, rfl, trivial⟩; refine e_then ?_
  refine c_cond (x146 ≠ 1) ha rfl (decide_eq_true_iff) (fun hp158 => ?_) (fun hp158 => ?_)
  · replace hF := if_t hp158 hF
    refine wp_seq ?_; refine wp_region_lit ?_; refine op_g ha rfl (g_assign rfl) ?_; clear ha a; intro a ha; refine wpList_nil ?_; replace ha := ha.sub (σ' := [(2, (.bool false))]) ⟨rfl, trivial⟩; refine e_then ?_; refine wp_ret ?_; refine e_then_ret ?_; obtain rfl := Option.some.inj hF
    exact f_ret1 ha rfl rfl ⟨rfl, hE144⟩
  replace hF := if_f hp158 hF; refine wp_skip ?_; refine e_then ?_; refine wp_seq ?_; refine wp_seq ?_; refine wp_region_lit ?_; refine op_g ha rfl (g_assign rfl) ?_; clear ha a; intro a ha; refine wpList_nil ?_; replace ha := ha.sub (σ' := [(3, v10), (4, (.pointer (some ⟨b34, 0, none⟩))), (5, v51), (6, (.int .i64 (x21.1.length : Int))), (7, (.int .i64 0))]) ⟨rfl, rfl, rfl, rfl, rfl, trivial⟩; refine e_then ?_; obtain ⟨o299, ho300, hK301⟩ := bnd_some hF
  obtain ⟨n302, hn303⟩ := lp_some ho300; clear ho300
  refine c_loop (fun a w => Fr 117 [(3, v10), (6, (.int .i64 (x21.1.length : Int)))] a ∧ Chg [] W w ∧ Dc 43 w fs14 b13 v10 x21.2 ∧ Zn W b13 ∧ o299 = .inl ()) (fun n a w => ∃ (i237 : Int), Fr 117 [(3, v10), (4, (.pointer (some ⟨b34, 0, none⟩))), (5, v51), (6, (.int .i64 (x21.1.length : Int))), (7, (.int .i64 i237))] a ∧ Chg [] W w ∧ InI i237 ∧ Dc 43 w fs14 b13 v10 x21.2 ∧ Zn W b13 ∧ Bx w b34 [u26] 29 ∧ Zn W (b34 : Int) ∧ Ro (Rp.sl 2 Rp.int) w fp27 u26 x21.1 ∧ Ow Rp.int 2 true w [] b54 v51 x49 ∧ Zn W b54 ∧ Nq (bl b13 ++ fs14) (b34 : Int) ∧ Nq (bl b13 ++ fs14) b54 ∧ Nq ([b34]) b13 ∧ Nq ([b34]) b54 ∧ Nq (fp27) b13 ∧ Nq (fp27) (b34 : Int) ∧ Nq (fp27) b54 ∧ Nq (bl b54 ++ []) b13 ∧ Nq (bl b54 ++ []) (b34 : Int) ∧ lpN (fun s => F_laws_FnPartitions_l1 x21 x49 s) n i237 = some o299) n302 ⟨0, ha.sub ⟨rfl, rfl, rfl, rfl, rfl, trivial⟩, hE144, (show InI 0 from by decide), h31, q20, hB46, q43, h28, h55, q64, q40, q58, q41, q61, q32, q42, q60, q59, q62, hn303⟩ ?_ ?_
  · rintro m307 a w226 ⟨i237, ha, hE248, hI238, h228, z229, hB230, z231, h233, h235, z236, q239, q240, q241, q242, q243, q244, q245, q246, q247, hF⟩
    cases m307 with
    | zero => exact (lpN_zero hF).elim
    | succ m307 =>
      obtain ⟨z306, hF, hN305⟩ := lpN_succ hF
      have hF : F_laws_FnPartitions_l1 x21 x49 i237 = some z306 := hF; unfold F_laws_FnPartitions_l1 at hF
      refine wp_seq ?_; refine wp_seq ?_; refine wp_region_lit ?_; (iterate 2 refine op_g ha rfl (g_move rfl) ?_; clear ha a; intro a ha); refine op_g ha rfl (g_leq rfl rfl) ?_; clear ha a; intro a ha; refine wpList_nil ?_; replace ha := ha.sub (σ' := [(3, v10), (4, (.pointer (some ⟨b34, 0, none⟩))), (5, v51), (6, (.int .i64 (x21.1.length : Int))), (7, (.int .i64 i237)), (45, (.bool (decide (i237 ≤ (x21.1.length : Int)))))]) ⟨rfl, rfl, rfl, rfl, rfl, rfl, trivial⟩; refine e_then ?_; refine c_cond (i237 ≤ (x21.1.length : Int)) ha rfl (decide_eq_true_iff) (fun hp308 => ?_) (fun hp308 => ?_)
      · replace hF := if_t hp308 hF
        refine wp_skip ?_; refine e_then ?_; refine wp_seq ?_; refine wp_block ?_; refine wp_seq ?_; refine d_quiet hmix (by kernel_rfl) ?_; (iterate 2 refine q_g ha rfl (g_move rfl) ?_; clear ha a; intro a ha); obtain ⟨x309, g310, gx311, hF⟩ := idx_some hF
        obtain ⟨p312, cs313, f314, hf315, hpb316, hat317, hr318, hi319⟩ := h235.at g310 gx311
        obtain ⟨rfl, hI320, rfl⟩ := hr318
        refine q_g ha rfl (hi319.gives sl35 rfl rfl) ?_; clear ha a; intro a ha; refine q_g ha rfl (g_load Try.isAgg2 rfl hat317.one) ?_; clear ha a; intro a ha; refine q_g ha rfl (g_gtr rfl rfl) ?_; clear ha a; intro a ha; refine q_g ha rfl (g_move rfl) ?_; clear ha a; intro a ha; refine q_g ha rfl (g_loadA (cs := [u26]) Try.isAgg29 Try.sizeOf29 rfl (by simp) hB230.all) ?_; clear ha a; intro a ha; obtain ⟨x323, hc324, hF⟩ := cal_some hF; refine q_call (.int .i64 x323) ha rfl rfl Try.call10 (fun w322 hx321 => W_spec_ChromaticOf (h233.ext hx321) hc324) (fun _ _ _ h => ⟨h.1.1, h.2⟩) ?_; clear ha a; intro a ha
        have hI325 : InI x323 := calls_fact (w := w226) (W_spec_ChromaticOf (h233.ext (Chg.refl _ _)) hc324) (fun _ _ h => h.1.2)
        refine q_g ha rfl (g_geq rfl rfl) ?_; clear ha a; intro a ha; refine q_g ha rfl (gB_neq un4 rfl rfl) ?_; clear ha a; intro a ha
        refine q_nil ?_; intro w326 hx327
        replace h228 := h228.ext hx327
        replace hB230 := hB230.ext hx327
        replace h233 := h233.ext hx327
        replace h235 := h235.ext hx327
        have hE328 := Ext.trans hE248 hx327
        replace ha := ha.sub (σ' := [(3, v10), (4, (.pointer (some ⟨b34, 0, none⟩))), (5, v51), (6, (.int .i64 (x21.1.length : Int))), (7, (.int .i64 i237)), (57, (.bool ((decide (0 < x309)) != (decide (x323 ≤ i237)))))]) ⟨rfl, rfl, rfl, rfl, rfl, rfl, trivial⟩; refine e_then ?_; refine c_cond (((decide (0 < x309)) != (decide (x323 ≤ i237))) = true) ha rfl (Iff.rfl) (fun hp329 => ?_) (fun hp329 => ?_)
        · replace hF := if_t hp329 hF
          refine wp_seq ?_; refine wp_region_lit ?_; refine op_g ha rfl (g_assign rfl) ?_; clear ha a; intro a ha; refine wpList_nil ?_; replace ha := ha.sub (σ' := [(2, (.bool false))]) ⟨rfl, trivial⟩; refine e_then ?_; refine wp_ret ?_; refine e_blk_ret ?_; refine e_then_ret ?_; refine e_lq_ret ?_; refine e_then_ret ?_; obtain rfl := Option.some.inj hF
          have e330 := LK_inr hN305; subst e330
          have e331 := BK_inr hK301; subst e331
          exact f_ret1 ha rfl rfl ⟨rfl, hE328⟩
        replace hF := if_f hp329 hF; refine wp_skip ?_; refine e_blk ?_; refine e_then ?_; refine wp_region_lit ?_; refine op_g ha rfl (g_move rfl) ?_; clear ha a; intro a ha; obtain ⟨hI332, hF⟩ := ck_some hF; refine op_g ha rfl (g_add rfl rfl hI332) ?_; clear ha a; intro a ha; refine op_g ha rfl (g_assign rfl) ?_; clear ha a; intro a ha; refine wpList_nil ?_; replace ha := ha.sub (σ' := [(3, v10), (4, (.pointer (some ⟨b34, 0, none⟩))), (5, v51), (6, (.int .i64 (x21.1.length : Int))), (7, (.int .i64 (i237 + 1)))]) ⟨rfl, rfl, rfl, rfl, rfl, trivial⟩; refine e_lq ?_; obtain rfl := Option.some.inj hF
        exact ⟨_, Nat.lt_succ_self _, i237 + 1, ha.sub ⟨rfl, rfl, rfl, rfl, rfl, trivial⟩, hE328, hI332, h228, z229, hB230, z231, h233, h235, z236, q239, q240, q241, q242, q243, q244, q245, q246, q247, hN305⟩
      replace hF := if_f hp308 hF; refine wp_exit ?_; refine e_then_exit ?_; refine e_lq_eq ?_; obtain rfl := Option.some.inj hF
      exact ⟨ha.sub ⟨rfl, rfl, trivial⟩, hE248, h228, z229, (LK_inr hN305).symm⟩
  rintro a w295 ⟨ha, hE304, h297, z298, rfl⟩
  have hF : F_laws_FnPartitions_k2 x21 = some _ := hK301; clear hK301; unfold F_laws_FnPartitions_k2 at hF
  refine e_then ?_; refine wp_seq ?_; refine wp_region_lit ?_
  refine o_lit0 Rp.int ha rfl sl35 ?_; clear ha a; intro v334 w335 h336 hx337 a ha
  obtain ⟨b339, hb339⟩ : ∃ b : Int, b = w295.heap.size := ⟨_, rfl⟩; rw [← hb339] at h336
  have q340 := zn_of hb339
  have q341 := Nq.new h297.fpb q340
  have q342 := Nq.madeO q340 h297.blt
  have q343 := Zn.upD q340 hE304
  replace h297 := h297.ext hx337
  have hE344 := Ext.trans hE304 hx337
  refine op_g ha rfl (g_assign rfl) ?_; clear ha a; intro a ha; refine wpList_nil ?_; replace ha := ha.sub (σ' := [(3, v10), (6, (.int .i64 (x21.1.length : Int))), (8, v334)]) ⟨rfl, rfl, rfl, trivial⟩; refine e_then ?_; refine wp_seq ?_; refine wp_seq ?_; refine wp_region_lit ?_; refine op_g ha rfl (g_assign rfl) ?_; clear ha a; intro a ha; refine wpList_nil ?_; replace ha := ha.sub (σ' := [(3, v10), (6, (.int .i64 (x21.1.length : Int))), (8, v334), (9, (.int .i64 0))]) ⟨rfl, rfl, rfl, rfl, trivial⟩; refine e_then ?_; obtain ⟨o498, ho499, hK500⟩ := bnd_some hF
  obtain ⟨n501, hn502⟩ := lp_some ho499; clear ho499
  refine c_loop (fun a w => ∃ (l495 : (List Int)) (v496 : Value) (b497 : Int), Fr 117 [(6, (.int .i64 (x21.1.length : Int))), (8, v496)] a ∧ Chg [] W w ∧ Ow Rp.int 2 true w [] b497 v496 l495 ∧ Zn W b497 ∧ o498 = .inl l495) (fun n a w => ∃ (l418 : ((List (BitVec 8)) × Int × Int)) (l424 : (List Int)) (i427 : Int) (v425 : Value) (b426 : Int), Fr 117 [(3, v10), (6, (.int .i64 (x21.1.length : Int))), (8, v425), (9, (.int .i64 i427))] a ∧ Chg [] W w ∧ InI i427 ∧ Dc 43 w fs14 b13 v10 l418 ∧ Zn W b13 ∧ Ow Rp.int 2 true w [] b426 v425 l424 ∧ Zn W b426 ∧ Nq (bl b13 ++ fs14) b426 ∧ Nq (bl b426 ++ []) b13 ∧ lpN (fun s => F_laws_FnPartitions_l3 x21 s.1 s.2.1 s.2.2) n (l418, l424, i427) = some o498) n501 ⟨x21.2, ([] : (List Int)), 0, v334, b339, ha.sub ⟨rfl, rfl, rfl, rfl, trivial⟩, hE344, (show InI 0 from by decide), h297, z298, h336, q343, q341, q342, hn502⟩ ?_ ?_
  · rintro m506 a w414 ⟨l418, l424, i427, v425, b426, ha, hE431, hI428, h416, z417, h422, z423, q429, q430, hF⟩
    cases m506 with
    | zero => exact (lpN_zero hF).elim
    | succ m506 =>
      obtain ⟨z505, hF, hN504⟩ := lpN_succ hF
      have hF : F_laws_FnPartitions_l3 x21 l418 l424 i427 = some z505 := hF; unfold F_laws_FnPartitions_l3 at hF
      refine wp_seq ?_; refine wp_seq ?_; refine wp_region_lit ?_; (iterate 2 refine op_g ha rfl (g_move rfl) ?_; clear ha a; intro a ha); refine op_g ha rfl (g_lss rfl rfl) ?_; clear ha a; intro a ha; refine wpList_nil ?_; replace ha := ha.sub (σ' := [(3, v10), (6, (.int .i64 (x21.1.length : Int))), (8, v425), (9, (.int .i64 i427)), (61, (.bool (decide (i427 < (x21.1.length : Int)))))]) ⟨rfl, rfl, rfl, rfl, rfl, trivial⟩; refine e_then ?_; refine c_cond (i427 < (x21.1.length : Int)) ha rfl (decide_eq_true_iff) (fun hp507 => ?_) (fun hp507 => ?_)
      · replace hF := if_t hp507 hF
        refine wp_skip ?_; refine e_then ?_; refine wp_seq ?_; refine wp_block ?_; refine wp_region_lit ?_; (iterate 2 refine op_g ha rfl (g_move rfl) ?_; clear ha a; intro a ha); obtain ⟨x508, hc509, hF⟩ := cal_some hF
        refine o_call ha rfl rfl Try.call8 (W_laws_dice_below h416 (show InI 5 from by decide) hc509) ?_; clear ha a; rintro v510 w511 ⟨⟨rfl, hI513⟩, h514, hx512⟩ a ha
        replace h422 := h422.nq hx512 q430
        have hE515 := Ext.then hE431 hx512 (Zn.bl z417)
        obtain ⟨hI516, hF⟩ := ck_some hF; refine op_g ha rfl (g_mul rfl rfl hI516) ?_; clear ha a; intro a ha; obtain ⟨hI518, hF⟩ := ck_some hF; refine op_g ha rfl (g_sub rfl rfl hI518) ?_; clear ha a; intro a ha
        refine o_lit1 (o := true) (y := (x508.1 * 7) - 9) Rp.int ha rfl sl35 rfl rfl rfl ⟨rfl, hI518, rfl⟩ ?_; clear ha a; intro v520 w521 h522 hx523 a ha
        obtain ⟨b525, hb525⟩ : ∃ b : Int, b = w511.heap.size := ⟨_, rfl⟩; rw [← hb525] at h522
        have q526 := zn_of hb525
        have q527 := Nq.new h514.fpb q526
        have q528 := Nq.madeO q526 h514.blt
        have q529 := Nq.new h422.fpb q526
        have q530 := Nq.madeO q526 h422.blt
        have q531 := Zn.upD q526 hE515
        replace h514 := h514.ext hx523
        replace h422 := h422.ext hx523
        have hE532 := Ext.trans hE515 hx523
        obtain ⟨hl533, hF⟩ := app_some hF
        refine o_append ha rfl sl35 rfl rfl rfl h422 h522.src (Nq.nil _) hl533 ?_; clear ha a; intro v534 w535 b536 h537 hc538 hb539 a ha
        replace h537 : Ow Rp.int 2 true w535 [] b536 v534 _ := h537
        have q541 := Nq.appY q429 h514.fpb hb539
        have q542 := Nq.appX q430 (Nq.nil _) hb539 h514.blt
        have q543 := Nq.appY q530 h522.fpb hb539
        have q544 := Nq.appX q529 (Nq.nil _) hb539 h522.blt
        have q545 := Zn.appD z423 hb539 hE532
        replace h514 := h514.nq hc538 q429
        replace h522 := h522.nq hc538 q530
        have hE546 := Ext.then hE532 hc538 (Zn.bl z423)
        refine op_g ha rfl (g_assign rfl) ?_; clear ha a; intro a ha; refine wpList_nil ?_; replace ha := ha.sub (σ' := [(3, v10), (6, (.int .i64 (x21.1.length : Int))), (8, v534), (9, (.int .i64 i427))]) ⟨rfl, rfl, rfl, rfl, trivial⟩; refine e_blk ?_; refine e_then ?_; refine wp_region_lit ?_; refine op_g ha rfl (g_move rfl) ?_; clear ha a; intro a ha; obtain ⟨hI547, hF⟩ := ck_some hF; refine op_g ha rfl (g_add rfl rfl hI547) ?_; clear ha a; intro a ha; refine op_g ha rfl (g_assign rfl) ?_; clear ha a; intro a ha; refine wpList_nil ?_; replace ha := ha.sub (σ' := [(3, v10), (6, (.int .i64 (x21.1.length : Int))), (8, v534), (9, (.int .i64 (i427 + 1)))]) ⟨rfl, rfl, rfl, rfl, trivial⟩
        refine e_lq ?_; obtain rfl := Option.some.inj hF
        exact ⟨_, Nat.lt_succ_self _, x508.2, (l424 ++ ([(x508.1 * 7) - 9])), i427 + 1, v534, b536, ha.sub ⟨rfl, rfl, rfl, rfl, trivial⟩, hE546, hI547, h514, z417, h537, q545, q541, q542, hN504⟩
      replace hF := if_f hp507 hF; refine wp_exit ?_; refine e_then_exit ?_; refine e_lq_eq ?_; obtain rfl := Option.some.inj hF
      exact ⟨l424, v425, b426, ha.sub ⟨rfl, rfl, trivial⟩, hE431, h422, z423, (LK_inr hN504).symm⟩
  rintro a w491 ⟨l495, v496, b497, ha, hE503, h493, z494, rfl⟩
  have hF : F_laws_FnPartitions_k4 x21 l495 = some _ := hK500; clear hK500; unfold F_laws_FnPartitions_k4 at hF
  refine e_then ?_; refine wp_seq ?_; refine wp_region_lit ?_; refine op_g ha rfl (g_move rfl) ?_; clear ha a; intro a ha
  obtain ⟨fp549, hro550, hs551⟩ := h493.roF
  obtain ⟨x552, hc553, hF⟩ := cal_some hF
  refine o_call ha rfl rfl Try.call17 (W_impl_LeastNames hro550 hc553) ?_; clear ha a; rintro v554 w555 ⟨b557, h558, z559, hx556⟩ a ha
  have q561 := Nq.new h493.fpb z559
  have q562 := Nq.madeO z559 h493.blt
  replace h493 := h493.ext hx556
  have hE563 := Ext.trans hE503 hx556
  have q564 := Zn.upD z559 hE503
  refine op_g ha rfl (g_assign rfl) ?_; clear ha a; intro a ha; refine wpList_nil ?_; replace ha := ha.sub (σ' := [(6, (.int .i64 (x21.1.length : Int))), (8, v496), (10, v554)]) ⟨rfl, rfl, rfl, trivial⟩; refine e_then ?_; refine wp_seq ?_; refine wp_seq ?_; refine wp_region_lit ?_; refine op_g ha rfl (g_move rfl) ?_; clear ha a; intro a ha; refine op_g ha rfl (g_lenO sl35.und h558 rfl) ?_; clear ha a; intro a ha; refine op_g ha rfl (g_move rfl) ?_; clear ha a; intro a ha; refine op_g ha rfl (g_neq rfl rfl) ?_; clear ha a; intro a ha; refine op_g ha rfl (g_move rfl) ?_; clear ha a; intro a ha
  by_cases hp587 : (x552.length : Int) ≠ (x21.1.length : Int)
  · replace hF := if_t hp587 hF
    rw [show (decide ((x552.length : Int) ≠ (x21.1.length : Int))) = true from (decide_eq_true_iff).2 hp587] at ha
    (iterate 5 refine op_unwant ha rfl (yields ha rfl rfl) rfl ?_; clear ha a; intro a ha); refine op_g ha rfl (g_pick rfl rfl) ?_; clear ha a; intro a ha; refine wpList_nil ?_; replace ha := ha.sub (σ' := [(6, (.int .i64 (x21.1.length : Int))), (8, v496), (10, v554), (83, (.bool true))]) ⟨rfl, rfl, rfl, rfl, trivial⟩; refine e_then ?_; refine c_true ha rfl ?_; refine wp_seq ?_; refine wp_region_lit ?_; refine op_g ha rfl (g_assign rfl) ?_; clear ha a; intro a ha; refine wpList_nil ?_; replace ha := ha.sub (σ' := [(2, (.bool false))]) ⟨rfl, trivial⟩; refine e_then ?_; refine wp_ret ?_; refine e_then_ret ?_
    obtain rfl := Option.some.inj hF
    exact f_ret1 ha rfl rfl ⟨rfl, hE563⟩
  replace hF := if_f hp587 hF
  rw [show (decide ((x552.length : Int) ≠ (x21.1.length : Int))) = false from b_false (decide_eq_true_iff) hp587] at ha
  refine op_want (yields ha rfl rfl) ?_; refine op_g ha rfl (g_move rfl) ?_; clear ha a; intro a ha; refine op_want (yields ha rfl rfl) ?_
  obtain ⟨fp588, hro589, hs590⟩ := h558.roF
  obtain ⟨x591, hc592, hF⟩ := cal_some hF
  refine o_call ha rfl rfl Try.call18 (W_impl_ColoursMany hro589 hc592) ?_; clear ha a; rintro v593 w594 ⟨⟨rfl, hI596⟩, hx595⟩ a ha
  replace h493 := h493.ext hx595
  replace h558 := h558.ext hx595
  have hE597 := Ext.trans hE563 hx595
  refine op_want (yields ha rfl rfl) ?_; refine op_g ha rfl (g_move rfl) ?_; clear ha a; intro a ha; refine op_want (yields ha rfl rfl) ?_
  obtain ⟨fp598, hro599, hs600⟩ := h493.roF
  obtain ⟨x601, hc602, hF⟩ := cal_some hF
  refine o_call ha rfl rfl Try.call18 (W_impl_ColoursMany hro599 hc602) ?_; clear ha a; rintro v603 w604 ⟨⟨rfl, hI606⟩, hx605⟩ a ha
  replace h493 := h493.ext hx605
  replace h558 := h558.ext hx605
  have hE607 := Ext.trans hE597 hx605
  refine op_want (yields ha rfl rfl) ?_; refine op_g ha rfl (g_neq rfl rfl) ?_; clear ha a; intro a ha; refine op_g ha rfl (g_pick rfl rfl) ?_; clear ha a; intro a ha; refine wpList_nil ?_; replace ha := ha.sub (σ' := [(6, (.int .i64 (x21.1.length : Int))), (8, v496), (10, v554), (83, (.bool (decide (x591 ≠ x601))))]) ⟨rfl, rfl, rfl, rfl, trivial⟩; refine e_then ?_; refine c_cond (x591 ≠ x601) ha rfl (decide_eq_true_iff) (fun hp608 => ?_) (fun hp608 => ?_)
  · replace hF := if_t hp608 hF
    refine wp_seq ?_; refine wp_region_lit ?_; refine op_g ha rfl (g_assign rfl) ?_; clear ha a; intro a ha; refine wpList_nil ?_; replace ha := ha.sub (σ' := [(2, (.bool false))]) ⟨rfl, trivial⟩; refine e_then ?_; refine wp_ret ?_; refine e_then_ret ?_; obtain rfl := Option.some.inj hF
    exact f_ret1 ha rfl rfl ⟨rfl, hE607⟩
  replace hF := if_f hp608 hF; refine wp_skip ?_; refine e_then ?_; refine wp_seq ?_; refine wp_seq ?_; refine wp_region_lit ?_; refine op_g ha rfl (g_assign rfl) ?_; clear ha a; intro a ha; refine wpList_nil ?_; replace ha := ha.sub (σ' := [(6, (.int .i64 (x21.1.length : Int))), (8, v496), (10, v554), (11, (.int .i64 0))]) ⟨rfl, rfl, rfl, rfl, trivial⟩; refine e_then ?_; obtain ⟨o1117, ho1118, hK1119⟩ := bnd_some hF
  obtain ⟨n1120, hn1121⟩ := lp_some ho1118; clear ho1118
  refine c_loop (fun a w => Fr 117 [(10, v554)] a ∧ Chg [] W w ∧ Ow Rp.int 2 true w [] b557 v554 x552 ∧ Zn W b557 ∧ o1117 = .inl ()) (fun n a w => ∃ (i867 : Int), Fr 117 [(6, (.int .i64 (x21.1.length : Int))), (8, v496), (10, v554), (11, (.int .i64 i867))] a ∧ Chg [] W w ∧ InI i867 ∧ Ow Rp.int 2 true w [] b497 v496 l495 ∧ Zn W b497 ∧ Ow Rp.int 2 true w [] b557 v554 x552 ∧ Zn W b557 ∧ Nq (bl b497 ++ []) b557 ∧ Nq (bl b557 ++ []) b497 ∧ lpN (fun s => F_laws_FnPartitions_l5 x21 l495 x552 s) n i867 = some o1117) n1120 ⟨0, ha.sub ⟨rfl, rfl, rfl, rfl, trivial⟩, hE607, (show InI 0 from by decide), h493, z494, h558, q564, q561, q562, hn1121⟩ ?_ ?_
  · rintro m1125 a w860 ⟨i867, ha, hE871, hI868, h862, z863, h865, z866, q869, q870, hF⟩
    cases m1125 with
    | zero => exact (lpN_zero hF).elim
    | succ m1125 =>
      obtain ⟨z1124, hF, hN1123⟩ := lpN_succ hF
      have hF : F_laws_FnPartitions_l5 x21 l495 x552 i867 = some z1124 := hF; unfold F_laws_FnPartitions_l5 at hF
      refine wp_seq ?_; refine wp_seq ?_; refine wp_region_lit ?_; (iterate 2 refine op_g ha rfl (g_move rfl) ?_; clear ha a; intro a ha); refine op_g ha rfl (g_lss rfl rfl) ?_; clear ha a; intro a ha; refine wpList_nil ?_; replace ha := ha.sub (σ' := [(6, (.int .i64 (x21.1.length : Int))), (8, v496), (10, v554), (11, (.int .i64 i867)), (86, (.bool (decide (i867 < (x21.1.length : Int)))))]) ⟨rfl, rfl, rfl, rfl, rfl, trivial⟩; refine e_then ?_; refine c_cond (i867 < (x21.1.length : Int)) ha rfl (decide_eq_true_iff) (fun hp1126 => ?_) (fun hp1126 => ?_)
      · replace hF := if_t hp1126 hF
        refine wp_skip ?_; refine e_then ?_; refine wp_seq ?_; refine wp_block ?_; refine wp_seq ?_; refine wp_region_lit ?_; refine op_g ha rfl (g_assign rfl) ?_; clear ha a; intro a ha; refine wpList_nil ?_; replace ha := ha.sub (σ' := [(6, (.int .i64 (x21.1.length : Int))), (8, v496), (10, v554), (11, (.int .i64 i867)), (12, (.int .i64 0))]) ⟨rfl, rfl, rfl, rfl, rfl, trivial⟩; refine e_then ?_; obtain ⟨o1290, ho1291, hK1292⟩ := bnd_some hF
        obtain ⟨n1293, hn1294⟩ := lp_some ho1291; clear ho1291
        refine c_loop (fun a w => Fr 117 [(6, (.int .i64 (x21.1.length : Int))), (8, v496), (10, v554), (11, (.int .i64 i867))] a ∧ Chg [] W w ∧ Ow Rp.int 2 true w [] b497 v496 l495 ∧ Zn W b497 ∧ Ow Rp.int 2 true w [] b557 v554 x552 ∧ Zn W b557 ∧ Nq (bl b497 ++ []) b557 ∧ Nq (bl b557 ++ []) b497 ∧ o1290 = .inl ()) (fun n a w => ∃ (i1210 : Int), Fr 117 [(6, (.int .i64 (x21.1.length : Int))), (8, v496), (10, v554), (11, (.int .i64 i867)), (12, (.int .i64 i1210))] a ∧ Chg [] W w ∧ InI i1210 ∧ Ow Rp.int 2 true w [] b497 v496 l495 ∧ Zn W b497 ∧ Ow Rp.int 2 true w [] b557 v554 x552 ∧ Zn W b557 ∧ Nq (bl b497 ++ []) b557 ∧ Nq (bl b557 ++ []) b497 ∧ lpN (fun s => F_laws_FnPartitions_l6 x21 l495 x552 i867 s) n i1210 = some o1290) n1293 ⟨0, ha.sub ⟨rfl, rfl, rfl, rfl, rfl, trivial⟩, hE871, (show InI 0 from by decide), h862, z863, h865, z866, q869, q870, hn1294⟩ ?_ ?_
        · rintro m1298 a w1203 ⟨i1210, ha, hE1214, hI1211, h1205, z1206, h1208, z1209, q1212, q1213, hF⟩
          cases m1298 with
          | zero => exact (lpN_zero hF).elim
          | succ m1298 =>
            obtain ⟨z1297, hF, hN1296⟩ := lpN_succ hF
            have hF : F_laws_FnPartitions_l6 x21 l495 x552 i867 i1210 = some z1297 := hF; unfold F_laws_FnPartitions_l6 at hF
            refine wp_seq ?_; refine wp_seq ?_; refine wp_region_lit ?_; (iterate 2 refine op_g ha rfl (g_move rfl) ?_; clear ha a; intro a ha); refine op_g ha rfl (g_lss rfl rfl) ?_; clear ha a; intro a ha; refine wpList_nil ?_; replace ha := ha.sub (σ' := [(6, (.int .i64 (x21.1.length : Int))), (8, v496), (10, v554), (11, (.int .i64 i867)), (12, (.int .i64 i1210)), (91, (.bool (decide (i1210 < (x21.1.length : Int)))))]) ⟨rfl, rfl, rfl, rfl, rfl, rfl, trivial⟩; refine e_then ?_; refine c_cond (i1210 < (x21.1.length : Int)) ha rfl (decide_eq_true_iff) (fun hp1299 => ?_) (fun hp1299 => ?_)
            · replace hF := if_t hp1299 hF
              refine wp_skip ?_; refine e_then ?_; refine wp_seq ?_; refine wp_block ?_; refine wp_seq ?_; refine d_quiet hmix (by kernel_rfl) ?_; (iterate 2 refine q_g ha rfl (g_move rfl) ?_; clear ha a; intro a ha); obtain ⟨x1300, g1301, gx1302, hF⟩ := idx_some hF
              obtain ⟨p1303, cs1304, f1305, hf1306, hpb1307, hat1308, hr1309, hi1310⟩ := h1208.at g1301 gx1302
              obtain ⟨rfl, hI1311, rfl⟩ := hr1309
              refine q_g ha rfl (hi1310.gives sl35 rfl rfl) ?_; clear ha a; intro a ha; refine q_g ha rfl (g_load Try.isAgg2 rfl hat1308.one) ?_; clear ha a; intro a ha; (iterate 2 refine q_g ha rfl (g_move rfl) ?_; clear ha a; intro a ha); obtain ⟨x1312, g1313, gx1314, hF⟩ := idx_some hF
              obtain ⟨p1315, cs1316, f1317, hf1318, hpb1319, hat1320, hr1321, hi1322⟩ := h1208.at g1313 gx1314
              obtain ⟨rfl, hI1323, rfl⟩ := hr1321
              refine q_g ha rfl (hi1322.gives sl35 rfl rfl) ?_; clear ha a; intro a ha; refine q_g ha rfl (g_load Try.isAgg2 rfl hat1320.one) ?_; clear ha a; intro a ha; refine q_g ha rfl (g_eql rfl rfl) ?_; clear ha a; intro a ha; (iterate 2 refine q_g ha rfl (g_move rfl) ?_; clear ha a; intro a ha); obtain ⟨x1324, g1325, gx1326, hF⟩ := idx_some hF
              obtain ⟨p1327, cs1328, f1329, hf1330, hpb1331, hat1332, hr1333, hi1334⟩ := h1205.at g1325 gx1326
              obtain ⟨rfl, hI1335, rfl⟩ := hr1333
              refine q_g ha rfl (hi1334.gives sl35 rfl rfl) ?_; clear ha a; intro a ha; refine q_g ha rfl (g_load Try.isAgg2 rfl hat1332.one) ?_; clear ha a; intro a ha; (iterate 2 refine q_g ha rfl (g_move rfl) ?_; clear ha a; intro a ha); obtain ⟨x1336, g1337, gx1338, hF⟩ := idx_some hF
              obtain ⟨p1339, cs1340, f1341, hf1342, hpb1343, hat1344, hr1345, hi1346⟩ := h1205.at g1337 gx1338
              obtain ⟨rfl, hI1347, rfl⟩ := hr1345
              refine q_g ha rfl (hi1346.gives sl35 rfl rfl) ?_; clear ha a; intro a ha; refine q_g ha rfl (g_load Try.isAgg2 rfl hat1344.one) ?_; clear ha a; intro a ha; refine q_g ha rfl (g_eql rfl rfl) ?_; clear ha a; intro a ha; refine q_g ha rfl (gB_neq un4 rfl rfl) ?_; clear ha a; intro a ha
              refine q_nil ?_; intro w1348 hx1349
              replace h1205 := h1205.ext hx1349
              replace h1208 := h1208.ext hx1349
              have hE1350 := Ext.trans hE1214 hx1349
              replace ha := ha.sub (σ' := [(6, (.int .i64 (x21.1.length : Int))), (8, v496), (10, v554), (11, (.int .i64 i867)), (12, (.int .i64 i1210)), (112, (.bool ((decide (x1300 = x1312)) != (decide (x1324 = x1336)))))]) ⟨rfl, rfl, rfl, rfl, rfl, rfl, trivial⟩; refine e_then ?_; refine c_cond (((decide (x1300 = x1312)) != (decide (x1324 = x1336))) = true) ha rfl (Iff.rfl) (fun hp1351 => ?_) (fun hp1351 => ?_)
              · replace hF := if_t hp1351 hF
                refine wp_seq ?_; refine wp_region_lit ?_; refine op_g ha rfl (g_assign rfl) ?_; clear ha a; intro a ha; refine wpList_nil ?_; replace ha := ha.sub (σ' := [(2, (.bool false))]) ⟨rfl, trivial⟩; refine e_then ?_; refine wp_ret ?_; refine e_blk_ret ?_; refine e_then_ret ?_; refine e_lq_ret ?_; refine e_blk_ret ?_; refine e_then_ret ?_; refine e_lq_ret ?_; refine e_then_ret ?_; obtain rfl := Option.some.inj hF
                have e1352 := LK_inr hN1296; subst e1352
                have e1353 := BK_inr hK1292; subst e1353
                have e1354 := LK_inr hN1123; subst e1354
                have e1355 := BK_inr hK1119; subst e1355
                exact f_ret1 ha rfl rfl ⟨rfl, hE1350⟩
              replace hF := if_f hp1351 hF; refine wp_skip ?_; refine e_blk ?_; refine e_then ?_; refine wp_region_lit ?_; refine op_g ha rfl (g_move rfl) ?_; clear ha a; intro a ha; obtain ⟨hI1356, hF⟩ := ck_some hF; refine op_g ha rfl (g_add rfl rfl hI1356) ?_; clear ha a; intro a ha; refine op_g ha rfl (g_assign rfl) ?_; clear ha a; intro a ha; refine wpList_nil ?_; replace ha := ha.sub (σ' := [(6, (.int .i64 (x21.1.length : Int))), (8, v496), (10, v554), (11, (.int .i64 i867)), (12, (.int .i64 (i1210 + 1)))]) ⟨rfl, rfl, rfl, rfl, rfl, trivial⟩; refine e_lq ?_; obtain rfl := Option.some.inj hF
              exact ⟨_, Nat.lt_succ_self _, i1210 + 1, ha.sub ⟨rfl, rfl, rfl, rfl, rfl, trivial⟩, hE1350, hI1356, h1205, z1206, h1208, z1209, q1212, q1213, hN1296⟩
            replace hF := if_f hp1299 hF; refine wp_exit ?_; refine e_then_exit ?_; refine e_lq_eq ?_; obtain rfl := Option.some.inj hF
            exact ⟨ha.sub ⟨rfl, rfl, rfl, rfl, trivial⟩, hE1214, h1205, z1206, h1208, z1209, q1212, q1213, (LK_inr hN1296).symm⟩
        rintro a w1281 ⟨ha, hE1295, h1283, z1284, h1286, z1287, q1288, q1289, rfl⟩
        have hF : F_laws_FnPartitions_k7 i867 = some _ := hK1292; clear hK1292; unfold F_laws_FnPartitions_k7 at hF
        refine e_blk ?_; refine e_then ?_; refine wp_region_lit ?_; refine op_g ha rfl (g_move rfl) ?_; clear ha a; intro a ha; obtain ⟨hI1358, hF⟩ := ck_some hF; refine op_g ha rfl (g_add rfl rfl hI1358) ?_; clear ha a; intro a ha; refine op_g ha rfl (g_assign rfl) ?_; clear ha a; intro a ha; refine wpList_nil ?_; replace ha := ha.sub (σ' := [(6, (.int .i64 (x21.1.length : Int))), (8, v496), (10, v554), (11, (.int .i64 (i867 + 1)))]) ⟨rfl, rfl, rfl, rfl, trivial⟩; refine e_lq ?_; obtain rfl := Option.some.inj hF
        exact ⟨_, Nat.lt_succ_self _, i867 + 1, ha.sub ⟨rfl, rfl, rfl, rfl, trivial⟩, hE1295, hI1358, h1283, z1284, h1286, z1287, q1288, q1289, hN1123⟩
      replace hF := if_f hp1126 hF; refine wp_exit ?_; refine e_then_exit ?_; refine e_lq_eq ?_; obtain rfl := Option.some.inj hF
      exact ⟨ha.sub ⟨rfl, trivial⟩, hE871, h865, z866, (LK_inr hN1123).symm⟩
  rintro a w1113 ⟨ha, hE1122, h1115, z1116, rfl⟩
  have hF : F_laws_FnPartitions_k8 x552 = some _ := hK1119; clear hK1119; unfold F_laws_FnPartitions_k8 at hF
  refine e_then ?_; refine wp_seq ?_; refine wp_region_lit ?_; refine op_g ha rfl (g_move rfl) ?_; clear ha a; intro a ha; obtain ⟨x1360, g1361, gx1362, hF⟩ := idx_some hF
  obtain ⟨p1363, cs1364, f1365, hf1366, hpb1367, hat1368, hr1369, hi1370⟩ := h1115.at g1361 gx1362
  obtain ⟨rfl, hI1371, rfl⟩ := hr1369
  refine op_g ha rfl (hi1370.gives sl35 rfl rfl) ?_; clear ha a; intro a ha; refine op_g ha rfl (g_load Try.isAgg2 rfl hat1368.one) ?_; clear ha a; intro a ha; refine op_g ha rfl (g_eql rfl rfl) ?_; clear ha a; intro a ha; refine op_g ha rfl (g_assign rfl) ?_; clear ha a; intro a ha; refine wpList_nil ?_; replace ha := ha.sub (σ' := [(2, (.bool (decide (x1360 = 0))))]) ⟨rfl, trivial⟩; refine e_then ?_; refine wp_ret ?_; obtain rfl := Option.some.inj hF
  exact f_ret1 ha rfl rfl ⟨rfl, hE1122⟩
end Go.Proofs.Ytadjcnllmkdgiaa
