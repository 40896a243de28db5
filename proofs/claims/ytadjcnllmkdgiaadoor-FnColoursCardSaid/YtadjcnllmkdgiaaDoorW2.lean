/- Walks, printed by gen.py. -/
import Derived.Test.YtadjcnllmkdgiaaDoorF
import Derived.Test.YtadjcnllmkdgiaaDoorW1
import Derived.Test.YtadjcnllmkdgiaaDoorProg
import Derived.KernelRfl
set_option maxRecDepth 100000
namespace Go.Proofs.YtadjcnllmkdgiaaDoor
open Go Go.RowKit

set_option maxHeartbeats 2000000 in
theorem W_spec_l1Size {W : World} {va0_0 : Value} {fa0_0 : List Nat} {a0_0 : (List (List Int))} (ha0_0 : Ro (Rp.sl 2 Rp.int) W fa0_0 va0_0 a0_0) {r : Int} (hF : F_spec_l1Size a0_0 = some r) :
    Calls Tryd.prog 76 [.agg #[va0_0]].toArray W (Ret fun u w' => (u = .int .i64 r ∧ InI r) ∧ Ext W w') := by
  refine f_enter Tryd.func76 rfl Tryd.ntmps76 rfl ?_
  intro a ha
  replace ha : Fr 6 [(0, (.agg #[va0_0]))] a := ha
  have hE : Chg [] W W := Chg.refl _ _
  unfold F_spec_l1Size at hF
  refine wp_seq ?_; refine wp_region_lit ?_
  refine o_box ha rfl rfl rfl ?_; clear ha a; intro b1 w2 hB3 hx4 hlo5 a ha
  have q6 := Zn.one hlo5
  have q7 := Zn.upD q6 hE
  have hE8 := Ext.trans hE hx4
  refine op_g ha rfl (g_assign rfl) ?_; clear ha a; intro a ha; refine wpList_nil ?_; replace ha := ha.sub (σ' := [(1, (.pointer (some ⟨b1, 0, none⟩)))]) ⟨rfl, trivial⟩; refine e_then ?_; refine wp_seq ?_; refine wp_region_lit ?_; refine op_g ha rfl (g_field0 st29_0 rfl) ?_; clear ha a; intro a ha; refine op_g ha rfl (g_load Tryd.isAgg27 rfl (hB3.cell rfl)) ?_; clear ha a; intro a ha; refine op_g ha rfl (g_lenR sl27.und ha0_0 rfl) ?_; clear ha a; intro a ha; refine op_g ha rfl (g_assign rfl) ?_; clear ha a; intro a ha; refine wpList_nil ?_; replace ha := ha.sub (σ' := [(2, (.int .i64 (a0_0.length : Int)))]) ⟨rfl, trivial⟩
  refine e_then ?_; refine wp_ret ?_; obtain rfl := Option.some.inj hF
  exact f_ret1 ha rfl rfl ⟨⟨rfl, ha0_0.len⟩, hE8⟩
set_option maxHeartbeats 2000000 in
theorem W_spec_l1Has {W : World} {va0 : Value} {fa0 : List Nat} {a0 : (List Int)} (ha0 : Ro Rp.int W fa0 va0 a0) {a1 : Int} (ha1 : InI a1) {r : Bool} (hF : F_spec_l1Has a0 a1 = some r) :
    Calls Tryd.prog 47 [va0, .int .i64 a1].toArray W (Ret fun u w' => u = .bool r ∧ Ext W w') := by
  refine f_enter Tryd.func47 rfl Tryd.ntmps47 rfl ?_
  intro a ha
  replace ha : Fr 18 [(0, va0), (1, (.int .i64 a1))] a := ha
  have hE : Chg [] W W := Chg.refl _ _
  unfold F_spec_l1Has at hF
  refine wp_seq ?_; refine wp_region_lit ?_; refine op_g ha rfl (g_assign rfl) ?_; clear ha a; intro a ha; refine wpList_nil ?_; replace ha := ha.sub (σ' := [(0, va0), (1, (.int .i64 a1))]) ⟨rfl, rfl, trivial⟩; refine e_then ?_; refine wp_seq ?_; refine wp_seq ?_; refine wp_region_lit ?_; refine op_g ha rfl (g_assign rfl) ?_; clear ha a; intro a ha; refine wpList_nil ?_; refine e_then ?_; obtain ⟨o46, ho47, hK48⟩ := bnd_some hF
  obtain ⟨n49, hn50⟩ := lp_some ho47; clear ho47
  refine c_loop (fun a w => Fr 18 [] a ∧ Chg [] W w ∧ o46 = .inl ()) (fun n a w => ∃ (i23 : Int), Fr 18 [(0, va0), (1, (.int .i64 a1)), (5, (.int .i64 i23))] a ∧ Chg [] W w ∧ InI i23 ∧ lpN (fun s => F_spec_l1Has_l1 a0 a1 s) n i23 = some o46) n49 ⟨0, ha.sub ⟨rfl, rfl, rfl, trivial⟩, hE, (show InI 0 from by decide), hn50⟩ ?_ ?_
  · rintro m54 a w22 ⟨i23, ha, hE25, hI24, hF⟩
    cases m54 with
    | zero => exact (lpN_zero hF).elim
    | succ m54 =>
      obtain ⟨z53, hF, hN52⟩ := lpN_succ hF
      have hF : F_spec_l1Has_l1 a0 a1 i23 = some z53 := hF; unfold F_spec_l1Has_l1 at hF
      refine wp_seq ?_; refine wp_seq ?_; refine wp_region_lit ?_; (iterate 2 refine op_g ha rfl (g_move rfl) ?_; clear ha a; intro a ha); refine op_g ha rfl (g_lenR sl31.und ha0 rfl) ?_; clear ha a; intro a ha; refine op_g ha rfl (g_lss rfl rfl) ?_; clear ha a; intro a ha; refine wpList_nil ?_; replace ha := ha.sub (σ' := [(0, va0), (1, (.int .i64 a1)), (5, (.int .i64 i23)), (9, (.bool (decide (i23 < (a0.length : Int)))))]) ⟨rfl, rfl, rfl, rfl, trivial⟩; refine e_then ?_; refine c_cond (i23 < (a0.length : Int)) ha rfl (decide_eq_true_iff) (fun hp55 => ?_) (fun hp55 => ?_)
      · replace hF := if_t hp55 hF
        refine wp_skip ?_; refine e_then ?_; refine wp_seq ?_; refine wp_block ?_; refine wp_seq ?_; refine wp_region_lit ?_; (iterate 2 refine op_g ha rfl (g_move rfl) ?_; clear ha a; intro a ha); obtain ⟨x56, g57, gx58, hF⟩ := idx_some hF
        obtain ⟨p59, cs60, f61, hf62, hpb63, hat64, hr65, hi66⟩ := ha0.at g57 gx58
        obtain ⟨rfl, hI67, rfl⟩ := hr65
        refine op_g ha rfl (hi66.gives sl31 rfl rfl) ?_; clear ha a; intro a ha; refine op_g ha rfl (g_load0 hE25 Tryd.isAgg2 rfl hat64.one) ?_; clear ha a; intro a ha; refine op_g ha rfl (g_move rfl) ?_; clear ha a; intro a ha; refine op_g ha rfl (g_eql rfl rfl) ?_; clear ha a; intro a ha; refine wpList_nil ?_; replace ha := ha.sub (σ' := [(0, va0), (1, (.int .i64 a1)), (5, (.int .i64 i23)), (17, (.bool (decide (x56 = a1))))]) ⟨rfl, rfl, rfl, rfl, trivial⟩; refine e_then ?_; refine c_cond (x56 = a1) ha rfl (decide_eq_true_iff) (fun hp68 => ?_) (fun hp68 => ?_)
        · replace hF := if_t hp68 hF
          refine wp_seq ?_; refine wp_region_lit ?_; refine op_g ha rfl (g_assign rfl) ?_; clear ha a; intro a ha; refine wpList_nil ?_; replace ha := ha.sub (σ' := [(4, (.bool true))]) ⟨rfl, trivial⟩; refine e_then ?_; refine wp_ret ?_; refine e_blk_ret ?_; refine e_then_ret ?_; refine e_lq_ret ?_; refine e_then_ret ?_; obtain rfl := Option.some.inj hF
          have e69 := LK_inr hN52; subst e69
          have e70 := BK_inr hK48; subst e70
          exact f_ret1 ha rfl rfl ⟨rfl, hE25⟩
        replace hF := if_f hp68 hF; refine wp_skip ?_; refine e_blk ?_; refine e_then ?_; refine wp_region_lit ?_; refine op_g ha rfl (g_move rfl) ?_; clear ha a; intro a ha; obtain ⟨hI71, hF⟩ := ck_some hF; refine op_g ha rfl (g_add rfl rfl hI71) ?_; clear ha a; intro a ha; refine op_g ha rfl (g_assign rfl) ?_; clear ha a; intro a ha; refine wpList_nil ?_; replace ha := ha.sub (σ' := [(0, va0), (1, (.int .i64 a1)), (5, (.int .i64 (i23 + 1)))]) ⟨rfl, rfl, rfl, trivial⟩; refine e_lq ?_; obtain rfl := Option.some.inj hF
        exact ⟨_, Nat.lt_succ_self _, i23 + 1, ha.sub ⟨rfl, rfl, rfl, trivial⟩, hE25, hI71, hN52⟩
      replace hF := if_f hp55 hF; refine wp_exit ?_; refine e_then_exit ?_; refine e_lq_eq ?_; obtain rfl := Option.some.inj hF
      exact ⟨ha.sub trivial, hE25, (LK_inr hN52).symm⟩
  rintro a w45 ⟨ha, hE51, rfl⟩
  have hF : F_spec_l1Has_k2 = some _ := hK48; clear hK48; unfold F_spec_l1Has_k2 at hF
  refine e_then ?_; refine wp_seq ?_; refine wp_region_lit ?_; refine op_g ha rfl (g_assign rfl) ?_; clear ha a; intro a ha; refine wpList_nil ?_; refine e_then ?_; refine wp_ret ?_; obtain rfl := Option.some.inj hF
  exact f_ret1 ha rfl rfl ⟨rfl, hE51⟩
set_option maxHeartbeats 2000000 in
theorem W_spec_GraphOk {W : World} {va0_0 : Value} {fa0_0 : List Nat} {a0_0 : (List (List Int))} (ha0_0 : Ro (Rp.sl 2 Rp.int) W fa0_0 va0_0 a0_0) {r : Bool} (hF : F_spec_GraphOk a0_0 = some r) :
    Calls Tryd.prog 33 [.agg #[va0_0]].toArray W (Ret fun u w' => u = .bool r ∧ Ext W w') := by
  refine f_enter Tryd.func33 rfl Tryd.ntmps33 rfl ?_
  intro a ha
  replace ha : Fr 64 [(0, (.agg #[va0_0]))] a := ha
  have hE : Chg [] W W := Chg.refl _ _
  unfold F_spec_GraphOk at hF
  refine wp_seq ?_; refine wp_region_lit ?_
  refine o_box ha rfl rfl rfl ?_; clear ha a; intro b1 w2 hB3 hx4 hlo5 a ha
  have q6 := Zn.one hlo5
  have q7 := Zn.upD q6 hE
  have hE8 := Ext.trans hE hx4
  refine op_g ha rfl (g_assign rfl) ?_; clear ha a; intro a ha; refine wpList_nil ?_; replace ha := ha.sub (σ' := [(1, (.pointer (some ⟨b1, 0, none⟩)))]) ⟨rfl, trivial⟩; refine e_then ?_; refine wp_seq ?_; refine wp_region_lit ?_; refine op_g ha rfl (g_loadA (cs := [va0_0]) Tryd.isAgg29 Tryd.sizeOf29 rfl (by simp) hB3.all) ?_; clear ha a; intro a ha; obtain ⟨x9, hc10, hF⟩ := cal_some hF
  refine o_call ha rfl rfl Tryd.call76 (W_spec_l1Size (ha0_0.ext hE8) hc10) ?_; clear ha a; rintro v11 w12 ⟨⟨rfl, hI14⟩, hx13⟩ a ha
  replace hB3 := hB3.ext hx13
  have hE15 := Ext.trans hE8 hx13
  refine op_g ha rfl (g_assign rfl) ?_; clear ha a; intro a ha; refine wpList_nil ?_; replace ha := ha.sub (σ' := [(1, (.pointer (some ⟨b1, 0, none⟩))), (3, (.int .i64 x9))]) ⟨rfl, rfl, trivial⟩; refine e_then ?_; refine wp_seq ?_; refine wp_seq ?_; refine wp_region_lit ?_; refine op_g ha rfl (g_move rfl) ?_; clear ha a; intro a ha; obtain ⟨x16, hc17, hF⟩ := cal_some hF
  refine o_call ha rfl rfl Tryd.call34 (W_spec_l1In hI14 (show InI 1 from by decide) (show InI 16 from by decide) hc17) ?_; clear ha a; rintro v18 w19 ⟨rfl, hx20⟩ a ha
  replace hB3 := hB3.ext hx20
  have hE21 := Ext.trans hE15 hx20
  refine op_g ha rfl (g_not rfl) ?_; clear ha a; intro a ha; refine wpList_nil ?_; replace ha := ha.sub (σ' := [(1, (.pointer (some ⟨b1, 0, none⟩))), (3, (.int .i64 x9)), (11, (.bool (!x16)))]) ⟨rfl, rfl, rfl, trivial⟩; refine e_then ?_; refine c_cond (¬ (x16 = true)) ha rfl (n_iff (Iff.rfl)) (fun hp22 => ?_) (fun hp22 => ?_)
  · replace hF := if_t hp22 hF
    refine wp_seq ?_; refine wp_region_lit ?_; refine op_g ha rfl (g_assign rfl) ?_; clear ha a; intro a ha; refine wpList_nil ?_; replace ha := ha.sub (σ' := [(2, (.bool false))]) ⟨rfl, trivial⟩; refine e_then ?_; refine wp_ret ?_; refine e_then_ret ?_; obtain rfl := Option.some.inj hF
    exact f_ret1 ha rfl rfl ⟨rfl, hE21⟩
  replace hF := if_f hp22 hF; refine wp_skip ?_; refine e_then ?_; refine wp_seq ?_; refine wp_seq ?_; refine wp_region_lit ?_; refine op_g ha rfl (g_assign rfl) ?_; clear ha a; intro a ha; refine wpList_nil ?_; replace ha := ha.sub (σ' := [(1, (.pointer (some ⟨b1, 0, none⟩))), (3, (.int .i64 x9)), (4, (.int .i64 0))]) ⟨rfl, rfl, rfl, trivial⟩; refine e_then ?_; obtain ⟨o136, ho137, hK138⟩ := bnd_some hF
  obtain ⟨n139, hn140⟩ := lp_some ho137; clear ho137
  refine c_loop (fun a w => Fr 64 [(1, (.pointer (some ⟨b1, 0, none⟩))), (3, (.int .i64 x9))] a ∧ Chg [] W w ∧ Bx w b1 [va0_0] 29 ∧ Zn W (b1 : Int) ∧ o136 = .inl ()) (fun n a w => ∃ (i80 : Int), Fr 64 [(1, (.pointer (some ⟨b1, 0, none⟩))), (3, (.int .i64 x9)), (4, (.int .i64 i80))] a ∧ Chg [] W w ∧ InI i80 ∧ Bx w b1 [va0_0] 29 ∧ Zn W (b1 : Int) ∧ lpN (fun s => F_spec_GraphOk_l1 a0_0 x9 s) n i80 = some o136) n139 ⟨0, ha.sub ⟨rfl, rfl, rfl, trivial⟩, hE21, (show InI 0 from by decide), hB3, q7, hn140⟩ ?_ ?_
  · rintro m144 a w77 ⟨i80, ha, hE82, hI81, hB78, z79, hF⟩
    cases m144 with
    | zero => exact (lpN_zero hF).elim
    | succ m144 =>
      obtain ⟨z143, hF, hN142⟩ := lpN_succ hF
      have hF : F_spec_GraphOk_l1 a0_0 x9 i80 = some z143 := hF; unfold F_spec_GraphOk_l1 at hF
      refine wp_seq ?_; refine wp_seq ?_; refine wp_region_lit ?_; (iterate 2 refine op_g ha rfl (g_move rfl) ?_; clear ha a; intro a ha); refine op_g ha rfl (g_lss rfl rfl) ?_; clear ha a; intro a ha; refine wpList_nil ?_; replace ha := ha.sub (σ' := [(1, (.pointer (some ⟨b1, 0, none⟩))), (3, (.int .i64 x9)), (4, (.int .i64 i80)), (14, (.bool (decide (i80 < x9))))]) ⟨rfl, rfl, rfl, rfl, trivial⟩; refine e_then ?_; refine c_cond (i80 < x9) ha rfl (decide_eq_true_iff) (fun hp145 => ?_) (fun hp145 => ?_)
      · replace hF := if_t hp145 hF
        refine wp_skip ?_; refine e_then ?_; refine wp_seq ?_; refine wp_block ?_; refine wp_seq ?_; refine wp_region_lit ?_; refine op_g ha rfl (g_field0 st29_0 rfl) ?_; clear ha a; intro a ha; refine op_g ha rfl (g_load Tryd.isAgg27 rfl (hB78.cell rfl)) ?_; clear ha a; intro a ha; refine op_g ha rfl (g_move rfl) ?_; clear ha a; intro a ha; obtain ⟨x146, g147, gx148, hF⟩ := idx_some hF
        obtain ⟨p149, cs150, f151, hf152, hpb153, hat154, hr155, hi156⟩ := ha0_0.at g147 gx148
        obtain ⟨v157, rfl, h158⟩ := hr155
        have h158 : Ro Rp.int W f151 v157 x146 := h158
        refine op_g ha rfl (hi156.gives sl27 rfl rfl) ?_; clear ha a; intro a ha; refine op_g ha rfl (g_load0 hE82 Tryd.isAgg31 rfl hat154.one) ?_; clear ha a; intro a ha; refine op_g ha rfl (g_move rfl) ?_; clear ha a; intro a ha; obtain ⟨x160, hc161, hF⟩ := cal_some hF
        refine o_call ha rfl rfl Tryd.call70 (W_spec_l1Set (h158.ext hE82) hI14 hc161) ?_; clear ha a; rintro v162 w163 ⟨rfl, hx164⟩ a ha
        replace hB78 := hB78.ext hx164
        have hE165 := Ext.trans hE82 hx164
        refine op_g ha rfl (g_not rfl) ?_; clear ha a; intro a ha; refine op_g ha rfl (g_move rfl) ?_; clear ha a; intro a ha
        by_cases hp166 : ¬ (x160 = true)
        · replace hF := if_t hp166 hF
          rw [show (!x160) = true from (n_iff (Iff.rfl)).2 hp166] at ha
          (iterate 7 refine op_unwant ha rfl (yields ha rfl rfl) rfl ?_; clear ha a; intro a ha); refine op_g ha rfl (g_pick rfl rfl) ?_; clear ha a; intro a ha; refine wpList_nil ?_; replace ha := ha.sub (σ' := [(1, (.pointer (some ⟨b1, 0, none⟩))), (3, (.int .i64 x9)), (4, (.int .i64 i80)), (33, (.bool true))]) ⟨rfl, rfl, rfl, rfl, trivial⟩; refine e_then ?_; refine c_true ha rfl ?_; refine wp_seq ?_; refine wp_region_lit ?_; refine op_g ha rfl (g_assign rfl) ?_; clear ha a; intro a ha; refine wpList_nil ?_; replace ha := ha.sub (σ' := [(2, (.bool false))]) ⟨rfl, trivial⟩; refine e_then ?_; refine wp_ret ?_
          refine e_blk_ret ?_; refine e_then_ret ?_; refine e_lq_ret ?_; refine e_then_ret ?_; obtain rfl := Option.some.inj hF
          have e167 := LK_inr hN142; subst e167
          have e168 := BK_inr hK138; subst e168
          exact f_ret1 ha rfl rfl ⟨rfl, hE165⟩
        replace hF := if_f hp166 hF
        rw [show (!x160) = false from b_false (n_iff (Iff.rfl)) hp166] at ha
        refine op_want (yields ha rfl rfl) ?_; refine op_g ha rfl (g_field0 st29_0 rfl) ?_; clear ha a; intro a ha; refine op_want (yields ha rfl rfl) ?_; refine op_g ha rfl (g_load Tryd.isAgg27 rfl (hB78.cell rfl)) ?_; clear ha a; intro a ha; refine op_want (yields ha rfl rfl) ?_; refine op_g ha rfl (g_move rfl) ?_; clear ha a; intro a ha; refine op_want (yields ha rfl rfl) ?_; obtain ⟨x169, g170, gx171, hF⟩ := idx_some hF
        obtain ⟨p172, cs173, f174, hf175, hpb176, hat177, hr178, hi179⟩ := ha0_0.at g170 gx171
        obtain ⟨v180, rfl, h181⟩ := hr178
        have h181 : Ro Rp.int W f174 v180 x169 := h181
        refine op_g ha rfl (hi179.gives sl27 rfl rfl) ?_; clear ha a; intro a ha; refine op_want (yields ha rfl rfl) ?_; refine op_g ha rfl (g_load0 hE165 Tryd.isAgg31 rfl hat177.one) ?_; clear ha a; intro a ha; refine op_want (yields ha rfl rfl) ?_; refine op_g ha rfl (g_move rfl) ?_; clear ha a; intro a ha; refine op_want (yields ha rfl rfl) ?_; obtain ⟨x183, hc184, hF⟩ := cal_some hF
        refine o_call ha rfl rfl Tryd.call47 (W_spec_l1Has (h181.ext hE165) hI81 hc184) ?_; clear ha a; rintro v185 w186 ⟨rfl, hx187⟩ a ha
        replace hB78 := hB78.ext hx187
        have hE188 := Ext.trans hE165 hx187
        refine op_g ha rfl (g_pick rfl rfl) ?_; clear ha a; intro a ha; refine wpList_nil ?_; replace ha := ha.sub (σ' := [(1, (.pointer (some ⟨b1, 0, none⟩))), (3, (.int .i64 x9)), (4, (.int .i64 i80)), (26, (.pointer (some ⟨b1, 0, none⟩))), (27, va0_0), (28, (.int .i64 i80)), (29, (.pointer (some p172))), (30, v180), (31, (.int .i64 i80)), (32, (.bool x183)), (33, (.bool x183))]) ⟨rfl, rfl, rfl, rfl, rfl, rfl, rfl, rfl, rfl, rfl, rfl, trivial⟩; refine e_then ?_; refine c_cond (x183 = true) ha rfl (Iff.rfl) (fun hp189 => ?_) (fun hp189 => ?_)
        · replace hF := if_t hp189 hF
          refine wp_seq ?_; refine wp_region_lit ?_; refine op_g ha rfl (g_assign rfl) ?_; clear ha a; intro a ha; refine wpList_nil ?_; replace ha := ha.sub (σ' := [(2, (.bool false))]) ⟨rfl, trivial⟩; refine e_then ?_; refine wp_ret ?_; refine e_blk_ret ?_; refine e_then_ret ?_; refine e_lq_ret ?_; refine e_then_ret ?_; obtain rfl := Option.some.inj hF
          have e190 := LK_inr hN142; subst e190
          have e191 := BK_inr hK138; subst e191
          exact f_ret1 ha rfl rfl ⟨rfl, hE188⟩
        replace hF := if_f hp189 hF; refine wp_skip ?_; refine e_blk ?_; refine e_then ?_; refine wp_region_lit ?_; refine op_g ha rfl (g_move rfl) ?_; clear ha a; intro a ha; obtain ⟨hI192, hF⟩ := ck_some hF; refine op_g ha rfl (g_add rfl rfl hI192) ?_; clear ha a; intro a ha; refine op_g ha rfl (g_assign rfl) ?_; clear ha a; intro a ha; refine wpList_nil ?_; replace ha := ha.sub (σ' := [(1, (.pointer (some ⟨b1, 0, none⟩))), (3, (.int .i64 x9)), (4, (.int .i64 (i80 + 1))), (26, (.pointer (some ⟨b1, 0, none⟩))), (27, va0_0), (28, (.int .i64 i80)), (29, (.pointer (some p172))), (30, v180), (31, (.int .i64 i80)), (32, (.bool x183))]) ⟨rfl, rfl, rfl, rfl, rfl, rfl, rfl, rfl, rfl, rfl, trivial⟩
        refine e_lq ?_; obtain rfl := Option.some.inj hF
        exact ⟨_, Nat.lt_succ_self _, i80 + 1, ha.sub ⟨rfl, rfl, rfl, trivial⟩, hE188, hI192, hB78, z79, hN142⟩
      replace hF := if_f hp145 hF; refine wp_exit ?_; refine e_then_exit ?_; refine e_lq_eq ?_; obtain rfl := Option.some.inj hF
      exact ⟨ha.sub ⟨rfl, rfl, trivial⟩, hE82, hB78, z79, (LK_inr hN142).symm⟩
  rintro a w133 ⟨ha, hE141, hB134, z135, rfl⟩
  have hF : F_spec_GraphOk_k2 a0_0 x9 = some _ := hK138; clear hK138; unfold F_spec_GraphOk_k2 at hF
  refine e_then ?_; refine wp_seq ?_; refine wp_seq ?_; refine wp_region_lit ?_; refine op_g ha rfl (g_assign rfl) ?_; clear ha a; intro a ha; refine wpList_nil ?_; refine e_then ?_; obtain ⟨o675, ho676, hK677⟩ := bnd_some hF
  obtain ⟨n678, hn679⟩ := lp_some ho676; clear ho676
  refine c_loop (fun a w => Fr 64 [] a ∧ Chg [] W w ∧ o675 = .inl ()) (fun n a w => ∃ (i436 : Int), Fr 64 [(1, (.pointer (some ⟨b1, 0, none⟩))), (3, (.int .i64 x9)), (5, (.int .i64 i436))] a ∧ Chg [] W w ∧ InI i436 ∧ Bx w b1 [va0_0] 29 ∧ Zn W (b1 : Int) ∧ lpN (fun s => F_spec_GraphOk_l3 a0_0 x9 s) n i436 = some o675) n678 ⟨0, ha.sub ⟨rfl, rfl, rfl, trivial⟩, hE141, (show InI 0 from by decide), hB134, z135, hn679⟩ ?_ ?_
  · rintro m683 a w433 ⟨i436, ha, hE438, hI437, hB434, z435, hF⟩
    cases m683 with
    | zero => exact (lpN_zero hF).elim
    | succ m683 =>
      obtain ⟨z682, hF, hN681⟩ := lpN_succ hF
      have hF : F_spec_GraphOk_l3 a0_0 x9 i436 = some z682 := hF; unfold F_spec_GraphOk_l3 at hF
      refine wp_seq ?_; refine wp_seq ?_; refine wp_region_lit ?_; (iterate 2 refine op_g ha rfl (g_move rfl) ?_; clear ha a; intro a ha); refine op_g ha rfl (g_lss rfl rfl) ?_; clear ha a; intro a ha; refine wpList_nil ?_; replace ha := ha.sub (σ' := [(1, (.pointer (some ⟨b1, 0, none⟩))), (3, (.int .i64 x9)), (5, (.int .i64 i436)), (36, (.bool (decide (i436 < x9))))]) ⟨rfl, rfl, rfl, rfl, trivial⟩; refine e_then ?_; refine c_cond (i436 < x9) ha rfl (decide_eq_true_iff) (fun hp684 => ?_) (fun hp684 => ?_)
      · replace hF := if_t hp684 hF
        refine wp_skip ?_; refine e_then ?_; refine wp_seq ?_; refine wp_block ?_; refine wp_seq ?_; refine wp_region_lit ?_; refine op_g ha rfl (g_assign rfl) ?_; clear ha a; intro a ha; refine wpList_nil ?_; replace ha := ha.sub (σ' := [(1, (.pointer (some ⟨b1, 0, none⟩))), (3, (.int .i64 x9)), (5, (.int .i64 i436)), (6, (.int .i64 0))]) ⟨rfl, rfl, rfl, rfl, trivial⟩; refine e_then ?_; obtain ⟨o838, ho839, hK840⟩ := bnd_some hF
        obtain ⟨n841, hn842⟩ := lp_some ho839; clear ho839
        refine c_loop (fun a w => Fr 64 [(1, (.pointer (some ⟨b1, 0, none⟩))), (3, (.int .i64 x9)), (5, (.int .i64 i436))] a ∧ Chg [] W w ∧ Bx w b1 [va0_0] 29 ∧ Zn W (b1 : Int) ∧ o838 = .inl ()) (fun n a w => ∃ (i762 : Int), Fr 64 [(1, (.pointer (some ⟨b1, 0, none⟩))), (3, (.int .i64 x9)), (5, (.int .i64 i436)), (6, (.int .i64 i762))] a ∧ Chg [] W w ∧ InI i762 ∧ Bx w b1 [va0_0] 29 ∧ Zn W (b1 : Int) ∧ lpN (fun s => F_spec_GraphOk_l4 a0_0 i436 s) n i762 = some o838) n841 ⟨0, ha.sub ⟨rfl, rfl, rfl, rfl, trivial⟩, hE438, (show InI 0 from by decide), hB434, z435, hn842⟩ ?_ ?_
        · rintro m846 a w759 ⟨i762, ha, hE764, hI763, hB760, z761, hF⟩
          cases m846 with
          | zero => exact (lpN_zero hF).elim
          | succ m846 =>
            obtain ⟨z845, hF, hN844⟩ := lpN_succ hF
            have hF : F_spec_GraphOk_l4 a0_0 i436 i762 = some z845 := hF; unfold F_spec_GraphOk_l4 at hF
            refine wp_seq ?_; refine wp_seq ?_; refine wp_region_lit ?_; refine op_g ha rfl (g_move rfl) ?_; clear ha a; intro a ha; refine op_g ha rfl (g_field0 st29_0 rfl) ?_; clear ha a; intro a ha; refine op_g ha rfl (g_load Tryd.isAgg27 rfl (hB760.cell rfl)) ?_; clear ha a; intro a ha; refine op_g ha rfl (g_move rfl) ?_; clear ha a; intro a ha; obtain ⟨x847, g848, gx849, hF⟩ := idx_some hF
            obtain ⟨p850, cs851, f852, hf853, hpb854, hat855, hr856, hi857⟩ := ha0_0.at g848 gx849
            obtain ⟨v858, rfl, h859⟩ := hr856
            have h859 : Ro Rp.int W f852 v858 x847 := h859
            refine op_g ha rfl (hi857.gives sl27 rfl rfl) ?_; clear ha a; intro a ha; refine op_g ha rfl (g_load0 hE764 Tryd.isAgg31 rfl hat855.one) ?_; clear ha a; intro a ha; refine op_g ha rfl (g_lenR sl31.und h859 rfl) ?_; clear ha a; intro a ha; refine op_g ha rfl (g_lss rfl rfl) ?_; clear ha a; intro a ha; refine wpList_nil ?_; replace ha := ha.sub (σ' := [(1, (.pointer (some ⟨b1, 0, none⟩))), (3, (.int .i64 x9)), (5, (.int .i64 i436)), (6, (.int .i64 i762)), (46, (.bool (decide (i762 < (x847.length : Int)))))]) ⟨rfl, rfl, rfl, rfl, rfl, trivial⟩; refine e_then ?_; refine c_cond (i762 < (x847.length : Int)) ha rfl (decide_eq_true_iff) (fun hp861 => ?_) (fun hp861 => ?_)
            · replace hF := if_t hp861 hF
              refine wp_skip ?_; refine e_then ?_; refine wp_seq ?_; refine wp_block ?_; refine wp_seq ?_; refine d_quiet hmix (by kernel_rfl) ?_; refine q_g ha rfl (g_field0 st29_0 rfl) ?_; clear ha a; intro a ha; refine q_g ha rfl (g_load Tryd.isAgg27 rfl (hB760.cell rfl)) ?_; clear ha a; intro a ha; refine q_g ha rfl (g_field0 st29_0 rfl) ?_; clear ha a; intro a ha; refine q_g ha rfl (g_load Tryd.isAgg27 rfl (hB760.cell rfl)) ?_; clear ha a; intro a ha; refine q_g ha rfl (g_move rfl) ?_; clear ha a; intro a ha; obtain ⟨x862, g863, gx864, hF⟩ := idx_some hF
              obtain ⟨p865, cs866, f867, hf868, hpb869, hat870, hr871, hi872⟩ := ha0_0.at g863 gx864
              obtain ⟨v873, rfl, h874⟩ := hr871
              have h874 : Ro Rp.int W f867 v873 x862 := h874
              refine q_g ha rfl (hi872.gives sl27 rfl rfl) ?_; clear ha a; intro a ha; refine q_g ha rfl (g_load0 hE764 Tryd.isAgg31 rfl hat870.one) ?_; clear ha a; intro a ha; refine q_g ha rfl (g_move rfl) ?_; clear ha a; intro a ha; obtain ⟨x876, g877, gx878, hF⟩ := idx_some hF
              obtain ⟨p879, cs880, f881, hf882, hpb883, hat884, hr885, hi886⟩ := h874.at g877 gx878
              obtain ⟨rfl, hI887, rfl⟩ := hr885
              refine q_g ha rfl (hi886.gives sl31 rfl rfl) ?_; clear ha a; intro a ha; refine q_g ha rfl (g_load0 hE764 Tryd.isAgg2 rfl hat884.one) ?_; clear ha a; intro a ha; obtain ⟨x888, g889, gx890, hF⟩ := idx_some hF
              obtain ⟨p891, cs892, f893, hf894, hpb895, hat896, hr897, hi898⟩ := ha0_0.at g889 gx890
              obtain ⟨v899, rfl, h900⟩ := hr897
              have h900 : Ro Rp.int W f893 v899 x888 := h900
              refine q_g ha rfl (hi898.gives sl27 rfl rfl) ?_; clear ha a; intro a ha; refine q_g ha rfl (g_load0 hE764 Tryd.isAgg31 rfl hat896.one) ?_; clear ha a; intro a ha; refine q_g ha rfl (g_move rfl) ?_; clear ha a; intro a ha; obtain ⟨x904, hc905, hF⟩ := cal_some hF; refine q_call (.bool x904) ha rfl rfl Tryd.call47 (fun w903 hx902 => W_spec_l1Has (h900.ext (Ext.trans hE764 hx902)) hI437 hc905) (fun _ _ _ h => ⟨h.1, h.2⟩) ?_; clear ha a; intro a ha; refine q_g ha rfl (g_not rfl) ?_; clear ha a; intro a ha
              refine q_nil ?_; intro w906 hx907
              replace hB760 := hB760.ext hx907
              have hE908 := Ext.trans hE764 hx907
              replace ha := ha.sub (σ' := [(1, (.pointer (some ⟨b1, 0, none⟩))), (3, (.int .i64 x9)), (5, (.int .i64 i436)), (6, (.int .i64 i762)), (63, (.bool (!x904)))]) ⟨rfl, rfl, rfl, rfl, rfl, trivial⟩; refine e_then ?_; refine c_cond (¬ (x904 = true)) ha rfl (n_iff (Iff.rfl)) (fun hp909 => ?_) (fun hp909 => ?_)
              · replace hF := if_t hp909 hF
                refine wp_seq ?_; refine wp_region_lit ?_; refine op_g ha rfl (g_assign rfl) ?_; clear ha a; intro a ha; refine wpList_nil ?_; replace ha := ha.sub (σ' := [(2, (.bool false))]) ⟨rfl, trivial⟩; refine e_then ?_; refine wp_ret ?_; refine e_blk_ret ?_; refine e_then_ret ?_; refine e_lq_ret ?_; refine e_blk_ret ?_; refine e_then_ret ?_; refine e_lq_ret ?_; refine e_then_ret ?_; obtain rfl := Option.some.inj hF
                have e910 := LK_inr hN844; subst e910
                have e911 := BK_inr hK840; subst e911
                have e912 := LK_inr hN681; subst e912
                have e913 := BK_inr hK677; subst e913
                exact f_ret1 ha rfl rfl ⟨rfl, hE908⟩
              replace hF := if_f hp909 hF; refine wp_skip ?_; refine e_blk ?_; refine e_then ?_; refine wp_region_lit ?_; refine op_g ha rfl (g_move rfl) ?_; clear ha a; intro a ha; obtain ⟨hI914, hF⟩ := ck_some hF; refine op_g ha rfl (g_add rfl rfl hI914) ?_; clear ha a; intro a ha; refine op_g ha rfl (g_assign rfl) ?_; clear ha a; intro a ha; refine wpList_nil ?_; replace ha := ha.sub (σ' := [(1, (.pointer (some ⟨b1, 0, none⟩))), (3, (.int .i64 x9)), (5, (.int .i64 i436)), (6, (.int .i64 (i762 + 1)))]) ⟨rfl, rfl, rfl, rfl, trivial⟩; refine e_lq ?_; obtain rfl := Option.some.inj hF
              exact ⟨_, Nat.lt_succ_self _, i762 + 1, ha.sub ⟨rfl, rfl, rfl, rfl, trivial⟩, hE908, hI914, hB760, z761, hN844⟩
            replace hF := if_f hp861 hF; refine wp_exit ?_; refine e_then_exit ?_; refine e_lq_eq ?_; obtain rfl := Option.some.inj hF
            exact ⟨ha.sub ⟨rfl, rfl, rfl, trivial⟩, hE764, hB760, z761, (LK_inr hN844).symm⟩
        rintro a w835 ⟨ha, hE843, hB836, z837, rfl⟩
        have hF : F_spec_GraphOk_k5 i436 = some _ := hK840; clear hK840; unfold F_spec_GraphOk_k5 at hF
        refine e_blk ?_; refine e_then ?_; refine wp_region_lit ?_; refine op_g ha rfl (g_move rfl) ?_; clear ha a; intro a ha; obtain ⟨hI916, hF⟩ := ck_some hF; refine op_g ha rfl (g_add rfl rfl hI916) ?_; clear ha a; intro a ha; refine op_g ha rfl (g_assign rfl) ?_; clear ha a; intro a ha; refine wpList_nil ?_; replace ha := ha.sub (σ' := [(1, (.pointer (some ⟨b1, 0, none⟩))), (3, (.int .i64 x9)), (5, (.int .i64 (i436 + 1)))]) ⟨rfl, rfl, rfl, trivial⟩; refine e_lq ?_; obtain rfl := Option.some.inj hF
        exact ⟨_, Nat.lt_succ_self _, i436 + 1, ha.sub ⟨rfl, rfl, rfl, trivial⟩, hE843, hI916, hB836, z837, hN681⟩
      replace hF := if_f hp684 hF; refine wp_exit ?_; refine e_then_exit ?_; refine e_lq_eq ?_; obtain rfl := Option.some.inj hF
      exact ⟨ha.sub trivial, hE438, (LK_inr hN681).symm⟩
  rintro a w674 ⟨ha, hE680, rfl⟩
  have hF : F_spec_GraphOk_k6 = some _ := hK677; clear hK677; unfold F_spec_GraphOk_k6 at hF
  refine e_then ?_; refine wp_seq ?_; refine wp_region_lit ?_; refine op_g ha rfl (g_assign rfl) ?_; clear ha a; intro a ha; refine wpList_nil ?_; refine e_then ?_; refine wp_ret ?_; obtain rfl := Option.some.inj hF
  exact f_ret1 ha rfl rfl ⟨rfl, hE680⟩
set_option maxHeartbeats 2000000 in
theorem W_spec_ColoursOk {W : World} {va0_0 : Value} {fa0_0 : List Nat} {a0_0 : (List (List Int))} (ha0_0 : Ro (Rp.sl 2 Rp.int) W fa0_0 va0_0 a0_0) {va1 : Value} {fa1 : List Nat} {a1 : (List Int)} (ha1 : Ro Rp.int W fa1 va1 a1) {r : Bool} (hF : F_spec_ColoursOk a0_0 a1 = some r) :
    Calls Tryd.prog 10 [.agg #[va0_0], va1].toArray W (Ret fun u w' => u = .bool r ∧ Ext W w') := by
  refine f_enter Tryd.func10 rfl Tryd.ntmps10 rfl ?_
  intro a ha
  replace ha : Fr 59 [(0, (.agg #[va0_0])), (1, va1)] a := ha
  have hE : Chg [] W W := Chg.refl _ _
  unfold F_spec_ColoursOk at hF
  refine wp_seq ?_; refine wp_region_lit ?_
  refine o_box ha rfl rfl rfl ?_; clear ha a; intro b1 w2 hB3 hx4 hlo5 a ha
  have q6 := Zn.one hlo5
  have q7 := Zn.upD q6 hE
  have hE8 := Ext.trans hE hx4
  refine op_g ha rfl (g_assign rfl) ?_; clear ha a; intro a ha; refine wpList_nil ?_; replace ha := ha.sub (σ' := [(1, va1), (2, (.pointer (some ⟨b1, 0, none⟩)))]) ⟨rfl, rfl, trivial⟩; refine e_then ?_; refine wp_seq ?_; refine wp_seq ?_; refine wp_region_lit ?_; refine op_g ha rfl (g_loadA (cs := [va0_0]) Tryd.isAgg29 Tryd.sizeOf29 rfl (by simp) hB3.all) ?_; clear ha a; intro a ha; obtain ⟨x17, hc18, hF⟩ := cal_some hF
  refine o_call ha rfl rfl Tryd.call33 (W_spec_GraphOk (ha0_0.ext hE8) hc18) ?_; clear ha a; rintro v19 w20 ⟨rfl, hx21⟩ a ha
  replace hB3 := hB3.ext hx21
  have hE22 := Ext.trans hE8 hx21
  refine op_g ha rfl (g_not rfl) ?_; clear ha a; intro a ha; refine op_g ha rfl (g_move rfl) ?_; clear ha a; intro a ha
  by_cases hp23 : ¬ (x17 = true)
  · replace hF := if_t hp23 hF
    rw [show (!x17) = true from (n_iff (Iff.rfl)).2 hp23] at ha
    (iterate 6 refine op_unwant ha rfl (yields ha rfl rfl) rfl ?_; clear ha a; intro a ha); refine op_g ha rfl (g_pick rfl rfl) ?_; clear ha a; intro a ha; refine wpList_nil ?_; replace ha := ha.sub (σ' := [(1, va1), (2, (.pointer (some ⟨b1, 0, none⟩))), (17, (.bool true))]) ⟨rfl, rfl, rfl, trivial⟩; refine e_then ?_; refine c_true ha rfl ?_; refine wp_seq ?_; refine wp_region_lit ?_; refine op_g ha rfl (g_assign rfl) ?_; clear ha a; intro a ha; refine wpList_nil ?_; replace ha := ha.sub (σ' := [(4, (.bool false))]) ⟨rfl, trivial⟩; refine e_then ?_; refine wp_ret ?_; refine e_then_ret ?_; obtain rfl := Option.some.inj hF
    exact f_ret1 ha rfl rfl ⟨rfl, hE22⟩
  replace hF := if_f hp23 hF
  rw [show (!x17) = false from b_false (n_iff (Iff.rfl)) hp23] at ha
  refine op_want (yields ha rfl rfl) ?_; refine op_g ha rfl (g_move rfl) ?_; clear ha a; intro a ha; refine op_want (yields ha rfl rfl) ?_; refine op_g ha rfl (g_lenR sl31.und ha1 rfl) ?_; clear ha a; intro a ha; refine op_want (yields ha rfl rfl) ?_; refine op_g ha rfl (g_field0 st29_0 rfl) ?_; clear ha a; intro a ha; refine op_want (yields ha rfl rfl) ?_; refine op_g ha rfl (g_load Tryd.isAgg27 rfl (hB3.cell rfl)) ?_; clear ha a; intro a ha; refine op_want (yields ha rfl rfl) ?_; refine op_g ha rfl (g_lenR sl27.und ha0_0 rfl) ?_; clear ha a; intro a ha; refine op_want (yields ha rfl rfl) ?_; refine op_g ha rfl (g_neq rfl rfl) ?_; clear ha a; intro a ha
  refine op_g ha rfl (g_pick rfl rfl) ?_; clear ha a; intro a ha; refine wpList_nil ?_; replace ha := ha.sub (σ' := [(1, va1), (2, (.pointer (some ⟨b1, 0, none⟩))), (17, (.bool (decide ((a1.length : Int) ≠ (a0_0.length : Int)))))]) ⟨rfl, rfl, rfl, trivial⟩; refine e_then ?_; refine c_cond ((a1.length : Int) ≠ (a0_0.length : Int)) ha rfl (decide_eq_true_iff) (fun hp24 => ?_) (fun hp24 => ?_)
  · replace hF := if_t hp24 hF
    refine wp_seq ?_; refine wp_region_lit ?_; refine op_g ha rfl (g_assign rfl) ?_; clear ha a; intro a ha; refine wpList_nil ?_; replace ha := ha.sub (σ' := [(4, (.bool false))]) ⟨rfl, trivial⟩; refine e_then ?_; refine wp_ret ?_; refine e_then_ret ?_; obtain rfl := Option.some.inj hF
    exact f_ret1 ha rfl rfl ⟨rfl, hE22⟩
  replace hF := if_f hp24 hF; refine wp_skip ?_; refine e_then ?_; refine wp_seq ?_; refine wp_seq ?_; refine wp_region_lit ?_; refine op_g ha rfl (g_assign rfl) ?_; clear ha a; intro a ha; refine wpList_nil ?_; replace ha := ha.sub (σ' := [(1, va1), (2, (.pointer (some ⟨b1, 0, none⟩))), (5, (.int .i64 0))]) ⟨rfl, rfl, rfl, trivial⟩; refine e_then ?_; obtain ⟨o584, ho585, hK586⟩ := bnd_some hF
  obtain ⟨n587, hn588⟩ := lp_some ho585; clear ho585
  refine c_loop (fun a w => Fr 59 [] a ∧ Chg [] W w ∧ o584 = .inl ()) (fun n a w => ∃ (i306 : Int), Fr 59 [(1, va1), (2, (.pointer (some ⟨b1, 0, none⟩))), (5, (.int .i64 i306))] a ∧ Chg [] W w ∧ InI i306 ∧ Bx w b1 [va0_0] 29 ∧ Zn W (b1 : Int) ∧ lpN (fun s => F_spec_ColoursOk_l1 a0_0 a1 s) n i306 = some o584) n587 ⟨0, ha.sub ⟨rfl, rfl, rfl, trivial⟩, hE22, (show InI 0 from by decide), hB3, q7, hn588⟩ ?_ ?_
  · rintro m592 a w303 ⟨i306, ha, hE308, hI307, hB304, z305, hF⟩
    cases m592 with
    | zero => exact (lpN_zero hF).elim
    | succ m592 =>
      obtain ⟨z591, hF, hN590⟩ := lpN_succ hF
      have hF : F_spec_ColoursOk_l1 a0_0 a1 i306 = some z591 := hF; unfold F_spec_ColoursOk_l1 at hF
      refine wp_seq ?_; refine wp_seq ?_; refine wp_region_lit ?_; (iterate 2 refine op_g ha rfl (g_move rfl) ?_; clear ha a; intro a ha); refine op_g ha rfl (g_lenR sl31.und ha1 rfl) ?_; clear ha a; intro a ha; refine op_g ha rfl (g_lss rfl rfl) ?_; clear ha a; intro a ha; refine wpList_nil ?_; replace ha := ha.sub (σ' := [(1, va1), (2, (.pointer (some ⟨b1, 0, none⟩))), (5, (.int .i64 i306)), (21, (.bool (decide (i306 < (a1.length : Int)))))]) ⟨rfl, rfl, rfl, rfl, trivial⟩; refine e_then ?_; refine c_cond (i306 < (a1.length : Int)) ha rfl (decide_eq_true_iff) (fun hp593 => ?_) (fun hp593 => ?_)
      · replace hF := if_t hp593 hF
        refine wp_skip ?_; refine e_then ?_; refine wp_seq ?_; refine wp_block ?_; refine wp_seq ?_; refine wp_seq ?_; refine wp_region_lit ?_; (iterate 2 refine op_g ha rfl (g_move rfl) ?_; clear ha a; intro a ha); obtain ⟨x594, g595, gx596, hF⟩ := idx_some hF
        obtain ⟨p597, cs598, f599, hf600, hpb601, hat602, hr603, hi604⟩ := ha1.at g595 gx596
        obtain ⟨rfl, hI605, rfl⟩ := hr603
        refine op_g ha rfl (hi604.gives sl31 rfl rfl) ?_; clear ha a; intro a ha; refine op_g ha rfl (g_load0 hE308 Tryd.isAgg2 rfl hat602.one) ?_; clear ha a; intro a ha; refine op_g ha rfl (g_move rfl) ?_; clear ha a; intro a ha; refine op_g ha rfl (g_lenR sl31.und ha1 rfl) ?_; clear ha a; intro a ha; obtain ⟨hI606, hF⟩ := ck_some hF; refine op_g ha rfl (g_sub rfl rfl hI606) ?_; clear ha a; intro a ha; obtain ⟨x608, hc609, hF⟩ := cal_some hF
        refine o_call ha rfl rfl Tryd.call34 (W_spec_l1In hI605 (show InI 0 from by decide) hI606 hc609) ?_; clear ha a; rintro v610 w611 ⟨rfl, hx612⟩ a ha
        replace hB304 := hB304.ext hx612
        have hE613 := Ext.trans hE308 hx612
        refine op_g ha rfl (g_not rfl) ?_; clear ha a; intro a ha; refine wpList_nil ?_; replace ha := ha.sub (σ' := [(1, va1), (2, (.pointer (some ⟨b1, 0, none⟩))), (5, (.int .i64 i306)), (32, (.bool (!x608)))]) ⟨rfl, rfl, rfl, rfl, trivial⟩; refine e_then ?_; refine c_cond (¬ (x608 = true)) ha rfl (n_iff (Iff.rfl)) (fun hp614 => ?_) (fun hp614 => ?_)
        · replace hF := if_t hp614 hF
          refine wp_seq ?_; refine wp_region_lit ?_; refine op_g ha rfl (g_assign rfl) ?_; clear ha a; intro a ha; refine wpList_nil ?_; replace ha := ha.sub (σ' := [(4, (.bool false))]) ⟨rfl, trivial⟩; refine e_then ?_; refine wp_ret ?_; refine e_then_ret ?_; refine e_blk_ret ?_; refine e_then_ret ?_; refine e_lq_ret ?_; refine e_then_ret ?_; obtain rfl := Option.some.inj hF
          have e615 := LK_inr hN590; subst e615
          have e616 := BK_inr hK586; subst e616
          exact f_ret1 ha rfl rfl ⟨rfl, hE613⟩
        replace hF := if_f hp614 hF; refine wp_skip ?_; refine e_then ?_; refine wp_seq ?_; refine wp_region_lit ?_; refine op_g ha rfl (g_assign rfl) ?_; clear ha a; intro a ha; refine wpList_nil ?_; replace ha := ha.sub (σ' := [(1, va1), (2, (.pointer (some ⟨b1, 0, none⟩))), (5, (.int .i64 i306)), (6, (.int .i64 0))]) ⟨rfl, rfl, rfl, rfl, trivial⟩; refine e_then ?_; obtain ⟨o782, ho783, hK784⟩ := bnd_some hF
        obtain ⟨n785, hn786⟩ := lp_some ho783; clear ho783
        refine c_loop (fun a w => Fr 59 [(1, va1), (2, (.pointer (some ⟨b1, 0, none⟩))), (5, (.int .i64 i306))] a ∧ Chg [] W w ∧ Bx w b1 [va0_0] 29 ∧ Zn W (b1 : Int) ∧ o782 = .inl ()) (fun n a w => ∃ (i700 : Int), Fr 59 [(1, va1), (2, (.pointer (some ⟨b1, 0, none⟩))), (5, (.int .i64 i306)), (6, (.int .i64 i700))] a ∧ Chg [] W w ∧ InI i700 ∧ Bx w b1 [va0_0] 29 ∧ Zn W (b1 : Int) ∧ lpN (fun s => F_spec_ColoursOk_l2 a0_0 a1 i306 s) n i700 = some o782) n785 ⟨0, ha.sub ⟨rfl, rfl, rfl, rfl, trivial⟩, hE613, (show InI 0 from by decide), hB304, z305, hn786⟩ ?_ ?_
        · rintro m790 a w697 ⟨i700, ha, hE702, hI701, hB698, z699, hF⟩
          cases m790 with
          | zero => exact (lpN_zero hF).elim
          | succ m790 =>
            obtain ⟨z789, hF, hN788⟩ := lpN_succ hF
            have hF : F_spec_ColoursOk_l2 a0_0 a1 i306 i700 = some z789 := hF; unfold F_spec_ColoursOk_l2 at hF
            refine wp_seq ?_; refine wp_seq ?_; refine wp_region_lit ?_; refine op_g ha rfl (g_move rfl) ?_; clear ha a; intro a ha; refine op_g ha rfl (g_field0 st29_0 rfl) ?_; clear ha a; intro a ha; refine op_g ha rfl (g_load Tryd.isAgg27 rfl (hB698.cell rfl)) ?_; clear ha a; intro a ha; refine op_g ha rfl (g_move rfl) ?_; clear ha a; intro a ha; obtain ⟨x791, g792, gx793, hF⟩ := idx_some hF
            obtain ⟨p794, cs795, f796, hf797, hpb798, hat799, hr800, hi801⟩ := ha0_0.at g792 gx793
            obtain ⟨v802, rfl, h803⟩ := hr800
            have h803 : Ro Rp.int W f796 v802 x791 := h803
            refine op_g ha rfl (hi801.gives sl27 rfl rfl) ?_; clear ha a; intro a ha; refine op_g ha rfl (g_load0 hE702 Tryd.isAgg31 rfl hat799.one) ?_; clear ha a; intro a ha; refine op_g ha rfl (g_lenR sl31.und h803 rfl) ?_; clear ha a; intro a ha; refine op_g ha rfl (g_lss rfl rfl) ?_; clear ha a; intro a ha; refine wpList_nil ?_; replace ha := ha.sub (σ' := [(1, va1), (2, (.pointer (some ⟨b1, 0, none⟩))), (5, (.int .i64 i306)), (6, (.int .i64 i700)), (40, (.bool (decide (i700 < (x791.length : Int)))))]) ⟨rfl, rfl, rfl, rfl, rfl, trivial⟩; refine e_then ?_; refine c_cond (i700 < (x791.length : Int)) ha rfl (decide_eq_true_iff) (fun hp805 => ?_) (fun hp805 => ?_)
            · replace hF := if_t hp805 hF
              refine wp_skip ?_; refine e_then ?_; refine wp_seq ?_; refine wp_block ?_; refine wp_seq ?_; refine d_quiet hmix (by kernel_rfl) ?_; refine q_g ha rfl (g_move rfl) ?_; clear ha a; intro a ha; refine q_g ha rfl (g_field0 st29_0 rfl) ?_; clear ha a; intro a ha; refine q_g ha rfl (g_load Tryd.isAgg27 rfl (hB698.cell rfl)) ?_; clear ha a; intro a ha; refine q_g ha rfl (g_move rfl) ?_; clear ha a; intro a ha; obtain ⟨x806, g807, gx808, hF⟩ := idx_some hF
              obtain ⟨p809, cs810, f811, hf812, hpb813, hat814, hr815, hi816⟩ := ha0_0.at g807 gx808
              obtain ⟨v817, rfl, h818⟩ := hr815
              have h818 : Ro Rp.int W f811 v817 x806 := h818
              refine q_g ha rfl (hi816.gives sl27 rfl rfl) ?_; clear ha a; intro a ha; refine q_g ha rfl (g_load0 hE702 Tryd.isAgg31 rfl hat814.one) ?_; clear ha a; intro a ha; refine q_g ha rfl (g_move rfl) ?_; clear ha a; intro a ha; obtain ⟨x820, g821, gx822, hF⟩ := idx_some hF
              obtain ⟨p823, cs824, f825, hf826, hpb827, hat828, hr829, hi830⟩ := h818.at g821 gx822
              obtain ⟨rfl, hI831, rfl⟩ := hr829
              refine q_g ha rfl (hi830.gives sl31 rfl rfl) ?_; clear ha a; intro a ha; refine q_g ha rfl (g_load0 hE702 Tryd.isAgg2 rfl hat828.one) ?_; clear ha a; intro a ha; obtain ⟨x832, g833, gx834, hF⟩ := idx_some hF
              obtain ⟨p835, cs836, f837, hf838, hpb839, hat840, hr841, hi842⟩ := ha1.at g833 gx834
              obtain ⟨rfl, hI843, rfl⟩ := hr841
              refine q_g ha rfl (hi842.gives sl31 rfl rfl) ?_; clear ha a; intro a ha; refine q_g ha rfl (g_load0 hE702 Tryd.isAgg2 rfl hat840.one) ?_; clear ha a; intro a ha; (iterate 2 refine q_g ha rfl (g_move rfl) ?_; clear ha a; intro a ha); obtain ⟨x844, g845, gx846, hF⟩ := idx_some hF
              obtain ⟨p847, cs848, f849, hf850, hpb851, hat852, hr853, hi854⟩ := ha1.at g845 gx846
              obtain ⟨rfl, hI855, rfl⟩ := hr853
              refine q_g ha rfl (hi854.gives sl31 rfl rfl) ?_; clear ha a; intro a ha; refine q_g ha rfl (g_load0 hE702 Tryd.isAgg2 rfl hat852.one) ?_; clear ha a; intro a ha; refine q_g ha rfl (g_eql rfl rfl) ?_; clear ha a; intro a ha
              refine q_nil ?_; intro w856 hx857
              replace hB698 := hB698.ext hx857
              have hE858 := Ext.trans hE702 hx857
              replace ha := ha.sub (σ' := [(1, va1), (2, (.pointer (some ⟨b1, 0, none⟩))), (5, (.int .i64 i306)), (6, (.int .i64 i700)), (58, (.bool (decide (x832 = x844))))]) ⟨rfl, rfl, rfl, rfl, rfl, trivial⟩; refine e_then ?_; refine c_cond (x832 = x844) ha rfl (decide_eq_true_iff) (fun hp859 => ?_) (fun hp859 => ?_)
              · replace hF := if_t hp859 hF
                refine wp_seq ?_; refine wp_region_lit ?_; refine op_g ha rfl (g_assign rfl) ?_; clear ha a; intro a ha; refine wpList_nil ?_; replace ha := ha.sub (σ' := [(4, (.bool false))]) ⟨rfl, trivial⟩; refine e_then ?_; refine wp_ret ?_; refine e_blk_ret ?_; refine e_then_ret ?_; refine e_lq_ret ?_; refine e_blk_ret ?_; refine e_then_ret ?_; refine e_lq_ret ?_; refine e_then_ret ?_; obtain rfl := Option.some.inj hF
                have e860 := LK_inr hN788; subst e860
                have e861 := BK_inr hK784; subst e861
                have e862 := LK_inr hN590; subst e862
                have e863 := BK_inr hK586; subst e863
                exact f_ret1 ha rfl rfl ⟨rfl, hE858⟩
              replace hF := if_f hp859 hF; refine wp_skip ?_; refine e_blk ?_; refine e_then ?_; refine wp_region_lit ?_; refine op_g ha rfl (g_move rfl) ?_; clear ha a; intro a ha; obtain ⟨hI864, hF⟩ := ck_some hF; refine op_g ha rfl (g_add rfl rfl hI864) ?_; clear ha a; intro a ha; refine op_g ha rfl (g_assign rfl) ?_; clear ha a; intro a ha; refine wpList_nil ?_; replace ha := ha.sub (σ' := [(1, va1), (2, (.pointer (some ⟨b1, 0, none⟩))), (5, (.int .i64 i306)), (6, (.int .i64 (i700 + 1)))]) ⟨rfl, rfl, rfl, rfl, trivial⟩; refine e_lq ?_; obtain rfl := Option.some.inj hF
              exact ⟨_, Nat.lt_succ_self _, i700 + 1, ha.sub ⟨rfl, rfl, rfl, rfl, trivial⟩, hE858, hI864, hB698, z699, hN788⟩
            replace hF := if_f hp805 hF; refine wp_exit ?_; refine e_then_exit ?_; refine e_lq_eq ?_; obtain rfl := Option.some.inj hF
            exact ⟨ha.sub ⟨rfl, rfl, rfl, trivial⟩, hE702, hB698, z699, (LK_inr hN788).symm⟩
        rintro a w779 ⟨ha, hE787, hB780, z781, rfl⟩
        have hF : F_spec_ColoursOk_k3 i306 = some _ := hK784; clear hK784; unfold F_spec_ColoursOk_k3 at hF
        refine e_blk ?_; refine e_then ?_; refine wp_region_lit ?_; refine op_g ha rfl (g_move rfl) ?_; clear ha a; intro a ha; obtain ⟨hI866, hF⟩ := ck_some hF; refine op_g ha rfl (g_add rfl rfl hI866) ?_; clear ha a; intro a ha; refine op_g ha rfl (g_assign rfl) ?_; clear ha a; intro a ha; refine wpList_nil ?_; replace ha := ha.sub (σ' := [(1, va1), (2, (.pointer (some ⟨b1, 0, none⟩))), (5, (.int .i64 (i306 + 1)))]) ⟨rfl, rfl, rfl, trivial⟩; refine e_lq ?_; obtain rfl := Option.some.inj hF
        exact ⟨_, Nat.lt_succ_self _, i306 + 1, ha.sub ⟨rfl, rfl, rfl, trivial⟩, hE787, hI866, hB780, z781, hN590⟩
      replace hF := if_f hp593 hF; refine wp_exit ?_; refine e_then_exit ?_; refine e_lq_eq ?_; obtain rfl := Option.some.inj hF
      exact ⟨ha.sub trivial, hE308, (LK_inr hN590).symm⟩
  rintro a w583 ⟨ha, hE589, rfl⟩
  have hF : F_spec_ColoursOk_k4 = some _ := hK586; clear hK586; unfold F_spec_ColoursOk_k4 at hF
  refine e_then ?_; refine wp_seq ?_; refine wp_region_lit ?_; refine op_g ha rfl (g_assign rfl) ?_; clear ha a; intro a ha; refine wpList_nil ?_; refine e_then ?_; refine wp_ret ?_; obtain rfl := Option.some.inj hF
  exact f_ret1 ha rfl rfl ⟨rfl, hE589⟩
set_option maxHeartbeats 2000000 in
theorem W_slices_IndexFunc_int64 {W : World} {va0 : Value} {fa0 : List Nat} {a0 : (List Int)} (ha0 : Ro Rp.int W fa0 va0 a0) {ga1 : FuncId} {ga1c : List Value} {a1 : Int → Option Bool} (hga1 : ∀ w', Ext W w' → ∀ {z0 : Int} (hz0 : InI z0) {r : Bool}, a1 z0 = some r → Calls Tryd.prog ga1 (([.int .i64 z0] : List Value) ++ ga1c).toArray w' (Ret fun u w'' => u = .bool r ∧ Ext w' w'')) (hca1 : ∀ args w, (callFunc ga1 args).run Tryd.prog w = .ok (.enter ga1 args) w) {r : Int} (hF : F_slices_IndexFunc_int64 a0 a1 = some r) :
    Calls Tryd.prog 77 [va0, .func (.func ga1) #[] ga1c.toArray].toArray W (Ret fun u w' => (u = .int .i64 r ∧ InI r) ∧ Ext W w') := by
  refine f_enter Tryd.func77 rfl Tryd.ntmps77 rfl ?_
  intro a ha
  replace ha : Fr 19 [(0, va0), (1, (.func (.func ga1) #[] ga1c.toArray))] a := ha
  have hE : Chg [] W W := Chg.refl _ _
  unfold F_slices_IndexFunc_int64 at hF
  refine wp_seq ?_; refine wp_region_lit ?_; refine op_g ha rfl (g_assign rfl) ?_; clear ha a; intro a ha; refine wpList_nil ?_; replace ha := ha.sub (σ' := [(0, va0), (1, (.func (.func ga1) #[] ga1c.toArray))]) ⟨rfl, rfl, trivial⟩; refine e_then ?_; refine wp_seq ?_; refine wp_seq ?_; refine wp_region_lit ?_; refine op_g ha rfl (g_move rfl) ?_; clear ha a; intro a ha; refine op_g ha rfl (g_lenR sl31.und ha0 rfl) ?_; clear ha a; intro a ha; refine op_g ha rfl (g_move rfl) ?_; clear ha a; intro a ha; refine wpList_nil ?_; replace ha := ha.sub (σ' := [(0, va0), (1, (.func (.func ga1) #[] ga1c.toArray)), (7, (.int .i64 (a0.length : Int))), (8, (.int .i64 0))]) ⟨rfl, rfl, rfl, rfl, trivial⟩
  refine e_then ?_; obtain ⟨o58, ho59, hK60⟩ := bnd_some hF
  obtain ⟨n61, hn62⟩ := lp_some ho59; clear ho59
  refine c_loop (fun a w => Fr 19 [] a ∧ Chg [] W w ∧ o58 = .inl ()) (fun n a w => ∃ (i29 : Int), Fr 19 [(0, va0), (1, (.func (.func ga1) #[] ga1c.toArray)), (7, (.int .i64 (a0.length : Int))), (8, (.int .i64 i29))] a ∧ Chg [] W w ∧ InI i29 ∧ lpN (fun s => F_slices_IndexFunc_int64_l1 a0 a1 s) n i29 = some o58) n61 ⟨0, ha.sub ⟨rfl, rfl, rfl, rfl, trivial⟩, hE, (show InI 0 from by decide), hn62⟩ ?_ ?_
  · rintro m66 a w28 ⟨i29, ha, hE31, hI30, hF⟩
    cases m66 with
    | zero => exact (lpN_zero hF).elim
    | succ m66 =>
      obtain ⟨z65, hF, hN64⟩ := lpN_succ hF
      have hF : F_slices_IndexFunc_int64_l1 a0 a1 i29 = some z65 := hF; unfold F_slices_IndexFunc_int64_l1 at hF
      refine wp_seq ?_; refine wp_region_lit ?_; refine op_g ha rfl (g_lss rfl rfl) ?_; clear ha a; intro a ha; refine wpList_nil ?_; replace ha := ha.sub (σ' := [(0, va0), (1, (.func (.func ga1) #[] ga1c.toArray)), (7, (.int .i64 (a0.length : Int))), (8, (.int .i64 i29)), (9, (.bool (decide (i29 < (a0.length : Int)))))]) ⟨rfl, rfl, rfl, rfl, rfl, trivial⟩; refine e_then ?_; refine wp_seq ?_; refine c_cond (i29 < (a0.length : Int)) ha rfl (decide_eq_true_iff) (fun hp67 => ?_) (fun hp67 => ?_)
      · replace hF := if_t hp67 hF
        refine wp_skip ?_; refine e_then ?_; refine wp_seq ?_; refine wp_block ?_; refine wp_seq ?_; refine wp_region_lit ?_; refine op_g ha rfl (g_move rfl) ?_; clear ha a; intro a ha; refine op_g ha rfl (g_assign rfl) ?_; clear ha a; intro a ha; refine wpList_nil ?_; replace ha := ha.sub (σ' := [(0, va0), (1, (.func (.func ga1) #[] ga1c.toArray)), (5, (.int .i64 i29)), (7, (.int .i64 (a0.length : Int))), (8, (.int .i64 i29))]) ⟨rfl, rfl, rfl, rfl, rfl, trivial⟩; refine e_then ?_; refine wp_seq ?_; refine wp_region_lit ?_; (iterate 3 refine op_g ha rfl (g_move rfl) ?_; clear ha a; intro a ha)
        obtain ⟨x68, g69, gx70, hF⟩ := idx_some hF
        obtain ⟨p71, cs72, f73, hf74, hpb75, hat76, hr77, hi78⟩ := ha0.at g69 gx70
        obtain ⟨rfl, hI79, rfl⟩ := hr77
        refine op_g ha rfl (hi78.gives sl31 rfl rfl) ?_; clear ha a; intro a ha; refine op_g ha rfl (g_load0 hE31 Tryd.isAgg2 rfl hat76.one) ?_; clear ha a; intro a ha; obtain ⟨x80, hc81, hF⟩ := cal_some hF
        refine o_callv ha rfl rfl rfl hca1 (hga1 _ hE31 hI79 hc81) ?_; clear ha a; rintro v82 w83 ⟨rfl, hx84⟩ a ha
        have hE85 := Ext.trans hE31 hx84
        refine wpList_nil ?_; replace ha := ha.sub (σ' := [(0, va0), (1, (.func (.func ga1) #[] ga1c.toArray)), (5, (.int .i64 i29)), (7, (.int .i64 (a0.length : Int))), (8, (.int .i64 i29)), (16, (.bool x80))]) ⟨rfl, rfl, rfl, rfl, rfl, rfl, trivial⟩; refine e_then ?_; refine c_cond (x80 = true) ha rfl (Iff.rfl) (fun hp86 => ?_) (fun hp86 => ?_)
        · replace hF := if_t hp86 hF
          refine wp_seq ?_; refine wp_region_lit ?_; refine op_g ha rfl (g_move rfl) ?_; clear ha a; intro a ha; refine op_g ha rfl (g_assign rfl) ?_; clear ha a; intro a ha; refine wpList_nil ?_; replace ha := ha.sub (σ' := [(4, (.int .i64 i29))]) ⟨rfl, trivial⟩; refine e_then ?_; refine wp_ret ?_; refine e_blk_ret ?_; refine e_then_ret ?_; refine e_lq_ret ?_; refine e_then_ret ?_; obtain rfl := Option.some.inj hF
          have e87 := LK_inr hN64; subst e87
          have e88 := BK_inr hK60; subst e88
          exact f_ret1 ha rfl rfl ⟨⟨rfl, hI30⟩, hE85⟩
        replace hF := if_f hp86 hF; refine wp_skip ?_; refine e_blk ?_; refine e_then ?_; refine wp_region_lit ?_; obtain ⟨hI89, hF⟩ := ck_some hF; refine op_g ha rfl (g_add rfl rfl hI89) ?_; clear ha a; intro a ha; refine op_g ha rfl (g_move rfl) ?_; clear ha a; intro a ha; refine wpList_nil ?_; replace ha := ha.sub (σ' := [(0, va0), (1, (.func (.func ga1) #[] ga1c.toArray)), (7, (.int .i64 (a0.length : Int))), (8, (.int .i64 (i29 + 1)))]) ⟨rfl, rfl, rfl, rfl, trivial⟩; refine e_lq ?_; obtain rfl := Option.some.inj hF
        exact ⟨_, Nat.lt_succ_self _, i29 + 1, ha.sub ⟨rfl, rfl, rfl, rfl, trivial⟩, hE85, hI89, hN64⟩
      replace hF := if_f hp67 hF; refine wp_exit ?_; refine e_then_exit ?_; refine e_lq_eq ?_; obtain rfl := Option.some.inj hF
      exact ⟨ha.sub trivial, hE31, (LK_inr hN64).symm⟩
  rintro a w57 ⟨ha, hE63, rfl⟩
  have hF : F_slices_IndexFunc_int64_k2 = some _ := hK60; clear hK60; unfold F_slices_IndexFunc_int64_k2 at hF
  refine e_then ?_; refine wp_seq ?_; refine wp_region_lit ?_; refine op_g ha rfl (g_assign rfl) ?_; clear ha a; intro a ha; refine wpList_nil ?_; refine e_then ?_; refine wp_ret ?_; obtain rfl := Option.some.inj hF
  exact f_ret1 ha rfl rfl ⟨⟨rfl, (show InI (-1) from by decide)⟩, hE63⟩
set_option maxHeartbeats 2000000 in
theorem W_slices_ContainsFunc_int64 {W : World} {va0 : Value} {fa0 : List Nat} {a0 : (List Int)} (ha0 : Ro Rp.int W fa0 va0 a0) {ga1 : FuncId} {ga1c : List Value} {a1 : Int → Option Bool} (hga1 : ∀ w', Ext W w' → ∀ {z0 : Int} (hz0 : InI z0) {r : Bool}, a1 z0 = some r → Calls Tryd.prog ga1 (([.int .i64 z0] : List Value) ++ ga1c).toArray w' (Ret fun u w'' => u = .bool r ∧ Ext w' w'')) (hca1 : ∀ args w, (callFunc ga1 args).run Tryd.prog w = .ok (.enter ga1 args) w) {r : Bool} (hF : F_slices_ContainsFunc_int64 a0 a1 = some r) :
    Calls Tryd.prog 36 [va0, .func (.func ga1) #[] ga1c.toArray].toArray W (Ret fun u w' => u = .bool r ∧ Ext W w') := by
  refine f_enter Tryd.func36 rfl Tryd.ntmps36 rfl ?_
  intro a ha
  replace ha : Fr 9 [(0, va0), (1, (.func (.func ga1) #[] ga1c.toArray))] a := ha
  have hE : Chg [] W W := Chg.refl _ _
  unfold F_slices_ContainsFunc_int64 at hF
  refine wp_seq ?_; refine wp_region_lit ?_; refine op_g ha rfl (g_assign rfl) ?_; clear ha a; intro a ha; refine wpList_nil ?_; replace ha := ha.sub (σ' := [(0, va0), (1, (.func (.func ga1) #[] ga1c.toArray))]) ⟨rfl, rfl, trivial⟩; refine e_then ?_; refine wp_seq ?_; refine wp_region_lit ?_; (iterate 2 refine op_g ha rfl (g_move rfl) ?_; clear ha a; intro a ha); obtain ⟨x2, hc3, hF⟩ := cal_some hF
  refine o_call ha rfl rfl Tryd.call77 (W_slices_IndexFunc_int64 (ha0.ext hE) (fun w hx => hga1 w (Ext.trans hE hx)) hca1 hc3) ?_; clear ha a; rintro v4 w5 ⟨⟨rfl, hI7⟩, hx6⟩ a ha
  have hE8 := Ext.trans hE hx6
  refine op_g ha rfl (g_geq rfl rfl) ?_; clear ha a; intro a ha; refine op_g ha rfl (g_assign rfl) ?_; clear ha a; intro a ha; refine wpList_nil ?_; replace ha := ha.sub (σ' := [(4, (.bool (decide (0 ≤ x2))))]) ⟨rfl, trivial⟩; refine e_then ?_; refine wp_ret ?_; obtain rfl := Option.some.inj hF
  exact f_ret1 ha rfl rfl ⟨rfl, hE8⟩
set_option maxHeartbeats 2000000 in
theorem W_impl_ColoursOk_1 {W : World} {a0 : Int} (ha0 : InI a0) {vy0 : Value} {fy0 : List Nat} {y0 : (List Int)} (hy0 : Ro Rp.int W fy0 vy0 y0) {bc0 : Nat} (hbc0 : Bx W bc0 [vy0] 31) {y1 : Int} (hy1 : InI y1) {bc1 : Nat} (hbc1 : Bx W bc1 [.int .i64 y1] 2) {r : Bool} (hF : F_impl_ColoursOk_1 a0 y0 y1 = some r) :
    Calls Tryd.prog 37 [.int .i64 a0, .pointer (some ⟨bc0, 0, none⟩), .pointer (some ⟨bc1, 0, none⟩)].toArray W (Ret fun u w' => u = .bool r ∧ Ext W w') := by
  refine f_enter Tryd.func37 rfl Tryd.ntmps37 rfl ?_
  intro a ha
  replace ha : Fr 11 [(0, (.int .i64 a0)), (1, (.pointer (some ⟨bc0, 0, none⟩))), (2, (.pointer (some ⟨bc1, 0, none⟩)))] a := ha
  have hE : Chg [] W W := Chg.refl _ _
  unfold F_impl_ColoursOk_1 at hF
  refine wp_seq ?_; refine wp_region_lit ?_; refine op_g ha rfl (g_assign rfl) ?_; clear ha a; intro a ha; refine wpList_nil ?_; replace ha := ha.sub (σ' := [(0, (.int .i64 a0)), (1, (.pointer (some ⟨bc0, 0, none⟩))), (2, (.pointer (some ⟨bc1, 0, none⟩)))]) ⟨rfl, rfl, rfl, trivial⟩; refine e_then ?_; refine wp_seq ?_; refine d_quiet hmix (by kernel_rfl) ?_; refine q_g ha rfl (g_load Tryd.isAgg31 rfl ((hbc0.ext hE).cell rfl)) ?_; clear ha a; intro a ha; refine q_g ha rfl (g_move rfl) ?_; clear ha a; intro a ha; obtain ⟨x1, g2, gx3, hF⟩ := idx_some hF
  obtain ⟨p4, cs5, f6, hf7, hpb8, hat9, hr10, hi11⟩ := hy0.at g2 gx3
  obtain ⟨rfl, hI12, rfl⟩ := hr10
  refine q_g ha rfl (hi11.gives sl31 rfl rfl) ?_; clear ha a; intro a ha; refine q_g ha rfl (g_load0 hE Tryd.isAgg2 rfl hat9.one) ?_; clear ha a; intro a ha; refine q_g ha rfl (g_load Tryd.isAgg2 rfl ((hbc1.ext hE).cell rfl)) ?_; clear ha a; intro a ha; refine q_g ha rfl (g_eql rfl rfl) ?_; clear ha a; intro a ha; refine q_g ha rfl (g_assign rfl) ?_; clear ha a; intro a ha
  refine q_nil ?_; intro w13 hx14
  have hE15 := Ext.trans hE hx14
  replace ha := ha.sub (σ' := [(4, (.bool (decide (x1 = y1))))]) ⟨rfl, trivial⟩; refine e_then ?_; refine wp_ret ?_; obtain rfl := Option.some.inj hF
  exact f_ret1 ha rfl rfl ⟨rfl, hE15⟩
set_option maxHeartbeats 2000000 in
theorem W_impl_ColoursOk {W : World} {va0_0 : Value} {fa0_0 : List Nat} {a0_0 : (List (List Int))} (ha0_0 : Ro (Rp.sl 2 Rp.int) W fa0_0 va0_0 a0_0) {va1 : Value} {fa1 : List Nat} {a1 : (List Int)} (ha1 : Ro Rp.int W fa1 va1 a1) {r : Bool} (hF : F_impl_ColoursOk a0_0 a1 = some r) :
    Calls Tryd.prog 11 [.agg #[va0_0], va1].toArray W (Ret fun u w' => u = .bool r ∧ Ext W w') := by
  refine f_enter Tryd.func11 rfl Tryd.ntmps11 rfl ?_
  intro a ha
  replace ha : Fr 41 [(0, (.agg #[va0_0])), (1, va1)] a := ha
  have hE : Chg [] W W := Chg.refl _ _
  unfold F_impl_ColoursOk at hF
  refine wp_seq ?_; refine wp_region_lit ?_
  refine o_box ha rfl rfl rfl ?_; clear ha a; intro b1 w2 hB3 hx4 hlo5 a ha
  have q6 := Zn.one hlo5
  have q7 := Zn.upD q6 hE
  have hE8 := Ext.trans hE hx4
  refine o_box ha rfl rfl ha1.cells ?_; clear ha a; intro b9 w10 hB11 hx12 hlo13 a ha
  have q14 := Zn.one hlo13
  have q15 := Nq.new hB3.fpb q14
  have q16 := Nq.made1 hlo13 hB3.bi
  have q17 := Zn.upD q14 hE8
  replace hB3 := hB3.ext hx12
  have hE18 := Ext.trans hE8 hx12
  refine op_g ha rfl (g_assign rfl) ?_; clear ha a; intro a ha; refine wpList_nil ?_; replace ha := ha.sub (σ' := [(2, (.pointer (some ⟨b1, 0, none⟩))), (3, (.pointer (some ⟨b9, 0, none⟩)))]) ⟨rfl, rfl, trivial⟩; refine e_then ?_; refine wp_seq ?_; refine wp_seq ?_; refine wp_region_lit ?_; refine op_g ha rfl (g_loadA (cs := [va0_0]) Tryd.isAgg29 Tryd.sizeOf29 rfl (by simp) hB3.all) ?_; clear ha a; intro a ha; obtain ⟨x27, hc28, hF⟩ := cal_some hF
  refine o_call ha rfl rfl Tryd.call29 (W_impl_GraphOk (ha0_0.ext hE18) hc28) ?_; clear ha a; rintro v29 w30 ⟨rfl, hx31⟩ a ha
  replace hB3 := hB3.ext hx31
  replace hB11 := hB11.ext hx31
  have hE32 := Ext.trans hE18 hx31
  refine op_g ha rfl (g_not rfl) ?_; clear ha a; intro a ha; refine op_g ha rfl (g_move rfl) ?_; clear ha a; intro a ha
  by_cases hp33 : ¬ (x27 = true)
  · replace hF := if_t hp33 hF
    rw [show (!x27) = true from (n_iff (Iff.rfl)).2 hp33] at ha
    (iterate 6 refine op_unwant ha rfl (yields ha rfl rfl) rfl ?_; clear ha a; intro a ha); refine op_g ha rfl (g_pick rfl rfl) ?_; clear ha a; intro a ha; refine wpList_nil ?_; replace ha := ha.sub (σ' := [(2, (.pointer (some ⟨b1, 0, none⟩))), (3, (.pointer (some ⟨b9, 0, none⟩))), (17, (.bool true))]) ⟨rfl, rfl, rfl, trivial⟩; refine e_then ?_; refine c_true ha rfl ?_; refine wp_seq ?_; refine wp_region_lit ?_; refine op_g ha rfl (g_assign rfl) ?_; clear ha a; intro a ha; refine wpList_nil ?_; replace ha := ha.sub (σ' := [(4, (.bool false))]) ⟨rfl, trivial⟩; refine e_then ?_; refine wp_ret ?_
    refine e_then_ret ?_; obtain rfl := Option.some.inj hF
    exact f_ret1 ha rfl rfl ⟨rfl, hE32⟩
  replace hF := if_f hp33 hF
  rw [show (!x27) = false from b_false (n_iff (Iff.rfl)) hp33] at ha
  refine op_want (yields ha rfl rfl) ?_; refine op_g ha rfl (g_load Tryd.isAgg31 rfl (hB11.cell rfl)) ?_; clear ha a; intro a ha; refine op_want (yields ha rfl rfl) ?_; refine op_g ha rfl (g_lenR sl31.und ha1 rfl) ?_; clear ha a; intro a ha; refine op_want (yields ha rfl rfl) ?_; refine op_g ha rfl (g_field0 st29_0 rfl) ?_; clear ha a; intro a ha; refine op_want (yields ha rfl rfl) ?_; refine op_g ha rfl (g_load Tryd.isAgg27 rfl (hB3.cell rfl)) ?_; clear ha a; intro a ha; refine op_want (yields ha rfl rfl) ?_; refine op_g ha rfl (g_lenR sl27.und ha0_0 rfl) ?_; clear ha a; intro a ha; refine op_want (yields ha rfl rfl) ?_
  refine op_g ha rfl (g_neq rfl rfl) ?_; clear ha a; intro a ha; refine op_g ha rfl (g_pick rfl rfl) ?_; clear ha a; intro a ha; refine wpList_nil ?_; replace ha := ha.sub (σ' := [(2, (.pointer (some ⟨b1, 0, none⟩))), (3, (.pointer (some ⟨b9, 0, none⟩))), (17, (.bool (decide ((a1.length : Int) ≠ (a0_0.length : Int)))))]) ⟨rfl, rfl, rfl, trivial⟩; refine e_then ?_; refine c_cond ((a1.length : Int) ≠ (a0_0.length : Int)) ha rfl (decide_eq_true_iff) (fun hp34 => ?_) (fun hp34 => ?_)
  · replace hF := if_t hp34 hF
    refine wp_seq ?_; refine wp_region_lit ?_; refine op_g ha rfl (g_assign rfl) ?_; clear ha a; intro a ha; refine wpList_nil ?_; replace ha := ha.sub (σ' := [(4, (.bool false))]) ⟨rfl, trivial⟩; refine e_then ?_; refine wp_ret ?_; refine e_then_ret ?_; obtain rfl := Option.some.inj hF
    exact f_ret1 ha rfl rfl ⟨rfl, hE32⟩
  replace hF := if_f hp34 hF; refine wp_skip ?_; refine e_then ?_; refine wp_seq ?_; refine wp_seq ?_; refine wp_region_lit ?_; refine op_g ha rfl (g_load Tryd.isAgg31 rfl (hB11.cell rfl)) ?_; clear ha a; intro a ha; refine op_g ha rfl (g_lenR sl31.und ha1 rfl) ?_; clear ha a; intro a ha; refine op_g ha rfl (g_move rfl) ?_; clear ha a; intro a ha; refine wpList_nil ?_; replace ha := ha.sub (σ' := [(2, (.pointer (some ⟨b1, 0, none⟩))), (3, (.pointer (some ⟨b9, 0, none⟩))), (18, va1), (19, (.int .i64 (a1.length : Int))), (20, (.int .i64 0))]) ⟨rfl, rfl, rfl, rfl, rfl, trivial⟩; refine e_then ?_; obtain ⟨o198, ho199, hK200⟩ := bnd_some hF
  obtain ⟨n201, hn202⟩ := lp_some ho199; clear ho199
  refine c_loop (fun a w => Fr 41 [] a ∧ Chg [] W w ∧ o198 = .inl ()) (fun n a w => ∃ (i120 : Int), Fr 41 [(2, (.pointer (some ⟨b1, 0, none⟩))), (3, (.pointer (some ⟨b9, 0, none⟩))), (18, va1), (19, (.int .i64 (a1.length : Int))), (20, (.int .i64 i120))] a ∧ Chg [] W w ∧ InI i120 ∧ Bx w b1 [va0_0] 29 ∧ Zn W (b1 : Int) ∧ Bx w b9 [va1] 31 ∧ Zn W (b9 : Int) ∧ Nq ([b1]) (b9 : Int) ∧ Nq ([b9]) (b1 : Int) ∧ lpN (fun s => F_impl_ColoursOk_l1 a0_0 a1 s) n i120 = some o198) n201 ⟨0, ha.sub ⟨rfl, rfl, rfl, rfl, rfl, trivial⟩, hE32, (show InI 0 from by decide), hB3, q7, hB11, q17, q15, q16, hn202⟩ ?_ ?_
  · rintro m206 a w115 ⟨i120, ha, hE124, hI121, hB116, z117, hB118, z119, q122, q123, hF⟩
    cases m206 with
    | zero => exact (lpN_zero hF).elim
    | succ m206 =>
      obtain ⟨z205, hF, hN204⟩ := lpN_succ hF
      have hF : F_impl_ColoursOk_l1 a0_0 a1 i120 = some z205 := hF; unfold F_impl_ColoursOk_l1 at hF
      refine wp_seq ?_; refine wp_region_lit ?_; refine op_g ha rfl (g_lss rfl rfl) ?_; clear ha a; intro a ha; refine wpList_nil ?_; replace ha := ha.sub (σ' := [(2, (.pointer (some ⟨b1, 0, none⟩))), (3, (.pointer (some ⟨b9, 0, none⟩))), (18, va1), (19, (.int .i64 (a1.length : Int))), (20, (.int .i64 i120)), (21, (.bool (decide (i120 < (a1.length : Int)))))]) ⟨rfl, rfl, rfl, rfl, rfl, rfl, trivial⟩; refine e_then ?_; refine wp_seq ?_; refine c_cond (i120 < (a1.length : Int)) ha rfl (decide_eq_true_iff) (fun hp207 => ?_) (fun hp207 => ?_)
      · replace hF := if_t hp207 hF
        refine wp_skip ?_; refine e_then ?_; refine wp_seq ?_; refine wp_block ?_; refine wp_seq ?_; refine wp_region_lit ?_; refine op_g ha rfl (g_move rfl) ?_; clear ha a; intro a ha; obtain ⟨x208, g209, gx210, hF⟩ := idx_some hF
        obtain ⟨p211, cs212, f213, hf214, hpb215, hat216, hr217, hi218⟩ := ha1.at g209 gx210
        obtain ⟨rfl, hI219, rfl⟩ := hr217
        refine op_g ha rfl (hi218.gives sl31 rfl rfl) ?_; clear ha a; intro a ha; refine op_g ha rfl (g_load0 hE124 Tryd.isAgg2 rfl hat216.one) ?_; clear ha a; intro a ha
        refine o_alloc (cs := [(.int .i64 0)]) ha rfl Tryd.zeroValue2 rfl ?_; clear ha a; intro b220 w221 hB222 hx223 hlo224 a ha
        have q225 := Zn.one hlo224
        have q226 := Nq.new hB116.fpb q225
        have q227 := Nq.made1 hlo224 hB116.bi
        have q228 := Nq.new hB118.fpb q225
        have q229 := Nq.made1 hlo224 hB118.bi
        have q230 := Zn.upD q225 hE124
        replace hB116 := hB116.ext hx223
        replace hB118 := hB118.ext hx223
        have hE231 := Ext.trans hE124 hx223
        refine op_g ha rfl (g_assign rfl) ?_; clear ha a; intro a ha
        refine o_storeB ha hB222 Tryd.sizeOf2 rfl rfl rfl rfl (Nat.le_of_ble_eq_true rfl) ?_; intro w232 hB233 hc234
        replace hc234 := hc234.bl
        replace hB233 : Bx w232 b220 [(.int .i64 x208)] 2 := hB233
        replace hB116 := hB116.nq hc234 q226
        replace hB118 := hB118.nq hc234 q228
        have hE235 := Ext.then hE231 hc234 (Zn.bl q230)
        refine wpList_nil ?_; replace ha := ha.sub (σ' := [(2, (.pointer (some ⟨b1, 0, none⟩))), (3, (.pointer (some ⟨b9, 0, none⟩))), (5, (.int .i64 i120)), (6, (.pointer (some ⟨b220, 0, none⟩))), (18, va1), (19, (.int .i64 (a1.length : Int))), (20, (.int .i64 i120))]) ⟨rfl, rfl, rfl, rfl, rfl, rfl, rfl, trivial⟩; refine e_then ?_; refine wp_seq ?_; refine wp_region_lit ?_; refine op_g ha rfl (g_load Tryd.isAgg2 rfl (hB233.cell rfl)) ?_; clear ha a; intro a ha; refine op_g ha rfl (g_load Tryd.isAgg31 rfl (hB118.cell rfl)) ?_; clear ha a; intro a ha; refine op_g ha rfl (g_lenR sl31.und ha1 rfl) ?_; clear ha a; intro a ha
        obtain ⟨hI236, hF⟩ := ck_some hF; refine op_g ha rfl (g_sub rfl rfl hI236) ?_; clear ha a; intro a ha; obtain ⟨x238, hc239, hF⟩ := cal_some hF
        refine o_call ha rfl rfl Tryd.call35 (W_impl_inRange hI219 (show InI 0 from by decide) hI236 hc239) ?_; clear ha a; rintro v240 w241 ⟨rfl, hx242⟩ a ha
        replace hB116 := hB116.ext hx242
        replace hB118 := hB118.ext hx242
        replace hB233 := hB233.ext hx242
        have hE243 := Ext.trans hE235 hx242
        refine op_g ha rfl (g_not rfl) ?_; clear ha a; intro a ha; refine op_g ha rfl (g_move rfl) ?_; clear ha a; intro a ha
        by_cases hp244 : ¬ (x238 = true)
        · replace hF := if_t hp244 hF
          rw [show (!x238) = true from (n_iff (Iff.rfl)).2 hp244] at ha
          (iterate 7 refine op_unwant ha rfl (yields ha rfl rfl) rfl ?_; clear ha a; intro a ha); refine op_g ha rfl (g_pick rfl rfl) ?_; clear ha a; intro a ha; refine wpList_nil ?_; replace ha := ha.sub (σ' := [(2, (.pointer (some ⟨b1, 0, none⟩))), (3, (.pointer (some ⟨b9, 0, none⟩))), (18, va1), (19, (.int .i64 (a1.length : Int))), (20, (.int .i64 i120)), (39, (.bool true))]) ⟨rfl, rfl, rfl, rfl, rfl, rfl, trivial⟩; refine e_then ?_; refine c_true ha rfl ?_; refine wp_seq ?_; refine wp_region_lit ?_; refine op_g ha rfl (g_assign rfl) ?_; clear ha a; intro a ha; refine wpList_nil ?_; replace ha := ha.sub (σ' := [(4, (.bool false))]) ⟨rfl, trivial⟩
          refine e_then ?_; refine wp_ret ?_; refine e_blk_ret ?_; refine e_then_ret ?_; refine e_lq_ret ?_; refine e_then_ret ?_; obtain rfl := Option.some.inj hF
          have e245 := LK_inr hN204; subst e245
          have e246 := BK_inr hK200; subst e246
          exact f_ret1 ha rfl rfl ⟨rfl, hE243⟩
        replace hF := if_f hp244 hF
        rw [show (!x238) = false from b_false (n_iff (Iff.rfl)) hp244] at ha
        refine op_want (yields ha rfl rfl) ?_; refine op_g ha rfl (g_field0 st29_0 rfl) ?_; clear ha a; intro a ha; refine op_want (yields ha rfl rfl) ?_; refine op_g ha rfl (g_load Tryd.isAgg27 rfl (hB116.cell rfl)) ?_; clear ha a; intro a ha; refine op_want (yields ha rfl rfl) ?_; refine op_g ha rfl (g_move rfl) ?_; clear ha a; intro a ha; refine op_want (yields ha rfl rfl) ?_; obtain ⟨x247, g248, gx249, hF⟩ := idx_some hF
        obtain ⟨p250, cs251, f252, hf253, hpb254, hat255, hr256, hi257⟩ := ha0_0.at g248 gx249
        obtain ⟨v258, rfl, h259⟩ := hr256
        have h259 : Ro Rp.int W f252 v258 x247 := h259
        refine op_g ha rfl (hi257.gives sl27 rfl rfl) ?_; clear ha a; intro a ha; refine op_want (yields ha rfl rfl) ?_; refine op_g ha rfl (g_load0 hE243 Tryd.isAgg31 rfl hat255.one) ?_; clear ha a; intro a ha; refine op_want (yields ha rfl rfl) ?_; refine op_g ha rfl (g_func rfl rfl) ?_; clear ha a; intro a ha; refine op_want (yields ha rfl rfl) ?_; obtain ⟨x263, hc264, hF⟩ := cal_some hF
        refine o_call ha rfl rfl Tryd.call36 (W_slices_ContainsFunc_int64 (h259.ext hE243) (by intro _ hy262 z261 hz261 r hr; exact W_impl_ColoursOk_1 hz261 (ha1.ext (Ext.trans hE243 hy262)) (hB118.ext hy262) hI219 (hB233.ext hy262) hr) Tryd.call37 hc264) ?_; clear ha a; rintro v265 w266 ⟨rfl, hx267⟩ a ha
        replace hB116 := hB116.ext hx267
        replace hB118 := hB118.ext hx267
        replace hB233 := hB233.ext hx267
        have hE268 := Ext.trans hE243 hx267
        refine op_g ha rfl (g_pick rfl rfl) ?_; clear ha a; intro a ha; refine wpList_nil ?_; replace ha := ha.sub (σ' := [(2, (.pointer (some ⟨b1, 0, none⟩))), (3, (.pointer (some ⟨b9, 0, none⟩))), (18, va1), (19, (.int .i64 (a1.length : Int))), (20, (.int .i64 i120)), (32, (.pointer (some ⟨b1, 0, none⟩))), (33, va0_0), (34, (.int .i64 i120)), (35, (.pointer (some p250))), (36, v258), (37, (.func (.func 37) #[] #[(.pointer (some ⟨b9, 0, none⟩)), (.pointer (some ⟨b220, 0, none⟩))])), (38, (.bool x263)), (39, (.bool x263))]) ⟨rfl, rfl, rfl, rfl, rfl, rfl, rfl, rfl, rfl, rfl, rfl, rfl, rfl, trivial⟩
        refine e_then ?_; refine c_cond (x263 = true) ha rfl (Iff.rfl) (fun hp269 => ?_) (fun hp269 => ?_)
        · replace hF := if_t hp269 hF
          refine wp_seq ?_; refine wp_region_lit ?_; refine op_g ha rfl (g_assign rfl) ?_; clear ha a; intro a ha; refine wpList_nil ?_; replace ha := ha.sub (σ' := [(4, (.bool false))]) ⟨rfl, trivial⟩; refine e_then ?_; refine wp_ret ?_; refine e_blk_ret ?_; refine e_then_ret ?_; refine e_lq_ret ?_; refine e_then_ret ?_; obtain rfl := Option.some.inj hF
          have e270 := LK_inr hN204; subst e270
          have e271 := BK_inr hK200; subst e271
          exact f_ret1 ha rfl rfl ⟨rfl, hE268⟩
        replace hF := if_f hp269 hF; refine wp_skip ?_; refine e_blk ?_; refine e_then ?_; refine wp_region_lit ?_; obtain ⟨hI272, hF⟩ := ck_some hF; refine op_g ha rfl (g_add rfl rfl hI272) ?_; clear ha a; intro a ha; refine op_g ha rfl (g_move rfl) ?_; clear ha a; intro a ha; refine wpList_nil ?_; replace ha := ha.sub (σ' := [(2, (.pointer (some ⟨b1, 0, none⟩))), (3, (.pointer (some ⟨b9, 0, none⟩))), (18, va1), (19, (.int .i64 (a1.length : Int))), (20, (.int .i64 (i120 + 1))), (32, (.pointer (some ⟨b1, 0, none⟩))), (33, va0_0), (34, (.int .i64 i120)), (35, (.pointer (some p250))), (36, v258), (37, (.func (.func 37) #[] #[(.pointer (some ⟨b9, 0, none⟩)), (.pointer (some ⟨b220, 0, none⟩))])), (38, (.bool x263))]) ⟨rfl, rfl, rfl, rfl, rfl, rfl, rfl, rfl, rfl, rfl, rfl, rfl, trivial⟩
        refine e_lq ?_; obtain rfl := Option.some.inj hF
        exact ⟨_, Nat.lt_succ_self _, i120 + 1, ha.sub ⟨rfl, rfl, rfl, rfl, rfl, trivial⟩, hE268, hI272, hB116, z117, hB118, z119, q122, q123, hN204⟩
      replace hF := if_f hp207 hF; refine wp_exit ?_; refine e_then_exit ?_; refine e_lq_eq ?_; obtain rfl := Option.some.inj hF
      exact ⟨ha.sub trivial, hE124, (LK_inr hN204).symm⟩
  rintro a w197 ⟨ha, hE203, rfl⟩
  have hF : F_impl_ColoursOk_k2 = some _ := hK200; clear hK200; unfold F_impl_ColoursOk_k2 at hF
  refine e_then ?_; refine wp_seq ?_; refine wp_region_lit ?_; refine op_g ha rfl (g_assign rfl) ?_; clear ha a; intro a ha; refine wpList_nil ?_; refine e_then ?_; refine wp_ret ?_; obtain rfl := Option.some.inj hF
  exact f_ret1 ha rfl rfl ⟨rfl, hE203⟩
set_option maxHeartbeats 2000000 in

set_option maxHeartbeats 2000000 in

set_option maxHeartbeats 2000000 in

set_option maxHeartbeats 2000000 in
theorem W_slices_Sorted_int64 {W : World} {va0 : Value} {a0 : (List Int)} (ha0 : Seq2 W va0 a0) {r : (List Int)} (hF : F_slices_Sorted_int64 a0 = some r) :
    Calls Tryd.prog 39 [va0].toArray W (Ret fun u w' => ∃ (b_u : Int), Ow Rp.int 2 true w' [] b_u u r ∧ Zn W b_u ∧ Ext W w') := by
  refine f_enter Tryd.func39 rfl Tryd.ntmps39 rfl ?_
  intro a ha
  replace ha : Fr 9 [(0, va0)] a := ha
  have hE : Chg [] W W := Chg.refl _ _
  unfold F_slices_Sorted_int64 at hF
  refine wp_seq ?_; refine wp_region_lit ?_; refine op_g ha rfl (g_assign rfl) ?_; clear ha a; intro a ha; refine wpList_nil ?_; replace ha := ha.sub (σ' := [(0, va0)]) ⟨rfl, trivial⟩; refine e_then ?_; refine wp_seq ?_; refine wp_region_lit ?_; refine op_g ha rfl (g_move rfl) ?_; clear ha a; intro a ha; obtain ⟨x1, hc2, hF⟩ := cal_some hF
  refine o_call ha rfl rfl Tryd.call78 (W_slices_Collect_int64 ha0 hc2) ?_; clear ha a; rintro v3 w4 ⟨b6, h7, z8, hx5⟩ a ha
  have hE10 := Ext.trans hE hx5
  have q11 := Zn.upD z8 hE
  refine op_g ha rfl (g_assign rfl) ?_; clear ha a; intro a ha; refine wpList_nil ?_; replace ha := ha.sub (σ' := [(3, v3)]) ⟨rfl, trivial⟩; refine e_then ?_; refine wp_seq ?_; refine wp_region_lit ?_; refine op_g ha rfl (g_move rfl) ?_; clear ha a; intro a ha; obtain ⟨x12, hc13, hF⟩ := cal_some hF
  refine o_call ha rfl rfl Tryd.call79 (W_slices_Sort_int64 h7 hc13) ?_; clear ha a; rintro v14 w15 ⟨rfl, h17, hx16⟩ a ha
  have hE18 := Ext.then hE10 hx16 (Zn.bl q11)
  refine wpList_nil ?_; replace ha := ha.sub (σ' := [(3, v3)]) ⟨rfl, trivial⟩; refine e_then ?_; refine wp_seq ?_; refine wp_region_lit ?_; refine op_g ha rfl (g_move rfl) ?_; clear ha a; intro a ha; refine op_g ha rfl (g_assign rfl) ?_; clear ha a; intro a ha; refine wpList_nil ?_; replace ha := ha.sub (σ' := [(2, v3)]) ⟨rfl, trivial⟩; refine e_then ?_; refine wp_ret ?_; obtain rfl := Option.some.inj hF
  exact f_ret1 ha rfl rfl ⟨_, h17, q11, hE18⟩
set_option maxHeartbeats 2000000 in

set_option maxHeartbeats 2000000 in
theorem W_impl_ColoursMany {W : World} {va0 : Value} {fa0 : List Nat} {a0 : (List Int)} (ha0 : Ro Rp.int W fa0 va0 a0) {r : Int} (hF : F_impl_ColoursMany a0 = some r) :
    Calls Tryd.prog 12 [va0].toArray W (Ret fun u w' => (u = .int .i64 r ∧ InI r) ∧ Ext W w') := by
  refine f_enter Tryd.func12 rfl Tryd.ntmps12 rfl ?_
  intro a ha
  replace ha : Fr 11 [(0, va0)] a := ha
  have hE : Chg [] W W := Chg.refl _ _
  unfold F_impl_ColoursMany at hF
  refine wp_seq ?_; refine wp_region_lit ?_; refine op_g ha rfl (g_assign rfl) ?_; clear ha a; intro a ha; refine wpList_nil ?_; replace ha := ha.sub (σ' := [(0, va0)]) ⟨rfl, trivial⟩; refine e_then ?_; refine wp_seq ?_; refine wp_seq ?_; refine wp_region_lit ?_; refine op_g ha rfl (g_move rfl) ?_; clear ha a; intro a ha; refine op_g ha rfl (g_lenR sl31.und ha0 rfl) ?_; clear ha a; intro a ha; refine op_g ha rfl (g_gtr rfl rfl) ?_; clear ha a; intro a ha; refine wpList_nil ?_; replace ha := ha.sub (σ' := [(0, va0), (5, (.bool (decide (16 < (a0.length : Int)))))]) ⟨rfl, rfl, trivial⟩; refine e_then ?_
  refine c_cond (16 < (a0.length : Int)) ha rfl (decide_eq_true_iff) (fun hp1 => ?_) (fun hp1 => ?_)
  · replace hF := if_t hp1 hF
    refine wp_seq ?_; refine wp_region_lit ?_; refine op_g ha rfl (g_assign rfl) ?_; clear ha a; intro a ha; refine wpList_nil ?_; replace ha := ha.sub (σ' := [(2, (.int .i64 (-1)))]) ⟨rfl, trivial⟩; refine e_then ?_; refine wp_ret ?_; refine e_then_ret ?_; obtain rfl := Option.some.inj hF
    exact f_ret1 ha rfl rfl ⟨⟨rfl, (show InI (-1) from by decide)⟩, hE⟩
  replace hF := if_f hp1 hF; refine wp_skip ?_; refine e_then ?_; refine wp_seq ?_; refine wp_region_lit ?_; refine op_g ha rfl (g_move rfl) ?_; clear ha a; intro a ha; obtain ⟨x2, hc3, hF⟩ := cal_some hF
  refine o_call ha rfl rfl Tryd.call40 (W_slices_Values_int64 (ha0.ext hE) hc3) ?_; clear ha a; rintro v4 w5 ⟨h7, hx6⟩ a ha
  have hE8 := Ext.trans hE hx6
  obtain ⟨x9, hc10, hF⟩ := cal_some hF
  refine o_call ha rfl rfl Tryd.call39 (W_slices_Sorted_int64 h7 hc10) ?_; clear ha a; rintro v11 w12 ⟨b14, h15, z16, hx13⟩ a ha
  have hE18 := Ext.trans hE8 hx13
  have q19 := Zn.upD z16 hE8
  obtain ⟨x20, hc21, hF⟩ := cal_some hF
  refine o_call ha rfl rfl Tryd.call38 (W_slices_Compact_int64 h15 hc21) ?_; clear ha a; rintro v22 w23 ⟨h25, h26, hx24⟩ a ha
  have hE27 := Ext.then hE18 hx24 (Zn.bl q19)
  refine op_g ha rfl (g_lenS sl31.und h25.1 rfl) ?_; clear ha a; intro a ha; refine op_g ha rfl (g_assign rfl) ?_; clear ha a; intro a ha; refine wpList_nil ?_; replace ha := ha.sub (σ' := [(2, (.int .i64 (x20.1.length : Int)))]) ⟨rfl, trivial⟩; refine e_then ?_; refine wp_ret ?_; obtain rfl := Option.some.inj hF
  exact f_ret1 ha rfl rfl ⟨⟨rfl, h25.2⟩, hE27⟩
set_option maxHeartbeats 2000000 in
theorem W_spec_l25Bits {W : World} {va0_0 : Value} {fa0_0 : List Nat} {a0_0 : (List (List Int))} (ha0_0 : Ro (Rp.sl 2 Rp.int) W fa0_0 va0_0 a0_0) {r : (List Int)} (hF : F_spec_l25Bits a0_0 = some r) :
    Calls Tryd.prog 52 [.agg #[va0_0]].toArray W (Ret fun u w' => ∃ (b_u : Int), Ow Rp.int 2 true w' [] b_u u r ∧ Zn W b_u ∧ Ext W w') := by
  refine f_enter Tryd.func52 rfl Tryd.ntmps52 rfl ?_
  intro a ha
  replace ha : Fr 42 [(0, (.agg #[va0_0]))] a := ha
  have hE : Chg [] W W := Chg.refl _ _
  unfold F_spec_l25Bits at hF
  refine wp_seq ?_; refine wp_region_lit ?_
  refine o_box ha rfl rfl rfl ?_; clear ha a; intro b1 w2 hB3 hx4 hlo5 a ha
  have q6 := Zn.one hlo5
  have q7 := Zn.upD q6 hE
  have hE8 := Ext.trans hE hx4
  refine op_g ha rfl (g_assign rfl) ?_; clear ha a; intro a ha; refine wpList_nil ?_; replace ha := ha.sub (σ' := [(1, (.pointer (some ⟨b1, 0, none⟩)))]) ⟨rfl, trivial⟩; refine e_then ?_; refine wp_seq ?_; refine wp_region_lit ?_
  refine o_lit0 Rp.int ha rfl sl31 ?_; clear ha a; intro v9 w10 h11 hx12 a ha
  obtain ⟨b14, hb14⟩ : ∃ b : Int, b = w2.heap.size := ⟨_, rfl⟩; rw [← hb14] at h11
  have q15 := zn_of hb14
  have q16 := Nq.new hB3.fpb q15
  have q17 := Nq.madeO q15 hB3.bi
  have q18 := Zn.upD q15 hE8
  replace hB3 := hB3.ext hx12
  have hE19 := Ext.trans hE8 hx12
  refine op_g ha rfl (g_assign rfl) ?_; clear ha a; intro a ha; refine wpList_nil ?_; replace ha := ha.sub (σ' := [(1, (.pointer (some ⟨b1, 0, none⟩))), (3, v9)]) ⟨rfl, rfl, trivial⟩; refine e_then ?_; refine wp_seq ?_; refine wp_seq ?_; refine wp_region_lit ?_; refine op_g ha rfl (g_assign rfl) ?_; clear ha a; intro a ha; refine wpList_nil ?_; refine e_then ?_; obtain ⟨o542, ho543, hK544⟩ := bnd_some hF
  obtain ⟨n545, hn546⟩ := lp_some ho543; clear ho543
  refine c_loop (fun a w => ∃ (l539 : (List Int)) (v540 : Value) (b541 : Int), Fr 42 [(3, v540)] a ∧ Chg [] W w ∧ Ow Rp.int 2 true w [] b541 v540 l539 ∧ Zn W b541 ∧ o542 = .inl l539) (fun n a w => ∃ (l281 : (List Int)) (i284 : Int) (v282 : Value) (b283 : Int), Fr 42 [(1, (.pointer (some ⟨b1, 0, none⟩))), (3, v282), (4, (.int .i64 i284))] a ∧ Chg [] W w ∧ InI i284 ∧ Bx w b1 [va0_0] 29 ∧ Zn W (b1 : Int) ∧ Ow Rp.int 2 true w [] b283 v282 l281 ∧ Zn W b283 ∧ Nq ([b1]) b283 ∧ Nq (bl b283 ++ []) (b1 : Int) ∧ lpN (fun s => F_spec_l25Bits_l1 a0_0 s.1 s.2) n (l281, i284) = some o542) n545 ⟨([] : (List Int)), 0, v9, b14, ha.sub ⟨rfl, rfl, rfl, trivial⟩, hE19, (show InI 0 from by decide), hB3, q7, h11, q18, q16, q17, hn546⟩ ?_ ?_
  · rintro m550 a w275 ⟨l281, i284, v282, b283, ha, hE288, hI285, hB276, z277, h279, z280, q286, q287, hF⟩
    cases m550 with
    | zero => exact (lpN_zero hF).elim
    | succ m550 =>
      obtain ⟨z549, hF, hN548⟩ := lpN_succ hF
      have hF : F_spec_l25Bits_l1 a0_0 l281 i284 = some z549 := hF; unfold F_spec_l25Bits_l1 at hF
      refine wp_seq ?_; refine wp_seq ?_; refine wp_region_lit ?_; refine op_g ha rfl (g_move rfl) ?_; clear ha a; intro a ha; refine op_g ha rfl (g_field0 st29_0 rfl) ?_; clear ha a; intro a ha; refine op_g ha rfl (g_load Tryd.isAgg27 rfl (hB276.cell rfl)) ?_; clear ha a; intro a ha; refine op_g ha rfl (g_lenR sl27.und ha0_0 rfl) ?_; clear ha a; intro a ha; refine op_g ha rfl (g_lss rfl rfl) ?_; clear ha a; intro a ha; refine wpList_nil ?_; replace ha := ha.sub (σ' := [(1, (.pointer (some ⟨b1, 0, none⟩))), (3, v282), (4, (.int .i64 i284)), (12, (.bool (decide (i284 < (a0_0.length : Int)))))]) ⟨rfl, rfl, rfl, rfl, trivial⟩
      refine e_then ?_; refine c_cond (i284 < (a0_0.length : Int)) ha rfl (decide_eq_true_iff) (fun hp551 => ?_) (fun hp551 => ?_)
      · replace hF := if_t hp551 hF
        refine wp_skip ?_; refine e_then ?_; refine wp_seq ?_; refine wp_block ?_; refine wp_seq ?_; refine wp_region_lit ?_; refine op_g ha rfl (g_assign rfl) ?_; clear ha a; intro a ha; refine wpList_nil ?_; replace ha := ha.sub (σ' := [(1, (.pointer (some ⟨b1, 0, none⟩))), (3, v282), (4, (.int .i64 i284)), (5, (.int .i64 0))]) ⟨rfl, rfl, rfl, rfl, trivial⟩; refine e_then ?_; refine wp_seq ?_; refine wp_seq ?_; refine wp_region_lit ?_; refine op_g ha rfl (g_assign rfl) ?_; clear ha a; intro a ha; refine wpList_nil ?_; replace ha := ha.sub (σ' := [(1, (.pointer (some ⟨b1, 0, none⟩))), (3, v282), (4, (.int .i64 i284)), (5, (.int .i64 0)), (6, (.int .i64 0))]) ⟨rfl, rfl, rfl, rfl, rfl, trivial⟩
        refine e_then ?_; obtain ⟨o700, ho701, hK702⟩ := bnd_some hF
        obtain ⟨n703, hn704⟩ := lp_some ho701; clear ho701
        refine c_loop (fun a w => ∃ (i696 : Int), Fr 42 [(1, (.pointer (some ⟨b1, 0, none⟩))), (3, v282), (4, (.int .i64 i284)), (5, (.int .i64 i696))] a ∧ Chg [] W w ∧ InI i696 ∧ Bx w b1 [va0_0] 29 ∧ Zn W (b1 : Int) ∧ Ow Rp.int 2 true w [] b283 v282 l281 ∧ Zn W b283 ∧ Nq ([b1]) b283 ∧ Nq (bl b283 ++ []) (b1 : Int) ∧ o700 = .inl i696) (fun n a w => ∃ (i625 : Int) (i627 : Int), Fr 42 [(1, (.pointer (some ⟨b1, 0, none⟩))), (3, v282), (4, (.int .i64 i284)), (5, (.int .i64 i625)), (6, (.int .i64 i627))] a ∧ Chg [] W w ∧ InI i625 ∧ InI i627 ∧ Bx w b1 [va0_0] 29 ∧ Zn W (b1 : Int) ∧ Ow Rp.int 2 true w [] b283 v282 l281 ∧ Zn W b283 ∧ Nq ([b1]) b283 ∧ Nq (bl b283 ++ []) (b1 : Int) ∧ lpN (fun s => F_spec_l25Bits_l2 a0_0 i284 s.1 s.2) n (i625, i627) = some o700) n703 ⟨0, 0, ha.sub ⟨rfl, rfl, rfl, rfl, rfl, trivial⟩, hE288, (show InI 0 from by decide), (show InI 0 from by decide), hB276, z277, h279, z280, q286, q287, hn704⟩ ?_ ?_
        · rintro m708 a w619 ⟨i625, i627, ha, hE631, hI626, hI628, hB620, z621, h623, z624, q629, q630, hF⟩
          cases m708 with
          | zero => exact (lpN_zero hF).elim
          | succ m708 =>
            obtain ⟨z707, hF, hN706⟩ := lpN_succ hF
            have hF : F_spec_l25Bits_l2 a0_0 i284 i625 i627 = some z707 := hF; unfold F_spec_l25Bits_l2 at hF
            refine wp_seq ?_; refine wp_seq ?_; refine wp_region_lit ?_; refine op_g ha rfl (g_move rfl) ?_; clear ha a; intro a ha; refine op_g ha rfl (g_field0 st29_0 rfl) ?_; clear ha a; intro a ha; refine op_g ha rfl (g_load Tryd.isAgg27 rfl (hB620.cell rfl)) ?_; clear ha a; intro a ha; refine op_g ha rfl (g_move rfl) ?_; clear ha a; intro a ha; obtain ⟨x709, g710, gx711, hF⟩ := idx_some hF
            obtain ⟨p712, cs713, f714, hf715, hpb716, hat717, hr718, hi719⟩ := ha0_0.at g710 gx711
            obtain ⟨v720, rfl, h721⟩ := hr718
            have h721 : Ro Rp.int W f714 v720 x709 := h721
            refine op_g ha rfl (hi719.gives sl27 rfl rfl) ?_; clear ha a; intro a ha; refine op_g ha rfl (g_load0 hE631 Tryd.isAgg31 rfl hat717.one) ?_; clear ha a; intro a ha; refine op_g ha rfl (g_lenR sl31.und h721 rfl) ?_; clear ha a; intro a ha; refine op_g ha rfl (g_lss rfl rfl) ?_; clear ha a; intro a ha; refine wpList_nil ?_; replace ha := ha.sub (σ' := [(1, (.pointer (some ⟨b1, 0, none⟩))), (3, v282), (4, (.int .i64 i284)), (5, (.int .i64 i625)), (6, (.int .i64 i627)), (22, (.bool (decide (i627 < (x709.length : Int)))))]) ⟨rfl, rfl, rfl, rfl, rfl, rfl, trivial⟩; refine e_then ?_; refine c_cond (i627 < (x709.length : Int)) ha rfl (decide_eq_true_iff) (fun hp723 => ?_) (fun hp723 => ?_)
            · replace hF := if_t hp723 hF
              refine wp_skip ?_; refine e_then ?_; refine wp_seq ?_; refine wp_block ?_; refine wp_region_lit ?_; refine op_g ha rfl (g_move rfl) ?_; clear ha a; intro a ha; refine op_g ha rfl (g_field0 st29_0 rfl) ?_; clear ha a; intro a ha; refine op_g ha rfl (g_load Tryd.isAgg27 rfl (hB620.cell rfl)) ?_; clear ha a; intro a ha; refine op_g ha rfl (g_move rfl) ?_; clear ha a; intro a ha; obtain ⟨x724, g725, gx726, hF⟩ := idx_some hF
              obtain ⟨p727, cs728, f729, hf730, hpb731, hat732, hr733, hi734⟩ := ha0_0.at g725 gx726
              obtain ⟨v735, rfl, h736⟩ := hr733
              have h736 : Ro Rp.int W f729 v735 x724 := h736
              refine op_g ha rfl (hi734.gives sl27 rfl rfl) ?_; clear ha a; intro a ha; refine op_g ha rfl (g_load0 hE631 Tryd.isAgg31 rfl hat732.one) ?_; clear ha a; intro a ha; refine op_g ha rfl (g_move rfl) ?_; clear ha a; intro a ha; obtain ⟨x738, g739, gx740, hF⟩ := idx_some hF
              obtain ⟨p741, cs742, f743, hf744, hpb745, hat746, hr747, hi748⟩ := h736.at g739 gx740
              obtain ⟨rfl, hI749, rfl⟩ := hr747
              refine op_g ha rfl (hi748.gives sl31 rfl rfl) ?_; clear ha a; intro a ha; refine op_g ha rfl (g_load0 hE631 Tryd.isAgg2 rfl hat746.one) ?_; clear ha a; intro a ha; obtain ⟨h0750, hF⟩ := grd_some hF; refine op_g ha rfl (g_conv6u un2 un73 rfl hI749 h0750) ?_; clear ha a; intro a ha; obtain ⟨hI751, hF⟩ := ck_some hF; refine op_g ha rfl (g64_shl rfl rfl (inU_of hI749 h0750).1 hI751) ?_; clear ha a; intro a ha; refine op_g ha rfl (g64_or rfl rfl) ?_; clear ha a; intro a ha; refine op_g ha rfl (g_assign rfl) ?_; clear ha a; intro a ha; refine wpList_nil ?_; replace ha := ha.sub (σ' := [(1, (.pointer (some ⟨b1, 0, none⟩))), (3, v282), (4, (.int .i64 i284)), (5, (.int .i64 (i64or i625 (1 * 2 ^ (x738 : Int).toNat)))), (6, (.int .i64 i627))]) ⟨rfl, rfl, rfl, rfl, rfl, trivial⟩
              refine e_blk ?_; refine e_then ?_; refine wp_region_lit ?_; refine op_g ha rfl (g_move rfl) ?_; clear ha a; intro a ha; obtain ⟨hI753, hF⟩ := ck_some hF; refine op_g ha rfl (g_add rfl rfl hI753) ?_; clear ha a; intro a ha; refine op_g ha rfl (g_assign rfl) ?_; clear ha a; intro a ha; refine wpList_nil ?_; replace ha := ha.sub (σ' := [(1, (.pointer (some ⟨b1, 0, none⟩))), (3, v282), (4, (.int .i64 i284)), (5, (.int .i64 (i64or i625 (1 * 2 ^ (x738 : Int).toNat)))), (6, (.int .i64 (i627 + 1)))]) ⟨rfl, rfl, rfl, rfl, rfl, trivial⟩; refine e_lq ?_; obtain rfl := Option.some.inj hF
              exact ⟨_, Nat.lt_succ_self _, i64or i625 (1 * 2 ^ (x738 : Int).toNat), i627 + 1, ha.sub ⟨rfl, rfl, rfl, rfl, rfl, trivial⟩, hE631, (in_i64or _ _), hI753, hB620, z621, h623, z624, q629, q630, hN706⟩
            replace hF := if_f hp723 hF; refine wp_exit ?_; refine e_then_exit ?_; refine e_lq_eq ?_; obtain rfl := Option.some.inj hF
            exact ⟨i625, ha.sub ⟨rfl, rfl, rfl, rfl, trivial⟩, hE631, hI626, hB620, z621, h623, z624, q629, q630, (LK_inr hN706).symm⟩
        rintro a w690 ⟨i696, ha, hE705, hI697, hB691, z692, h694, z695, q698, q699, rfl⟩
        have hF : F_spec_l25Bits_k3 l281 i284 i696 = some _ := hK702; clear hK702; unfold F_spec_l25Bits_k3 at hF
        refine e_then ?_; refine wp_region_lit ?_; (iterate 2 refine op_g ha rfl (g_move rfl) ?_; clear ha a; intro a ha)
        refine o_lit1 (o := true) (y := i696) Rp.int ha rfl sl31 rfl rfl rfl ⟨rfl, hI697, rfl⟩ ?_; clear ha a; intro v755 w756 h757 hx758 a ha
        obtain ⟨b760, hb760⟩ : ∃ b : Int, b = w690.heap.size := ⟨_, rfl⟩; rw [← hb760] at h757
        have q761 := zn_of hb760
        have q762 := Nq.new hB691.fpb q761
        have q763 := Nq.madeO q761 hB691.bi
        have q764 := Nq.new h694.fpb q761
        have q765 := Nq.madeO q761 h694.blt
        have q766 := Zn.upD q761 hE705
        replace hB691 := hB691.ext hx758
        replace h694 := h694.ext hx758
        have hE767 := Ext.trans hE705 hx758
        obtain ⟨hl768, hF⟩ := app_some hF
        refine o_append ha rfl sl31 rfl rfl rfl h694 h757.src (Nq.nil _) hl768 ?_; clear ha a; intro v769 w770 b771 h772 hc773 hb774 a ha
        replace h772 : Ow Rp.int 2 true w770 [] b771 v769 _ := h772
        have q776 := Nq.appY q698 hB691.fpb hb774
        have q777 := Nq.appX q699 (Nq.nil _) hb774 hB691.bi
        have q778 := Nq.appY q765 h757.fpb hb774
        have q779 := Nq.appX q764 (Nq.nil _) hb774 h757.blt
        have q780 := Zn.appD z695 hb774 hE767
        replace hB691 := hB691.nq hc773 q698
        replace h757 := h757.nq hc773 q765
        have hE781 := Ext.then hE767 hc773 (Zn.bl z695)
        refine op_g ha rfl (g_assign rfl) ?_; clear ha a; intro a ha; refine wpList_nil ?_; replace ha := ha.sub (σ' := [(1, (.pointer (some ⟨b1, 0, none⟩))), (3, v769), (4, (.int .i64 i284))]) ⟨rfl, rfl, rfl, trivial⟩; refine e_blk ?_; refine e_then ?_; refine wp_region_lit ?_; refine op_g ha rfl (g_move rfl) ?_; clear ha a; intro a ha; obtain ⟨hI782, hF⟩ := ck_some hF; refine op_g ha rfl (g_add rfl rfl hI782) ?_; clear ha a; intro a ha; refine op_g ha rfl (g_assign rfl) ?_; clear ha a; intro a ha; refine wpList_nil ?_; replace ha := ha.sub (σ' := [(1, (.pointer (some ⟨b1, 0, none⟩))), (3, v769), (4, (.int .i64 (i284 + 1)))]) ⟨rfl, rfl, rfl, trivial⟩
        refine e_lq ?_; obtain rfl := Option.some.inj hF
        exact ⟨_, Nat.lt_succ_self _, (l281 ++ ([i696])), i284 + 1, v769, b771, ha.sub ⟨rfl, rfl, rfl, trivial⟩, hE781, hI782, hB691, z692, h772, q780, q776, q777, hN548⟩
      replace hF := if_f hp551 hF; refine wp_exit ?_; refine e_then_exit ?_; refine e_lq_eq ?_; obtain rfl := Option.some.inj hF
      exact ⟨l281, v282, b283, ha.sub ⟨rfl, trivial⟩, hE288, h279, z280, (LK_inr hN548).symm⟩
  rintro a w535 ⟨l539, v540, b541, ha, hE547, h537, z538, rfl⟩
  have hF : F_spec_l25Bits_k4 l539 = some _ := hK544; clear hK544; unfold F_spec_l25Bits_k4 at hF
  refine e_then ?_; refine wp_seq ?_; refine wp_region_lit ?_; refine op_g ha rfl (g_move rfl) ?_; clear ha a; intro a ha; refine op_g ha rfl (g_assign rfl) ?_; clear ha a; intro a ha; refine wpList_nil ?_; replace ha := ha.sub (σ' := [(2, v540)]) ⟨rfl, trivial⟩; refine e_then ?_; refine wp_ret ?_; obtain rfl := Option.some.inj hF
  exact f_ret1 ha rfl rfl ⟨_, h537, z538, hE547⟩
set_option maxHeartbeats 2000000 in
theorem W_spec_l25All {W : World} {va0_0 : Value} {fa0_0 : List Nat} {a0_0 : (List (List Int))} (ha0_0 : Ro (Rp.sl 2 Rp.int) W fa0_0 va0_0 a0_0) {r : Int} (hF : F_spec_l25All a0_0 = some r) :
    Calls Tryd.prog 54 [.agg #[va0_0]].toArray W (Ret fun u w' => (u = .int .i64 r ∧ InI r) ∧ Ext W w') := by
  refine f_enter Tryd.func54 rfl Tryd.ntmps54 rfl ?_
  intro a ha
  replace ha : Fr 9 [(0, (.agg #[va0_0]))] a := ha
  have hE : Chg [] W W := Chg.refl _ _
  unfold F_spec_l25All at hF
  refine wp_seq ?_; refine wp_region_lit ?_
  refine o_box ha rfl rfl rfl ?_; clear ha a; intro b1 w2 hB3 hx4 hlo5 a ha
  have q6 := Zn.one hlo5
  have q7 := Zn.upD q6 hE
  have hE8 := Ext.trans hE hx4
  refine op_g ha rfl (g_assign rfl) ?_; clear ha a; intro a ha; refine wpList_nil ?_; replace ha := ha.sub (σ' := [(1, (.pointer (some ⟨b1, 0, none⟩)))]) ⟨rfl, trivial⟩; refine e_then ?_; refine wp_seq ?_; refine wp_region_lit ?_; refine op_g ha rfl (g_field0 st29_0 rfl) ?_; clear ha a; intro a ha; refine op_g ha rfl (g_load Tryd.isAgg27 rfl (hB3.cell rfl)) ?_; clear ha a; intro a ha; refine op_g ha rfl (g_lenR sl27.und ha0_0 rfl) ?_; clear ha a; intro a ha; obtain ⟨h09, hF⟩ := grd_some hF; refine op_g ha rfl (g_conv6u un3 un73 rfl ha0_0.len h09) ?_; clear ha a; intro a ha; obtain ⟨hI10, hF⟩ := ck_some hF
  refine op_g ha rfl (g64_shl rfl rfl (inU_of ha0_0.len h09).1 hI10) ?_; clear ha a; intro a ha; obtain ⟨hI12, hF⟩ := ck_some hF; refine op_g ha rfl (g_sub rfl rfl hI12) ?_; clear ha a; intro a ha; refine op_g ha rfl (g_assign rfl) ?_; clear ha a; intro a ha; refine wpList_nil ?_; replace ha := ha.sub (σ' := [(2, (.int .i64 ((1 * 2 ^ ((a0_0.length : Int) : Int).toNat) - 1)))]) ⟨rfl, trivial⟩; refine e_then ?_; refine wp_ret ?_; obtain rfl := Option.some.inj hF
  exact f_ret1 ha rfl rfl ⟨⟨rfl, hI12⟩, hE8⟩
set_option maxHeartbeats 2000000 in
theorem W_spec_l25Many {W : World} {a0 : Int} (ha0 : InI a0) {r : Int} (hF : F_spec_l25Many a0 = some r) :
    Calls Tryd.prog 81 [.int .i64 a0].toArray W (Ret fun u w' => (u = .int .i64 r ∧ InI r) ∧ Ext W w') := by
  refine f_enter Tryd.func81 rfl Tryd.ntmps81 rfl ?_
  intro a ha
  replace ha : Fr 13 [(0, (.int .i64 a0))] a := ha
  have hE : Chg [] W W := Chg.refl _ _
  unfold F_spec_l25Many at hF
  refine wp_seq ?_; refine wp_region_lit ?_; refine op_g ha rfl (g_assign rfl) ?_; clear ha a; intro a ha; refine wpList_nil ?_; replace ha := ha.sub (σ' := [(0, (.int .i64 a0))]) ⟨rfl, trivial⟩; refine e_then ?_; refine wp_seq ?_; refine wp_region_lit ?_; refine op_g ha rfl (g_assign rfl) ?_; clear ha a; intro a ha; refine wpList_nil ?_; refine e_then ?_; refine wp_seq ?_; obtain ⟨o32, ho33, hK34⟩ := bnd_some hF
  obtain ⟨n35, hn36⟩ := lp_some ho33; clear ho33
  refine c_loop (fun a w => ∃ (i30 : Int), Fr 13 [(3, (.int .i64 i30))] a ∧ Chg [] W w ∧ InI i30 ∧ o32 = .inl i30) (fun n a w => ∃ (i14 : Int) (i16 : Int), Fr 13 [(0, (.int .i64 i14)), (3, (.int .i64 i16))] a ∧ Chg [] W w ∧ InI i14 ∧ InI i16 ∧ lpN (fun s => F_spec_l25Many_l1 s.1 s.2) n (i14, i16) = some o32) n35 ⟨a0, 0, ha.sub ⟨rfl, rfl, trivial⟩, hE, ha0, (show InI 0 from by decide), hn36⟩ ?_ ?_
  · rintro m40 a w13 ⟨i14, i16, ha, hE18, hI15, hI17, hF⟩
    cases m40 with
    | zero => exact (lpN_zero hF).elim
    | succ m40 =>
      obtain ⟨z39, hF, hN38⟩ := lpN_succ hF
      have hF : F_spec_l25Many_l1 i14 i16 = some z39 := hF; unfold F_spec_l25Many_l1 at hF
      refine wp_seq ?_; refine wp_seq ?_; refine wp_region_lit ?_; refine op_g ha rfl (g_move rfl) ?_; clear ha a; intro a ha; refine op_g ha rfl (g_gtr rfl rfl) ?_; clear ha a; intro a ha; refine wpList_nil ?_; replace ha := ha.sub (σ' := [(0, (.int .i64 i14)), (3, (.int .i64 i16)), (5, (.bool (decide (0 < i14))))]) ⟨rfl, rfl, rfl, trivial⟩; refine e_then ?_; refine c_cond (0 < i14) ha rfl (decide_eq_true_iff) (fun hp41 => ?_) (fun hp41 => ?_)
      · replace hF := if_t hp41 hF
        refine wp_skip ?_; refine e_then ?_; refine wp_seq ?_; refine wp_block ?_; refine wp_region_lit ?_; refine op_g ha rfl (g_move rfl) ?_; clear ha a; intro a ha; obtain ⟨hI42, hF⟩ := ck_some hF; refine op_g ha rfl (g_add rfl rfl hI42) ?_; clear ha a; intro a ha; refine op_g ha rfl (g_assign rfl) ?_; clear ha a; intro a ha; refine wpList_nil ?_; replace ha := ha.sub (σ' := [(0, (.int .i64 i14)), (3, (.int .i64 (i16 + 1)))]) ⟨rfl, rfl, trivial⟩; refine e_blk ?_; refine e_then ?_; refine wp_region_lit ?_; (iterate 2 refine op_g ha rfl (g_move rfl) ?_; clear ha a; intro a ha); obtain ⟨hI44, hF⟩ := ck_some hF
        refine op_g ha rfl (g_sub rfl rfl hI44) ?_; clear ha a; intro a ha; refine op_g ha rfl (g64_and rfl rfl) ?_; clear ha a; intro a ha; refine op_g ha rfl (g_assign rfl) ?_; clear ha a; intro a ha; refine wpList_nil ?_; replace ha := ha.sub (σ' := [(0, (.int .i64 (i64and i14 (i14 - 1)))), (3, (.int .i64 (i16 + 1)))]) ⟨rfl, rfl, trivial⟩; refine e_lq ?_; obtain rfl := Option.some.inj hF
        exact ⟨_, Nat.lt_succ_self _, i64and i14 (i14 - 1), i16 + 1, ha.sub ⟨rfl, rfl, trivial⟩, hE18, (in_i64and _ _), hI42, hN38⟩
      replace hF := if_f hp41 hF; refine wp_exit ?_; refine e_then_exit ?_; refine e_lq_eq ?_; obtain rfl := Option.some.inj hF
      exact ⟨i16, ha.sub ⟨rfl, trivial⟩, hE18, hI17, (LK_inr hN38).symm⟩
  rintro a w29 ⟨i30, ha, hE37, hI31, rfl⟩
  have hF : F_spec_l25Many_k2 i30 = some _ := hK34; clear hK34; unfold F_spec_l25Many_k2 at hF
  refine e_then ?_; refine wp_seq ?_; refine wp_region_lit ?_; refine op_g ha rfl (g_move rfl) ?_; clear ha a; intro a ha; refine op_g ha rfl (g_assign rfl) ?_; clear ha a; intro a ha; refine wpList_nil ?_; replace ha := ha.sub (σ' := [(2, (.int .i64 i30))]) ⟨rfl, trivial⟩; refine e_then ?_; refine wp_ret ?_; obtain rfl := Option.some.inj hF
  exact f_ret1 ha rfl rfl ⟨⟨rfl, hI31⟩, hE37⟩
set_option maxHeartbeats 2000000 in
theorem W_spec_l25Less {W : World} {a0 : Int} (ha0 : InI a0) {a1 : Int} (ha1 : InI a1) {r : Bool} (hF : F_spec_l25Less a0 a1 = some r) :
    Calls Tryd.prog 82 [.int .i64 a0, .int .i64 a1].toArray W (Ret fun u w' => u = .bool r ∧ Ext W w') := by
  refine f_enter Tryd.func82 rfl Tryd.ntmps82 rfl ?_
  intro a ha
  replace ha : Fr 18 [(0, (.int .i64 a0)), (1, (.int .i64 a1))] a := ha
  have hE : Chg [] W W := Chg.refl _ _
  unfold F_spec_l25Less at hF
  refine wp_seq ?_; refine wp_region_lit ?_; refine op_g ha rfl (g_assign rfl) ?_; clear ha a; intro a ha; refine wpList_nil ?_; replace ha := ha.sub (σ' := [(0, (.int .i64 a0)), (1, (.int .i64 a1))]) ⟨rfl, rfl, trivial⟩; refine e_then ?_; refine wp_seq ?_; refine wp_region_lit ?_; (iterate 2 refine op_g ha rfl (g_move rfl) ?_; clear ha a; intro a ha); refine op_g ha rfl (g64_xor rfl rfl) ?_; clear ha a; intro a ha; (iterate 2 refine op_g ha rfl (g_move rfl) ?_; clear ha a; intro a ha); refine op_g ha rfl (g64_xor rfl rfl) ?_; clear ha a; intro a ha; obtain ⟨hI1, hF⟩ := ck_some hF; refine op_g ha rfl (g_neg rfl hI1) ?_; clear ha a; intro a ha
  refine op_g ha rfl (g64_and rfl rfl) ?_; clear ha a; intro a ha; refine op_g ha rfl (g_assign rfl) ?_; clear ha a; intro a ha; refine wpList_nil ?_; replace ha := ha.sub (σ' := [(0, (.int .i64 a0)), (5, (.int .i64 (i64and (i64xor a0 a1) (0 - (i64xor a0 a1)))))]) ⟨rfl, rfl, trivial⟩; refine e_then ?_; refine wp_seq ?_; refine wp_region_lit ?_; (iterate 2 refine op_g ha rfl (g_move rfl) ?_; clear ha a; intro a ha); refine op_g ha rfl (g64_and rfl rfl) ?_; clear ha a; intro a ha; refine op_g ha rfl (g_neq rfl rfl) ?_; clear ha a; intro a ha; refine op_g ha rfl (g_assign rfl) ?_; clear ha a; intro a ha
  refine wpList_nil ?_; replace ha := ha.sub (σ' := [(4, (.bool (decide ((i64and a0 (i64and (i64xor a0 a1) (0 - (i64xor a0 a1)))) ≠ 0))))]) ⟨rfl, trivial⟩; refine e_then ?_; refine wp_ret ?_; obtain rfl := Option.some.inj hF
  exact f_ret1 ha rfl rfl ⟨rfl, hE⟩
set_option maxHeartbeats 2000000 in
theorem W_spec_l25Clique {W : World} {va0 : Value} {fa0 : List Nat} {a0 : (List Int)} (ha0 : Ro Rp.int W fa0 va0 a0) {a1 : Int} (ha1 : InI a1) {r : Bool} (hF : F_spec_l25Clique a0 a1 = some r) :
    Calls Tryd.prog 83 [va0, .int .i64 a1].toArray W (Ret fun u w' => u = .bool r ∧ Ext W w') := by
  refine f_enter Tryd.func83 rfl Tryd.ntmps83 rfl ?_
  intro a ha
  replace ha : Fr 30 [(0, va0), (1, (.int .i64 a1))] a := ha
  have hE : Chg [] W W := Chg.refl _ _
  unfold F_spec_l25Clique at hF
  refine wp_seq ?_; refine wp_region_lit ?_; refine op_g ha rfl (g_assign rfl) ?_; clear ha a; intro a ha; refine wpList_nil ?_; replace ha := ha.sub (σ' := [(0, va0), (1, (.int .i64 a1))]) ⟨rfl, rfl, trivial⟩; refine e_then ?_; refine wp_seq ?_; refine wp_seq ?_; refine wp_region_lit ?_; refine op_g ha rfl (g_assign rfl) ?_; clear ha a; intro a ha; refine wpList_nil ?_; refine e_then ?_; obtain ⟨o60, ho61, hK62⟩ := bnd_some hF
  obtain ⟨n63, hn64⟩ := lp_some ho61; clear ho61
  refine c_loop (fun a w => Fr 30 [] a ∧ Chg [] W w ∧ o60 = .inl ()) (fun n a w => ∃ (i30 : Int), Fr 30 [(0, va0), (1, (.int .i64 a1)), (5, (.int .i64 i30))] a ∧ Chg [] W w ∧ InI i30 ∧ lpN (fun s => F_spec_l25Clique_l1 a0 a1 s) n i30 = some o60) n63 ⟨0, ha.sub ⟨rfl, rfl, rfl, trivial⟩, hE, (show InI 0 from by decide), hn64⟩ ?_ ?_
  · rintro m68 a w29 ⟨i30, ha, hE32, hI31, hF⟩
    cases m68 with
    | zero => exact (lpN_zero hF).elim
    | succ m68 =>
      obtain ⟨z67, hF, hN66⟩ := lpN_succ hF
      have hF : F_spec_l25Clique_l1 a0 a1 i30 = some z67 := hF; unfold F_spec_l25Clique_l1 at hF
      refine wp_seq ?_; refine wp_seq ?_; refine wp_region_lit ?_; (iterate 2 refine op_g ha rfl (g_move rfl) ?_; clear ha a; intro a ha); refine op_g ha rfl (g_lenR sl31.und ha0 rfl) ?_; clear ha a; intro a ha; refine op_g ha rfl (g_lss rfl rfl) ?_; clear ha a; intro a ha; refine wpList_nil ?_; replace ha := ha.sub (σ' := [(0, va0), (1, (.int .i64 a1)), (5, (.int .i64 i30)), (9, (.bool (decide (i30 < (a0.length : Int)))))]) ⟨rfl, rfl, rfl, rfl, trivial⟩; refine e_then ?_; refine c_cond (i30 < (a0.length : Int)) ha rfl (decide_eq_true_iff) (fun hp69 => ?_) (fun hp69 => ?_)
      · replace hF := if_t hp69 hF
        refine wp_skip ?_; refine e_then ?_; refine wp_seq ?_; refine wp_block ?_; refine wp_seq ?_; refine wp_region_lit ?_; (iterate 2 refine op_g ha rfl (g_move rfl) ?_; clear ha a; intro a ha); obtain ⟨h070, hF⟩ := grd_some hF; refine op_g ha rfl (g_conv6u un3 un73 rfl hI31 h070) ?_; clear ha a; intro a ha; refine op_g ha rfl (g64_shr rfl rfl ha1 (inU_of hI31 h070).1) ?_; clear ha a; intro a ha; refine op_g ha rfl (g64_and rfl rfl) ?_; clear ha a; intro a ha; refine op_g ha rfl (g_eql rfl rfl) ?_; clear ha a; intro a ha; refine op_g ha rfl (g_move rfl) ?_; clear ha a; intro a ha
        by_cases hp71 : (i64and (a1 / 2 ^ (i30 : Int).toNat) 1) = 1
        · replace hF := if_t hp71 hF
          rw [show (decide ((i64and (a1 / 2 ^ (i30 : Int).toNat) 1) = 1)) = true from (decide_eq_true_iff).2 hp71] at ha
          refine op_want (yields ha rfl rfl) ?_; refine op_g ha rfl (g_move rfl) ?_; clear ha a; intro a ha; refine op_want (yields ha rfl rfl) ?_; refine op_g ha rfl (g_move rfl) ?_; clear ha a; intro a ha; refine op_want (yields ha rfl rfl) ?_; refine op_g ha rfl (g_move rfl) ?_; clear ha a; intro a ha; refine op_want (yields ha rfl rfl) ?_; obtain ⟨x72, g73, gx74, hF⟩ := idx_some hF
          obtain ⟨p75, cs76, f77, hf78, hpb79, hat80, hr81, hi82⟩ := ha0.at g73 gx74
          obtain ⟨rfl, hI83, rfl⟩ := hr81
          refine op_g ha rfl (hi82.gives sl31 rfl rfl) ?_; clear ha a; intro a ha; refine op_want (yields ha rfl rfl) ?_; refine op_g ha rfl (g_load0 hE32 Tryd.isAgg2 rfl hat80.one) ?_; clear ha a; intro a ha; refine op_want (yields ha rfl rfl) ?_; refine op_g ha rfl (g64_andNot rfl rfl) ?_; clear ha a; intro a ha; refine op_want (yields ha rfl rfl) ?_; refine op_g ha rfl (g_move rfl) ?_; clear ha a; intro a ha; refine op_want (yields ha rfl rfl) ?_; obtain ⟨h084, hF⟩ := grd_some hF; refine op_g ha rfl (g_conv6u un3 un73 rfl hI31 h084) ?_; clear ha a; intro a ha; refine op_want (yields ha rfl rfl) ?_
          obtain ⟨hI85, hF⟩ := ck_some hF; refine op_g ha rfl (g64_shl rfl rfl (inU_of hI31 h084).1 hI85) ?_; clear ha a; intro a ha; refine op_want (yields ha rfl rfl) ?_; refine op_g ha rfl (g_neq rfl rfl) ?_; clear ha a; intro a ha; refine op_g ha rfl (g_pick rfl rfl) ?_; clear ha a; intro a ha; refine wpList_nil ?_; replace ha := ha.sub (σ' := [(0, va0), (1, (.int .i64 a1)), (5, (.int .i64 i30)), (19, (.int .i64 a1)), (20, va0), (21, (.int .i64 i30)), (22, (.pointer (some p75))), (23, (.int .i64 x72)), (24, (.int .i64 (i64andn a1 x72))), (25, (.int .i64 i30)), (26, (.int .u64 i30)), (27, (.int .i64 (1 * 2 ^ (i30 : Int).toNat))), (28, (.bool (decide ((i64andn a1 x72) ≠ (1 * 2 ^ (i30 : Int).toNat))))), (29, (.bool (decide ((i64andn a1 x72) ≠ (1 * 2 ^ (i30 : Int).toNat)))))]) ⟨rfl, rfl, rfl, rfl, rfl, rfl, rfl, rfl, rfl, rfl, rfl, rfl, rfl, rfl, trivial⟩
          refine e_then ?_; refine c_cond ((i64andn a1 x72) ≠ (1 * 2 ^ (i30 : Int).toNat)) ha rfl (decide_eq_true_iff) (fun hp87 => ?_) (fun hp87 => ?_)
          · replace hF := if_t hp87 hF
            refine wp_seq ?_; refine wp_region_lit ?_; refine op_g ha rfl (g_assign rfl) ?_; clear ha a; intro a ha; refine wpList_nil ?_; replace ha := ha.sub (σ' := [(4, (.bool false))]) ⟨rfl, trivial⟩; refine e_then ?_; refine wp_ret ?_; refine e_blk_ret ?_; refine e_then_ret ?_; refine e_lq_ret ?_; refine e_then_ret ?_; obtain rfl := Option.some.inj hF
            have e88 := LK_inr hN66; subst e88
            have e89 := BK_inr hK62; subst e89
            exact f_ret1 ha rfl rfl ⟨rfl, hE32⟩
          replace hF := if_f hp87 hF; refine wp_skip ?_; refine e_blk ?_; refine e_then ?_; refine wp_region_lit ?_; refine op_g ha rfl (g_move rfl) ?_; clear ha a; intro a ha; obtain ⟨hI90, hF⟩ := ck_some hF; refine op_g ha rfl (g_add rfl rfl hI90) ?_; clear ha a; intro a ha; refine op_g ha rfl (g_assign rfl) ?_; clear ha a; intro a ha; refine wpList_nil ?_; replace ha := ha.sub (σ' := [(0, va0), (1, (.int .i64 a1)), (5, (.int .i64 (i30 + 1))), (19, (.int .i64 a1)), (20, va0), (21, (.int .i64 i30)), (22, (.pointer (some p75))), (23, (.int .i64 x72)), (24, (.int .i64 (i64andn a1 x72))), (25, (.int .i64 i30)), (26, (.int .u64 i30)), (27, (.int .i64 (1 * 2 ^ (i30 : Int).toNat))), (28, (.bool (decide ((i64andn a1 x72) ≠ (1 * 2 ^ (i30 : Int).toNat)))))]) ⟨rfl, rfl, rfl, rfl, rfl, rfl, rfl, rfl, rfl, rfl, rfl, rfl, rfl, trivial⟩
          refine e_lq ?_; obtain rfl := Option.some.inj hF
          exact ⟨_, Nat.lt_succ_self _, i30 + 1, ha.sub ⟨rfl, rfl, rfl, trivial⟩, hE32, hI90, hN66⟩
        replace hF := if_f hp71 hF
        rw [show (decide ((i64and (a1 / 2 ^ (i30 : Int).toNat) 1) = 1)) = false from b_false (decide_eq_true_iff) hp71] at ha
        (iterate 10 refine op_unwant ha rfl (yields ha rfl rfl) rfl ?_; clear ha a; intro a ha); refine op_g ha rfl (g_pick rfl rfl) ?_; clear ha a; intro a ha; refine wpList_nil ?_; replace ha := ha.sub (σ' := [(0, va0), (1, (.int .i64 a1)), (5, (.int .i64 i30)), (29, (.bool false))]) ⟨rfl, rfl, rfl, rfl, trivial⟩; refine e_then ?_; refine c_false ha rfl ?_; refine wp_skip ?_; refine e_blk ?_; refine e_then ?_; refine wp_region_lit ?_; refine op_g ha rfl (g_move rfl) ?_; clear ha a; intro a ha; obtain ⟨hI92, hF⟩ := ck_some hF; refine op_g ha rfl (g_add rfl rfl hI92) ?_; clear ha a; intro a ha
        refine op_g ha rfl (g_assign rfl) ?_; clear ha a; intro a ha; refine wpList_nil ?_; replace ha := ha.sub (σ' := [(0, va0), (1, (.int .i64 a1)), (5, (.int .i64 (i30 + 1)))]) ⟨rfl, rfl, rfl, trivial⟩; refine e_lq ?_; obtain rfl := Option.some.inj hF
        exact ⟨_, Nat.lt_succ_self _, i30 + 1, ha.sub ⟨rfl, rfl, rfl, trivial⟩, hE32, hI92, hN66⟩
      replace hF := if_f hp69 hF; refine wp_exit ?_; refine e_then_exit ?_; refine e_lq_eq ?_; obtain rfl := Option.some.inj hF
      exact ⟨ha.sub trivial, hE32, (LK_inr hN66).symm⟩
  rintro a w59 ⟨ha, hE65, rfl⟩
  have hF : F_spec_l25Clique_k2 = some _ := hK62; clear hK62; unfold F_spec_l25Clique_k2 at hF
  refine e_then ?_; refine wp_seq ?_; refine wp_region_lit ?_; refine op_g ha rfl (g_assign rfl) ?_; clear ha a; intro a ha; refine wpList_nil ?_; refine e_then ?_; refine wp_ret ?_; obtain rfl := Option.some.inj hF
  exact f_ret1 ha rfl rfl ⟨rfl, hE65⟩
set_option maxHeartbeats 2000000 in
theorem W_spec_l25Stable {W : World} {va0 : Value} {fa0 : List Nat} {a0 : (List Int)} (ha0 : Ro Rp.int W fa0 va0 a0) {a1 : Int} (ha1 : InI a1) {r : Bool} (hF : F_spec_l25Stable a0 a1 = some r) :
    Calls Tryd.prog 84 [va0, .int .i64 a1].toArray W (Ret fun u w' => u = .bool r ∧ Ext W w') := by
  refine f_enter Tryd.func84 rfl Tryd.ntmps84 rfl ?_
  intro a ha
  replace ha : Fr 27 [(0, va0), (1, (.int .i64 a1))] a := ha
  have hE : Chg [] W W := Chg.refl _ _
  unfold F_spec_l25Stable at hF
  refine wp_seq ?_; refine wp_region_lit ?_; refine op_g ha rfl (g_assign rfl) ?_; clear ha a; intro a ha; refine wpList_nil ?_; replace ha := ha.sub (σ' := [(0, va0), (1, (.int .i64 a1))]) ⟨rfl, rfl, trivial⟩; refine e_then ?_; refine wp_seq ?_; refine wp_seq ?_; refine wp_region_lit ?_; refine op_g ha rfl (g_assign rfl) ?_; clear ha a; intro a ha; refine wpList_nil ?_; refine e_then ?_; obtain ⟨o54, ho55, hK56⟩ := bnd_some hF
  obtain ⟨n57, hn58⟩ := lp_some ho55; clear ho55
  refine c_loop (fun a w => Fr 27 [] a ∧ Chg [] W w ∧ o54 = .inl ()) (fun n a w => ∃ (i27 : Int), Fr 27 [(0, va0), (1, (.int .i64 a1)), (5, (.int .i64 i27))] a ∧ Chg [] W w ∧ InI i27 ∧ lpN (fun s => F_spec_l25Stable_l1 a0 a1 s) n i27 = some o54) n57 ⟨0, ha.sub ⟨rfl, rfl, rfl, trivial⟩, hE, (show InI 0 from by decide), hn58⟩ ?_ ?_
  · rintro m62 a w26 ⟨i27, ha, hE29, hI28, hF⟩
    cases m62 with
    | zero => exact (lpN_zero hF).elim
    | succ m62 =>
      obtain ⟨z61, hF, hN60⟩ := lpN_succ hF
      have hF : F_spec_l25Stable_l1 a0 a1 i27 = some z61 := hF; unfold F_spec_l25Stable_l1 at hF
      refine wp_seq ?_; refine wp_seq ?_; refine wp_region_lit ?_; (iterate 2 refine op_g ha rfl (g_move rfl) ?_; clear ha a; intro a ha); refine op_g ha rfl (g_lenR sl31.und ha0 rfl) ?_; clear ha a; intro a ha; refine op_g ha rfl (g_lss rfl rfl) ?_; clear ha a; intro a ha; refine wpList_nil ?_; replace ha := ha.sub (σ' := [(0, va0), (1, (.int .i64 a1)), (5, (.int .i64 i27)), (9, (.bool (decide (i27 < (a0.length : Int)))))]) ⟨rfl, rfl, rfl, rfl, trivial⟩; refine e_then ?_; refine c_cond (i27 < (a0.length : Int)) ha rfl (decide_eq_true_iff) (fun hp63 => ?_) (fun hp63 => ?_)
      · replace hF := if_t hp63 hF
        refine wp_skip ?_; refine e_then ?_; refine wp_seq ?_; refine wp_block ?_; refine wp_seq ?_; refine wp_region_lit ?_; (iterate 2 refine op_g ha rfl (g_move rfl) ?_; clear ha a; intro a ha); obtain ⟨h064, hF⟩ := grd_some hF; refine op_g ha rfl (g_conv6u un3 un73 rfl hI28 h064) ?_; clear ha a; intro a ha; refine op_g ha rfl (g64_shr rfl rfl ha1 (inU_of hI28 h064).1) ?_; clear ha a; intro a ha; refine op_g ha rfl (g64_and rfl rfl) ?_; clear ha a; intro a ha; refine op_g ha rfl (g_eql rfl rfl) ?_; clear ha a; intro a ha; refine op_g ha rfl (g_move rfl) ?_; clear ha a; intro a ha
        by_cases hp65 : (i64and (a1 / 2 ^ (i27 : Int).toNat) 1) = 1
        · replace hF := if_t hp65 hF
          rw [show (decide ((i64and (a1 / 2 ^ (i27 : Int).toNat) 1) = 1)) = true from (decide_eq_true_iff).2 hp65] at ha
          refine op_want (yields ha rfl rfl) ?_; refine op_g ha rfl (g_move rfl) ?_; clear ha a; intro a ha; refine op_want (yields ha rfl rfl) ?_; refine op_g ha rfl (g_move rfl) ?_; clear ha a; intro a ha; refine op_want (yields ha rfl rfl) ?_; obtain ⟨x66, g67, gx68, hF⟩ := idx_some hF
          obtain ⟨p69, cs70, f71, hf72, hpb73, hat74, hr75, hi76⟩ := ha0.at g67 gx68
          obtain ⟨rfl, hI77, rfl⟩ := hr75
          refine op_g ha rfl (hi76.gives sl31 rfl rfl) ?_; clear ha a; intro a ha; refine op_want (yields ha rfl rfl) ?_; refine op_g ha rfl (g_load0 hE29 Tryd.isAgg2 rfl hat74.one) ?_; clear ha a; intro a ha; refine op_want (yields ha rfl rfl) ?_; refine op_g ha rfl (g_move rfl) ?_; clear ha a; intro a ha; refine op_want (yields ha rfl rfl) ?_; refine op_g ha rfl (g64_and rfl rfl) ?_; clear ha a; intro a ha; refine op_want (yields ha rfl rfl) ?_; refine op_g ha rfl (g_neq rfl rfl) ?_; clear ha a; intro a ha; refine op_g ha rfl (g_pick rfl rfl) ?_; clear ha a; intro a ha; refine wpList_nil ?_; replace ha := ha.sub (σ' := [(0, va0), (1, (.int .i64 a1)), (5, (.int .i64 i27)), (19, va0), (20, (.int .i64 i27)), (21, (.pointer (some p69))), (22, (.int .i64 x66)), (23, (.int .i64 a1)), (24, (.int .i64 (i64and x66 a1))), (25, (.bool (decide ((i64and x66 a1) ≠ 0)))), (26, (.bool (decide ((i64and x66 a1) ≠ 0))))]) ⟨rfl, rfl, rfl, rfl, rfl, rfl, rfl, rfl, rfl, rfl, rfl, trivial⟩
          refine e_then ?_; refine c_cond ((i64and x66 a1) ≠ 0) ha rfl (decide_eq_true_iff) (fun hp78 => ?_) (fun hp78 => ?_)
          · replace hF := if_t hp78 hF
            refine wp_seq ?_; refine wp_region_lit ?_; refine op_g ha rfl (g_assign rfl) ?_; clear ha a; intro a ha; refine wpList_nil ?_; replace ha := ha.sub (σ' := [(4, (.bool false))]) ⟨rfl, trivial⟩; refine e_then ?_; refine wp_ret ?_; refine e_blk_ret ?_; refine e_then_ret ?_; refine e_lq_ret ?_; refine e_then_ret ?_; obtain rfl := Option.some.inj hF
            have e79 := LK_inr hN60; subst e79
            have e80 := BK_inr hK56; subst e80
            exact f_ret1 ha rfl rfl ⟨rfl, hE29⟩
          replace hF := if_f hp78 hF; refine wp_skip ?_; refine e_blk ?_; refine e_then ?_; refine wp_region_lit ?_; refine op_g ha rfl (g_move rfl) ?_; clear ha a; intro a ha; obtain ⟨hI81, hF⟩ := ck_some hF; refine op_g ha rfl (g_add rfl rfl hI81) ?_; clear ha a; intro a ha; refine op_g ha rfl (g_assign rfl) ?_; clear ha a; intro a ha; refine wpList_nil ?_; replace ha := ha.sub (σ' := [(0, va0), (1, (.int .i64 a1)), (5, (.int .i64 (i27 + 1))), (19, va0), (20, (.int .i64 i27)), (21, (.pointer (some p69))), (22, (.int .i64 x66)), (23, (.int .i64 a1)), (24, (.int .i64 (i64and x66 a1))), (25, (.bool (decide ((i64and x66 a1) ≠ 0))))]) ⟨rfl, rfl, rfl, rfl, rfl, rfl, rfl, rfl, rfl, rfl, trivial⟩
          refine e_lq ?_; obtain rfl := Option.some.inj hF
          exact ⟨_, Nat.lt_succ_self _, i27 + 1, ha.sub ⟨rfl, rfl, rfl, trivial⟩, hE29, hI81, hN60⟩
        replace hF := if_f hp65 hF
        rw [show (decide ((i64and (a1 / 2 ^ (i27 : Int).toNat) 1) = 1)) = false from b_false (decide_eq_true_iff) hp65] at ha
        (iterate 7 refine op_unwant ha rfl (yields ha rfl rfl) rfl ?_; clear ha a; intro a ha); refine op_g ha rfl (g_pick rfl rfl) ?_; clear ha a; intro a ha; refine wpList_nil ?_; replace ha := ha.sub (σ' := [(0, va0), (1, (.int .i64 a1)), (5, (.int .i64 i27)), (26, (.bool false))]) ⟨rfl, rfl, rfl, rfl, trivial⟩; refine e_then ?_; refine c_false ha rfl ?_; refine wp_skip ?_; refine e_blk ?_; refine e_then ?_; refine wp_region_lit ?_; refine op_g ha rfl (g_move rfl) ?_; clear ha a; intro a ha; obtain ⟨hI83, hF⟩ := ck_some hF; refine op_g ha rfl (g_add rfl rfl hI83) ?_; clear ha a; intro a ha; refine op_g ha rfl (g_assign rfl) ?_; clear ha a; intro a ha
        refine wpList_nil ?_; replace ha := ha.sub (σ' := [(0, va0), (1, (.int .i64 a1)), (5, (.int .i64 (i27 + 1)))]) ⟨rfl, rfl, rfl, trivial⟩; refine e_lq ?_; obtain rfl := Option.some.inj hF
        exact ⟨_, Nat.lt_succ_self _, i27 + 1, ha.sub ⟨rfl, rfl, rfl, trivial⟩, hE29, hI83, hN60⟩
      replace hF := if_f hp63 hF; refine wp_exit ?_; refine e_then_exit ?_; refine e_lq_eq ?_; obtain rfl := Option.some.inj hF
      exact ⟨ha.sub trivial, hE29, (LK_inr hN60).symm⟩
  rintro a w53 ⟨ha, hE59, rfl⟩
  have hF : F_spec_l25Stable_k2 = some _ := hK56; clear hK56; unfold F_spec_l25Stable_k2 at hF
  refine e_then ?_; refine wp_seq ?_; refine wp_region_lit ?_; refine op_g ha rfl (g_assign rfl) ?_; clear ha a; intro a ha; refine wpList_nil ?_; refine e_then ?_; refine wp_ret ?_; obtain rfl := Option.some.inj hF
  exact f_ret1 ha rfl rfl ⟨rfl, hE59⟩
set_option maxHeartbeats 2000000 in
theorem W_spec_l25Best {W : World} {va0_0 : Value} {fa0_0 : List Nat} {a0_0 : (List (List Int))} (ha0_0 : Ro (Rp.sl 2 Rp.int) W fa0_0 va0_0 a0_0) {a1 : Bool} {r : Int} (hF : F_spec_l25Best a0_0 a1 = some r) :
    Calls Tryd.prog 42 [.agg #[va0_0], .bool a1].toArray W (Ret fun u w' => (u = .int .i64 r ∧ InI r) ∧ Ext W w') := by
  refine f_enter Tryd.func42 rfl Tryd.ntmps42 rfl ?_
  intro a ha
  replace ha : Fr 53 [(0, (.agg #[va0_0])), (1, (.bool a1))] a := ha
  have hE : Chg [] W W := Chg.refl _ _
  unfold F_spec_l25Best at hF
  refine wp_seq ?_; refine wp_region_lit ?_
  refine o_box ha rfl rfl rfl ?_; clear ha a; intro b1 w2 hB3 hx4 hlo5 a ha
  have q6 := Zn.one hlo5
  have q7 := Zn.upD q6 hE
  have hE8 := Ext.trans hE hx4
  refine op_g ha rfl (g_assign rfl) ?_; clear ha a; intro a ha; refine wpList_nil ?_; replace ha := ha.sub (σ' := [(1, (.bool a1)), (2, (.pointer (some ⟨b1, 0, none⟩)))]) ⟨rfl, rfl, trivial⟩; refine e_then ?_; refine wp_seq ?_; refine wp_region_lit ?_; refine op_g ha rfl (g_loadA (cs := [va0_0]) Tryd.isAgg29 Tryd.sizeOf29 rfl (by simp) hB3.all) ?_; clear ha a; intro a ha; obtain ⟨x9, hc10, hF⟩ := cal_some hF
  refine o_call ha rfl rfl Tryd.call52 (W_spec_l25Bits (ha0_0.ext hE8) hc10) ?_; clear ha a; rintro v11 w12 ⟨b14, h15, z16, hx13⟩ a ha
  have q18 := Nq.new hB3.fpb z16
  have q19 := Nq.madeO z16 hB3.bi
  replace hB3 := hB3.ext hx13
  have hE20 := Ext.trans hE8 hx13
  have q21 := Zn.upD z16 hE8
  refine op_g ha rfl (g_assign rfl) ?_; clear ha a; intro a ha; refine wpList_nil ?_; replace ha := ha.sub (σ' := [(1, (.bool a1)), (2, (.pointer (some ⟨b1, 0, none⟩))), (5, v11)]) ⟨rfl, rfl, rfl, trivial⟩; refine e_then ?_; refine wp_seq ?_; refine wp_region_lit ?_; refine op_g ha rfl (g_assign rfl) ?_; clear ha a; intro a ha; refine wpList_nil ?_; replace ha := ha.sub (σ' := [(1, (.bool a1)), (2, (.pointer (some ⟨b1, 0, none⟩))), (5, v11), (6, (.int .i64 0))]) ⟨rfl, rfl, rfl, rfl, trivial⟩; refine e_then ?_; refine wp_seq ?_; refine wp_seq ?_; refine wp_region_lit ?_; refine op_g ha rfl (g_assign rfl) ?_; clear ha a; intro a ha
  refine wpList_nil ?_; replace ha := ha.sub (σ' := [(1, (.bool a1)), (2, (.pointer (some ⟨b1, 0, none⟩))), (5, v11), (6, (.int .i64 0)), (7, (.int .i64 0))]) ⟨rfl, rfl, rfl, rfl, rfl, trivial⟩; refine e_then ?_; obtain ⟨o376, ho377, hK378⟩ := bnd_some hF
  obtain ⟨n379, hn380⟩ := lp_some ho377; clear ho377
  refine c_loop (fun a w => ∃ (i374 : Int), Fr 53 [(6, (.int .i64 i374))] a ∧ Chg [] W w ∧ InI i374 ∧ o376 = .inl i374) (fun n a w => ∃ (t254 : Bool) (i260 : Int) (i262 : Int), Fr 53 [(1, (.bool t254)), (2, (.pointer (some ⟨b1, 0, none⟩))), (5, v11), (6, (.int .i64 i260)), (7, (.int .i64 i262))] a ∧ Chg [] W w ∧ InI i260 ∧ InI i262 ∧ Bx w b1 [va0_0] 29 ∧ Zn W (b1 : Int) ∧ Ow Rp.int 2 true w [] b14 v11 x9 ∧ Zn W b14 ∧ Nq ([b1]) b14 ∧ Nq (bl b14 ++ []) (b1 : Int) ∧ lpN (fun s => F_spec_l25Best_l1 a0_0 x9 s.1 s.2.1 s.2.2) n (t254, i260, i262) = some o376) n379 ⟨a1, 0, 0, ha.sub ⟨rfl, rfl, rfl, rfl, rfl, trivial⟩, hE20, (show InI 0 from by decide), (show InI 0 from by decide), hB3, q7, h15, q21, q18, q19, hn380⟩ ?_ ?_
  · rintro m384 a w253 ⟨t254, i260, i262, ha, hE266, hI261, hI263, hB255, z256, h258, z259, q264, q265, hF⟩
    cases m384 with
    | zero => exact (lpN_zero hF).elim
    | succ m384 =>
      obtain ⟨z383, hF, hN382⟩ := lpN_succ hF
      have hF : F_spec_l25Best_l1 a0_0 x9 t254 i260 i262 = some z383 := hF; unfold F_spec_l25Best_l1 at hF
      refine wp_seq ?_; refine wp_seq ?_; refine wp_region_lit ?_; refine op_g ha rfl (g_move rfl) ?_; clear ha a; intro a ha; refine op_g ha rfl (g_loadA (cs := [va0_0]) Tryd.isAgg29 Tryd.sizeOf29 rfl (by simp) hB255.all) ?_; clear ha a; intro a ha; obtain ⟨x385, hc386, hF⟩ := cal_some hF
      refine o_call ha rfl rfl Tryd.call54 (W_spec_l25All (ha0_0.ext hE266) hc386) ?_; clear ha a; rintro v387 w388 ⟨⟨rfl, hI390⟩, hx389⟩ a ha
      replace hB255 := hB255.ext hx389
      replace h258 := h258.ext hx389
      have hE391 := Ext.trans hE266 hx389
      refine op_g ha rfl (g_leq rfl rfl) ?_; clear ha a; intro a ha; refine wpList_nil ?_; replace ha := ha.sub (σ' := [(1, (.bool t254)), (2, (.pointer (some ⟨b1, 0, none⟩))), (5, v11), (6, (.int .i64 i260)), (7, (.int .i64 i262)), (15, (.bool (decide (i262 ≤ x385))))]) ⟨rfl, rfl, rfl, rfl, rfl, rfl, trivial⟩; refine e_then ?_; refine c_cond (i262 ≤ x385) ha rfl (decide_eq_true_iff) (fun hp392 => ?_) (fun hp392 => ?_)
      · replace hF := if_t hp392 hF
        refine wp_skip ?_; refine e_then ?_; refine wp_seq ?_; refine wp_block ?_; refine wp_seq ?_; refine wp_region_lit ?_; refine op_g ha rfl (g_move rfl) ?_; clear ha a; intro a ha; obtain ⟨x393, hc394, hF⟩ := cal_some hF
        refine o_call ha rfl rfl Tryd.call81 (W_spec_l25Many hI263 hc394) ?_; clear ha a; rintro v395 w396 ⟨⟨rfl, hI398⟩, hx397⟩ a ha
        replace hB255 := hB255.ext hx397
        replace h258 := h258.ext hx397
        have hE399 := Ext.trans hE391 hx397
        refine op_g ha rfl (g_assign rfl) ?_; clear ha a; intro a ha; refine wpList_nil ?_; replace ha := ha.sub (σ' := [(1, (.bool t254)), (2, (.pointer (some ⟨b1, 0, none⟩))), (5, v11), (6, (.int .i64 i260)), (7, (.int .i64 i262)), (8, (.int .i64 x393))]) ⟨rfl, rfl, rfl, rfl, rfl, rfl, trivial⟩; refine e_then ?_; refine wp_seq ?_; refine wp_region_lit ?_; refine op_g ha rfl (g_move rfl) ?_; clear ha a; intro a ha; obtain ⟨x400, hc401, hF⟩ := cal_some hF
        refine o_call ha rfl rfl Tryd.call81 (W_spec_l25Many hI261 hc401) ?_; clear ha a; rintro v402 w403 ⟨⟨rfl, hI405⟩, hx404⟩ a ha
        replace hB255 := hB255.ext hx404
        replace h258 := h258.ext hx404
        have hE406 := Ext.trans hE399 hx404
        refine op_g ha rfl (g_assign rfl) ?_; clear ha a; intro a ha; refine wpList_nil ?_; replace ha := ha.sub (σ' := [(1, (.bool t254)), (2, (.pointer (some ⟨b1, 0, none⟩))), (5, v11), (6, (.int .i64 i260)), (7, (.int .i64 i262)), (8, (.int .i64 x393)), (9, (.int .i64 x400))]) ⟨rfl, rfl, rfl, rfl, rfl, rfl, rfl, trivial⟩; refine e_then ?_; refine wp_seq ?_; refine wp_seq ?_; refine wp_region_lit ?_; (iterate 2 refine op_g ha rfl (g_move rfl) ?_; clear ha a; intro a ha); refine op_g ha rfl (g_lss rfl rfl) ?_; clear ha a; intro a ha; refine op_g ha rfl (g_move rfl) ?_; clear ha a; intro a ha
        by_cases hp407 : x393 < x400
        · replace hF := if_t hp407 hF
          rw [show (decide (x393 < x400)) = true from (decide_eq_true_iff).2 hp407] at ha
          (iterate 4 refine op_unwant ha rfl (yields ha rfl rfl) rfl ?_; clear ha a; intro a ha); (iterate 4 refine op_unwant0 ha rfl (yields0 ha rfl rfl) ?_; clear ha a; intro a ha); refine op_unwant ha rfl (yields ha rfl rfl) rfl ?_; clear ha a; intro a ha; refine op_g ha rfl (g_pick rfl rfl) ?_; clear ha a; intro a ha; refine wpList_nil ?_; replace ha := ha.sub (σ' := [(1, (.bool t254)), (2, (.pointer (some ⟨b1, 0, none⟩))), (5, v11), (6, (.int .i64 i260)), (7, (.int .i64 i262)), (35, (.bool true))]) ⟨rfl, rfl, rfl, rfl, rfl, rfl, trivial⟩; refine e_then ?_; refine c_true ha rfl ?_; refine wp_exit ?_
          refine e_then_exit ?_; refine e_blk_eq ?_; refine e_then ?_; refine wp_region_lit ?_; refine op_g ha rfl (g_move rfl) ?_; clear ha a; intro a ha; obtain ⟨hI408, hF⟩ := ck_some hF; refine op_g ha rfl (g_add rfl rfl hI408) ?_; clear ha a; intro a ha; refine op_g ha rfl (g_assign rfl) ?_; clear ha a; intro a ha; refine wpList_nil ?_; replace ha := ha.sub (σ' := [(1, (.bool t254)), (2, (.pointer (some ⟨b1, 0, none⟩))), (5, v11), (6, (.int .i64 i260)), (7, (.int .i64 (i262 + 1)))]) ⟨rfl, rfl, rfl, rfl, rfl, trivial⟩; refine e_lq ?_; obtain rfl := Option.some.inj hF
          exact ⟨_, Nat.lt_succ_self _, t254, i260, i262 + 1, ha.sub ⟨rfl, rfl, rfl, rfl, rfl, trivial⟩, hE406, hI261, hI408, hB255, z256, h258, z259, q264, q265, hN382⟩
        replace hF := if_f hp407 hF
        rw [show (decide (x393 < x400)) = false from b_false (decide_eq_true_iff) hp407] at ha
        refine op_want (yields ha rfl rfl) ?_; refine op_g ha rfl (g_move rfl) ?_; clear ha a; intro a ha; refine op_want (yields ha rfl rfl) ?_; refine op_g ha rfl (g_move rfl) ?_; clear ha a; intro a ha; refine op_want (yields ha rfl rfl) ?_; refine op_g ha rfl (g_eql rfl rfl) ?_; clear ha a; intro a ha; refine op_want (yields ha rfl rfl) ?_; refine op_g ha rfl (g_move rfl) ?_; clear ha a; intro a ha
        by_cases hp410 : x393 = x400
        · replace hF := if_t hp410 hF
          rw [show (decide (x393 = x400)) = true from (decide_eq_true_iff).2 hp410] at ha
          refine op_want (yields ha rfl rfl) ?_; refine op_g ha rfl (g_move rfl) ?_; clear ha a; intro a ha; refine op_want (yields ha rfl rfl) ?_; refine op_g ha rfl (g_move rfl) ?_; clear ha a; intro a ha; refine op_want (yields ha rfl rfl) ?_; obtain ⟨x411, hc412, hF⟩ := cal_some hF
          refine o_call ha rfl rfl Tryd.call82 (W_spec_l25Less hI263 hI261 hc412) ?_; clear ha a; rintro v413 w414 ⟨rfl, hx415⟩ a ha
          replace hB255 := hB255.ext hx415
          replace h258 := h258.ext hx415
          have hE416 := Ext.trans hE406 hx415
          refine op_want (yields ha rfl rfl) ?_; refine op_g ha rfl (g_not rfl) ?_; clear ha a; intro a ha; refine op_want (yields ha rfl rfl) ?_; (iterate 2 refine op_g ha rfl (g_pick rfl rfl) ?_; clear ha a; intro a ha); refine wpList_nil ?_; replace ha := ha.sub (σ' := [(1, (.bool t254)), (2, (.pointer (some ⟨b1, 0, none⟩))), (5, v11), (6, (.int .i64 i260)), (7, (.int .i64 i262)), (26, (.int .i64 x393)), (27, (.int .i64 x400)), (28, (.bool true)), (29, (.bool true)), (30, (.int .i64 i262)), (31, (.int .i64 i260)), (32, (.bool x411)), (33, (.bool (!x411))), (34, (.bool (!x411))), (35, (.bool (!x411)))]) ⟨rfl, rfl, rfl, rfl, rfl, rfl, rfl, rfl, rfl, rfl, rfl, rfl, rfl, rfl, rfl, trivial⟩
          refine e_then ?_; refine c_cond (¬ (x411 = true)) ha rfl (n_iff (Iff.rfl)) (fun hp417 => ?_) (fun hp417 => ?_)
          · replace hF := if_t hp417 hF
            refine wp_exit ?_; refine e_then_exit ?_; refine e_blk_eq ?_; refine e_then ?_; refine wp_region_lit ?_; refine op_g ha rfl (g_move rfl) ?_; clear ha a; intro a ha; obtain ⟨hI418, hF⟩ := ck_some hF; refine op_g ha rfl (g_add rfl rfl hI418) ?_; clear ha a; intro a ha; refine op_g ha rfl (g_assign rfl) ?_; clear ha a; intro a ha; refine wpList_nil ?_; replace ha := ha.sub (σ' := [(1, (.bool t254)), (2, (.pointer (some ⟨b1, 0, none⟩))), (5, v11), (6, (.int .i64 i260)), (7, (.int .i64 (i262 + 1))), (26, (.int .i64 x393)), (27, (.int .i64 x400)), (28, (.bool true)), (29, (.bool true)), (30, (.int .i64 i262)), (31, (.int .i64 i260)), (32, (.bool x411)), (33, (.bool (!x411))), (34, (.bool (!x411)))]) ⟨rfl, rfl, rfl, rfl, rfl, rfl, rfl, rfl, rfl, rfl, rfl, rfl, rfl, rfl, trivial⟩
            refine e_lq ?_; obtain rfl := Option.some.inj hF
            exact ⟨_, Nat.lt_succ_self _, t254, i260, i262 + 1, ha.sub ⟨rfl, rfl, rfl, rfl, rfl, trivial⟩, hE416, hI261, hI418, hB255, z256, h258, z259, q264, q265, hN382⟩
          replace hF := if_f hp417 hF; refine wp_skip ?_; refine e_then ?_; refine wp_seq ?_; refine wp_region_lit ?_; (iterate 2 refine op_g ha rfl (g_move rfl) ?_; clear ha a; intro a ha)
          by_cases hp420 : t254 = true
          · replace hF := if_t hp420 hF
            rw [show (t254) = true from (Iff.rfl).2 hp420] at ha
            refine op_want (yields ha rfl rfl) ?_; refine op_g ha rfl (g_move rfl) ?_; clear ha a; intro a ha; refine op_want (yields ha rfl rfl) ?_; refine op_g ha rfl (g_move rfl) ?_; clear ha a; intro a ha; refine op_want (yields ha rfl rfl) ?_
            obtain ⟨fp421, hro422, hs423⟩ := h258.roF
            obtain ⟨x424, hc425, hF⟩ := cal_some hF
            refine o_call ha rfl rfl Tryd.call83 (W_spec_l25Clique hro422 hI263 hc425) ?_; clear ha a; rintro v426 w427 ⟨rfl, hx428⟩ a ha
            replace hB255 := hB255.ext hx428
            replace h258 := h258.ext hx428
            have hE429 := Ext.trans hE416 hx428
            refine op_g ha rfl (g_pick rfl rfl) ?_; clear ha a; intro a ha; refine op_g ha rfl (g_move rfl) ?_; clear ha a; intro a ha
            by_cases hp430 : x424 = true
            · replace hF := if_t hp430 hF
              rw [show (x424) = true from (Iff.rfl).2 hp430] at ha
              (iterate 3 refine op_unwant ha rfl (yields ha rfl rfl) rfl ?_; clear ha a; intro a ha); (iterate 3 refine op_unwant0 ha rfl (yields0 ha rfl rfl) ?_; clear ha a; intro a ha); refine op_unwant ha rfl (yields ha rfl rfl) rfl ?_; clear ha a; intro a ha; refine op_g ha rfl (g_pick rfl rfl) ?_; clear ha a; intro a ha; refine wpList_nil ?_; replace ha := ha.sub (σ' := [(1, (.bool true)), (2, (.pointer (some ⟨b1, 0, none⟩))), (5, v11), (6, (.int .i64 i260)), (7, (.int .i64 i262)), (26, (.int .i64 x393)), (27, (.int .i64 x400)), (28, (.bool true)), (29, (.bool true)), (30, (.int .i64 i262)), (31, (.int .i64 i260)), (32, (.bool x411)), (33, (.bool (!x411))), (34, (.bool (!x411))), (38, v11), (39, (.int .i64 i262)), (40, (.bool true)), (50, (.bool true))]) ⟨rfl, rfl, rfl, rfl, rfl, rfl, rfl, rfl, rfl, rfl, rfl, rfl, rfl, rfl, rfl, rfl, rfl, rfl, trivial⟩
              refine e_then ?_; refine c_true ha rfl ?_; refine wp_region_lit ?_; refine op_g ha rfl (g_move rfl) ?_; clear ha a; intro a ha; refine op_g ha rfl (g_assign rfl) ?_; clear ha a; intro a ha; refine wpList_nil ?_; replace ha := ha.sub (σ' := [(1, (.bool true)), (2, (.pointer (some ⟨b1, 0, none⟩))), (5, v11), (6, (.int .i64 i262)), (7, (.int .i64 i262)), (26, (.int .i64 x393)), (27, (.int .i64 x400)), (28, (.bool true)), (29, (.bool true)), (30, (.int .i64 i262)), (31, (.int .i64 i260)), (32, (.bool x411)), (33, (.bool (!x411))), (34, (.bool (!x411))), (38, v11), (39, (.int .i64 i262)), (40, (.bool true))]) ⟨rfl, rfl, rfl, rfl, rfl, rfl, rfl, rfl, rfl, rfl, rfl, rfl, rfl, rfl, rfl, rfl, rfl, trivial⟩
              refine e_blk ?_; refine e_then ?_; refine wp_region_lit ?_; refine op_g ha rfl (g_move rfl) ?_; clear ha a; intro a ha; obtain ⟨hI431, hF⟩ := ck_some hF; refine op_g ha rfl (g_add rfl rfl hI431) ?_; clear ha a; intro a ha; refine op_g ha rfl (g_assign rfl) ?_; clear ha a; intro a ha; refine wpList_nil ?_; replace ha := ha.sub (σ' := [(1, (.bool true)), (2, (.pointer (some ⟨b1, 0, none⟩))), (5, v11), (6, (.int .i64 i262)), (7, (.int .i64 (i262 + 1))), (26, (.int .i64 x393)), (27, (.int .i64 x400)), (28, (.bool true)), (29, (.bool true)), (30, (.int .i64 i262)), (31, (.int .i64 i260)), (32, (.bool x411)), (33, (.bool (!x411))), (34, (.bool (!x411))), (38, v11), (39, (.int .i64 i262)), (40, (.bool true))]) ⟨rfl, rfl, rfl, rfl, rfl, rfl, rfl, rfl, rfl, rfl, rfl, rfl, rfl, rfl, rfl, rfl, rfl, trivial⟩
              refine e_lq ?_; obtain rfl := Option.some.inj hF
              exact ⟨_, Nat.lt_succ_self _, true, i262, i262 + 1, ha.sub ⟨rfl, rfl, rfl, rfl, rfl, trivial⟩, hE429, hI263, hI431, hB255, z256, h258, z259, q264, q265, hN382⟩
            replace hF := if_f hp430 hF
            rw [show (x424) = false from b_false (Iff.rfl) hp430] at ha
            refine op_want (yields ha rfl rfl) ?_; refine op_g ha rfl (g_move rfl) ?_; clear ha a; intro a ha; refine op_want (yields ha rfl rfl) ?_; refine op_g ha rfl (g_not rfl) ?_; clear ha a; intro a ha; refine op_want (yields ha rfl rfl) ?_; refine op_g ha rfl (g_move rfl) ?_; clear ha a; intro a ha; (iterate 3 refine op_unwant ha rfl (yields ha rfl rfl) rfl ?_; clear ha a; intro a ha); refine op_want (yields ha rfl rfl) ?_; (iterate 2 refine op_g ha rfl (g_pick rfl rfl) ?_; clear ha a; intro a ha); refine wpList_nil ?_; replace ha := ha.sub (σ' := [(1, (.bool true)), (2, (.pointer (some ⟨b1, 0, none⟩))), (5, v11), (6, (.int .i64 i260)), (7, (.int .i64 i262)), (26, (.int .i64 x393)), (27, (.int .i64 x400)), (28, (.bool true)), (29, (.bool true)), (30, (.int .i64 i262)), (31, (.int .i64 i260)), (32, (.bool x411)), (33, (.bool (!x411))), (34, (.bool (!x411))), (38, v11), (39, (.int .i64 i262)), (40, (.bool false)), (43, (.bool true)), (44, (.bool false)), (45, (.bool false)), (49, (.bool false)), (50, (.bool false))]) ⟨rfl, rfl, rfl, rfl, rfl, rfl, rfl, rfl, rfl, rfl, rfl, rfl, rfl, rfl, rfl, rfl, rfl, rfl, rfl, rfl, rfl, rfl, trivial⟩
            refine e_then ?_; refine c_false ha rfl ?_; refine wp_skip ?_; refine e_blk ?_; refine e_then ?_; refine wp_region_lit ?_; refine op_g ha rfl (g_move rfl) ?_; clear ha a; intro a ha; obtain ⟨hI433, hF⟩ := ck_some hF; refine op_g ha rfl (g_add rfl rfl hI433) ?_; clear ha a; intro a ha; refine op_g ha rfl (g_assign rfl) ?_; clear ha a; intro a ha; refine wpList_nil ?_; replace ha := ha.sub (σ' := [(1, (.bool true)), (2, (.pointer (some ⟨b1, 0, none⟩))), (5, v11), (6, (.int .i64 i260)), (7, (.int .i64 (i262 + 1))), (26, (.int .i64 x393)), (27, (.int .i64 x400)), (28, (.bool true)), (29, (.bool true)), (30, (.int .i64 i262)), (31, (.int .i64 i260)), (32, (.bool x411)), (33, (.bool (!x411))), (34, (.bool (!x411))), (38, v11), (39, (.int .i64 i262)), (40, (.bool false)), (43, (.bool true)), (44, (.bool false)), (45, (.bool false)), (49, (.bool false))]) ⟨rfl, rfl, rfl, rfl, rfl, rfl, rfl, rfl, rfl, rfl, rfl, rfl, rfl, rfl, rfl, rfl, rfl, rfl, rfl, rfl, rfl, trivial⟩
            refine e_lq ?_; obtain rfl := Option.some.inj hF
            exact ⟨_, Nat.lt_succ_self _, true, i260, i262 + 1, ha.sub ⟨rfl, rfl, rfl, rfl, rfl, trivial⟩, hE429, hI261, hI433, hB255, z256, h258, z259, q264, q265, hN382⟩
          replace hF := if_f hp420 hF
          rw [show (t254) = false from b_false (Iff.rfl) hp420] at ha
          (iterate 3 refine op_unwant ha rfl (yields ha rfl rfl) rfl ?_; clear ha a; intro a ha); refine op_g ha rfl (g_pick rfl rfl) ?_; clear ha a; intro a ha; refine op_g ha rfl (g_move rfl) ?_; clear ha a; intro a ha; refine op_want (yields ha rfl rfl) ?_; refine op_g ha rfl (g_move rfl) ?_; clear ha a; intro a ha; refine op_want (yields ha rfl rfl) ?_; refine op_g ha rfl (g_not rfl) ?_; clear ha a; intro a ha; refine op_want (yields ha rfl rfl) ?_; refine op_g ha rfl (g_move rfl) ?_; clear ha a; intro a ha; refine op_want (yields ha rfl rfl) ?_; refine op_g ha rfl (g_move rfl) ?_; clear ha a; intro a ha
          refine op_want (yields ha rfl rfl) ?_; refine op_g ha rfl (g_move rfl) ?_; clear ha a; intro a ha; refine op_want (yields ha rfl rfl) ?_
          obtain ⟨fp435, hro436, hs437⟩ := h258.roF
          obtain ⟨x438, hc439, hF⟩ := cal_some hF
          refine o_call ha rfl rfl Tryd.call84 (W_spec_l25Stable hro436 hI263 hc439) ?_; clear ha a; rintro v440 w441 ⟨rfl, hx442⟩ a ha
          replace hB255 := hB255.ext hx442
          replace h258 := h258.ext hx442
          have hE443 := Ext.trans hE416 hx442
          refine op_want (yields ha rfl rfl) ?_; (iterate 2 refine op_g ha rfl (g_pick rfl rfl) ?_; clear ha a; intro a ha); refine wpList_nil ?_; replace ha := ha.sub (σ' := [(1, (.bool false)), (2, (.pointer (some ⟨b1, 0, none⟩))), (5, v11), (6, (.int .i64 i260)), (7, (.int .i64 i262)), (26, (.int .i64 x393)), (27, (.int .i64 x400)), (28, (.bool true)), (29, (.bool true)), (30, (.int .i64 i262)), (31, (.int .i64 i260)), (32, (.bool x411)), (33, (.bool (!x411))), (34, (.bool (!x411))), (43, (.bool false)), (44, (.bool true)), (45, (.bool true)), (46, v11), (47, (.int .i64 i262)), (48, (.bool x438)), (49, (.bool x438)), (50, (.bool x438))]) ⟨rfl, rfl, rfl, rfl, rfl, rfl, rfl, rfl, rfl, rfl, rfl, rfl, rfl, rfl, rfl, rfl, rfl, rfl, rfl, rfl, rfl, rfl, trivial⟩
          refine e_then ?_; refine c_cond (x438 = true) ha rfl (Iff.rfl) (fun hp444 => ?_) (fun hp444 => ?_)
          · replace hF := if_t hp444 hF
            refine wp_region_lit ?_; refine op_g ha rfl (g_move rfl) ?_; clear ha a; intro a ha; refine op_g ha rfl (g_assign rfl) ?_; clear ha a; intro a ha; refine wpList_nil ?_; replace ha := ha.sub (σ' := [(1, (.bool false)), (2, (.pointer (some ⟨b1, 0, none⟩))), (5, v11), (6, (.int .i64 i262)), (7, (.int .i64 i262)), (26, (.int .i64 x393)), (27, (.int .i64 x400)), (28, (.bool true)), (29, (.bool true)), (30, (.int .i64 i262)), (31, (.int .i64 i260)), (32, (.bool x411)), (33, (.bool (!x411))), (34, (.bool (!x411))), (43, (.bool false)), (44, (.bool true)), (45, (.bool true)), (46, v11), (47, (.int .i64 i262)), (48, (.bool x438)), (49, (.bool x438))]) ⟨rfl, rfl, rfl, rfl, rfl, rfl, rfl, rfl, rfl, rfl, rfl, rfl, rfl, rfl, rfl, rfl, rfl, rfl, rfl, rfl, rfl, trivial⟩
            refine e_blk ?_; refine e_then ?_; refine wp_region_lit ?_; refine op_g ha rfl (g_move rfl) ?_; clear ha a; intro a ha; obtain ⟨hI445, hF⟩ := ck_some hF; refine op_g ha rfl (g_add rfl rfl hI445) ?_; clear ha a; intro a ha; refine op_g ha rfl (g_assign rfl) ?_; clear ha a; intro a ha; refine wpList_nil ?_; replace ha := ha.sub (σ' := [(1, (.bool false)), (2, (.pointer (some ⟨b1, 0, none⟩))), (5, v11), (6, (.int .i64 i262)), (7, (.int .i64 (i262 + 1))), (26, (.int .i64 x393)), (27, (.int .i64 x400)), (28, (.bool true)), (29, (.bool true)), (30, (.int .i64 i262)), (31, (.int .i64 i260)), (32, (.bool x411)), (33, (.bool (!x411))), (34, (.bool (!x411))), (43, (.bool false)), (44, (.bool true)), (45, (.bool true)), (46, v11), (47, (.int .i64 i262)), (48, (.bool x438)), (49, (.bool x438))]) ⟨rfl, rfl, rfl, rfl, rfl, rfl, rfl, rfl, rfl, rfl, rfl, rfl, rfl, rfl, rfl, rfl, rfl, rfl, rfl, rfl, rfl, trivial⟩
            refine e_lq ?_; obtain rfl := Option.some.inj hF
            exact ⟨_, Nat.lt_succ_self _, false, i262, i262 + 1, ha.sub ⟨rfl, rfl, rfl, rfl, rfl, trivial⟩, hE443, hI263, hI445, hB255, z256, h258, z259, q264, q265, hN382⟩
          replace hF := if_f hp444 hF; refine wp_skip ?_; refine e_blk ?_; refine e_then ?_; refine wp_region_lit ?_; refine op_g ha rfl (g_move rfl) ?_; clear ha a; intro a ha; obtain ⟨hI447, hF⟩ := ck_some hF; refine op_g ha rfl (g_add rfl rfl hI447) ?_; clear ha a; intro a ha; refine op_g ha rfl (g_assign rfl) ?_; clear ha a; intro a ha; refine wpList_nil ?_; replace ha := ha.sub (σ' := [(1, (.bool false)), (2, (.pointer (some ⟨b1, 0, none⟩))), (5, v11), (6, (.int .i64 i260)), (7, (.int .i64 (i262 + 1))), (26, (.int .i64 x393)), (27, (.int .i64 x400)), (28, (.bool true)), (29, (.bool true)), (30, (.int .i64 i262)), (31, (.int .i64 i260)), (32, (.bool x411)), (33, (.bool (!x411))), (34, (.bool (!x411))), (43, (.bool false)), (44, (.bool true)), (45, (.bool true)), (46, v11), (47, (.int .i64 i262)), (48, (.bool x438)), (49, (.bool x438))]) ⟨rfl, rfl, rfl, rfl, rfl, rfl, rfl, rfl, rfl, rfl, rfl, rfl, rfl, rfl, rfl, rfl, rfl, rfl, rfl, rfl, rfl, trivial⟩
          refine e_lq ?_; obtain rfl := Option.some.inj hF
          exact ⟨_, Nat.lt_succ_self _, false, i260, i262 + 1, ha.sub ⟨rfl, rfl, rfl, rfl, rfl, trivial⟩, hE443, hI261, hI447, hB255, z256, h258, z259, q264, q265, hN382⟩
        replace hF := if_f hp410 hF
        rw [show (decide (x393 = x400)) = false from b_false (decide_eq_true_iff) hp410] at ha
        (iterate 4 refine op_unwant ha rfl (yields ha rfl rfl) rfl ?_; clear ha a; intro a ha); refine op_want (yields ha rfl rfl) ?_; (iterate 2 refine op_g ha rfl (g_pick rfl rfl) ?_; clear ha a; intro a ha); refine wpList_nil ?_; replace ha := ha.sub (σ' := [(1, (.bool t254)), (2, (.pointer (some ⟨b1, 0, none⟩))), (5, v11), (6, (.int .i64 i260)), (7, (.int .i64 i262)), (26, (.int .i64 x393)), (27, (.int .i64 x400)), (28, (.bool false)), (29, (.bool false)), (34, (.bool false)), (35, (.bool false))]) ⟨rfl, rfl, rfl, rfl, rfl, rfl, rfl, rfl, rfl, rfl, rfl, trivial⟩; refine e_then ?_; refine c_false ha rfl ?_
        refine wp_skip ?_; refine e_then ?_; refine wp_seq ?_; refine wp_region_lit ?_; (iterate 2 refine op_g ha rfl (g_move rfl) ?_; clear ha a; intro a ha)
        by_cases hp449 : t254 = true
        · replace hF := if_t hp449 hF
          rw [show (t254) = true from (Iff.rfl).2 hp449] at ha
          refine op_want (yields ha rfl rfl) ?_; refine op_g ha rfl (g_move rfl) ?_; clear ha a; intro a ha; refine op_want (yields ha rfl rfl) ?_; refine op_g ha rfl (g_move rfl) ?_; clear ha a; intro a ha; refine op_want (yields ha rfl rfl) ?_
          obtain ⟨fp450, hro451, hs452⟩ := h258.roF
          obtain ⟨x453, hc454, hF⟩ := cal_some hF
          refine o_call ha rfl rfl Tryd.call83 (W_spec_l25Clique hro451 hI263 hc454) ?_; clear ha a; rintro v455 w456 ⟨rfl, hx457⟩ a ha
          replace hB255 := hB255.ext hx457
          replace h258 := h258.ext hx457
          have hE458 := Ext.trans hE406 hx457
          refine op_g ha rfl (g_pick rfl rfl) ?_; clear ha a; intro a ha; refine op_g ha rfl (g_move rfl) ?_; clear ha a; intro a ha
          by_cases hp459 : x453 = true
          · replace hF := if_t hp459 hF
            rw [show (x453) = true from (Iff.rfl).2 hp459] at ha
            (iterate 3 refine op_unwant ha rfl (yields ha rfl rfl) rfl ?_; clear ha a; intro a ha); (iterate 3 refine op_unwant0 ha rfl (yields0 ha rfl rfl) ?_; clear ha a; intro a ha); refine op_unwant ha rfl (yields ha rfl rfl) rfl ?_; clear ha a; intro a ha; refine op_g ha rfl (g_pick rfl rfl) ?_; clear ha a; intro a ha; refine wpList_nil ?_; replace ha := ha.sub (σ' := [(1, (.bool true)), (2, (.pointer (some ⟨b1, 0, none⟩))), (5, v11), (6, (.int .i64 i260)), (7, (.int .i64 i262)), (26, (.int .i64 x393)), (27, (.int .i64 x400)), (28, (.bool false)), (29, (.bool false)), (34, (.bool false)), (38, v11), (39, (.int .i64 i262)), (40, (.bool true)), (50, (.bool true))]) ⟨rfl, rfl, rfl, rfl, rfl, rfl, rfl, rfl, rfl, rfl, rfl, rfl, rfl, rfl, trivial⟩
            refine e_then ?_; refine c_true ha rfl ?_; refine wp_region_lit ?_; refine op_g ha rfl (g_move rfl) ?_; clear ha a; intro a ha; refine op_g ha rfl (g_assign rfl) ?_; clear ha a; intro a ha; refine wpList_nil ?_; replace ha := ha.sub (σ' := [(1, (.bool true)), (2, (.pointer (some ⟨b1, 0, none⟩))), (5, v11), (6, (.int .i64 i262)), (7, (.int .i64 i262)), (26, (.int .i64 x393)), (27, (.int .i64 x400)), (28, (.bool false)), (29, (.bool false)), (34, (.bool false)), (38, v11), (39, (.int .i64 i262)), (40, (.bool true))]) ⟨rfl, rfl, rfl, rfl, rfl, rfl, rfl, rfl, rfl, rfl, rfl, rfl, rfl, trivial⟩
            refine e_blk ?_; refine e_then ?_; refine wp_region_lit ?_; refine op_g ha rfl (g_move rfl) ?_; clear ha a; intro a ha; obtain ⟨hI460, hF⟩ := ck_some hF; refine op_g ha rfl (g_add rfl rfl hI460) ?_; clear ha a; intro a ha; refine op_g ha rfl (g_assign rfl) ?_; clear ha a; intro a ha; refine wpList_nil ?_; replace ha := ha.sub (σ' := [(1, (.bool true)), (2, (.pointer (some ⟨b1, 0, none⟩))), (5, v11), (6, (.int .i64 i262)), (7, (.int .i64 (i262 + 1))), (26, (.int .i64 x393)), (27, (.int .i64 x400)), (28, (.bool false)), (29, (.bool false)), (34, (.bool false)), (38, v11), (39, (.int .i64 i262)), (40, (.bool true))]) ⟨rfl, rfl, rfl, rfl, rfl, rfl, rfl, rfl, rfl, rfl, rfl, rfl, rfl, trivial⟩
            refine e_lq ?_; obtain rfl := Option.some.inj hF
            exact ⟨_, Nat.lt_succ_self _, true, i262, i262 + 1, ha.sub ⟨rfl, rfl, rfl, rfl, rfl, trivial⟩, hE458, hI263, hI460, hB255, z256, h258, z259, q264, q265, hN382⟩
          replace hF := if_f hp459 hF
          rw [show (x453) = false from b_false (Iff.rfl) hp459] at ha
          refine op_want (yields ha rfl rfl) ?_; refine op_g ha rfl (g_move rfl) ?_; clear ha a; intro a ha; refine op_want (yields ha rfl rfl) ?_; refine op_g ha rfl (g_not rfl) ?_; clear ha a; intro a ha; refine op_want (yields ha rfl rfl) ?_; refine op_g ha rfl (g_move rfl) ?_; clear ha a; intro a ha; (iterate 3 refine op_unwant ha rfl (yields ha rfl rfl) rfl ?_; clear ha a; intro a ha); refine op_want (yields ha rfl rfl) ?_; (iterate 2 refine op_g ha rfl (g_pick rfl rfl) ?_; clear ha a; intro a ha); refine wpList_nil ?_; replace ha := ha.sub (σ' := [(1, (.bool true)), (2, (.pointer (some ⟨b1, 0, none⟩))), (5, v11), (6, (.int .i64 i260)), (7, (.int .i64 i262)), (26, (.int .i64 x393)), (27, (.int .i64 x400)), (28, (.bool false)), (29, (.bool false)), (34, (.bool false)), (38, v11), (39, (.int .i64 i262)), (40, (.bool false)), (43, (.bool true)), (44, (.bool false)), (45, (.bool false)), (49, (.bool false)), (50, (.bool false))]) ⟨rfl, rfl, rfl, rfl, rfl, rfl, rfl, rfl, rfl, rfl, rfl, rfl, rfl, rfl, rfl, rfl, rfl, rfl, trivial⟩
          refine e_then ?_; refine c_false ha rfl ?_; refine wp_skip ?_; refine e_blk ?_; refine e_then ?_; refine wp_region_lit ?_; refine op_g ha rfl (g_move rfl) ?_; clear ha a; intro a ha; obtain ⟨hI462, hF⟩ := ck_some hF; refine op_g ha rfl (g_add rfl rfl hI462) ?_; clear ha a; intro a ha; refine op_g ha rfl (g_assign rfl) ?_; clear ha a; intro a ha; refine wpList_nil ?_; replace ha := ha.sub (σ' := [(1, (.bool true)), (2, (.pointer (some ⟨b1, 0, none⟩))), (5, v11), (6, (.int .i64 i260)), (7, (.int .i64 (i262 + 1))), (26, (.int .i64 x393)), (27, (.int .i64 x400)), (28, (.bool false)), (29, (.bool false)), (34, (.bool false)), (38, v11), (39, (.int .i64 i262)), (40, (.bool false)), (43, (.bool true)), (44, (.bool false)), (45, (.bool false)), (49, (.bool false))]) ⟨rfl, rfl, rfl, rfl, rfl, rfl, rfl, rfl, rfl, rfl, rfl, rfl, rfl, rfl, rfl, rfl, rfl, trivial⟩
          refine e_lq ?_; obtain rfl := Option.some.inj hF
          exact ⟨_, Nat.lt_succ_self _, true, i260, i262 + 1, ha.sub ⟨rfl, rfl, rfl, rfl, rfl, trivial⟩, hE458, hI261, hI462, hB255, z256, h258, z259, q264, q265, hN382⟩
        replace hF := if_f hp449 hF
        rw [show (t254) = false from b_false (Iff.rfl) hp449] at ha
        (iterate 3 refine op_unwant ha rfl (yields ha rfl rfl) rfl ?_; clear ha a; intro a ha); refine op_g ha rfl (g_pick rfl rfl) ?_; clear ha a; intro a ha; refine op_g ha rfl (g_move rfl) ?_; clear ha a; intro a ha; refine op_want (yields ha rfl rfl) ?_; refine op_g ha rfl (g_move rfl) ?_; clear ha a; intro a ha; refine op_want (yields ha rfl rfl) ?_; refine op_g ha rfl (g_not rfl) ?_; clear ha a; intro a ha; refine op_want (yields ha rfl rfl) ?_; refine op_g ha rfl (g_move rfl) ?_; clear ha a; intro a ha; refine op_want (yields ha rfl rfl) ?_; refine op_g ha rfl (g_move rfl) ?_; clear ha a; intro a ha
        refine op_want (yields ha rfl rfl) ?_; refine op_g ha rfl (g_move rfl) ?_; clear ha a; intro a ha; refine op_want (yields ha rfl rfl) ?_
        obtain ⟨fp464, hro465, hs466⟩ := h258.roF
        obtain ⟨x467, hc468, hF⟩ := cal_some hF
        refine o_call ha rfl rfl Tryd.call84 (W_spec_l25Stable hro465 hI263 hc468) ?_; clear ha a; rintro v469 w470 ⟨rfl, hx471⟩ a ha
        replace hB255 := hB255.ext hx471
        replace h258 := h258.ext hx471
        have hE472 := Ext.trans hE406 hx471
        refine op_want (yields ha rfl rfl) ?_; (iterate 2 refine op_g ha rfl (g_pick rfl rfl) ?_; clear ha a; intro a ha); refine wpList_nil ?_; replace ha := ha.sub (σ' := [(1, (.bool false)), (2, (.pointer (some ⟨b1, 0, none⟩))), (5, v11), (6, (.int .i64 i260)), (7, (.int .i64 i262)), (26, (.int .i64 x393)), (27, (.int .i64 x400)), (28, (.bool false)), (29, (.bool false)), (34, (.bool false)), (43, (.bool false)), (44, (.bool true)), (45, (.bool true)), (46, v11), (47, (.int .i64 i262)), (48, (.bool x467)), (49, (.bool x467)), (50, (.bool x467))]) ⟨rfl, rfl, rfl, rfl, rfl, rfl, rfl, rfl, rfl, rfl, rfl, rfl, rfl, rfl, rfl, rfl, rfl, rfl, trivial⟩
        refine e_then ?_; refine c_cond (x467 = true) ha rfl (Iff.rfl) (fun hp473 => ?_) (fun hp473 => ?_)
        · replace hF := if_t hp473 hF
          refine wp_region_lit ?_; refine op_g ha rfl (g_move rfl) ?_; clear ha a; intro a ha; refine op_g ha rfl (g_assign rfl) ?_; clear ha a; intro a ha; refine wpList_nil ?_; replace ha := ha.sub (σ' := [(1, (.bool false)), (2, (.pointer (some ⟨b1, 0, none⟩))), (5, v11), (6, (.int .i64 i262)), (7, (.int .i64 i262)), (26, (.int .i64 x393)), (27, (.int .i64 x400)), (28, (.bool false)), (29, (.bool false)), (34, (.bool false)), (43, (.bool false)), (44, (.bool true)), (45, (.bool true)), (46, v11), (47, (.int .i64 i262)), (48, (.bool x467)), (49, (.bool x467))]) ⟨rfl, rfl, rfl, rfl, rfl, rfl, rfl, rfl, rfl, rfl, rfl, rfl, rfl, rfl, rfl, rfl, rfl, trivial⟩
          refine e_blk ?_; refine e_then ?_; refine wp_region_lit ?_; refine op_g ha rfl (g_move rfl) ?_; clear ha a; intro a ha; obtain ⟨hI474, hF⟩ := ck_some hF; refine op_g ha rfl (g_add rfl rfl hI474) ?_; clear ha a; intro a ha; refine op_g ha rfl (g_assign rfl) ?_; clear ha a; intro a ha; refine wpList_nil ?_; replace ha := ha.sub (σ' := [(1, (.bool false)), (2, (.pointer (some ⟨b1, 0, none⟩))), (5, v11), (6, (.int .i64 i262)), (7, (.int .i64 (i262 + 1))), (26, (.int .i64 x393)), (27, (.int .i64 x400)), (28, (.bool false)), (29, (.bool false)), (34, (.bool false)), (43, (.bool false)), (44, (.bool true)), (45, (.bool true)), (46, v11), (47, (.int .i64 i262)), (48, (.bool x467)), (49, (.bool x467))]) ⟨rfl, rfl, rfl, rfl, rfl, rfl, rfl, rfl, rfl, rfl, rfl, rfl, rfl, rfl, rfl, rfl, rfl, trivial⟩
          refine e_lq ?_; obtain rfl := Option.some.inj hF
          exact ⟨_, Nat.lt_succ_self _, false, i262, i262 + 1, ha.sub ⟨rfl, rfl, rfl, rfl, rfl, trivial⟩, hE472, hI263, hI474, hB255, z256, h258, z259, q264, q265, hN382⟩
        replace hF := if_f hp473 hF; refine wp_skip ?_; refine e_blk ?_; refine e_then ?_; refine wp_region_lit ?_; refine op_g ha rfl (g_move rfl) ?_; clear ha a; intro a ha; obtain ⟨hI476, hF⟩ := ck_some hF; refine op_g ha rfl (g_add rfl rfl hI476) ?_; clear ha a; intro a ha; refine op_g ha rfl (g_assign rfl) ?_; clear ha a; intro a ha; refine wpList_nil ?_; replace ha := ha.sub (σ' := [(1, (.bool false)), (2, (.pointer (some ⟨b1, 0, none⟩))), (5, v11), (6, (.int .i64 i260)), (7, (.int .i64 (i262 + 1))), (26, (.int .i64 x393)), (27, (.int .i64 x400)), (28, (.bool false)), (29, (.bool false)), (34, (.bool false)), (43, (.bool false)), (44, (.bool true)), (45, (.bool true)), (46, v11), (47, (.int .i64 i262)), (48, (.bool x467)), (49, (.bool x467))]) ⟨rfl, rfl, rfl, rfl, rfl, rfl, rfl, rfl, rfl, rfl, rfl, rfl, rfl, rfl, rfl, rfl, rfl, trivial⟩
        refine e_lq ?_; obtain rfl := Option.some.inj hF
        exact ⟨_, Nat.lt_succ_self _, false, i260, i262 + 1, ha.sub ⟨rfl, rfl, rfl, rfl, rfl, trivial⟩, hE472, hI261, hI476, hB255, z256, h258, z259, q264, q265, hN382⟩
      replace hF := if_f hp392 hF; refine wp_exit ?_; refine e_then_exit ?_; refine e_lq_eq ?_; obtain rfl := Option.some.inj hF
      exact ⟨i260, ha.sub ⟨rfl, trivial⟩, hE391, hI261, (LK_inr hN382).symm⟩
  rintro a w373 ⟨i374, ha, hE381, hI375, rfl⟩
  have hF : F_spec_l25Best_k2 i374 = some _ := hK378; clear hK378; unfold F_spec_l25Best_k2 at hF
  refine e_then ?_; refine wp_seq ?_; refine wp_region_lit ?_; refine op_g ha rfl (g_move rfl) ?_; clear ha a; intro a ha; refine op_g ha rfl (g_assign rfl) ?_; clear ha a; intro a ha; refine wpList_nil ?_; replace ha := ha.sub (σ' := [(4, (.int .i64 i374))]) ⟨rfl, trivial⟩; refine e_then ?_; refine wp_ret ?_; obtain rfl := Option.some.inj hF
  exact f_ret1 ha rfl rfl ⟨⟨rfl, hI375⟩, hE381⟩
set_option maxHeartbeats 2000000 in
theorem W_spec_l25Set {W : World} {a0 : Int} (ha0 : InI a0) {r : (List Int)} (hF : F_spec_l25Set a0 = some r) :
    Calls Tryd.prog 41 [.int .i64 a0].toArray W (Ret fun u w' => ∃ (b_u : Int), Ow Rp.int 2 true w' [] b_u u r ∧ Zn W b_u ∧ Ext W w') := by
  refine f_enter Tryd.func41 rfl Tryd.ntmps41 rfl ?_
  intro a ha
  replace ha : Fr 24 [(0, (.int .i64 a0))] a := ha
  have hE : Chg [] W W := Chg.refl _ _
  unfold F_spec_l25Set at hF
  refine wp_seq ?_; refine wp_region_lit ?_; refine op_g ha rfl (g_assign rfl) ?_; clear ha a; intro a ha; refine wpList_nil ?_; replace ha := ha.sub (σ' := [(0, (.int .i64 a0))]) ⟨rfl, trivial⟩; refine e_then ?_; refine wp_seq ?_; refine wp_region_lit ?_
  refine o_lit0 Rp.int ha rfl sl31 ?_; clear ha a; intro v1 w2 h3 hx4 a ha
  obtain ⟨b6, hb6⟩ : ∃ b : Int, b = W.heap.size := ⟨_, rfl⟩; rw [← hb6] at h3
  have q7 := zn_of hb6
  have q8 := Zn.upD q7 hE
  have hE9 := Ext.trans hE hx4
  refine op_g ha rfl (g_assign rfl) ?_; clear ha a; intro a ha; refine wpList_nil ?_; replace ha := ha.sub (σ' := [(0, (.int .i64 a0)), (3, v1)]) ⟨rfl, rfl, trivial⟩; refine e_then ?_; refine wp_seq ?_; refine wp_seq ?_; refine wp_region_lit ?_; refine op_g ha rfl (g_assign rfl) ?_; clear ha a; intro a ha; refine wpList_nil ?_; refine e_then ?_; obtain ⟨o112, ho113, hK114⟩ := bnd_some hF
  obtain ⟨n115, hn116⟩ := lp_some ho113; clear ho113
  refine c_loop (fun a w => ∃ (l109 : (List Int)) (v110 : Value) (b111 : Int), Fr 24 [(3, v110)] a ∧ Chg [] W w ∧ Ow Rp.int 2 true w [] b111 v110 l109 ∧ Zn W b111 ∧ o112 = .inl l109) (fun n a w => ∃ (l59 : (List Int)) (i62 : Int) (v60 : Value) (b61 : Int), Fr 24 [(0, (.int .i64 a0)), (3, v60), (4, (.int .i64 i62))] a ∧ Chg [] W w ∧ InI i62 ∧ Ow Rp.int 2 true w [] b61 v60 l59 ∧ Zn W b61 ∧ lpN (fun s => F_spec_l25Set_l1 a0 s.1 s.2) n (l59, i62) = some o112) n115 ⟨([] : (List Int)), 0, v1, b6, ha.sub ⟨rfl, rfl, rfl, trivial⟩, hE9, (show InI 0 from by decide), h3, q8, hn116⟩ ?_ ?_
  · rintro m120 a w55 ⟨l59, i62, v60, b61, ha, hE64, hI63, h57, z58, hF⟩
    cases m120 with
    | zero => exact (lpN_zero hF).elim
    | succ m120 =>
      obtain ⟨z119, hF, hN118⟩ := lpN_succ hF
      have hF : F_spec_l25Set_l1 a0 l59 i62 = some z119 := hF; unfold F_spec_l25Set_l1 at hF
      refine wp_seq ?_; refine wp_seq ?_; refine wp_region_lit ?_; (iterate 2 refine op_g ha rfl (g_move rfl) ?_; clear ha a; intro a ha); obtain ⟨h0121, hF⟩ := grd_some hF; refine op_g ha rfl (g_conv6u un2 un73 rfl hI63 h0121) ?_; clear ha a; intro a ha; refine op_g ha rfl (g64_shr rfl rfl ha0 (inU_of hI63 h0121).1) ?_; clear ha a; intro a ha; refine op_g ha rfl (g_gtr rfl rfl) ?_; clear ha a; intro a ha; refine wpList_nil ?_; replace ha := ha.sub (σ' := [(0, (.int .i64 a0)), (3, v60), (4, (.int .i64 i62)), (10, (.bool (decide (0 < (a0 / 2 ^ (i62 : Int).toNat)))))]) ⟨rfl, rfl, rfl, rfl, trivial⟩
      refine e_then ?_; refine c_cond (0 < (a0 / 2 ^ (i62 : Int).toNat)) ha rfl (decide_eq_true_iff) (fun hp122 => ?_) (fun hp122 => ?_)
      · replace hF := if_t hp122 hF
        refine wp_skip ?_; refine e_then ?_; refine wp_seq ?_; refine wp_block ?_; refine wp_seq ?_; refine wp_region_lit ?_; (iterate 2 refine op_g ha rfl (g_move rfl) ?_; clear ha a; intro a ha); obtain ⟨h0123, hF⟩ := grd_some hF; refine op_g ha rfl (g_conv6u un2 un73 rfl hI63 h0123) ?_; clear ha a; intro a ha; refine op_g ha rfl (g64_shr rfl rfl ha0 (inU_of hI63 h0123).1) ?_; clear ha a; intro a ha; refine op_g ha rfl (g64_and rfl rfl) ?_; clear ha a; intro a ha; refine op_g ha rfl (g_eql rfl rfl) ?_; clear ha a; intro a ha; refine wpList_nil ?_; replace ha := ha.sub (σ' := [(0, (.int .i64 a0)), (3, v60), (4, (.int .i64 i62)), (18, (.bool (decide ((i64and (a0 / 2 ^ (i62 : Int).toNat) 1) = 1))))]) ⟨rfl, rfl, rfl, rfl, trivial⟩
        refine e_then ?_; refine c_cond ((i64and (a0 / 2 ^ (i62 : Int).toNat) 1) = 1) ha rfl (decide_eq_true_iff) (fun hp124 => ?_) (fun hp124 => ?_)
        · replace hF := if_t hp124 hF
          refine wp_region_lit ?_; (iterate 2 refine op_g ha rfl (g_move rfl) ?_; clear ha a; intro a ha)
          refine o_lit1 (o := true) (y := i62) Rp.int ha rfl sl31 rfl rfl rfl ⟨rfl, hI63, rfl⟩ ?_; clear ha a; intro v125 w126 h127 hx128 a ha
          obtain ⟨b130, hb130⟩ : ∃ b : Int, b = w55.heap.size := ⟨_, rfl⟩; rw [← hb130] at h127
          have q131 := zn_of hb130
          have q132 := Nq.new h57.fpb q131
          have q133 := Nq.madeO q131 h57.blt
          have q134 := Zn.upD q131 hE64
          replace h57 := h57.ext hx128
          have hE135 := Ext.trans hE64 hx128
          obtain ⟨hl136, hF⟩ := app_some hF
          refine o_append ha rfl sl31 rfl rfl rfl h57 h127.src (Nq.nil _) hl136 ?_; clear ha a; intro v137 w138 b139 h140 hc141 hb142 a ha
          replace h140 : Ow Rp.int 2 true w138 [] b139 v137 _ := h140
          have q144 := Nq.appY q133 h127.fpb hb142
          have q145 := Nq.appX q132 (Nq.nil _) hb142 h127.blt
          have q146 := Zn.appD z58 hb142 hE135
          replace h127 := h127.nq hc141 q133
          have hE147 := Ext.then hE135 hc141 (Zn.bl z58)
          refine op_g ha rfl (g_assign rfl) ?_; clear ha a; intro a ha; refine wpList_nil ?_; replace ha := ha.sub (σ' := [(0, (.int .i64 a0)), (3, v137), (4, (.int .i64 i62))]) ⟨rfl, rfl, rfl, trivial⟩; refine e_blk ?_; refine e_then ?_; refine wp_region_lit ?_; refine op_g ha rfl (g_move rfl) ?_; clear ha a; intro a ha; obtain ⟨hI148, hF⟩ := ck_some hF; refine op_g ha rfl (g_add rfl rfl hI148) ?_; clear ha a; intro a ha; refine op_g ha rfl (g_assign rfl) ?_; clear ha a; intro a ha; refine wpList_nil ?_; replace ha := ha.sub (σ' := [(0, (.int .i64 a0)), (3, v137), (4, (.int .i64 (i62 + 1)))]) ⟨rfl, rfl, rfl, trivial⟩
          refine e_lq ?_; obtain rfl := Option.some.inj hF
          exact ⟨_, Nat.lt_succ_self _, (l59 ++ ([i62])), i62 + 1, v137, b139, ha.sub ⟨rfl, rfl, rfl, trivial⟩, hE147, hI148, h140, q146, hN118⟩
        replace hF := if_f hp124 hF; refine wp_skip ?_; refine e_blk ?_; refine e_then ?_; refine wp_region_lit ?_; refine op_g ha rfl (g_move rfl) ?_; clear ha a; intro a ha; obtain ⟨hI150, hF⟩ := ck_some hF; refine op_g ha rfl (g_add rfl rfl hI150) ?_; clear ha a; intro a ha; refine op_g ha rfl (g_assign rfl) ?_; clear ha a; intro a ha; refine wpList_nil ?_; replace ha := ha.sub (σ' := [(0, (.int .i64 a0)), (3, v60), (4, (.int .i64 (i62 + 1)))]) ⟨rfl, rfl, rfl, trivial⟩; refine e_lq ?_; obtain rfl := Option.some.inj hF
        exact ⟨_, Nat.lt_succ_self _, l59, i62 + 1, v60, b61, ha.sub ⟨rfl, rfl, rfl, trivial⟩, hE64, hI150, h57, z58, hN118⟩
      replace hF := if_f hp122 hF; refine wp_exit ?_; refine e_then_exit ?_; refine e_lq_eq ?_; obtain rfl := Option.some.inj hF
      exact ⟨l59, v60, b61, ha.sub ⟨rfl, trivial⟩, hE64, h57, z58, (LK_inr hN118).symm⟩
  rintro a w105 ⟨l109, v110, b111, ha, hE117, h107, z108, rfl⟩
  have hF : F_spec_l25Set_k2 l109 = some _ := hK114; clear hK114; unfold F_spec_l25Set_k2 at hF
  refine e_then ?_; refine wp_seq ?_; refine wp_region_lit ?_; refine op_g ha rfl (g_move rfl) ?_; clear ha a; intro a ha; refine op_g ha rfl (g_assign rfl) ?_; clear ha a; intro a ha; refine wpList_nil ?_; replace ha := ha.sub (σ' := [(2, v110)]) ⟨rfl, trivial⟩; refine e_then ?_; refine wp_ret ?_; obtain rfl := Option.some.inj hF
  exact f_ret1 ha rfl rfl ⟨_, h107, z108, hE117⟩
set_option maxHeartbeats 2000000 in
theorem W_spec_BestClique {W : World} {va0_0 : Value} {fa0_0 : List Nat} {a0_0 : (List (List Int))} (ha0_0 : Ro (Rp.sl 2 Rp.int) W fa0_0 va0_0 a0_0) {r : (List Int)} (hF : F_spec_BestClique a0_0 = some r) :
    Calls Tryd.prog 13 [.agg #[va0_0]].toArray W (Ret fun u w' => ∃ (b_u : Int), Ow Rp.int 2 true w' [] b_u u r ∧ Zn W b_u ∧ Ext W w') := by
  refine f_enter Tryd.func13 rfl Tryd.ntmps13 rfl ?_
  intro a ha
  replace ha : Fr 10 [(0, (.agg #[va0_0]))] a := ha
  have hE : Chg [] W W := Chg.refl _ _
  unfold F_spec_BestClique at hF
  refine wp_seq ?_; refine wp_region_lit ?_
  refine o_box ha rfl rfl rfl ?_; clear ha a; intro b1 w2 hB3 hx4 hlo5 a ha
  have q6 := Zn.one hlo5
  have q7 := Zn.upD q6 hE
  have hE8 := Ext.trans hE hx4
  refine op_g ha rfl (g_assign rfl) ?_; clear ha a; intro a ha; refine wpList_nil ?_; replace ha := ha.sub (σ' := [(1, (.pointer (some ⟨b1, 0, none⟩)))]) ⟨rfl, trivial⟩; refine e_then ?_; refine wp_seq ?_; refine wp_seq ?_; refine wp_region_lit ?_; refine op_g ha rfl (g_loadA (cs := [va0_0]) Tryd.isAgg29 Tryd.sizeOf29 rfl (by simp) hB3.all) ?_; clear ha a; intro a ha; obtain ⟨x9, hc10, hF⟩ := cal_some hF
  refine o_call ha rfl rfl Tryd.call33 (W_spec_GraphOk (ha0_0.ext hE8) hc10) ?_; clear ha a; rintro v11 w12 ⟨rfl, hx13⟩ a ha
  replace hB3 := hB3.ext hx13
  have hE14 := Ext.trans hE8 hx13
  refine op_g ha rfl (g_not rfl) ?_; clear ha a; intro a ha; refine wpList_nil ?_; replace ha := ha.sub (σ' := [(1, (.pointer (some ⟨b1, 0, none⟩))), (5, (.bool (!x9)))]) ⟨rfl, rfl, trivial⟩; refine e_then ?_; refine c_cond (¬ (x9 = true)) ha rfl (n_iff (Iff.rfl)) (fun hp15 => ?_) (fun hp15 => ?_)
  · replace hF := if_t hp15 hF
    refine wp_seq ?_; refine wp_region_lit ?_
    refine o_lit0 Rp.int ha rfl sl31 ?_; clear ha a; intro v16 w17 h18 hx19 a ha
    obtain ⟨b21, hb21⟩ : ∃ b : Int, b = w12.heap.size := ⟨_, rfl⟩; rw [← hb21] at h18
    have q22 := zn_of hb21
    have q23 := Nq.new hB3.fpb q22
    have q24 := Nq.madeO q22 hB3.bi
    have q25 := Zn.upD q22 hE14
    replace hB3 := hB3.ext hx19
    have hE26 := Ext.trans hE14 hx19
    refine op_g ha rfl (g_assign rfl) ?_; clear ha a; intro a ha; refine wpList_nil ?_; replace ha := ha.sub (σ' := [(2, v16)]) ⟨rfl, trivial⟩; refine e_then ?_; refine wp_ret ?_; refine e_then_ret ?_; obtain rfl := Option.some.inj hF
    exact f_ret1 ha rfl rfl ⟨_, h18, q25, hE26⟩
  replace hF := if_f hp15 hF; refine wp_skip ?_; refine e_then ?_; refine wp_seq ?_; refine wp_region_lit ?_; refine op_g ha rfl (g_loadA (cs := [va0_0]) Tryd.isAgg29 Tryd.sizeOf29 rfl (by simp) hB3.all) ?_; clear ha a; intro a ha; obtain ⟨x27, hc28, hF⟩ := cal_some hF
  refine o_call ha rfl rfl Tryd.call42 (W_spec_l25Best (ha0_0.ext hE14) hc28) ?_; clear ha a; rintro v29 w30 ⟨⟨rfl, hI32⟩, hx31⟩ a ha
  replace hB3 := hB3.ext hx31
  have hE33 := Ext.trans hE14 hx31
  obtain ⟨x34, hc35, hF⟩ := cal_some hF
  refine o_call ha rfl rfl Tryd.call41 (W_spec_l25Set hI32 hc35) ?_; clear ha a; rintro v36 w37 ⟨b39, h40, z41, hx38⟩ a ha
  have q43 := Nq.new hB3.fpb z41
  have q44 := Nq.madeO z41 hB3.bi
  replace hB3 := hB3.ext hx38
  have hE45 := Ext.trans hE33 hx38
  have q46 := Zn.upD z41 hE33
  refine op_g ha rfl (g_assign rfl) ?_; clear ha a; intro a ha; refine wpList_nil ?_; replace ha := ha.sub (σ' := [(2, v36)]) ⟨rfl, trivial⟩; refine e_then ?_; refine wp_ret ?_; obtain rfl := Option.some.inj hF
  exact f_ret1 ha rfl rfl ⟨_, h40, q46, hE45⟩
set_option maxHeartbeats 2000000 in
theorem W_laws_w6Order {W : World} {va0 : Value} {ba0 : Int} {fa0 : List Nat} {a0 : ((List (BitVec 8)) × Int × Int)} (ha0 : Dc 45 W fa0 ba0 va0 a0) {va1_0 : Value} {fa1_0 : List Nat} {a1_0 : (List (List Int))} (ha1_0 : Ro (Rp.sl 2 Rp.int) W fa1_0 va1_0 a1_0) (qa1_0 : Nq fa1_0 ba0) {r : ((List Int) × ((List (BitVec 8)) × Int × Int))} (hF : F_laws_w6Order a0 a1_0 = some r) :
    Calls Tryd.prog 15 [va0, .agg #[va1_0]].toArray W (Ret fun u w' => ∃ (b_u : Int), Ow Rp.int 2 true w' [] b_u u r.1 ∧ Zn W b_u ∧ Dc 45 w' fa0 ba0 va0 r.2 ∧ Chg (bl ba0) W w') := by
  refine f_enter Tryd.func15 rfl Tryd.ntmps15 rfl ?_
  intro a ha
  replace ha : Fr 36 [(0, va0), (1, (.agg #[va1_0]))] a := ha
  have hE : Chg (bl ba0) W W := Chg.refl _ _
  unfold F_laws_w6Order at hF
  refine wp_seq ?_; refine wp_region_lit ?_
  refine o_box ha rfl rfl rfl ?_; clear ha a; intro b1 w2 hB3 hx4 hlo5 a ha
  have q6 := Zn.one hlo5
  have q7 := Nq.new ha0.fpb q6
  have q8 := Nq.made1 hlo5 ha0.blt
  have q9 := Nq.new ha1_0.bnd q6
  have q10 := Zn.upD q6 hE
  replace ha0 := ha0.ext hx4
  replace ha1_0 := ha1_0.ext hx4
  have hE11 := Chg.more hE hx4
  refine op_g ha rfl (g_assign rfl) ?_; clear ha a; intro a ha; refine wpList_nil ?_; replace ha := ha.sub (σ' := [(0, va0), (3, (.pointer (some ⟨b1, 0, none⟩)))]) ⟨rfl, rfl, trivial⟩; refine e_then ?_; refine wp_seq ?_; refine wp_region_lit ?_
  refine o_lit0 Rp.int ha rfl sl31 ?_; clear ha a; intro v12 w13 h14 hx15 a ha
  obtain ⟨b17, hb17⟩ : ∃ b : Int, b = w2.heap.size := ⟨_, rfl⟩; rw [← hb17] at h14
  have q18 := zn_of hb17
  have q19 := Nq.new ha0.fpb q18
  have q20 := Nq.madeO q18 ha0.blt
  have q21 := Nq.new ha1_0.bnd q18
  have q22 := Nq.new hB3.fpb q18
  have q23 := Nq.madeO q18 hB3.bi
  have q24 := Zn.upD q18 hE11
  replace ha0 := ha0.ext hx15
  replace ha1_0 := ha1_0.ext hx15
  replace hB3 := hB3.ext hx15
  have hE25 := Chg.more hE11 hx15
  refine op_g ha rfl (g_assign rfl) ?_; clear ha a; intro a ha; refine wpList_nil ?_; replace ha := ha.sub (σ' := [(0, va0), (3, (.pointer (some ⟨b1, 0, none⟩))), (5, v12)]) ⟨rfl, rfl, rfl, trivial⟩; refine e_then ?_; refine wp_seq ?_; refine wp_seq ?_; refine wp_region_lit ?_; refine op_g ha rfl (g_assign rfl) ?_; clear ha a; intro a ha; refine wpList_nil ?_; replace ha := ha.sub (σ' := [(0, va0), (3, (.pointer (some ⟨b1, 0, none⟩))), (5, v12), (6, (.int .i64 0))]) ⟨rfl, rfl, rfl, rfl, trivial⟩; refine e_then ?_; obtain ⟨o397, ho398, hK399⟩ := bnd_some hF
  obtain ⟨n400, hn401⟩ := lp_some ho398; clear ho398
  refine c_loop (fun a w => ∃ (l388 : (List Int)) (l392 : ((List (BitVec 8)) × Int × Int)) (v389 : Value) (b390 : Int), Fr 36 [(5, v389)] a ∧ Chg (bl ba0) W w ∧ Ow Rp.int 2 true w [] b390 v389 l388 ∧ Zn W b390 ∧ Dc 45 w fa0 ba0 va0 l392 ∧ Nq (bl b390 ++ []) ba0 ∧ Nq (bl ba0 ++ fa0) b390 ∧ o397 = .inl (l388, l392)) (fun n a w => ∃ (l203 : ((List (BitVec 8)) × Int × Int)) (l213 : (List Int)) (i216 : Int) (v214 : Value) (b215 : Int), Fr 36 [(0, va0), (3, (.pointer (some ⟨b1, 0, none⟩))), (5, v214), (6, (.int .i64 i216))] a ∧ Chg (bl ba0) W w ∧ InI i216 ∧ Dc 45 w fa0 ba0 va0 l203 ∧ Bx w b1 [va1_0] 29 ∧ Zn W (b1 : Int) ∧ Ro (Rp.sl 2 Rp.int) w fa1_0 va1_0 a1_0 ∧ Ow Rp.int 2 true w [] b215 v214 l213 ∧ Zn W b215 ∧ Nq (bl ba0 ++ fa0) (b1 : Int) ∧ Nq (bl ba0 ++ fa0) b215 ∧ Nq ([b1]) ba0 ∧ Nq ([b1]) b215 ∧ Nq (fa1_0) ba0 ∧ Nq (fa1_0) (b1 : Int) ∧ Nq (fa1_0) b215 ∧ Nq (bl b215 ++ []) ba0 ∧ Nq (bl b215 ++ []) (b1 : Int) ∧ lpN (fun s => F_laws_w6Order_l1 a1_0 s.1 s.2.1 s.2.2) n (l203, l213, i216) = some o397) n400 ⟨a0, ([] : (List Int)), 0, v12, b17, ha.sub ⟨rfl, rfl, rfl, rfl, trivial⟩, hE25, (show InI 0 from by decide), ha0, hB3, q10, ha1_0, h14, q24, q7, q19, q8, q22, qa1_0, q9, q21, q20, q23, hn401⟩ ?_ ?_
  · rintro m405 a w201 ⟨l203, l213, i216, v214, b215, ha, hE227, hI217, h202, hB206, z207, h209, h211, z212, q218, q219, q220, q221, q222, q223, q224, q225, q226, hF⟩
    cases m405 with
    | zero => exact (lpN_zero hF).elim
    | succ m405 =>
      obtain ⟨z404, hF, hN403⟩ := lpN_succ hF
      have hF : F_laws_w6Order_l1 a1_0 l203 l213 i216 = some z404 := hF; unfold F_laws_w6Order_l1 at hF
      refine wp_seq ?_; refine wp_seq ?_; refine wp_region_lit ?_; refine op_g ha rfl (g_move rfl) ?_; clear ha a; intro a ha; refine op_g ha rfl (g_field0 st29_0 rfl) ?_; clear ha a; intro a ha; refine op_g ha rfl (g_load Tryd.isAgg27 rfl (hB206.cell rfl)) ?_; clear ha a; intro a ha; refine op_g ha rfl (g_lenR sl27.und h209 rfl) ?_; clear ha a; intro a ha; refine op_g ha rfl (g_lss rfl rfl) ?_; clear ha a; intro a ha; refine wpList_nil ?_; replace ha := ha.sub (σ' := [(0, va0), (3, (.pointer (some ⟨b1, 0, none⟩))), (5, v214), (6, (.int .i64 i216)), (14, (.bool (decide (i216 < (a1_0.length : Int)))))]) ⟨rfl, rfl, rfl, rfl, rfl, trivial⟩
      refine e_then ?_; refine c_cond (i216 < (a1_0.length : Int)) ha rfl (decide_eq_true_iff) (fun hp406 => ?_) (fun hp406 => ?_)
      · replace hF := if_t hp406 hF
        refine wp_skip ?_; refine e_then ?_; refine wp_seq ?_; refine wp_block ?_; refine wp_seq ?_; refine wp_region_lit ?_; (iterate 2 refine op_g ha rfl (g_move rfl) ?_; clear ha a; intro a ha); obtain ⟨hI407, hF⟩ := ck_some hF; refine op_g ha rfl (g_add rfl rfl hI407) ?_; clear ha a; intro a ha; obtain ⟨x409, hc410, hF⟩ := cal_some hF
        refine o_call ha rfl rfl Tryd.call21 (W_laws_dice_below h202 hI407 hc410) ?_; clear ha a; rintro v411 w412 ⟨⟨rfl, hI414⟩, h415, hx413⟩ a ha
        replace hB206 := hB206.nq hx413 q220
        replace h209 := h209.nq hx413 q222
        replace h211 := h211.nq hx413 q225
        have hE416 := Chg.same hE227 hx413
        refine op_g ha rfl (g_assign rfl) ?_; clear ha a; intro a ha; refine wpList_nil ?_; replace ha := ha.sub (σ' := [(0, va0), (3, (.pointer (some ⟨b1, 0, none⟩))), (5, v214), (6, (.int .i64 i216)), (7, (.int .i64 x409.1))]) ⟨rfl, rfl, rfl, rfl, rfl, trivial⟩; refine e_then ?_; refine wp_seq ?_; refine wp_region_lit ?_
        refine o_lit0 Rp.int ha rfl sl31 ?_; clear ha a; intro v417 w418 h419 hx420 a ha
        obtain ⟨b422, hb422⟩ : ∃ b : Int, b = w412.heap.size := ⟨_, rfl⟩; rw [← hb422] at h419
        have q423 := zn_of hb422
        have q424 := Nq.new h415.fpb q423
        have q425 := Nq.madeO q423 h415.blt
        have q426 := Nq.new hB206.fpb q423
        have q427 := Nq.madeO q423 hB206.bi
        have q428 := Nq.new h209.bnd q423
        have q429 := Nq.new h211.fpb q423
        have q430 := Nq.madeO q423 h211.blt
        have q431 := Zn.upD q423 hE416
        replace h415 := h415.ext hx420
        replace hB206 := hB206.ext hx420
        replace h209 := h209.ext hx420
        replace h211 := h211.ext hx420
        have hE432 := Chg.more hE416 hx420
        (iterate 2 refine op_g ha rfl (g_move rfl) ?_; clear ha a; intro a ha); obtain ⟨hb433a, hb433b, hb433c, hF⟩ := slc_some hF
        obtain ⟨fp439, h440, hs441⟩ := h211.roF
        obtain ⟨v434, fp435, hrun436, hro437, hsub438⟩ := h440.slice (lo := none) (hi := (some (.int .i64 x409.1))) (i := 0) (j := x409.1) sl31 (.inl ⟨rfl, rfl⟩) (.inr ⟨_, rfl⟩) ⟨hb433a, hb433b, hb433c⟩
        have q443 := Nq.mono q225 (fun k hk => hs441 k (hsub438 k hk))
        have q444 := Nq.mono q226 (fun k hk => hs441 k (hsub438 k hk))
        have q445 := Nq.mono q429 (fun k hk => hs441 k (hsub438 k hk))
        refine op_g ha rfl (g_slice sl31.und rfl rfl rfl hrun436) ?_; clear ha a; intro a ha; obtain ⟨hl446, hF⟩ := app_some hF
        obtain ⟨_, hs447, _⟩ := hro437.src
        refine o_append ha rfl sl31 rfl rfl rfl h419 (hs447.up scal_int) (Nq.nil _) hl446 ?_; clear ha a; intro v448 w449 b450 h451 hc452 hb453 a ha
        replace h451 : Ow Rp.int 2 true w449 [] b450 v448 _ := h451
        have q455 := Nq.appY q424 h415.fpb hb453
        have q456 := Nq.appX q425 (Nq.nil _) hb453 h415.blt
        have q457 := Nq.appY q426 hB206.fpb hb453
        have q458 := Nq.appX q427 (Nq.nil _) hb453 hB206.bi
        have q459 := Nq.appY q428 h209.bnd hb453
        have q460 := Nq.appY q429 h211.fpb hb453
        have q461 := Nq.appX q430 (Nq.nil _) hb453 h211.blt
        have q462 := Nq.appY q445 hro437.bnd hb453
        have q463 := Zn.appD q431 hb453 hE432
        replace h415 := h415.nq hc452 q424
        replace hB206 := hB206.nq hc452 q426
        replace h209 := h209.nq hc452 q428
        replace h211 := h211.nq hc452 q429
        replace hro437 := hro437.nq hc452 q445
        have hE464 := Chg.own hE432 hc452 (Zn.bl q431)
        refine op_g ha rfl (g_assign rfl) ?_; clear ha a; intro a ha; refine wpList_nil ?_; replace ha := ha.sub (σ' := [(0, va0), (3, (.pointer (some ⟨b1, 0, none⟩))), (5, v214), (6, (.int .i64 i216)), (7, (.int .i64 x409.1)), (8, v448)]) ⟨rfl, rfl, rfl, rfl, rfl, rfl, trivial⟩; refine e_then ?_; refine wp_seq ?_; refine wp_region_lit ?_; (iterate 2 refine op_g ha rfl (g_move rfl) ?_; clear ha a; intro a ha)
        refine o_lit1 (o := true) (y := i216) Rp.int ha rfl sl31 rfl rfl rfl ⟨rfl, hI217, rfl⟩ ?_; clear ha a; intro v465 w466 h467 hx468 a ha
        obtain ⟨b470, hb470⟩ : ∃ b : Int, b = w449.heap.size := ⟨_, rfl⟩; rw [← hb470] at h467
        have q471 := zn_of hb470
        have q472 := Nq.new h415.fpb q471
        have q473 := Nq.madeO q471 h415.blt
        have q474 := Nq.new hB206.fpb q471
        have q475 := Nq.madeO q471 hB206.bi
        have q476 := Nq.new h209.bnd q471
        have q477 := Nq.new h211.fpb q471
        have q478 := Nq.madeO q471 h211.blt
        have q479 := Nq.new h451.fpb q471
        have q480 := Nq.madeO q471 h451.blt
        have q481 := Zn.upD q471 hE464
        replace h415 := h415.ext hx468
        replace hB206 := hB206.ext hx468
        replace h209 := h209.ext hx468
        replace h211 := h211.ext hx468
        replace h451 := h451.ext hx468
        have hE482 := Chg.more hE464 hx468
        obtain ⟨hl483, hF⟩ := app_some hF
        refine o_append ha rfl sl31 rfl rfl rfl h451 h467.src (Nq.nil _) hl483 ?_; clear ha a; intro v484 w485 b486 h487 hc488 hb489 a ha
        replace h487 : Ow Rp.int 2 true w485 [] b486 v484 _ := h487
        have q491 := Nq.appY q455 h415.fpb hb489
        have q492 := Nq.appX q456 (Nq.nil _) hb489 h415.blt
        have q493 := Nq.appY q457 hB206.fpb hb489
        have q494 := Nq.appX q458 (Nq.nil _) hb489 hB206.bi
        have q495 := Nq.appY q459 h209.bnd hb489
        have q496 := Nq.appY q460 h211.fpb hb489
        have q497 := Nq.appX q461 (Nq.nil _) hb489 h211.blt
        have q498 := Nq.appY q480 h467.fpb hb489
        have q499 := Nq.appX q479 (Nq.nil _) hb489 h467.blt
        have q500 := Zn.appD q463 hb489 hE482
        replace h415 := h415.nq hc488 q455
        replace hB206 := hB206.nq hc488 q457
        replace h209 := h209.nq hc488 q459
        replace h211 := h211.nq hc488 q460
        replace h467 := h467.nq hc488 q480
        have hE501 := Chg.own hE482 hc488 (Zn.bl q463)
        refine op_g ha rfl (g_assign rfl) ?_; clear ha a; intro a ha; refine wpList_nil ?_; replace ha := ha.sub (σ' := [(0, va0), (3, (.pointer (some ⟨b1, 0, none⟩))), (5, v214), (6, (.int .i64 i216)), (7, (.int .i64 x409.1)), (8, v484)]) ⟨rfl, rfl, rfl, rfl, rfl, rfl, trivial⟩; refine e_then ?_; refine wp_region_lit ?_; (iterate 3 refine op_g ha rfl (g_move rfl) ?_; clear ha a; intro a ha); obtain ⟨hb502a, hb502b, hb502c, hF⟩ := slc_some hF
        obtain ⟨fp508, h509, hs510⟩ := h211.roF
        obtain ⟨v503, fp504, hrun505, hro506, hsub507⟩ := h509.slice (lo := (some (.int .i64 x409.1))) (hi := none) (i := x409.1) (j := (l213.length : Int)) sl31 (.inr ⟨_, rfl⟩) (.inl ⟨rfl, rfl⟩) ⟨hb502a, hb502b, hb502c⟩
        have q512 := Nq.mono q225 (fun k hk => hs510 k (hsub507 k hk))
        have q513 := Nq.mono q226 (fun k hk => hs510 k (hsub507 k hk))
        have q514 := Nq.mono q496 (fun k hk => hs510 k (hsub507 k hk))
        refine op_g ha rfl (g_slice sl31.und rfl rfl rfl hrun505) ?_; clear ha a; intro a ha; obtain ⟨hl515, hF⟩ := app_some hF
        obtain ⟨_, hs516, _⟩ := hro506.src
        refine o_append ha rfl sl31 rfl rfl rfl h487 (hs516.up scal_int) (Nq.nil _) hl515 ?_; clear ha a; intro v517 w518 b519 h520 hc521 hb522 a ha
        replace h520 : Ow Rp.int 2 true w518 [] b519 v517 _ := h520
        have q524 := Nq.appY q491 h415.fpb hb522
        have q525 := Nq.appX q492 (Nq.nil _) hb522 h415.blt
        have q526 := Nq.appY q493 hB206.fpb hb522
        have q527 := Nq.appX q494 (Nq.nil _) hb522 hB206.bi
        have q528 := Nq.appY q495 h209.bnd hb522
        have q529 := Nq.appY q496 h211.fpb hb522
        have q530 := Nq.appX q497 (Nq.nil _) hb522 h211.blt
        have q531 := Nq.appY q514 hro506.bnd hb522
        have q532 := Zn.appD q500 hb522 hE501
        replace h415 := h415.nq hc521 q491
        replace hB206 := hB206.nq hc521 q493
        replace h209 := h209.nq hc521 q495
        replace h211 := h211.nq hc521 q496
        replace hro506 := hro506.nq hc521 q514
        have hE533 := Chg.own hE501 hc521 (Zn.bl q500)
        refine op_g ha rfl (g_assign rfl) ?_; clear ha a; intro a ha; refine wpList_nil ?_; replace ha := ha.sub (σ' := [(0, va0), (3, (.pointer (some ⟨b1, 0, none⟩))), (5, v517), (6, (.int .i64 i216))]) ⟨rfl, rfl, rfl, rfl, trivial⟩; refine e_blk ?_; refine e_then ?_; refine wp_region_lit ?_; refine op_g ha rfl (g_move rfl) ?_; clear ha a; intro a ha; obtain ⟨hI534, hF⟩ := ck_some hF; refine op_g ha rfl (g_add rfl rfl hI534) ?_; clear ha a; intro a ha; refine op_g ha rfl (g_assign rfl) ?_; clear ha a; intro a ha; refine wpList_nil ?_; replace ha := ha.sub (σ' := [(0, va0), (3, (.pointer (some ⟨b1, 0, none⟩))), (5, v517), (6, (.int .i64 (i216 + 1)))]) ⟨rfl, rfl, rfl, rfl, trivial⟩
        refine e_lq ?_; obtain rfl := Option.some.inj hF
        exact ⟨_, Nat.lt_succ_self _, x409.2, (((([] : (List Int)) ++ ((l213.drop (0 : Int).toNat).take ((x409.1 : Int).toNat - (0 : Int).toNat))) ++ ([i216])) ++ ((l213.drop (x409.1 : Int).toNat).take (((l213.length : Int) : Int).toNat - (x409.1 : Int).toNat))), i216 + 1, v517, b519, ha.sub ⟨rfl, rfl, rfl, rfl, trivial⟩, hE533, hI534, h415, hB206, z207, h209, h520, q532, q218, q524, q220, q526, q222, q223, q528, q525, q527, hN403⟩
      replace hF := if_f hp406 hF; refine wp_exit ?_; refine e_then_exit ?_; refine e_lq_eq ?_; obtain rfl := Option.some.inj hF
      exact ⟨l213, l203, v214, b215, ha.sub ⟨rfl, trivial⟩, hE227, h211, z212, h202, q225, q219, (LK_inr hN403).symm⟩
  rintro a w384 ⟨l388, l392, v389, b390, ha, hE402, h386, z387, h391, q395, q396, rfl⟩
  have hF : F_laws_w6Order_k2 l388 l392 = some _ := hK399; clear hK399; unfold F_laws_w6Order_k2 at hF
  refine e_then ?_; refine wp_seq ?_; refine wp_region_lit ?_; refine op_g ha rfl (g_move rfl) ?_; clear ha a; intro a ha; refine op_g ha rfl (g_assign rfl) ?_; clear ha a; intro a ha; refine wpList_nil ?_; replace ha := ha.sub (σ' := [(4, v389)]) ⟨rfl, trivial⟩; refine e_then ?_; refine wp_ret ?_; obtain rfl := Option.some.inj hF
  exact f_ret1 ha rfl rfl ⟨_, h386, z387, h391, hE402⟩
set_option maxHeartbeats 2000000 in
theorem W_impl_OrderOk {W : World} {va0_0 : Value} {fa0_0 : List Nat} {a0_0 : (List (List Int))} (ha0_0 : Ro (Rp.sl 2 Rp.int) W fa0_0 va0_0 a0_0) {va1 : Value} {fa1 : List Nat} {a1 : (List Int)} (ha1 : Ro Rp.int W fa1 va1 a1) {r : Bool} (hF : F_impl_OrderOk a0_0 a1 = some r) :
    Calls Tryd.prog 43 [.agg #[va0_0], va1].toArray W (Ret fun u w' => u = .bool r ∧ Ext W w') := by
  refine f_enter Tryd.func43 rfl Tryd.ntmps43 rfl ?_
  intro a ha
  replace ha : Fr 25 [(0, (.agg #[va0_0])), (1, va1)] a := ha
  have hE : Chg [] W W := Chg.refl _ _
  unfold F_impl_OrderOk at hF
  refine wp_seq ?_; refine wp_region_lit ?_
  refine o_box ha rfl rfl rfl ?_; clear ha a; intro b1 w2 hB3 hx4 hlo5 a ha
  have q6 := Zn.one hlo5
  have q7 := Zn.upD q6 hE
  have hE8 := Ext.trans hE hx4
  refine op_g ha rfl (g_assign rfl) ?_; clear ha a; intro a ha; refine wpList_nil ?_; replace ha := ha.sub (σ' := [(1, va1), (2, (.pointer (some ⟨b1, 0, none⟩)))]) ⟨rfl, rfl, trivial⟩; refine e_then ?_; refine wp_seq ?_; refine wp_seq ?_; refine wp_region_lit ?_; refine op_g ha rfl (g_loadA (cs := [va0_0]) Tryd.isAgg29 Tryd.sizeOf29 rfl (by simp) hB3.all) ?_; clear ha a; intro a ha; obtain ⟨x9, hc10, hF⟩ := cal_some hF
  refine o_call ha rfl rfl Tryd.call29 (W_impl_GraphOk (ha0_0.ext hE8) hc10) ?_; clear ha a; rintro v11 w12 ⟨rfl, hx13⟩ a ha
  replace hB3 := hB3.ext hx13
  have hE14 := Ext.trans hE8 hx13
  refine op_g ha rfl (g_not rfl) ?_; clear ha a; intro a ha; refine op_g ha rfl (g_move rfl) ?_; clear ha a; intro a ha
  by_cases hp15 : ¬ (x9 = true)
  · replace hF := if_t hp15 hF
    rw [show (!x9) = true from (n_iff (Iff.rfl)).2 hp15] at ha
    (iterate 6 refine op_unwant ha rfl (yields ha rfl rfl) rfl ?_; clear ha a; intro a ha); refine op_g ha rfl (g_pick rfl rfl) ?_; clear ha a; intro a ha; refine wpList_nil ?_; replace ha := ha.sub (σ' := [(1, va1), (2, (.pointer (some ⟨b1, 0, none⟩))), (16, (.bool true))]) ⟨rfl, rfl, rfl, trivial⟩; refine e_then ?_; refine c_true ha rfl ?_; refine wp_seq ?_; refine wp_region_lit ?_; refine op_g ha rfl (g_assign rfl) ?_; clear ha a; intro a ha; refine wpList_nil ?_; replace ha := ha.sub (σ' := [(4, (.bool false))]) ⟨rfl, trivial⟩; refine e_then ?_; refine wp_ret ?_; refine e_then_ret ?_; obtain rfl := Option.some.inj hF
    exact f_ret1 ha rfl rfl ⟨rfl, hE14⟩
  replace hF := if_f hp15 hF
  rw [show (!x9) = false from b_false (n_iff (Iff.rfl)) hp15] at ha
  refine op_want (yields ha rfl rfl) ?_; refine op_g ha rfl (g_move rfl) ?_; clear ha a; intro a ha; refine op_want (yields ha rfl rfl) ?_; refine op_g ha rfl (g_lenR sl31.und ha1 rfl) ?_; clear ha a; intro a ha; refine op_want (yields ha rfl rfl) ?_; refine op_g ha rfl (g_field0 st29_0 rfl) ?_; clear ha a; intro a ha; refine op_want (yields ha rfl rfl) ?_; refine op_g ha rfl (g_load Tryd.isAgg27 rfl (hB3.cell rfl)) ?_; clear ha a; intro a ha; refine op_want (yields ha rfl rfl) ?_; refine op_g ha rfl (g_lenR sl27.und ha0_0 rfl) ?_; clear ha a; intro a ha; refine op_want (yields ha rfl rfl) ?_; refine op_g ha rfl (g_neq rfl rfl) ?_; clear ha a; intro a ha
  refine op_g ha rfl (g_pick rfl rfl) ?_; clear ha a; intro a ha; refine wpList_nil ?_; replace ha := ha.sub (σ' := [(1, va1), (2, (.pointer (some ⟨b1, 0, none⟩))), (16, (.bool (decide ((a1.length : Int) ≠ (a0_0.length : Int)))))]) ⟨rfl, rfl, rfl, trivial⟩; refine e_then ?_; refine c_cond ((a1.length : Int) ≠ (a0_0.length : Int)) ha rfl (decide_eq_true_iff) (fun hp16 => ?_) (fun hp16 => ?_)
  · replace hF := if_t hp16 hF
    refine wp_seq ?_; refine wp_region_lit ?_; refine op_g ha rfl (g_assign rfl) ?_; clear ha a; intro a ha; refine wpList_nil ?_; replace ha := ha.sub (σ' := [(4, (.bool false))]) ⟨rfl, trivial⟩; refine e_then ?_; refine wp_ret ?_; refine e_then_ret ?_; obtain rfl := Option.some.inj hF
    exact f_ret1 ha rfl rfl ⟨rfl, hE14⟩
  replace hF := if_f hp16 hF; refine wp_skip ?_; refine e_then ?_; refine wp_seq ?_; refine wp_region_lit ?_; refine op_g ha rfl (g_move rfl) ?_; clear ha a; intro a ha; obtain ⟨x17, hc18, hF⟩ := cal_some hF
  refine o_call ha rfl rfl Tryd.call40 (W_slices_Values_int64 (ha1.ext hE14) hc18) ?_; clear ha a; rintro v19 w20 ⟨h22, hx21⟩ a ha
  replace hB3 := hB3.ext hx21
  have hE23 := Ext.trans hE14 hx21
  obtain ⟨x24, hc25, hF⟩ := cal_some hF
  refine o_call ha rfl rfl Tryd.call39 (W_slices_Sorted_int64 h22 hc25) ?_; clear ha a; rintro v26 w27 ⟨b29, h30, z31, hx28⟩ a ha
  have q33 := Nq.new hB3.fpb z31
  have q34 := Nq.madeO z31 hB3.bi
  replace hB3 := hB3.ext hx28
  have hE35 := Ext.trans hE23 hx28
  have q36 := Zn.upD z31 hE23
  refine op_g ha rfl (g_assign rfl) ?_; clear ha a; intro a ha; refine wpList_nil ?_; replace ha := ha.sub (σ' := [(2, (.pointer (some ⟨b1, 0, none⟩))), (5, v26)]) ⟨rfl, rfl, trivial⟩; refine e_then ?_; refine wp_seq ?_; refine wp_region_lit ?_; refine op_g ha rfl (g_move rfl) ?_; clear ha a; intro a ha; refine op_g ha rfl (g_field0 st29_0 rfl) ?_; clear ha a; intro a ha; refine op_g ha rfl (g_load Tryd.isAgg27 rfl (hB3.cell rfl)) ?_; clear ha a; intro a ha; refine op_g ha rfl (g_lenR sl27.und ha0_0 rfl) ?_; clear ha a; intro a ha
  obtain ⟨fp37, hro38, hs39⟩ := h30.roF
  obtain ⟨x40, hc41, hF⟩ := cal_some hF
  refine o_call ha rfl rfl Tryd.call72 (W_impl_increasing hro38 ha0_0.len hc41) ?_; clear ha a; rintro v42 w43 ⟨rfl, hx44⟩ a ha
  replace hB3 := hB3.ext hx44
  replace h30 := h30.ext hx44
  have hE45 := Ext.trans hE35 hx44
  refine op_g ha rfl (g_assign rfl) ?_; clear ha a; intro a ha; refine wpList_nil ?_; replace ha := ha.sub (σ' := [(4, (.bool x40))]) ⟨rfl, trivial⟩; refine e_then ?_; refine wp_ret ?_; obtain rfl := Option.some.inj hF
  exact f_ret1 ha rfl rfl ⟨rfl, hE45⟩
set_option maxHeartbeats 2000000 in
theorem W_slices_IndexFunc_implvset {W : World} {va0 : Value} {fa0 : List Nat} {a0 : (List (BitVec 32))} (ha0 : Ro Rp.u32 W fa0 va0 a0) {ga1 : FuncId} {ga1c : List Value} {a1 : (BitVec 32) → Option Bool} (hga1 : ∀ w', Ext W w' → ∀ {z0 : BitVec 32} {r : Bool}, a1 z0 = some r → Calls Tryd.prog ga1 (([.int .u32 (BitVec.toNat z0 : Int)] : List Value) ++ ga1c).toArray w' (Ret fun u w'' => u = .bool r ∧ Ext w' w'')) (hca1 : ∀ args w, (callFunc ga1 args).run Tryd.prog w = .ok (.enter ga1 args) w) {r : Int} (hF : F_slices_IndexFunc_implvset a0 a1 = some r) :
    Calls Tryd.prog 44 [va0, .func (.func ga1) #[] ga1c.toArray].toArray W (Ret fun u w' => (u = .int .i64 r ∧ InI r) ∧ Ext W w') := by
  refine f_enter Tryd.func44 rfl Tryd.ntmps44 rfl ?_
  intro a ha
  replace ha : Fr 19 [(0, va0), (1, (.func (.func ga1) #[] ga1c.toArray))] a := ha
  have hE : Chg [] W W := Chg.refl _ _
  unfold F_slices_IndexFunc_implvset at hF
  refine wp_seq ?_; refine wp_region_lit ?_; refine op_g ha rfl (g_assign rfl) ?_; clear ha a; intro a ha; refine wpList_nil ?_; replace ha := ha.sub (σ' := [(0, va0), (1, (.func (.func ga1) #[] ga1c.toArray))]) ⟨rfl, rfl, trivial⟩; refine e_then ?_; refine wp_seq ?_; refine wp_seq ?_; refine wp_region_lit ?_; refine op_g ha rfl (g_move rfl) ?_; clear ha a; intro a ha; refine op_g ha rfl (g_lenR sl48.und ha0 rfl) ?_; clear ha a; intro a ha; refine op_g ha rfl (g_move rfl) ?_; clear ha a; intro a ha; refine wpList_nil ?_; replace ha := ha.sub (σ' := [(0, va0), (1, (.func (.func ga1) #[] ga1c.toArray)), (7, (.int .i64 (a0.length : Int))), (8, (.int .i64 0))]) ⟨rfl, rfl, rfl, rfl, trivial⟩
  refine e_then ?_; obtain ⟨o56, ho57, hK58⟩ := bnd_some hF
  obtain ⟨n59, hn60⟩ := lp_some ho57; clear ho57
  refine c_loop (fun a w => Fr 19 [] a ∧ Chg [] W w ∧ o56 = .inl ()) (fun n a w => ∃ (i28 : Int), Fr 19 [(0, va0), (1, (.func (.func ga1) #[] ga1c.toArray)), (7, (.int .i64 (a0.length : Int))), (8, (.int .i64 i28))] a ∧ Chg [] W w ∧ InI i28 ∧ lpN (fun s => F_slices_IndexFunc_implvset_l1 a0 a1 s) n i28 = some o56) n59 ⟨0, ha.sub ⟨rfl, rfl, rfl, rfl, trivial⟩, hE, (show InI 0 from by decide), hn60⟩ ?_ ?_
  · rintro m64 a w27 ⟨i28, ha, hE30, hI29, hF⟩
    cases m64 with
    | zero => exact (lpN_zero hF).elim
    | succ m64 =>
      obtain ⟨z63, hF, hN62⟩ := lpN_succ hF
      have hF : F_slices_IndexFunc_implvset_l1 a0 a1 i28 = some z63 := hF; unfold F_slices_IndexFunc_implvset_l1 at hF
      refine wp_seq ?_; refine wp_region_lit ?_; refine op_g ha rfl (g_lss rfl rfl) ?_; clear ha a; intro a ha; refine wpList_nil ?_; replace ha := ha.sub (σ' := [(0, va0), (1, (.func (.func ga1) #[] ga1c.toArray)), (7, (.int .i64 (a0.length : Int))), (8, (.int .i64 i28)), (9, (.bool (decide (i28 < (a0.length : Int)))))]) ⟨rfl, rfl, rfl, rfl, rfl, trivial⟩; refine e_then ?_; refine wp_seq ?_; refine c_cond (i28 < (a0.length : Int)) ha rfl (decide_eq_true_iff) (fun hp65 => ?_) (fun hp65 => ?_)
      · replace hF := if_t hp65 hF
        refine wp_skip ?_; refine e_then ?_; refine wp_seq ?_; refine wp_block ?_; refine wp_seq ?_; refine wp_region_lit ?_; refine op_g ha rfl (g_move rfl) ?_; clear ha a; intro a ha; refine op_g ha rfl (g_assign rfl) ?_; clear ha a; intro a ha; refine wpList_nil ?_; replace ha := ha.sub (σ' := [(0, va0), (1, (.func (.func ga1) #[] ga1c.toArray)), (5, (.int .i64 i28)), (7, (.int .i64 (a0.length : Int))), (8, (.int .i64 i28))]) ⟨rfl, rfl, rfl, rfl, rfl, trivial⟩; refine e_then ?_; refine wp_seq ?_; refine wp_region_lit ?_; (iterate 3 refine op_g ha rfl (g_move rfl) ?_; clear ha a; intro a ha)
        obtain ⟨x66, g67, gx68, hF⟩ := idx_some hF
        obtain ⟨p69, cs70, f71, hf72, hpb73, hat74, hr75, hi76⟩ := ha0.at g67 gx68
        obtain ⟨rfl, rfl⟩ := hr75
        refine op_g ha rfl (hi76.gives sl48 rfl rfl) ?_; clear ha a; intro a ha; refine op_g ha rfl (g_load0 hE30 Tryd.isAgg53 rfl hat74.one) ?_; clear ha a; intro a ha; obtain ⟨x77, hc78, hF⟩ := cal_some hF
        refine o_callv ha rfl rfl rfl hca1 (hga1 _ hE30  hc78) ?_; clear ha a; rintro v79 w80 ⟨rfl, hx81⟩ a ha
        have hE82 := Ext.trans hE30 hx81
        refine wpList_nil ?_; replace ha := ha.sub (σ' := [(0, va0), (1, (.func (.func ga1) #[] ga1c.toArray)), (5, (.int .i64 i28)), (7, (.int .i64 (a0.length : Int))), (8, (.int .i64 i28)), (16, (.bool x77))]) ⟨rfl, rfl, rfl, rfl, rfl, rfl, trivial⟩; refine e_then ?_; refine c_cond (x77 = true) ha rfl (Iff.rfl) (fun hp83 => ?_) (fun hp83 => ?_)
        · replace hF := if_t hp83 hF
          refine wp_seq ?_; refine wp_region_lit ?_; refine op_g ha rfl (g_move rfl) ?_; clear ha a; intro a ha; refine op_g ha rfl (g_assign rfl) ?_; clear ha a; intro a ha; refine wpList_nil ?_; replace ha := ha.sub (σ' := [(4, (.int .i64 i28))]) ⟨rfl, trivial⟩; refine e_then ?_; refine wp_ret ?_; refine e_blk_ret ?_; refine e_then_ret ?_; refine e_lq_ret ?_; refine e_then_ret ?_; obtain rfl := Option.some.inj hF
          have e84 := LK_inr hN62; subst e84
          have e85 := BK_inr hK58; subst e85
          exact f_ret1 ha rfl rfl ⟨⟨rfl, hI29⟩, hE82⟩
        replace hF := if_f hp83 hF; refine wp_skip ?_; refine e_blk ?_; refine e_then ?_; refine wp_region_lit ?_; obtain ⟨hI86, hF⟩ := ck_some hF; refine op_g ha rfl (g_add rfl rfl hI86) ?_; clear ha a; intro a ha; refine op_g ha rfl (g_move rfl) ?_; clear ha a; intro a ha; refine wpList_nil ?_; replace ha := ha.sub (σ' := [(0, va0), (1, (.func (.func ga1) #[] ga1c.toArray)), (7, (.int .i64 (a0.length : Int))), (8, (.int .i64 (i28 + 1)))]) ⟨rfl, rfl, rfl, rfl, trivial⟩; refine e_lq ?_; obtain rfl := Option.some.inj hF
        exact ⟨_, Nat.lt_succ_self _, i28 + 1, ha.sub ⟨rfl, rfl, rfl, rfl, trivial⟩, hE82, hI86, hN62⟩
      replace hF := if_f hp65 hF; refine wp_exit ?_; refine e_then_exit ?_; refine e_lq_eq ?_; obtain rfl := Option.some.inj hF
      exact ⟨ha.sub trivial, hE30, (LK_inr hN62).symm⟩
  rintro a w55 ⟨ha, hE61, rfl⟩
  have hF : F_slices_IndexFunc_implvset_k2 = some _ := hK58; clear hK58; unfold F_slices_IndexFunc_implvset_k2 at hF
  refine e_then ?_; refine wp_seq ?_; refine wp_region_lit ?_; refine op_g ha rfl (g_assign rfl) ?_; clear ha a; intro a ha; refine wpList_nil ?_; refine e_then ?_; refine wp_ret ?_; obtain rfl := Option.some.inj hF
  exact f_ret1 ha rfl rfl ⟨⟨rfl, (show InI (-1) from by decide)⟩, hE61⟩
set_option maxHeartbeats 2000000 in
theorem W_impl_InTurn_1 {W : World} {a0 : BitVec 32} {vy0 : Value} {fy0 : List Nat} {y0 : (List (BitVec 32))} (hy0 : Ro Rp.u32 W fy0 vy0 y0) {bc0 : Nat} (hbc0 : Bx W bc0 [vy0] 50) {y1 : Int} (hy1 : InI y1) {bc1 : Nat} (hbc1 : Bx W bc1 [.int .i64 y1] 2) {r : Bool} (hF : F_impl_InTurn_1 a0 y0 y1 = some r) :
    Calls Tryd.prog 45 [.int .u32 (BitVec.toNat a0 : Int), .pointer (some ⟨bc0, 0, none⟩), .pointer (some ⟨bc1, 0, none⟩)].toArray W (Ret fun u w' => u = .bool r ∧ Ext W w') := by
  refine f_enter Tryd.func45 rfl Tryd.ntmps45 rfl ?_
  intro a ha
  replace ha : Fr 12 [(0, (.int .u32 (BitVec.toNat a0 : Int))), (1, (.pointer (some ⟨bc0, 0, none⟩))), (2, (.pointer (some ⟨bc1, 0, none⟩)))] a := ha
  have hE : Chg [] W W := Chg.refl _ _
  unfold F_impl_InTurn_1 at hF
  refine wp_seq ?_; refine wp_region_lit ?_; refine op_g ha rfl (g_assign rfl) ?_; clear ha a; intro a ha; refine wpList_nil ?_; replace ha := ha.sub (σ' := [(0, (.int .u32 (BitVec.toNat a0 : Int))), (1, (.pointer (some ⟨bc0, 0, none⟩))), (2, (.pointer (some ⟨bc1, 0, none⟩)))]) ⟨rfl, rfl, rfl, trivial⟩; refine e_then ?_; refine wp_seq ?_; refine wp_region_lit ?_; refine op_g ha rfl (g_move rfl) ?_; clear ha a; intro a ha; refine op_g ha rfl (g_load Tryd.isAgg50 rfl ((hbc0.ext hE).cell rfl)) ?_; clear ha a; intro a ha; refine op_g ha rfl (g_load Tryd.isAgg2 rfl ((hbc1.ext hE).cell rfl)) ?_; clear ha a; intro a ha
  obtain ⟨x1, g2, gx3, hF⟩ := idx_some hF
  obtain ⟨p4, cs5, f6, hf7, hpb8, hat9, hr10, hi11⟩ := hy0.at g2 gx3
  obtain ⟨rfl, rfl⟩ := hr10
  refine op_g ha rfl (hi11.gives sl50 rfl rfl) ?_; clear ha a; intro a ha; refine op_g ha rfl (g_load0 hE Tryd.isAgg53 rfl hat9.one) ?_; clear ha a; intro a ha; refine op_g ha rfl (g32_and (m := a0) (n := x1) rfl rfl) ?_; clear ha a; intro a ha; refine op_g ha rfl (g32_eql (m := (a0 &&& x1)) (n := (0#32)) rfl rfl) ?_; clear ha a; intro a ha; refine op_g ha rfl (g_assign rfl) ?_; clear ha a; intro a ha; refine wpList_nil ?_; replace ha := ha.sub (σ' := [(4, (.bool (decide ((a0 &&& x1) = (0#32)))))]) ⟨rfl, trivial⟩; refine e_then ?_; refine wp_ret ?_; obtain rfl := Option.some.inj hF
  exact f_ret1 ha rfl rfl ⟨rfl, hE⟩
end Go.Proofs.YtadjcnllmkdgiaaDoor
