/- Walks, printed by gen.py. -/
import Derived.Test.YtadjcnllmkdgiaaDoorF
import Derived.Test.YtadjcnllmkdgiaaDoorW3
import Derived.Test.YtadjcnllmkdgiaaDoorProg
import Derived.KernelRfl
set_option maxRecDepth 100000
namespace Go.Proofs.YtadjcnllmkdgiaaDoor
open Go Go.RowKit

set_option maxHeartbeats 2000000 in
theorem W_spec_ColoursMany {W : World} {va0 : Value} {fa0 : List Nat} {a0 : (List Int)} (ha0 : Ro Rp.int W fa0 va0 a0) {r : Int} (hF : F_spec_ColoursMany a0 = some r) :
    Calls Tryd.prog 16 [va0].toArray W (Ret fun u w' => (u = .int .i64 r ∧ InI r) ∧ Ext W w') := by
  refine f_enter Tryd.func16 rfl Tryd.ntmps16 rfl ?_
  intro a ha
  replace ha : Fr 31 [(0, va0)] a := ha
  have hE : Chg [] W W := Chg.refl _ _
  unfold F_spec_ColoursMany at hF
  refine wp_seq ?_; refine wp_region_lit ?_; refine op_g ha rfl (g_assign rfl) ?_; clear ha a; intro a ha; refine wpList_nil ?_; replace ha := ha.sub (σ' := [(0, va0)]) ⟨rfl, trivial⟩; refine e_then ?_; refine wp_seq ?_; refine wp_seq ?_; refine wp_region_lit ?_; refine op_g ha rfl (g_move rfl) ?_; clear ha a; intro a ha; refine op_g ha rfl (g_lenR sl31.und ha0 rfl) ?_; clear ha a; intro a ha; refine op_g ha rfl (g_gtr rfl rfl) ?_; clear ha a; intro a ha; refine wpList_nil ?_; replace ha := ha.sub (σ' := [(0, va0), (7, (.bool (decide (16 < (a0.length : Int)))))]) ⟨rfl, rfl, trivial⟩; refine e_then ?_
  refine c_cond (16 < (a0.length : Int)) ha rfl (decide_eq_true_iff) (fun hp1 => ?_) (fun hp1 => ?_)
  · replace hF := if_t hp1 hF
    refine wp_seq ?_; refine wp_region_lit ?_; refine op_g ha rfl (g_assign rfl) ?_; clear ha a; intro a ha; refine wpList_nil ?_; replace ha := ha.sub (σ' := [(2, (.int .i64 (-1)))]) ⟨rfl, trivial⟩; refine e_then ?_; refine wp_ret ?_; refine e_then_ret ?_; obtain rfl := Option.some.inj hF
    exact f_ret1 ha rfl rfl ⟨⟨rfl, (show InI (-1) from by decide)⟩, hE⟩
  replace hF := if_f hp1 hF; refine wp_skip ?_; refine e_then ?_; refine wp_seq ?_; refine wp_region_lit ?_
  refine o_lit0 Rp.int ha rfl sl31 ?_; clear ha a; intro v2 w3 h4 hx5 a ha
  obtain ⟨b7, hb7⟩ : ∃ b : Int, b = W.heap.size := ⟨_, rfl⟩; rw [← hb7] at h4
  have q8 := zn_of hb7
  have q9 := Zn.upD q8 hE
  have hE10 := Ext.trans hE hx5
  refine op_g ha rfl (g_assign rfl) ?_; clear ha a; intro a ha; refine wpList_nil ?_; replace ha := ha.sub (σ' := [(0, va0), (3, v2)]) ⟨rfl, rfl, trivial⟩; refine e_then ?_; refine wp_seq ?_; refine wp_seq ?_; refine wp_region_lit ?_; refine op_g ha rfl (g_assign rfl) ?_; clear ha a; intro a ha; refine wpList_nil ?_; refine e_then ?_; obtain ⟨o175, ho176, hK177⟩ := bnd_some hF
  obtain ⟨n178, hn179⟩ := lp_some ho176; clear ho176
  refine c_loop (fun a w => ∃ (l172 : (List Int)) (v173 : Value) (b174 : Int), Fr 31 [(3, v173)] a ∧ Chg [] W w ∧ Ow Rp.int 2 true w [] b174 v173 l172 ∧ Zn W b174 ∧ o175 = .inl l172) (fun n a w => ∃ (l91 : (List Int)) (i94 : Int) (v92 : Value) (b93 : Int), Fr 31 [(0, va0), (3, v92), (4, (.int .i64 i94))] a ∧ Chg [] W w ∧ InI i94 ∧ Ow Rp.int 2 true w [] b93 v92 l91 ∧ Zn W b93 ∧ lpN (fun s => F_spec_ColoursMany_l1 a0 s.1 s.2) n (l91, i94) = some o175) n178 ⟨([] : (List Int)), 0, v2, b7, ha.sub ⟨rfl, rfl, rfl, trivial⟩, hE10, (show InI 0 from by decide), h4, q9, hn179⟩ ?_ ?_
  · rintro m183 a w87 ⟨l91, i94, v92, b93, ha, hE96, hI95, h89, z90, hF⟩
    cases m183 with
    | zero => exact (lpN_zero hF).elim
    | succ m183 =>
      obtain ⟨z182, hF, hN181⟩ := lpN_succ hF
      have hF : F_spec_ColoursMany_l1 a0 l91 i94 = some z182 := hF; unfold F_spec_ColoursMany_l1 at hF
      refine wp_seq ?_; refine wp_seq ?_; refine wp_region_lit ?_; (iterate 2 refine op_g ha rfl (g_move rfl) ?_; clear ha a; intro a ha); refine op_g ha rfl (g_lenR sl31.und ha0 rfl) ?_; clear ha a; intro a ha; refine op_g ha rfl (g_lss rfl rfl) ?_; clear ha a; intro a ha; refine wpList_nil ?_; replace ha := ha.sub (σ' := [(0, va0), (3, v92), (4, (.int .i64 i94)), (12, (.bool (decide (i94 < (a0.length : Int)))))]) ⟨rfl, rfl, rfl, rfl, trivial⟩; refine e_then ?_; refine c_cond (i94 < (a0.length : Int)) ha rfl (decide_eq_true_iff) (fun hp184 => ?_) (fun hp184 => ?_)
      · replace hF := if_t hp184 hF
        refine wp_skip ?_; refine e_then ?_; refine wp_seq ?_; refine wp_block ?_; refine wp_seq ?_; refine wp_region_lit ?_; (iterate 3 refine op_g ha rfl (g_move rfl) ?_; clear ha a; intro a ha); obtain ⟨x185, g186, gx187, hF⟩ := idx_some hF
        obtain ⟨p188, cs189, f190, hf191, hpb192, hat193, hr194, hi195⟩ := ha0.at g186 gx187
        obtain ⟨rfl, hI196, rfl⟩ := hr194
        refine op_g ha rfl (hi195.gives sl31 rfl rfl) ?_; clear ha a; intro a ha; refine op_g ha rfl (g_load0 hE96 Tryd.isAgg2 rfl hat193.one) ?_; clear ha a; intro a ha
        obtain ⟨fp197, hro198, hs199⟩ := h89.roF
        obtain ⟨x200, hc201, hF⟩ := cal_some hF
        refine o_call ha rfl rfl Tryd.call47 (W_spec_l1Has hro198 hI196 hc201) ?_; clear ha a; rintro v202 w203 ⟨rfl, hx204⟩ a ha
        replace h89 := h89.ext hx204
        have hE205 := Ext.trans hE96 hx204
        refine op_g ha rfl (g_not rfl) ?_; clear ha a; intro a ha; refine wpList_nil ?_; replace ha := ha.sub (σ' := [(0, va0), (3, v92), (4, (.int .i64 i94)), (21, (.bool (!x200)))]) ⟨rfl, rfl, rfl, rfl, trivial⟩; refine e_then ?_; refine c_cond (¬ (x200 = true)) ha rfl (n_iff (Iff.rfl)) (fun hp206 => ?_) (fun hp206 => ?_)
        · replace hF := if_t hp206 hF
          refine wp_region_lit ?_; (iterate 3 refine op_g ha rfl (g_move rfl) ?_; clear ha a; intro a ha); obtain ⟨x207, g208, gx209, hF⟩ := idx_some hF
          obtain ⟨p210, cs211, f212, hf213, hpb214, hat215, hr216, hi217⟩ := ha0.at g208 gx209
          obtain ⟨rfl, hI218, rfl⟩ := hr216
          refine op_g ha rfl (hi217.gives sl31 rfl rfl) ?_; clear ha a; intro a ha; refine op_g ha rfl (g_load0 hE205 Tryd.isAgg2 rfl hat215.one) ?_; clear ha a; intro a ha
          refine o_lit1 (o := true) (y := x207) Rp.int ha rfl sl31 rfl rfl rfl ⟨rfl, hI218, rfl⟩ ?_; clear ha a; intro v219 w220 h221 hx222 a ha
          obtain ⟨b224, hb224⟩ : ∃ b : Int, b = w203.heap.size := ⟨_, rfl⟩; rw [← hb224] at h221
          have q225 := zn_of hb224
          have q226 := Nq.new h89.fpb q225
          have q227 := Nq.madeO q225 h89.blt
          have q228 := Zn.upD q225 hE205
          replace h89 := h89.ext hx222
          have hE229 := Ext.trans hE205 hx222
          obtain ⟨hl230, hF⟩ := app_some hF
          refine o_append ha rfl sl31 rfl rfl rfl h89 h221.src (Nq.nil _) hl230 ?_; clear ha a; intro v231 w232 b233 h234 hc235 hb236 a ha
          replace h234 : Ow Rp.int 2 true w232 [] b233 v231 _ := h234
          have q238 := Nq.appY q227 h221.fpb hb236
          have q239 := Nq.appX q226 (Nq.nil _) hb236 h221.blt
          have q240 := Zn.appD z90 hb236 hE229
          replace h221 := h221.nq hc235 q227
          have hE241 := Ext.then hE229 hc235 (Zn.bl z90)
          refine op_g ha rfl (g_assign rfl) ?_; clear ha a; intro a ha; refine wpList_nil ?_; replace ha := ha.sub (σ' := [(0, va0), (3, v231), (4, (.int .i64 i94))]) ⟨rfl, rfl, rfl, trivial⟩; refine e_blk ?_; refine e_then ?_; refine wp_region_lit ?_; refine op_g ha rfl (g_move rfl) ?_; clear ha a; intro a ha; obtain ⟨hI242, hF⟩ := ck_some hF; refine op_g ha rfl (g_add rfl rfl hI242) ?_; clear ha a; intro a ha; refine op_g ha rfl (g_assign rfl) ?_; clear ha a; intro a ha; refine wpList_nil ?_; replace ha := ha.sub (σ' := [(0, va0), (3, v231), (4, (.int .i64 (i94 + 1)))]) ⟨rfl, rfl, rfl, trivial⟩
          refine e_lq ?_; obtain rfl := Option.some.inj hF
          exact ⟨_, Nat.lt_succ_self _, (l91 ++ ([x207])), i94 + 1, v231, b233, ha.sub ⟨rfl, rfl, rfl, trivial⟩, hE241, hI242, h234, q240, hN181⟩
        replace hF := if_f hp206 hF; refine wp_skip ?_; refine e_blk ?_; refine e_then ?_; refine wp_region_lit ?_; refine op_g ha rfl (g_move rfl) ?_; clear ha a; intro a ha; obtain ⟨hI244, hF⟩ := ck_some hF; refine op_g ha rfl (g_add rfl rfl hI244) ?_; clear ha a; intro a ha; refine op_g ha rfl (g_assign rfl) ?_; clear ha a; intro a ha; refine wpList_nil ?_; replace ha := ha.sub (σ' := [(0, va0), (3, v92), (4, (.int .i64 (i94 + 1)))]) ⟨rfl, rfl, rfl, trivial⟩; refine e_lq ?_; obtain rfl := Option.some.inj hF
        exact ⟨_, Nat.lt_succ_self _, l91, i94 + 1, v92, b93, ha.sub ⟨rfl, rfl, rfl, trivial⟩, hE205, hI244, h89, z90, hN181⟩
      replace hF := if_f hp184 hF; refine wp_exit ?_; refine e_then_exit ?_; refine e_lq_eq ?_; obtain rfl := Option.some.inj hF
      exact ⟨l91, v92, b93, ha.sub ⟨rfl, trivial⟩, hE96, h89, z90, (LK_inr hN181).symm⟩
  rintro a w168 ⟨l172, v173, b174, ha, hE180, h170, z171, rfl⟩
  have hF : F_spec_ColoursMany_k2 l172 = some _ := hK177; clear hK177; unfold F_spec_ColoursMany_k2 at hF
  refine e_then ?_; refine wp_seq ?_; refine wp_region_lit ?_; refine op_g ha rfl (g_move rfl) ?_; clear ha a; intro a ha; refine op_g ha rfl (g_lenO sl31.und h170 rfl) ?_; clear ha a; intro a ha; refine op_g ha rfl (g_assign rfl) ?_; clear ha a; intro a ha; refine wpList_nil ?_; replace ha := ha.sub (σ' := [(2, (.int .i64 (l172.length : Int)))]) ⟨rfl, trivial⟩; refine e_then ?_; refine wp_ret ?_; obtain rfl := Option.some.inj hF
  exact f_ret1 ha rfl rfl ⟨⟨rfl, h170.len⟩, hE180⟩
set_option maxHeartbeats 2000000 in
theorem W_laws_FnColours {W : World} {va0 : Value} {fa0 : List Nat} {a0 : (List (BitVec 8))} (ha0 : Ro Rp.u8 W fa0 va0 a0) (hG : GT 0 W) {r : Bool} (hF : F_laws_FnColours a0 = some r) :
    Calls Tryd.prog 3 [va0].toArray W (Ret fun u w' => u = .bool r ∧ Ext W w') := by
  refine f_enter Tryd.func3 rfl Tryd.ntmps3 rfl ?_
  intro a ha
  replace ha : Fr 115 [(0, va0)] a := ha
  have hE : Chg [] W W := Chg.refl _ _
  unfold F_laws_FnColours at hF
  refine wp_seq ?_; refine wp_region_lit ?_; refine op_g ha rfl (g_assign rfl) ?_; clear ha a; intro a ha; refine wpList_nil ?_; replace ha := ha.sub (σ' := [(0, va0)]) ⟨rfl, trivial⟩; refine e_then ?_; refine wp_seq ?_; refine wp_seq ?_; refine wp_region_lit ?_; refine op_g ha rfl (g_move rfl) ?_; clear ha a; intro a ha; obtain ⟨x1, hc2, hF⟩ := cal_some hF
  refine o_call ha rfl rfl Tryd.call5 (W_laws_big (ha0.ext hE) hc2) ?_; clear ha a; rintro v3 w4 ⟨rfl, hx5⟩ a ha
  have hE6 := Ext.trans hE hx5
  refine wpList_nil ?_; replace ha := ha.sub (σ' := [(0, va0), (14, (.bool x1))]) ⟨rfl, rfl, trivial⟩; refine e_then ?_; refine c_cond (x1 = true) ha rfl (Iff.rfl) (fun hp7 => ?_) (fun hp7 => ?_)
  · replace hF := if_t hp7 hF
    refine wp_seq ?_; refine wp_region_lit ?_; refine op_g ha rfl (g_assign rfl) ?_; clear ha a; intro a ha; refine wpList_nil ?_; replace ha := ha.sub (σ' := [(2, (.bool true))]) ⟨rfl, trivial⟩; refine e_then ?_; refine wp_ret ?_; refine e_then_ret ?_; obtain rfl := Option.some.inj hF
    exact f_ret1 ha rfl rfl ⟨rfl, hE6⟩
  replace hF := if_f hp7 hF; refine wp_skip ?_; refine e_then ?_; refine wp_seq ?_; refine wp_region_lit ?_; refine op_g ha rfl (g_move rfl) ?_; clear ha a; intro a ha; obtain ⟨x8, hc9, hF⟩ := cal_some hF
  refine o_call ha rfl rfl Tryd.call6 (W_laws_roll (ha0.ext hE6) (show InU 804 from by decide) hc9) ?_; clear ha a; rintro v10 w11 ⟨b13, fs14, h15, z16, hl17, hx12⟩ a ha
  have hE19 := Ext.trans hE6 hx12
  have q20 := Zn.upD z16 hE6
  refine op_g ha rfl (g_assign rfl) ?_; clear ha a; intro a ha; refine wpList_nil ?_; replace ha := ha.sub (σ' := [(3, v10)]) ⟨rfl, trivial⟩; refine e_then ?_; refine wp_seq ?_; refine wp_region_lit ?_; refine op_g ha rfl (g_move rfl) ?_; clear ha a; intro a ha; obtain ⟨x21, hc22, hF⟩ := cal_some hF
  refine o_call ha rfl rfl Tryd.call7 (W_laws_w6Graph h15 (show InI 8 from by decide) hc22) ?_; clear ha a; rintro v23 w24 ⟨u26, fp27, rfl, h28, pv29, h31, hx25⟩ a ha
  have q32 := Nq.rd pv29 (Nq.nil _) h15.blt
  have hE33 := Ext.then hE19 hx25 (Zn.bl q20)
  refine o_alloc (cs := [(.slice none 0 0)]) ha rfl Tryd.zeroValue29 rfl ?_; clear ha a; intro b34 w35 hB36 hx37 hlo38 a ha
  have q39 := Zn.one hlo38
  have q40 := Nq.new h31.fpb q39
  have q41 := Nq.made1 hlo38 h31.blt
  have q42 := Nq.new h28.bnd q39
  have q43 := Zn.upD q39 hE33
  replace h31 := h31.ext hx37
  replace h28 := h28.ext hx37
  have hE44 := Ext.trans hE33 hx37
  refine o_storeA (vs := [u26]) ha hB36 Tryd.sizeOf29 rfl rfl (by intro c hc; simp only [List.mem_cons, List.not_mem_nil, or_false] at hc; rcases hc with hc <;> subst hc <;> first | rfl | exact h28.oneC) rfl ?_; intro w45 hB46 hc47
  replace hc47 := hc47.bl
  replace hB46 : Bx w45 b34 [u26] 29 := hB46
  replace h31 := h31.nq hc47 q40
  replace h28 := h28.nq hc47 q42
  have hE48 := Ext.then hE44 hc47 (Zn.bl q43)
  refine wpList_nil ?_; replace ha := ha.sub (σ' := [(3, v10), (4, (.pointer (some ⟨b34, 0, none⟩)))]) ⟨rfl, rfl, trivial⟩; refine e_then ?_; refine wp_seq ?_; refine wp_region_lit ?_; refine op_g ha rfl (g_loadA (cs := [u26]) Tryd.isAgg29 Tryd.sizeOf29 rfl (by simp) hB46.all) ?_; clear ha a; intro a ha; obtain ⟨x49, hc50, hF⟩ := cal_some hF
  refine o_call ha rfl rfl Tryd.call8 (W_impl_BestColours h28 (hG.ext hE48) hc50) ?_; clear ha a; rintro v51 w52 ⟨b54, h55, z56, hx53⟩ a ha
  have q58 := Nq.new h31.fpb z56
  have q59 := Nq.madeO z56 h31.blt
  have q60 := Nq.new h28.bnd z56
  have q61 := Nq.new hB46.fpb z56
  have q62 := Nq.madeO z56 hB46.bi
  replace h31 := h31.ext hx53
  replace h28 := h28.ext hx53
  replace hB46 := hB46.ext hx53
  have hE63 := Ext.trans hE48 hx53
  have q64 := Zn.upD z56 hE48
  refine op_g ha rfl (g_assign rfl) ?_; clear ha a; intro a ha; refine wpList_nil ?_; replace ha := ha.sub (σ' := [(3, v10), (4, (.pointer (some ⟨b34, 0, none⟩))), (5, v51)]) ⟨rfl, rfl, rfl, trivial⟩; refine e_then ?_; refine wp_seq ?_; refine wp_region_lit ?_; refine op_g ha rfl (g_loadA (cs := [u26]) Tryd.isAgg29 Tryd.sizeOf29 rfl (by simp) hB46.all) ?_; clear ha a; intro a ha; obtain ⟨x65, hc66, hF⟩ := cal_some hF
  refine o_call ha rfl rfl Tryd.call9 (W_impl_ChromaticOf h28 hc66) ?_; clear ha a; rintro v67 w68 ⟨⟨rfl, hI70⟩, hx69⟩ a ha
  replace h31 := h31.ext hx69
  replace h28 := h28.ext hx69
  replace hB46 := hB46.ext hx69
  replace h55 := h55.ext hx69
  have hE71 := Ext.trans hE63 hx69
  refine op_g ha rfl (g_assign rfl) ?_; clear ha a; intro a ha; refine wpList_nil ?_; replace ha := ha.sub (σ' := [(3, v10), (4, (.pointer (some ⟨b34, 0, none⟩))), (5, v51), (6, (.int .i64 x65))]) ⟨rfl, rfl, rfl, rfl, trivial⟩; refine e_then ?_; refine wp_seq ?_; refine wp_seq ?_; refine wp_region_lit ?_; refine op_g ha rfl (g_loadA (cs := [u26]) Tryd.isAgg29 Tryd.sizeOf29 rfl (by simp) hB46.all) ?_; clear ha a; intro a ha; refine op_g ha rfl (g_move rfl) ?_; clear ha a; intro a ha
  obtain ⟨fp122, hro123, hs124⟩ := h55.roF
  obtain ⟨x125, hc126, hF⟩ := cal_some hF
  refine o_call ha rfl rfl Tryd.call10 (W_spec_ColoursOk h28 hro123 hc126) ?_; clear ha a; rintro v127 w128 ⟨rfl, hx129⟩ a ha
  replace h31 := h31.ext hx129
  replace h28 := h28.ext hx129
  replace hB46 := hB46.ext hx129
  replace h55 := h55.ext hx129
  have hE130 := Ext.trans hE71 hx129
  refine op_g ha rfl (g_not rfl) ?_; clear ha a; intro a ha; refine op_g ha rfl (g_move rfl) ?_; clear ha a; intro a ha
  by_cases hp131 : ¬ (x125 = true)
  · replace hF := if_t hp131 hF
    rw [show (!x125) = true from (n_iff (Iff.rfl)).2 hp131] at ha
    (iterate 4 refine op_unwant ha rfl (yields ha rfl rfl) rfl ?_; clear ha a; intro a ha); refine op_g ha rfl (g_pick rfl rfl) ?_; clear ha a; intro a ha; refine op_g ha rfl (g_move rfl) ?_; clear ha a; intro a ha; (iterate 4 refine op_unwant ha rfl (yields ha rfl rfl) rfl ?_; clear ha a; intro a ha); refine op_g ha rfl (g_pick rfl rfl) ?_; clear ha a; intro a ha; refine op_g ha rfl (g_move rfl) ?_; clear ha a; intro a ha; (iterate 5 refine op_unwant ha rfl (yields ha rfl rfl) rfl ?_; clear ha a; intro a ha); refine op_g ha rfl (g_pick rfl rfl) ?_; clear ha a; intro a ha; refine wpList_nil ?_
    replace ha := ha.sub (σ' := [(3, v10), (4, (.pointer (some ⟨b34, 0, none⟩))), (5, v51), (6, (.int .i64 x65)), (45, (.bool true))]) ⟨rfl, rfl, rfl, rfl, rfl, trivial⟩; refine e_then ?_; refine c_true ha rfl ?_; refine wp_seq ?_; refine wp_region_lit ?_; refine op_g ha rfl (g_assign rfl) ?_; clear ha a; intro a ha; refine wpList_nil ?_; replace ha := ha.sub (σ' := [(2, (.bool false))]) ⟨rfl, trivial⟩; refine e_then ?_; refine wp_ret ?_; refine e_then_ret ?_; obtain rfl := Option.some.inj hF
    exact f_ret1 ha rfl rfl ⟨rfl, hE130⟩
  replace hF := if_f hp131 hF
  rw [show (!x125) = false from b_false (n_iff (Iff.rfl)) hp131] at ha
  refine op_want (yields ha rfl rfl) ?_; refine op_g ha rfl (g_loadA (cs := [u26]) Tryd.isAgg29 Tryd.sizeOf29 rfl (by simp) hB46.all) ?_; clear ha a; intro a ha; refine op_want (yields ha rfl rfl) ?_; refine op_g ha rfl (g_move rfl) ?_; clear ha a; intro a ha; refine op_want (yields ha rfl rfl) ?_
  obtain ⟨fp132, hro133, hs134⟩ := h55.roF
  obtain ⟨x135, hc136, hF⟩ := cal_some hF
  refine o_call ha rfl rfl Tryd.call11 (W_impl_ColoursOk h28 hro133 hc136) ?_; clear ha a; rintro v137 w138 ⟨rfl, hx139⟩ a ha
  replace h31 := h31.ext hx139
  replace h28 := h28.ext hx139
  replace hB46 := hB46.ext hx139
  replace h55 := h55.ext hx139
  have hE140 := Ext.trans hE130 hx139
  refine op_want (yields ha rfl rfl) ?_; refine op_g ha rfl (g_not rfl) ?_; clear ha a; intro a ha; refine op_g ha rfl (g_pick rfl rfl) ?_; clear ha a; intro a ha; refine op_g ha rfl (g_move rfl) ?_; clear ha a; intro a ha
  by_cases hp141 : ¬ (x135 = true)
  · replace hF := if_t hp141 hF
    rw [show (!x135) = true from (n_iff (Iff.rfl)).2 hp141] at ha
    (iterate 4 refine op_unwant ha rfl (yields ha rfl rfl) rfl ?_; clear ha a; intro a ha); refine op_g ha rfl (g_pick rfl rfl) ?_; clear ha a; intro a ha; refine op_g ha rfl (g_move rfl) ?_; clear ha a; intro a ha; (iterate 5 refine op_unwant ha rfl (yields ha rfl rfl) rfl ?_; clear ha a; intro a ha); refine op_g ha rfl (g_pick rfl rfl) ?_; clear ha a; intro a ha; refine wpList_nil ?_; replace ha := ha.sub (σ' := [(3, v10), (4, (.pointer (some ⟨b34, 0, none⟩))), (5, v51), (6, (.int .i64 x65)), (45, (.bool true))]) ⟨rfl, rfl, rfl, rfl, rfl, trivial⟩; refine e_then ?_; refine c_true ha rfl ?_; refine wp_seq ?_
    refine wp_region_lit ?_; refine op_g ha rfl (g_assign rfl) ?_; clear ha a; intro a ha; refine wpList_nil ?_; replace ha := ha.sub (σ' := [(2, (.bool false))]) ⟨rfl, trivial⟩; refine e_then ?_; refine wp_ret ?_; refine e_then_ret ?_; obtain rfl := Option.some.inj hF
    exact f_ret1 ha rfl rfl ⟨rfl, hE140⟩
  replace hF := if_f hp141 hF
  rw [show (!x135) = false from b_false (n_iff (Iff.rfl)) hp141] at ha
  refine op_want (yields ha rfl rfl) ?_; refine op_g ha rfl (g_move rfl) ?_; clear ha a; intro a ha; refine op_want (yields ha rfl rfl) ?_
  obtain ⟨fp142, hro143, hs144⟩ := h55.roF
  obtain ⟨x145, hc146, hF⟩ := cal_some hF
  refine o_call ha rfl rfl Tryd.call12 (W_impl_ColoursMany hro143 hc146) ?_; clear ha a; rintro v147 w148 ⟨⟨rfl, hI150⟩, hx149⟩ a ha
  replace h31 := h31.ext hx149
  replace h28 := h28.ext hx149
  replace hB46 := hB46.ext hx149
  replace h55 := h55.ext hx149
  have hE151 := Ext.trans hE140 hx149
  refine op_want (yields ha rfl rfl) ?_; refine op_g ha rfl (g_move rfl) ?_; clear ha a; intro a ha; refine op_want (yields ha rfl rfl) ?_; refine op_g ha rfl (g_neq rfl rfl) ?_; clear ha a; intro a ha; refine op_g ha rfl (g_pick rfl rfl) ?_; clear ha a; intro a ha; refine op_g ha rfl (g_move rfl) ?_; clear ha a; intro a ha
  by_cases hp152 : x145 ≠ x65
  · replace hF := if_t hp152 hF
    rw [show (decide (x145 ≠ x65)) = true from (decide_eq_true_iff).2 hp152] at ha
    (iterate 5 refine op_unwant ha rfl (yields ha rfl rfl) rfl ?_; clear ha a; intro a ha); refine op_g ha rfl (g_pick rfl rfl) ?_; clear ha a; intro a ha; refine wpList_nil ?_; replace ha := ha.sub (σ' := [(3, v10), (4, (.pointer (some ⟨b34, 0, none⟩))), (5, v51), (6, (.int .i64 x65)), (45, (.bool true))]) ⟨rfl, rfl, rfl, rfl, rfl, trivial⟩; refine e_then ?_; refine c_true ha rfl ?_; refine wp_seq ?_; refine wp_region_lit ?_; refine op_g ha rfl (g_assign rfl) ?_; clear ha a; intro a ha; refine wpList_nil ?_; replace ha := ha.sub (σ' := [(2, (.bool false))]) ⟨rfl, trivial⟩; refine e_then ?_; refine wp_ret ?_
    refine e_then_ret ?_; obtain rfl := Option.some.inj hF
    exact f_ret1 ha rfl rfl ⟨rfl, hE151⟩
  replace hF := if_f hp152 hF
  rw [show (decide (x145 ≠ x65)) = false from b_false (decide_eq_true_iff) hp152] at ha
  refine op_want (yields ha rfl rfl) ?_; refine op_g ha rfl (g_move rfl) ?_; clear ha a; intro a ha; refine op_want (yields ha rfl rfl) ?_; refine op_g ha rfl (g_loadA (cs := [u26]) Tryd.isAgg29 Tryd.sizeOf29 rfl (by simp) hB46.all) ?_; clear ha a; intro a ha; refine op_want (yields ha rfl rfl) ?_; obtain ⟨x153, hc154, hF⟩ := cal_some hF
  refine o_call ha rfl rfl Tryd.call13 (W_spec_BestClique h28 hc154) ?_; clear ha a; rintro v155 w156 ⟨b158, h159, z160, hx157⟩ a ha
  have q162 := Nq.new h31.fpb z160
  have q163 := Nq.madeO z160 h31.blt
  have q164 := Nq.new h28.bnd z160
  have q165 := Nq.new hB46.fpb z160
  have q166 := Nq.madeO z160 hB46.bi
  have q167 := Nq.new h55.fpb z160
  have q168 := Nq.madeO z160 h55.blt
  replace h31 := h31.ext hx157
  replace h28 := h28.ext hx157
  replace hB46 := hB46.ext hx157
  replace h55 := h55.ext hx157
  have hE169 := Ext.trans hE151 hx157
  have q170 := Zn.upD z160 hE151
  refine op_want (yields ha rfl rfl) ?_; refine op_g ha rfl (g_lenO sl31.und h159 rfl) ?_; clear ha a; intro a ha; refine op_want (yields ha rfl rfl) ?_; refine op_g ha rfl (g_lss rfl rfl) ?_; clear ha a; intro a ha; refine op_g ha rfl (g_pick rfl rfl) ?_; clear ha a; intro a ha; refine wpList_nil ?_; replace ha := ha.sub (σ' := [(3, v10), (4, (.pointer (some ⟨b34, 0, none⟩))), (5, v51), (6, (.int .i64 x65)), (45, (.bool (decide (x65 < (x153.length : Int)))))]) ⟨rfl, rfl, rfl, rfl, rfl, trivial⟩; refine e_then ?_; refine c_cond (x65 < (x153.length : Int)) ha rfl (decide_eq_true_iff) (fun hp171 => ?_) (fun hp171 => ?_)
  · replace hF := if_t hp171 hF
    refine wp_seq ?_; refine wp_region_lit ?_; refine op_g ha rfl (g_assign rfl) ?_; clear ha a; intro a ha; refine wpList_nil ?_; replace ha := ha.sub (σ' := [(2, (.bool false))]) ⟨rfl, trivial⟩; refine e_then ?_; refine wp_ret ?_; refine e_then_ret ?_; obtain rfl := Option.some.inj hF
    exact f_ret1 ha rfl rfl ⟨rfl, hE169⟩
  replace hF := if_f hp171 hF; refine wp_skip ?_; refine e_then ?_; refine wp_seq ?_; refine wp_region_lit ?_
  refine o_lit0 Rp.int ha rfl sl31 ?_; clear ha a; intro v172 w173 h174 hx175 a ha
  obtain ⟨b177, hb177⟩ : ∃ b : Int, b = w156.heap.size := ⟨_, rfl⟩; rw [← hb177] at h174
  have q178 := zn_of hb177
  have q179 := Nq.new h31.fpb q178
  have q180 := Nq.madeO q178 h31.blt
  have q181 := Nq.new h28.bnd q178
  have q182 := Nq.new hB46.fpb q178
  have q183 := Nq.madeO q178 hB46.bi
  have q184 := Nq.new h55.fpb q178
  have q185 := Nq.madeO q178 h55.blt
  have q186 := Zn.upD q178 hE169
  replace h31 := h31.ext hx175
  replace h28 := h28.ext hx175
  replace hB46 := hB46.ext hx175
  replace h55 := h55.ext hx175
  have hE187 := Ext.trans hE169 hx175
  refine op_g ha rfl (g_assign rfl) ?_; clear ha a; intro a ha; refine wpList_nil ?_; replace ha := ha.sub (σ' := [(3, v10), (4, (.pointer (some ⟨b34, 0, none⟩))), (5, v51), (6, (.int .i64 x65)), (7, v172)]) ⟨rfl, rfl, rfl, rfl, rfl, trivial⟩; refine e_then ?_; refine wp_seq ?_; refine wp_seq ?_; refine wp_region_lit ?_; refine op_g ha rfl (g_assign rfl) ?_; clear ha a; intro a ha; refine wpList_nil ?_; replace ha := ha.sub (σ' := [(3, v10), (4, (.pointer (some ⟨b34, 0, none⟩))), (5, v51), (6, (.int .i64 x65)), (7, v172), (8, (.int .i64 0))]) ⟨rfl, rfl, rfl, rfl, rfl, rfl, trivial⟩; refine e_then ?_
  obtain ⟨o1042, ho1043, hK1044⟩ := bnd_some hF
  obtain ⟨n1045, hn1046⟩ := lp_some ho1043; clear ho1043
  refine c_loop (fun a w => ∃ (l1030 : (List Int)) (v1031 : Value) (b1032 : Int), Fr 115 [(3, v10), (4, (.pointer (some ⟨b34, 0, none⟩))), (6, (.int .i64 x65)), (7, v1031)] a ∧ Chg [] W w ∧ Dc 45 w fs14 b13 v10 x21.2 ∧ Zn W b13 ∧ Bx w b34 [u26] 29 ∧ Zn W (b34 : Int) ∧ Ro (Rp.sl 2 Rp.int) w fp27 u26 x21.1 ∧ Ow Rp.int 2 true w [] b1032 v1031 l1030 ∧ Zn W b1032 ∧ Nq (bl b13 ++ fs14) (b34 : Int) ∧ Nq (bl b13 ++ fs14) b1032 ∧ Nq ([b34]) b13 ∧ Nq ([b34]) b1032 ∧ Nq (fp27) b13 ∧ Nq (fp27) (b34 : Int) ∧ Nq (fp27) b1032 ∧ Nq (bl b1032 ++ []) b13 ∧ Nq (bl b1032 ++ []) (b34 : Int) ∧ o1042 = .inl l1030) (fun n a w => ∃ (l615 : (List Int)) (i618 : Int) (v616 : Value) (b617 : Int), Fr 115 [(3, v10), (4, (.pointer (some ⟨b34, 0, none⟩))), (5, v51), (6, (.int .i64 x65)), (7, v616), (8, (.int .i64 i618))] a ∧ Chg [] W w ∧ InI i618 ∧ Dc 45 w fs14 b13 v10 x21.2 ∧ Zn W b13 ∧ Bx w b34 [u26] 29 ∧ Zn W (b34 : Int) ∧ Ro (Rp.sl 2 Rp.int) w fp27 u26 x21.1 ∧ Ow Rp.int 2 true w [] b54 v51 x49 ∧ Zn W b54 ∧ Ow Rp.int 2 true w [] b617 v616 l615 ∧ Zn W b617 ∧ Nq (bl b13 ++ fs14) (b34 : Int) ∧ Nq (bl b13 ++ fs14) b54 ∧ Nq (bl b13 ++ fs14) b617 ∧ Nq ([b34]) b13 ∧ Nq ([b34]) b54 ∧ Nq ([b34]) b617 ∧ Nq (fp27) b13 ∧ Nq (fp27) (b34 : Int) ∧ Nq (fp27) b54 ∧ Nq (fp27) b617 ∧ Nq (bl b54 ++ []) b13 ∧ Nq (bl b54 ++ []) (b34 : Int) ∧ Nq (bl b54 ++ []) b617 ∧ Nq (bl b617 ++ []) b13 ∧ Nq (bl b617 ++ []) (b34 : Int) ∧ Nq (bl b617 ++ []) b54 ∧ lpN (fun s => F_laws_FnColours_l1 x49 x65 s.1 s.2) n (l615, i618) = some o1042) n1045 ⟨([] : (List Int)), 0, v172, b177, ha.sub ⟨rfl, rfl, rfl, rfl, rfl, rfl, trivial⟩, hE187, (show InI 0 from by decide), h31, q20, hB46, q43, h28, h55, q64, h174, q186, q40, q58, q179, q41, q61, q182, q32, q42, q60, q181, q59, q62, q184, q180, q183, q185, hn1046⟩ ?_ ?_
  · rintro m1050 a w601 ⟨l615, i618, v616, b617, ha, hE636, hI619, h603, z604, hB605, z606, h608, h610, z611, h613, z614, q620, q621, q622, q623, q624, q625, q626, q627, q628, q629, q630, q631, q632, q633, q634, q635, hF⟩
    cases m1050 with
    | zero => exact (lpN_zero hF).elim
    | succ m1050 =>
      obtain ⟨z1049, hF, hN1048⟩ := lpN_succ hF
      have hF : F_laws_FnColours_l1 x49 x65 l615 i618 = some z1049 := hF; unfold F_laws_FnColours_l1 at hF
      refine wp_seq ?_; refine wp_seq ?_; refine wp_region_lit ?_; (iterate 2 refine op_g ha rfl (g_move rfl) ?_; clear ha a; intro a ha); refine op_g ha rfl (g_lss rfl rfl) ?_; clear ha a; intro a ha; refine wpList_nil ?_; replace ha := ha.sub (σ' := [(3, v10), (4, (.pointer (some ⟨b34, 0, none⟩))), (5, v51), (6, (.int .i64 x65)), (7, v616), (8, (.int .i64 i618)), (49, (.bool (decide (i618 < x65))))]) ⟨rfl, rfl, rfl, rfl, rfl, rfl, rfl, trivial⟩; refine e_then ?_; refine c_cond (i618 < x65) ha rfl (decide_eq_true_iff) (fun hp1051 => ?_) (fun hp1051 => ?_)
      · replace hF := if_t hp1051 hF
        refine wp_skip ?_; refine e_then ?_; refine wp_seq ?_; refine wp_block ?_; refine wp_seq ?_; refine wp_region_lit ?_; refine op_g ha rfl (g_assign rfl) ?_; clear ha a; intro a ha; refine wpList_nil ?_; replace ha := ha.sub (σ' := [(3, v10), (4, (.pointer (some ⟨b34, 0, none⟩))), (5, v51), (6, (.int .i64 x65)), (7, v616), (8, (.int .i64 i618)), (9, (.int .i64 0))]) ⟨rfl, rfl, rfl, rfl, rfl, rfl, rfl, trivial⟩; refine e_then ?_; obtain ⟨o1332, ho1333, hK1334⟩ := bnd_some hF
        obtain ⟨n1335, hn1336⟩ := lp_some ho1333; clear ho1333
        refine c_loop (fun a w => ∃ (l1313 : (List Int)) (v1314 : Value) (b1315 : Int), Fr 115 [(3, v10), (4, (.pointer (some ⟨b34, 0, none⟩))), (5, v51), (6, (.int .i64 x65)), (7, v1314), (8, (.int .i64 i618))] a ∧ Chg [] W w ∧ Dc 45 w fs14 b13 v10 x21.2 ∧ Zn W b13 ∧ Bx w b34 [u26] 29 ∧ Zn W (b34 : Int) ∧ Ro (Rp.sl 2 Rp.int) w fp27 u26 x21.1 ∧ Ow Rp.int 2 true w [] b54 v51 x49 ∧ Zn W b54 ∧ Ow Rp.int 2 true w [] b1315 v1314 l1313 ∧ Zn W b1315 ∧ Nq (bl b13 ++ fs14) (b34 : Int) ∧ Nq (bl b13 ++ fs14) b54 ∧ Nq (bl b13 ++ fs14) b1315 ∧ Nq ([b34]) b13 ∧ Nq ([b34]) b54 ∧ Nq ([b34]) b1315 ∧ Nq (fp27) b13 ∧ Nq (fp27) (b34 : Int) ∧ Nq (fp27) b54 ∧ Nq (fp27) b1315 ∧ Nq (bl b54 ++ []) b13 ∧ Nq (bl b54 ++ []) (b34 : Int) ∧ Nq (bl b54 ++ []) b1315 ∧ Nq (bl b1315 ++ []) b13 ∧ Nq (bl b1315 ++ []) (b34 : Int) ∧ Nq (bl b1315 ++ []) b54 ∧ o1332 = .inl l1313) (fun n a w => ∃ (l1187 : (List Int)) (i1190 : Int) (v1188 : Value) (b1189 : Int), Fr 115 [(3, v10), (4, (.pointer (some ⟨b34, 0, none⟩))), (5, v51), (6, (.int .i64 x65)), (7, v1188), (8, (.int .i64 i618)), (9, (.int .i64 i1190))] a ∧ Chg [] W w ∧ InI i1190 ∧ Dc 45 w fs14 b13 v10 x21.2 ∧ Zn W b13 ∧ Bx w b34 [u26] 29 ∧ Zn W (b34 : Int) ∧ Ro (Rp.sl 2 Rp.int) w fp27 u26 x21.1 ∧ Ow Rp.int 2 true w [] b54 v51 x49 ∧ Zn W b54 ∧ Ow Rp.int 2 true w [] b1189 v1188 l1187 ∧ Zn W b1189 ∧ Nq (bl b13 ++ fs14) (b34 : Int) ∧ Nq (bl b13 ++ fs14) b54 ∧ Nq (bl b13 ++ fs14) b1189 ∧ Nq ([b34]) b13 ∧ Nq ([b34]) b54 ∧ Nq ([b34]) b1189 ∧ Nq (fp27) b13 ∧ Nq (fp27) (b34 : Int) ∧ Nq (fp27) b54 ∧ Nq (fp27) b1189 ∧ Nq (bl b54 ++ []) b13 ∧ Nq (bl b54 ++ []) (b34 : Int) ∧ Nq (bl b54 ++ []) b1189 ∧ Nq (bl b1189 ++ []) b13 ∧ Nq (bl b1189 ++ []) (b34 : Int) ∧ Nq (bl b1189 ++ []) b54 ∧ lpN (fun s => F_laws_FnColours_l2 x49 i618 s.1 s.2) n (l1187, i1190) = some o1332) n1335 ⟨l615, 0, v616, b617, ha.sub ⟨rfl, rfl, rfl, rfl, rfl, rfl, rfl, trivial⟩, hE636, (show InI 0 from by decide), h603, z604, hB605, z606, h608, h610, z611, h613, z614, q620, q621, q622, q623, q624, q625, q626, q627, q628, q629, q630, q631, q632, q633, q634, q635, hn1336⟩ ?_ ?_
        · rintro m1340 a w1173 ⟨l1187, i1190, v1188, b1189, ha, hE1208, hI1191, h1175, z1176, hB1177, z1178, h1180, h1182, z1183, h1185, z1186, q1192, q1193, q1194, q1195, q1196, q1197, q1198, q1199, q1200, q1201, q1202, q1203, q1204, q1205, q1206, q1207, hF⟩
          cases m1340 with
          | zero => exact (lpN_zero hF).elim
          | succ m1340 =>
            obtain ⟨z1339, hF, hN1338⟩ := lpN_succ hF
            have hF : F_laws_FnColours_l2 x49 i618 l1187 i1190 = some z1339 := hF; unfold F_laws_FnColours_l2 at hF
            refine wp_seq ?_; refine wp_seq ?_; refine wp_region_lit ?_; (iterate 2 refine op_g ha rfl (g_move rfl) ?_; clear ha a; intro a ha); refine op_g ha rfl (g_lenO sl31.und h1182 rfl) ?_; clear ha a; intro a ha; refine op_g ha rfl (g_lss rfl rfl) ?_; clear ha a; intro a ha; refine wpList_nil ?_; replace ha := ha.sub (σ' := [(3, v10), (4, (.pointer (some ⟨b34, 0, none⟩))), (5, v51), (6, (.int .i64 x65)), (7, v1188), (8, (.int .i64 i618)), (9, (.int .i64 i1190)), (55, (.bool (decide (i1190 < (x49.length : Int)))))]) ⟨rfl, rfl, rfl, rfl, rfl, rfl, rfl, rfl, trivial⟩; refine e_then ?_; refine c_cond (i1190 < (x49.length : Int)) ha rfl (decide_eq_true_iff) (fun hp1341 => ?_) (fun hp1341 => ?_)
            · replace hF := if_t hp1341 hF
              refine wp_skip ?_; refine e_then ?_; refine wp_seq ?_; refine wp_block ?_; refine wp_seq ?_; refine wp_region_lit ?_; (iterate 2 refine op_g ha rfl (g_move rfl) ?_; clear ha a; intro a ha); obtain ⟨x1342, g1343, gx1344, hF⟩ := idx_some hF
              obtain ⟨p1345, cs1346, f1347, hf1348, hpb1349, hat1350, hr1351, hi1352⟩ := h1182.at g1343 gx1344
              obtain ⟨rfl, hI1353, rfl⟩ := hr1351
              refine op_g ha rfl (hi1352.gives sl31 rfl rfl) ?_; clear ha a; intro a ha; refine op_g ha rfl (g_load Tryd.isAgg2 rfl hat1350.one) ?_; clear ha a; intro a ha; refine op_g ha rfl (g_move rfl) ?_; clear ha a; intro a ha; refine op_g ha rfl (g_eql rfl rfl) ?_; clear ha a; intro a ha; refine wpList_nil ?_; replace ha := ha.sub (σ' := [(3, v10), (4, (.pointer (some ⟨b34, 0, none⟩))), (5, v51), (6, (.int .i64 x65)), (7, v1188), (8, (.int .i64 i618)), (9, (.int .i64 i1190)), (63, (.bool (decide (x1342 = i618))))]) ⟨rfl, rfl, rfl, rfl, rfl, rfl, rfl, rfl, trivial⟩; refine e_then ?_; refine c_cond (x1342 = i618) ha rfl (decide_eq_true_iff) (fun hp1354 => ?_) (fun hp1354 => ?_)
              · replace hF := if_t hp1354 hF
                refine wp_region_lit ?_; (iterate 2 refine op_g ha rfl (g_move rfl) ?_; clear ha a; intro a ha)
                refine o_lit1 (o := true) (y := i1190) Rp.int ha rfl sl31 rfl rfl rfl ⟨rfl, hI1191, rfl⟩ ?_; clear ha a; intro v1355 w1356 h1357 hx1358 a ha
                obtain ⟨b1360, hb1360⟩ : ∃ b : Int, b = w1173.heap.size := ⟨_, rfl⟩; rw [← hb1360] at h1357
                have q1361 := zn_of hb1360
                have q1362 := Nq.new h1175.fpb q1361
                have q1363 := Nq.madeO q1361 h1175.blt
                have q1364 := Nq.new hB1177.fpb q1361
                have q1365 := Nq.madeO q1361 hB1177.bi
                have q1366 := Nq.new h1180.bnd q1361
                have q1367 := Nq.new h1182.fpb q1361
                have q1368 := Nq.madeO q1361 h1182.blt
                have q1369 := Nq.new h1185.fpb q1361
                have q1370 := Nq.madeO q1361 h1185.blt
                have q1371 := Zn.upD q1361 hE1208
                replace h1175 := h1175.ext hx1358
                replace hB1177 := hB1177.ext hx1358
                replace h1180 := h1180.ext hx1358
                replace h1182 := h1182.ext hx1358
                replace h1185 := h1185.ext hx1358
                have hE1372 := Ext.trans hE1208 hx1358
                obtain ⟨hl1373, hF⟩ := app_some hF
                refine o_append ha rfl sl31 rfl rfl rfl h1185 h1357.src (Nq.nil _) hl1373 ?_; clear ha a; intro v1374 w1375 b1376 h1377 hc1378 hb1379 a ha
                replace h1377 : Ow Rp.int 2 true w1375 [] b1376 v1374 _ := h1377
                have q1381 := Nq.appY q1194 h1175.fpb hb1379
                have q1382 := Nq.appX q1205 (Nq.nil _) hb1379 h1175.blt
                have q1383 := Nq.appY q1197 hB1177.fpb hb1379
                have q1384 := Nq.appX q1206 (Nq.nil _) hb1379 hB1177.bi
                have q1385 := Nq.appY q1201 h1180.bnd hb1379
                have q1386 := Nq.appY q1204 h1182.fpb hb1379
                have q1387 := Nq.appX q1207 (Nq.nil _) hb1379 h1182.blt
                have q1388 := Nq.appY q1370 h1357.fpb hb1379
                have q1389 := Nq.appX q1369 (Nq.nil _) hb1379 h1357.blt
                have q1390 := Zn.appD z1186 hb1379 hE1372
                replace h1175 := h1175.nq hc1378 q1194
                replace hB1177 := hB1177.nq hc1378 q1197
                replace h1180 := h1180.nq hc1378 q1201
                replace h1182 := h1182.nq hc1378 q1204
                replace h1357 := h1357.nq hc1378 q1370
                have hE1391 := Ext.then hE1372 hc1378 (Zn.bl z1186)
                refine op_g ha rfl (g_assign rfl) ?_; clear ha a; intro a ha; refine wpList_nil ?_; replace ha := ha.sub (σ' := [(3, v10), (4, (.pointer (some ⟨b34, 0, none⟩))), (5, v51), (6, (.int .i64 x65)), (7, v1374), (8, (.int .i64 i618)), (9, (.int .i64 i1190))]) ⟨rfl, rfl, rfl, rfl, rfl, rfl, rfl, trivial⟩; refine e_blk ?_; refine e_then ?_; refine wp_region_lit ?_; refine op_g ha rfl (g_move rfl) ?_; clear ha a; intro a ha; obtain ⟨hI1392, hF⟩ := ck_some hF; refine op_g ha rfl (g_add rfl rfl hI1392) ?_; clear ha a; intro a ha; refine op_g ha rfl (g_assign rfl) ?_; clear ha a; intro a ha
                refine wpList_nil ?_; replace ha := ha.sub (σ' := [(3, v10), (4, (.pointer (some ⟨b34, 0, none⟩))), (5, v51), (6, (.int .i64 x65)), (7, v1374), (8, (.int .i64 i618)), (9, (.int .i64 (i1190 + 1)))]) ⟨rfl, rfl, rfl, rfl, rfl, rfl, rfl, trivial⟩; refine e_lq ?_; obtain rfl := Option.some.inj hF
                exact ⟨_, Nat.lt_succ_self _, (l1187 ++ ([i1190])), i1190 + 1, v1374, b1376, ha.sub ⟨rfl, rfl, rfl, rfl, rfl, rfl, rfl, trivial⟩, hE1391, hI1392, h1175, z1176, hB1177, z1178, h1180, h1182, z1183, h1377, q1390, q1192, q1193, q1381, q1195, q1196, q1383, q1198, q1199, q1200, q1385, q1202, q1203, q1386, q1382, q1384, q1387, hN1338⟩
              replace hF := if_f hp1354 hF; refine wp_skip ?_; refine e_blk ?_; refine e_then ?_; refine wp_region_lit ?_; refine op_g ha rfl (g_move rfl) ?_; clear ha a; intro a ha; obtain ⟨hI1394, hF⟩ := ck_some hF; refine op_g ha rfl (g_add rfl rfl hI1394) ?_; clear ha a; intro a ha; refine op_g ha rfl (g_assign rfl) ?_; clear ha a; intro a ha; refine wpList_nil ?_; replace ha := ha.sub (σ' := [(3, v10), (4, (.pointer (some ⟨b34, 0, none⟩))), (5, v51), (6, (.int .i64 x65)), (7, v1188), (8, (.int .i64 i618)), (9, (.int .i64 (i1190 + 1)))]) ⟨rfl, rfl, rfl, rfl, rfl, rfl, rfl, trivial⟩; refine e_lq ?_
              obtain rfl := Option.some.inj hF
              exact ⟨_, Nat.lt_succ_self _, l1187, i1190 + 1, v1188, b1189, ha.sub ⟨rfl, rfl, rfl, rfl, rfl, rfl, rfl, trivial⟩, hE1208, hI1394, h1175, z1176, hB1177, z1178, h1180, h1182, z1183, h1185, z1186, q1192, q1193, q1194, q1195, q1196, q1197, q1198, q1199, q1200, q1201, q1202, q1203, q1204, q1205, q1206, q1207, hN1338⟩
            replace hF := if_f hp1341 hF; refine wp_exit ?_; refine e_then_exit ?_; refine e_lq_eq ?_; obtain rfl := Option.some.inj hF
            exact ⟨l1187, v1188, b1189, ha.sub ⟨rfl, rfl, rfl, rfl, rfl, rfl, trivial⟩, hE1208, h1175, z1176, hB1177, z1178, h1180, h1182, z1183, h1185, z1186, q1192, q1193, q1194, q1195, q1196, q1197, q1198, q1199, q1200, q1201, q1202, q1203, q1204, q1205, q1206, q1207, (LK_inr hN1338).symm⟩
        rintro a w1299 ⟨l1313, v1314, b1315, ha, hE1337, h1301, z1302, hB1303, z1304, h1306, h1308, z1309, h1311, z1312, q1316, q1317, q1318, q1319, q1320, q1321, q1322, q1323, q1324, q1325, q1326, q1327, q1328, q1329, q1330, q1331, rfl⟩
        have hF : F_laws_FnColours_k3 i618 l1313 = some _ := hK1334; clear hK1334; unfold F_laws_FnColours_k3 at hF
        refine e_blk ?_; refine e_then ?_; refine wp_region_lit ?_; refine op_g ha rfl (g_move rfl) ?_; clear ha a; intro a ha; obtain ⟨hI1396, hF⟩ := ck_some hF; refine op_g ha rfl (g_add rfl rfl hI1396) ?_; clear ha a; intro a ha; refine op_g ha rfl (g_assign rfl) ?_; clear ha a; intro a ha; refine wpList_nil ?_; replace ha := ha.sub (σ' := [(3, v10), (4, (.pointer (some ⟨b34, 0, none⟩))), (5, v51), (6, (.int .i64 x65)), (7, v1314), (8, (.int .i64 (i618 + 1)))]) ⟨rfl, rfl, rfl, rfl, rfl, rfl, trivial⟩; refine e_lq ?_; obtain rfl := Option.some.inj hF
        exact ⟨_, Nat.lt_succ_self _, l1313, i618 + 1, v1314, b1315, ha.sub ⟨rfl, rfl, rfl, rfl, rfl, rfl, trivial⟩, hE1337, hI1396, h1301, z1302, hB1303, z1304, h1306, h1308, z1309, h1311, z1312, q1316, q1317, q1318, q1319, q1320, q1321, q1322, q1323, q1324, q1325, q1326, q1327, q1328, q1329, q1330, q1331, hN1048⟩
      replace hF := if_f hp1051 hF; refine wp_exit ?_; refine e_then_exit ?_; refine e_lq_eq ?_; obtain rfl := Option.some.inj hF
      exact ⟨l615, v616, b617, ha.sub ⟨rfl, rfl, rfl, rfl, trivial⟩, hE636, h603, z604, hB605, z606, h608, h613, z614, q620, q622, q623, q625, q626, q627, q629, q633, q634, (LK_inr hN1048).symm⟩
  rintro a w1019 ⟨l1030, v1031, b1032, ha, hE1047, h1021, z1022, hB1023, z1024, h1026, h1028, z1029, q1033, q1034, q1035, q1036, q1037, q1038, q1039, q1040, q1041, rfl⟩
  have hF : F_laws_FnColours_k4 x21 x65 l1030 = some _ := hK1044; clear hK1044; unfold F_laws_FnColours_k4 at hF
  refine e_then ?_; refine wp_seq ?_
  have hS1398 := Ext.below hE1047
  refine x_regionB (B := W.heap.size) [0, 1, 2, 3, 4, 5] hmix ?_; refine x_g 1 rfl (by kernel_rfl) (want0 _) ha rfl hS1398 (g_move rfl) ?_; clear ha a; intro a ha; obtain ⟨xqr1o3_1, hcqr1o3_1, hF⟩ := cal_some hF; obtain ⟨xqr1o4_1, hcqr1o4_1, hF⟩ := cal_some hF; refine x_many [0, 2] (by kernel_rfl) rfl fun wqr1_1 hxqr1_1 => ⟨⟨_, rfl, ?_⟩, ⟨_, rfl, ?_⟩, trivial⟩
  · skip
    replace h1021 := h1021.ext hxqr1_1
    replace hB1023 := hB1023.ext hxqr1_1
    replace h1026 := h1026.ext hxqr1_1
    replace h1028 := h1028.ext hxqr1_1
    have hEqr1o0_1 := Ext.trans hE1047 hxqr1_1
    have qqr1o0_1 := bel_step hS1398 hxqr1_1
    refine op_g ha rfl (g_loadA (cs := [u26]) Tryd.isAgg29 Tryd.sizeOf29 rfl (by simp) hB1023.all) ?_; clear ha a; intro a ha; refine wpList_nil (e_sq ?_)
    have hStqr1o0_1 : RowKit.Below W.heap.size wqr1_1 wqr1_1 := RowKit.Below.refl _ _
    refine ⟨fun _ => hStqr1o0_1, ?_⟩
    have qqr1o0_2 := RowKit.Below.trans qqr1o0_1 hStqr1o0_1
    refine x_only 2 rfl (by kernel_rfl) ?_; intro wqr1o2_1 hxqr1o2_1
    replace h1021 := h1021.ext hxqr1o2_1
    replace hB1023 := hB1023.ext hxqr1o2_1
    replace h1026 := h1026.ext hxqr1o2_1
    replace h1028 := h1028.ext hxqr1o2_1
    have hEqr1o2_1 := Ext.trans hEqr1o0_1 hxqr1o2_1
    have qqr1o2_1 := bel_step qqr1o0_2 hxqr1o2_1
    refine op_g ha rfl (g_loadA (cs := [u26]) Tryd.isAgg29 Tryd.sizeOf29 rfl (by simp) hB1023.all) ?_; clear ha a; intro a ha; refine wpList_nil (e_sq ?_)
    have hStqr1o2_1 : RowKit.Below W.heap.size wqr1o2_1 wqr1o2_1 := RowKit.Below.refl _ _
    refine ⟨fun _ => hStqr1o2_1, ?_⟩
    have qqr1o2_2 := RowKit.Below.trans qqr1o2_1 hStqr1o2_1
    refine x_only 3 rfl (by kernel_rfl) ?_; intro wqr1o3_1 hxqr1o3_1
    replace h1021 := h1021.ext hxqr1o3_1
    replace hB1023 := hB1023.ext hxqr1o3_1
    replace h1026 := h1026.ext hxqr1o3_1
    replace h1028 := h1028.ext hxqr1o3_1
    have hEqr1o3_1 := Ext.trans hEqr1o2_1 hxqr1o3_1
    have qqr1o3_1 := bel_step qqr1o2_2 hxqr1o3_1
    refine o_call ha rfl rfl Tryd.call15 (W_laws_w6Order h1021 h1026 q1037 hcqr1o3_1) ?_; clear ha a; rintro vqr1o3_1 wqr1o3_2 ⟨bqr1o3_1, hqr1o3_1, zqr1o3_1, hqr1o3_2, hxqr1o3_2⟩ a ha
    have qqr1o3_2 := Nq.new h1021.fpb zqr1o3_1
    have qqr1o3_3 := Nq.madeO zqr1o3_1 h1021.blt
    have qqr1o3_4 := Nq.new hB1023.fpb zqr1o3_1
    have qqr1o3_5 := Nq.madeO zqr1o3_1 hB1023.bi
    have qqr1o3_6 := Nq.new h1026.bnd zqr1o3_1
    have qqr1o3_7 := Nq.new h1028.fpb zqr1o3_1
    have qqr1o3_8 := Nq.madeO zqr1o3_1 h1028.blt
    replace hB1023 := hB1023.nq hxqr1o3_2 q1035
    replace h1026 := h1026.nq hxqr1o3_2 q1037
    replace h1028 := h1028.nq hxqr1o3_2 q1040
    have hEqr1o3_2 := Ext.then hEqr1o3_1 hxqr1o3_2 (Zn.bl z1022)
    have qqr1o3_9 := Zn.upD zqr1o3_1 hEqr1o3_1
    refine wpList_nil (e_sq ?_)
    have hStqr1o3_1 : RowKit.Below W.heap.size wqr1o3_1 wqr1o3_2 := chg_bel hxqr1o3_2 qqr1o3_1.size (Zn.bl z1022)
    refine ⟨fun _ => hStqr1o3_1, ?_⟩
    have qqr1o3_10 := RowKit.Below.trans qqr1o3_1 hStqr1o3_1
    refine x_only 4 rfl (by kernel_rfl) ?_; intro wqr1o4_1 hxqr1o4_1
    replace hqr1o3_2 := hqr1o3_2.ext hxqr1o4_1
    replace hB1023 := hB1023.ext hxqr1o4_1
    replace h1026 := h1026.ext hxqr1o4_1
    replace h1028 := h1028.ext hxqr1o4_1
    replace hqr1o3_1 := hqr1o3_1.ext hxqr1o4_1
    have hEqr1o4_1 := Ext.trans hEqr1o3_2 hxqr1o4_1
    have qqr1o4_1 := bel_step qqr1o3_10 hxqr1o4_1
    obtain ⟨fpqr1o4_1, hroqr1o4_1, hsqr1o4_1⟩ := hqr1o3_1.roF
    refine o_call ha rfl rfl Tryd.call14 (W_impl_InTurn h1026 hroqr1o4_1 hcqr1o4_1) ?_; clear ha a; rintro vqr1o4_1 wqr1o4_2 ⟨bqr1o4_1, hqr1o4_1, zqr1o4_1, hxqr1o4_2⟩ a ha
    have qqr1o4_2 := Zn.upB zqr1o4_1 qqr1o4_1
    have qqr1o4_3 := Nq.new hqr1o3_2.fpb zqr1o4_1
    have qqr1o4_4 := Nq.madeO zqr1o4_1 hqr1o3_2.blt
    have qqr1o4_5 := Nq.new hB1023.fpb zqr1o4_1
    have qqr1o4_6 := Nq.madeO zqr1o4_1 hB1023.bi
    have qqr1o4_7 := Nq.new h1026.bnd zqr1o4_1
    have qqr1o4_8 := Nq.new h1028.fpb zqr1o4_1
    have qqr1o4_9 := Nq.madeO zqr1o4_1 h1028.blt
    have qqr1o4_10 := Nq.new hqr1o3_1.fpb zqr1o4_1
    have qqr1o4_11 := Nq.madeO zqr1o4_1 hqr1o3_1.blt
    replace hqr1o3_2 := hqr1o3_2.ext hxqr1o4_2
    replace hB1023 := hB1023.ext hxqr1o4_2
    replace h1026 := h1026.ext hxqr1o4_2
    replace h1028 := h1028.ext hxqr1o4_2
    replace hqr1o3_1 := hqr1o3_1.ext hxqr1o4_2
    have hEqr1o4_2 := Ext.trans hEqr1o4_1 hxqr1o4_2
    have qqr1o4_12 := Zn.upD zqr1o4_1 hEqr1o4_1
    refine wpList_nil (e_sq ?_)
    have hStqr1o4_1 : RowKit.Below W.heap.size wqr1o4_1 wqr1o4_2 := ext_bel qqr1o4_1.size hxqr1o4_2
    refine ⟨fun _ => hStqr1o4_1, ?_⟩
    have qqr1o4_13 := RowKit.Below.trans qqr1o4_1 hStqr1o4_1
    refine x_g 5 rfl (by kernel_rfl) (want0 _) ha rfl qqr1o4_13 (g_assign rfl) ?_; clear ha a; intro a ha
    refine x_done (by kernel_rfl) ?_; intro w1399 hx1400
    replace hqr1o3_2 := hqr1o3_2.ext hx1400
    replace hB1023 := hB1023.ext hx1400
    replace h1026 := h1026.ext hx1400
    replace h1028 := h1028.ext hx1400
    replace hqr1o3_1 := hqr1o3_1.ext hx1400
    replace hqr1o4_1 := hqr1o4_1.ext hx1400
    have hE1401 := Ext.trans hEqr1o4_2 hx1400
    replace ha := ha.sub (σ' := [(4, (.pointer (some ⟨b34, 0, none⟩))), (6, (.int .i64 x65)), (7, v1031), (10, vqr1o4_1)]) ⟨rfl, rfl, rfl, rfl, trivial⟩; refine e_then ?_; refine wp_seq ?_; refine wp_region_lit ?_; refine op_g ha rfl (g_loadA (cs := [u26]) Tryd.isAgg29 Tryd.sizeOf29 rfl (by simp) hB1023.all) ?_; clear ha a; intro a ha; refine op_g ha rfl (g_move rfl) ?_; clear ha a; intro a ha
    obtain ⟨fp1402, hro1403, hs1404⟩ := h1028.roF
    obtain ⟨x1405, hc1406, hF⟩ := cal_some hF
    refine o_call ha rfl rfl Tryd.call14 (W_impl_InTurn h1026 hro1403 hc1406) ?_; clear ha a; rintro v1407 w1408 ⟨b1410, h1411, z1412, hx1409⟩ a ha
    have q1414 := Nq.new hB1023.fpb z1412
    have q1415 := Nq.madeO z1412 hB1023.bi
    have q1416 := Nq.new h1026.bnd z1412
    have q1417 := Nq.new h1028.fpb z1412
    have q1418 := Nq.madeO z1412 h1028.blt
    have q1419 := Nq.new hqr1o4_1.fpb z1412
    have q1420 := Nq.madeO z1412 hqr1o4_1.blt
    replace hB1023 := hB1023.ext hx1409
    replace h1026 := h1026.ext hx1409
    replace h1028 := h1028.ext hx1409
    replace hqr1o4_1 := hqr1o4_1.ext hx1409
    have hE1421 := Ext.trans hE1401 hx1409
    have q1422 := Zn.upD z1412 hE1401
    refine op_g ha rfl (g_assign rfl) ?_; clear ha a; intro a ha; refine wpList_nil ?_; replace ha := ha.sub (σ' := [(4, (.pointer (some ⟨b34, 0, none⟩))), (6, (.int .i64 x65)), (10, vqr1o4_1), (11, v1407)]) ⟨rfl, rfl, rfl, rfl, trivial⟩; refine e_then ?_; refine wp_seq ?_; refine wp_seq ?_; refine wp_region_lit ?_; refine op_g ha rfl (g_loadA (cs := [u26]) Tryd.isAgg29 Tryd.sizeOf29 rfl (by simp) hB1023.all) ?_; clear ha a; intro a ha; refine op_g ha rfl (g_move rfl) ?_; clear ha a; intro a ha
    obtain ⟨fp1465, hro1466, hs1467⟩ := hqr1o4_1.roF
    obtain ⟨x1468, hc1469, hF⟩ := cal_some hF
    refine o_call ha rfl rfl Tryd.call10 (W_spec_ColoursOk h1026 hro1466 hc1469) ?_; clear ha a; rintro v1470 w1471 ⟨rfl, hx1472⟩ a ha
    replace hB1023 := hB1023.ext hx1472
    replace h1026 := h1026.ext hx1472
    replace hqr1o4_1 := hqr1o4_1.ext hx1472
    replace h1411 := h1411.ext hx1472
    have hE1473 := Ext.trans hE1421 hx1472
    refine op_g ha rfl (g_not rfl) ?_; clear ha a; intro a ha; refine op_g ha rfl (g_move rfl) ?_; clear ha a; intro a ha
    by_cases hp1474 : ¬ (x1468 = true)
    · replace hF := if_t hp1474 hF
      rw [show (!x1468) = true from (n_iff (Iff.rfl)).2 hp1474] at ha
      (iterate 4 refine op_unwant ha rfl (yields ha rfl rfl) rfl ?_; clear ha a; intro a ha); refine op_g ha rfl (g_pick rfl rfl) ?_; clear ha a; intro a ha; refine op_g ha rfl (g_move rfl) ?_; clear ha a; intro a ha; (iterate 4 refine op_unwant ha rfl (yields ha rfl rfl) rfl ?_; clear ha a; intro a ha); refine op_g ha rfl (g_pick rfl rfl) ?_; clear ha a; intro a ha; refine op_g ha rfl (g_move rfl) ?_; clear ha a; intro a ha; (iterate 4 refine op_unwant ha rfl (yields ha rfl rfl) rfl ?_; clear ha a; intro a ha); refine op_g ha rfl (g_pick rfl rfl) ?_; clear ha a; intro a ha; refine wpList_nil ?_
      replace ha := ha.sub (σ' := [(4, (.pointer (some ⟨b34, 0, none⟩))), (10, vqr1o4_1), (97, (.bool true))]) ⟨rfl, rfl, rfl, trivial⟩; refine e_then ?_; refine c_true ha rfl ?_; refine wp_seq ?_; refine wp_region_lit ?_; refine op_g ha rfl (g_assign rfl) ?_; clear ha a; intro a ha; refine wpList_nil ?_; replace ha := ha.sub (σ' := [(2, (.bool false))]) ⟨rfl, trivial⟩; refine e_then ?_; refine wp_ret ?_; refine e_then_ret ?_; obtain rfl := Option.some.inj hF
      exact f_ret1 ha rfl rfl ⟨rfl, hE1473⟩
    replace hF := if_f hp1474 hF
    rw [show (!x1468) = false from b_false (n_iff (Iff.rfl)) hp1474] at ha
    refine op_want (yields ha rfl rfl) ?_; refine op_g ha rfl (g_loadA (cs := [u26]) Tryd.isAgg29 Tryd.sizeOf29 rfl (by simp) hB1023.all) ?_; clear ha a; intro a ha; refine op_want (yields ha rfl rfl) ?_; refine op_g ha rfl (g_move rfl) ?_; clear ha a; intro a ha; refine op_want (yields ha rfl rfl) ?_
    obtain ⟨fp1475, hro1476, hs1477⟩ := h1411.roF
    obtain ⟨x1478, hc1479, hF⟩ := cal_some hF
    refine o_call ha rfl rfl Tryd.call10 (W_spec_ColoursOk h1026 hro1476 hc1479) ?_; clear ha a; rintro v1480 w1481 ⟨rfl, hx1482⟩ a ha
    replace hB1023 := hB1023.ext hx1482
    replace h1026 := h1026.ext hx1482
    replace hqr1o4_1 := hqr1o4_1.ext hx1482
    replace h1411 := h1411.ext hx1482
    have hE1483 := Ext.trans hE1473 hx1482
    refine op_want (yields ha rfl rfl) ?_; refine op_g ha rfl (g_not rfl) ?_; clear ha a; intro a ha; refine op_g ha rfl (g_pick rfl rfl) ?_; clear ha a; intro a ha; refine op_g ha rfl (g_move rfl) ?_; clear ha a; intro a ha
    by_cases hp1484 : ¬ (x1478 = true)
    · replace hF := if_t hp1484 hF
      rw [show (!x1478) = true from (n_iff (Iff.rfl)).2 hp1484] at ha
      (iterate 4 refine op_unwant ha rfl (yields ha rfl rfl) rfl ?_; clear ha a; intro a ha); refine op_g ha rfl (g_pick rfl rfl) ?_; clear ha a; intro a ha; refine op_g ha rfl (g_move rfl) ?_; clear ha a; intro a ha; (iterate 4 refine op_unwant ha rfl (yields ha rfl rfl) rfl ?_; clear ha a; intro a ha); refine op_g ha rfl (g_pick rfl rfl) ?_; clear ha a; intro a ha; refine wpList_nil ?_; replace ha := ha.sub (σ' := [(4, (.pointer (some ⟨b34, 0, none⟩))), (10, vqr1o4_1), (97, (.bool true))]) ⟨rfl, rfl, rfl, trivial⟩; refine e_then ?_; refine c_true ha rfl ?_; refine wp_seq ?_; refine wp_region_lit ?_
      refine op_g ha rfl (g_assign rfl) ?_; clear ha a; intro a ha; refine wpList_nil ?_; replace ha := ha.sub (σ' := [(2, (.bool false))]) ⟨rfl, trivial⟩; refine e_then ?_; refine wp_ret ?_; refine e_then_ret ?_; obtain rfl := Option.some.inj hF
      exact f_ret1 ha rfl rfl ⟨rfl, hE1483⟩
    replace hF := if_f hp1484 hF
    rw [show (!x1478) = false from b_false (n_iff (Iff.rfl)) hp1484] at ha
    refine op_want (yields ha rfl rfl) ?_; refine op_g ha rfl (g_move rfl) ?_; clear ha a; intro a ha; refine op_want (yields ha rfl rfl) ?_
    obtain ⟨fp1485, hro1486, hs1487⟩ := h1411.roF
    obtain ⟨x1488, hc1489, hF⟩ := cal_some hF
    refine o_call ha rfl rfl Tryd.call16 (W_spec_ColoursMany hro1486 hc1489) ?_; clear ha a; rintro v1490 w1491 ⟨⟨rfl, hI1493⟩, hx1492⟩ a ha
    replace hB1023 := hB1023.ext hx1492
    replace h1026 := h1026.ext hx1492
    replace hqr1o4_1 := hqr1o4_1.ext hx1492
    replace h1411 := h1411.ext hx1492
    have hE1494 := Ext.trans hE1483 hx1492
    refine op_want (yields ha rfl rfl) ?_; refine op_g ha rfl (g_move rfl) ?_; clear ha a; intro a ha; refine op_want (yields ha rfl rfl) ?_; refine op_g ha rfl (g_neq rfl rfl) ?_; clear ha a; intro a ha; refine op_g ha rfl (g_pick rfl rfl) ?_; clear ha a; intro a ha; refine op_g ha rfl (g_move rfl) ?_; clear ha a; intro a ha
    by_cases hp1495 : x1488 ≠ x65
    · replace hF := if_t hp1495 hF
      rw [show (decide (x1488 ≠ x65)) = true from (decide_eq_true_iff).2 hp1495] at ha
      (iterate 4 refine op_unwant ha rfl (yields ha rfl rfl) rfl ?_; clear ha a; intro a ha); refine op_g ha rfl (g_pick rfl rfl) ?_; clear ha a; intro a ha; refine wpList_nil ?_; replace ha := ha.sub (σ' := [(4, (.pointer (some ⟨b34, 0, none⟩))), (10, vqr1o4_1), (97, (.bool true))]) ⟨rfl, rfl, rfl, trivial⟩; refine e_then ?_; refine c_true ha rfl ?_; refine wp_seq ?_; refine wp_region_lit ?_; refine op_g ha rfl (g_assign rfl) ?_; clear ha a; intro a ha; refine wpList_nil ?_; replace ha := ha.sub (σ' := [(2, (.bool false))]) ⟨rfl, trivial⟩; refine e_then ?_; refine wp_ret ?_; refine e_then_ret ?_
      obtain rfl := Option.some.inj hF
      exact f_ret1 ha rfl rfl ⟨rfl, hE1494⟩
    replace hF := if_f hp1495 hF
    rw [show (decide (x1488 ≠ x65)) = false from b_false (decide_eq_true_iff) hp1495] at ha
    refine op_want (yields ha rfl rfl) ?_; refine op_g ha rfl (g_move rfl) ?_; clear ha a; intro a ha; refine op_want (yields ha rfl rfl) ?_
    obtain ⟨fp1496, hro1497, hs1498⟩ := hqr1o4_1.roF
    obtain ⟨x1499, hc1500, hF⟩ := cal_some hF
    refine o_call ha rfl rfl Tryd.call16 (W_spec_ColoursMany hro1497 hc1500) ?_; clear ha a; rintro v1501 w1502 ⟨⟨rfl, hI1504⟩, hx1503⟩ a ha
    replace hB1023 := hB1023.ext hx1503
    replace h1026 := h1026.ext hx1503
    replace hqr1o4_1 := hqr1o4_1.ext hx1503
    replace h1411 := h1411.ext hx1503
    have hE1505 := Ext.trans hE1494 hx1503
    refine op_want (yields ha rfl rfl) ?_; refine op_g ha rfl (g_move rfl) ?_; clear ha a; intro a ha; refine op_want (yields ha rfl rfl) ?_; refine op_g ha rfl (g_lss rfl rfl) ?_; clear ha a; intro a ha; refine op_g ha rfl (g_pick rfl rfl) ?_; clear ha a; intro a ha; refine wpList_nil ?_; replace ha := ha.sub (σ' := [(4, (.pointer (some ⟨b34, 0, none⟩))), (10, vqr1o4_1), (97, (.bool (decide (x1499 < x65))))]) ⟨rfl, rfl, rfl, trivial⟩; refine e_then ?_; refine c_cond (x1499 < x65) ha rfl (decide_eq_true_iff) (fun hp1506 => ?_) (fun hp1506 => ?_)
    · replace hF := if_t hp1506 hF
      refine wp_seq ?_; refine wp_region_lit ?_; refine op_g ha rfl (g_assign rfl) ?_; clear ha a; intro a ha; refine wpList_nil ?_; replace ha := ha.sub (σ' := [(2, (.bool false))]) ⟨rfl, trivial⟩; refine e_then ?_; refine wp_ret ?_; refine e_then_ret ?_; obtain rfl := Option.some.inj hF
      exact f_ret1 ha rfl rfl ⟨rfl, hE1505⟩
    replace hF := if_f hp1506 hF; refine wp_skip ?_; refine e_then ?_; refine wp_seq ?_; refine wp_seq ?_; refine wp_region_lit ?_; refine op_g ha rfl (g_assign rfl) ?_; clear ha a; intro a ha; refine wpList_nil ?_; replace ha := ha.sub (σ' := [(4, (.pointer (some ⟨b34, 0, none⟩))), (10, vqr1o4_1), (12, (.int .i64 0))]) ⟨rfl, rfl, rfl, trivial⟩; refine e_then ?_; obtain ⟨o1634, ho1635, hK1636⟩ := bnd_some hF
    obtain ⟨n1637, hn1638⟩ := lp_some ho1635; clear ho1635
    refine c_loop (fun a w => Fr 115 [] a ∧ Chg [] W w ∧ o1634 = .inl ()) (fun n a w => ∃ (i1577 : Int), Fr 115 [(4, (.pointer (some ⟨b34, 0, none⟩))), (10, vqr1o4_1), (12, (.int .i64 i1577))] a ∧ Chg [] W w ∧ InI i1577 ∧ Bx w b34 [u26] 29 ∧ Zn W (b34 : Int) ∧ Ro (Rp.sl 2 Rp.int) w fp27 u26 x21.1 ∧ Ow Rp.int 2 true w [] bqr1o4_1 vqr1o4_1 xqr1o4_1 ∧ Zn W bqr1o4_1 ∧ Nq ([b34]) bqr1o4_1 ∧ Nq (fp27) (b34 : Int) ∧ Nq (fp27) bqr1o4_1 ∧ Nq (bl bqr1o4_1 ++ []) (b34 : Int) ∧ lpN (fun s => F_laws_FnColours_l5 x21 xqr1o4_1 s) n i1577 = some o1634) n1637 ⟨0, ha.sub ⟨rfl, rfl, rfl, trivial⟩, hE1505, (show InI 0 from by decide), hB1023, z1024, h1026, hqr1o4_1, qqr1o4_12, qqr1o4_5, q1038, qqr1o4_7, qqr1o4_6, hn1638⟩ ?_ ?_
    · rintro m1642 a w1569 ⟨i1577, ha, hE1583, hI1578, hB1570, z1571, h1573, h1575, z1576, q1579, q1580, q1581, q1582, hF⟩
      cases m1642 with
      | zero => exact (lpN_zero hF).elim
      | succ m1642 =>
        obtain ⟨z1641, hF, hN1640⟩ := lpN_succ hF
        have hF : F_laws_FnColours_l5 x21 xqr1o4_1 i1577 = some z1641 := hF; unfold F_laws_FnColours_l5 at hF
        refine wp_seq ?_; refine wp_seq ?_; refine wp_region_lit ?_; (iterate 2 refine op_g ha rfl (g_move rfl) ?_; clear ha a; intro a ha); refine op_g ha rfl (g_lenO sl31.und h1575 rfl) ?_; clear ha a; intro a ha; refine op_g ha rfl (g_lss rfl rfl) ?_; clear ha a; intro a ha; refine wpList_nil ?_; replace ha := ha.sub (σ' := [(4, (.pointer (some ⟨b34, 0, none⟩))), (10, vqr1o4_1), (12, (.int .i64 i1577)), (101, (.bool (decide (i1577 < (xqr1o4_1.length : Int)))))]) ⟨rfl, rfl, rfl, rfl, trivial⟩; refine e_then ?_; refine c_cond (i1577 < (xqr1o4_1.length : Int)) ha rfl (decide_eq_true_iff) (fun hp1643 => ?_) (fun hp1643 => ?_)
        · replace hF := if_t hp1643 hF
          refine wp_skip ?_; refine e_then ?_; refine wp_seq ?_; refine wp_block ?_; refine wp_seq ?_; refine d_quiet hmix (by kernel_rfl) ?_; (iterate 2 refine q_g ha rfl (g_move rfl) ?_; clear ha a; intro a ha); obtain ⟨x1644, g1645, gx1646, hF⟩ := idx_some hF
          obtain ⟨p1647, cs1648, f1649, hf1650, hpb1651, hat1652, hr1653, hi1654⟩ := h1575.at g1645 gx1646
          obtain ⟨rfl, hI1655, rfl⟩ := hr1653
          refine q_g ha rfl (hi1654.gives sl31 rfl rfl) ?_; clear ha a; intro a ha; refine q_g ha rfl (g_load Tryd.isAgg2 rfl hat1652.one) ?_; clear ha a; intro a ha; refine q_g ha rfl (g_field0 st29_0 rfl) ?_; clear ha a; intro a ha; refine q_g ha rfl (g_load Tryd.isAgg27 rfl (hB1570.cell rfl)) ?_; clear ha a; intro a ha; refine q_g ha rfl (g_move rfl) ?_; clear ha a; intro a ha; obtain ⟨x1656, g1657, gx1658, hF⟩ := idx_some hF
          obtain ⟨p1659, cs1660, f1661, hf1662, hpb1663, hat1664, hr1665, hi1666⟩ := h1573.at g1657 gx1658
          obtain ⟨v1667, rfl, h1668⟩ := hr1665
          have h1668 : Ro Rp.int w1569 f1661 v1667 x1656 := h1668
          have q1670 := Nq.mono q1580 hf1662
          have q1671 := Nq.mono q1581 hf1662
          refine q_g ha rfl (hi1666.gives sl27 rfl rfl) ?_; clear ha a; intro a ha; refine q_g ha rfl (g_load Tryd.isAgg31 rfl hat1664.one) ?_; clear ha a; intro a ha; refine q_g ha rfl (g_lenR sl31.und h1668 rfl) ?_; clear ha a; intro a ha; refine q_g ha rfl (g_gtr rfl rfl) ?_; clear ha a; intro a ha
          refine q_nil ?_; intro w1672 hx1673
          replace hB1570 := hB1570.ext hx1673
          replace h1573 := h1573.ext hx1673
          replace h1575 := h1575.ext hx1673
          replace h1668 := h1668.ext hx1673
          have hE1674 := Ext.trans hE1583 hx1673
          replace ha := ha.sub (σ' := [(4, (.pointer (some ⟨b34, 0, none⟩))), (10, vqr1o4_1), (12, (.int .i64 i1577)), (114, (.bool (decide ((x1656.length : Int) < x1644))))]) ⟨rfl, rfl, rfl, rfl, trivial⟩; refine e_then ?_; refine c_cond ((x1656.length : Int) < x1644) ha rfl (decide_eq_true_iff) (fun hp1675 => ?_) (fun hp1675 => ?_)
          · replace hF := if_t hp1675 hF
            refine wp_seq ?_; refine wp_region_lit ?_; refine op_g ha rfl (g_assign rfl) ?_; clear ha a; intro a ha; refine wpList_nil ?_; replace ha := ha.sub (σ' := [(2, (.bool false))]) ⟨rfl, trivial⟩; refine e_then ?_; refine wp_ret ?_; refine e_blk_ret ?_; refine e_then_ret ?_; refine e_lq_ret ?_; refine e_then_ret ?_; obtain rfl := Option.some.inj hF
            have e1676 := LK_inr hN1640; subst e1676
            have e1677 := BK_inr hK1636; subst e1677
            exact f_ret1 ha rfl rfl ⟨rfl, hE1674⟩
          replace hF := if_f hp1675 hF; refine wp_skip ?_; refine e_blk ?_; refine e_then ?_; refine wp_region_lit ?_; refine op_g ha rfl (g_move rfl) ?_; clear ha a; intro a ha; obtain ⟨hI1678, hF⟩ := ck_some hF; refine op_g ha rfl (g_add rfl rfl hI1678) ?_; clear ha a; intro a ha; refine op_g ha rfl (g_assign rfl) ?_; clear ha a; intro a ha; refine wpList_nil ?_; replace ha := ha.sub (σ' := [(4, (.pointer (some ⟨b34, 0, none⟩))), (10, vqr1o4_1), (12, (.int .i64 (i1577 + 1)))]) ⟨rfl, rfl, rfl, trivial⟩; refine e_lq ?_; obtain rfl := Option.some.inj hF
          exact ⟨_, Nat.lt_succ_self _, i1577 + 1, ha.sub ⟨rfl, rfl, rfl, trivial⟩, hE1674, hI1678, hB1570, z1571, h1573, h1575, z1576, q1579, q1580, q1581, q1582, hN1640⟩
        replace hF := if_f hp1643 hF; refine wp_exit ?_; refine e_then_exit ?_; refine e_lq_eq ?_; obtain rfl := Option.some.inj hF
        exact ⟨ha.sub trivial, hE1583, (LK_inr hN1640).symm⟩
    rintro a w1633 ⟨ha, hE1639, rfl⟩
    have hF : F_laws_FnColours_k6 = some _ := hK1636; clear hK1636; unfold F_laws_FnColours_k6 at hF
    refine e_then ?_; refine wp_seq ?_; refine wp_region_lit ?_; refine op_g ha rfl (g_assign rfl) ?_; clear ha a; intro a ha; refine wpList_nil ?_; refine e_then ?_; refine wp_ret ?_; obtain rfl := Option.some.inj hF
    exact f_ret1 ha rfl rfl ⟨rfl, hE1639⟩
  skip
  replace h1021 := h1021.ext hxqr1_1
  replace hB1023 := hB1023.ext hxqr1_1
  replace h1026 := h1026.ext hxqr1_1
  replace h1028 := h1028.ext hxqr1_1
  have hEqr1o2_1 := Ext.trans hE1047 hxqr1_1
  have qqr1o2_1 := bel_step hS1398 hxqr1_1
  refine op_g ha rfl (g_loadA (cs := [u26]) Tryd.isAgg29 Tryd.sizeOf29 rfl (by simp) hB1023.all) ?_; clear ha a; intro a ha; refine wpList_nil (e_sq ?_)
  have hStqr1o2_1 : RowKit.Below W.heap.size wqr1_1 wqr1_1 := RowKit.Below.refl _ _
  refine ⟨fun _ => hStqr1o2_1, ?_⟩
  have qqr1o2_2 := RowKit.Below.trans qqr1o2_1 hStqr1o2_1
  refine x_many [0, 3] (by kernel_rfl) rfl fun wqr1o2_1 hxqr1o2_1 => ⟨⟨_, rfl, ?_⟩, ⟨_, rfl, ?_⟩, trivial⟩
  · skip
    replace h1021 := h1021.ext hxqr1o2_1
    replace hB1023 := hB1023.ext hxqr1o2_1
    replace h1026 := h1026.ext hxqr1o2_1
    replace h1028 := h1028.ext hxqr1o2_1
    have hEqr1o0_1 := Ext.trans hEqr1o2_1 hxqr1o2_1
    have qqr1o0_1 := bel_step qqr1o2_2 hxqr1o2_1
    refine op_g ha rfl (g_loadA (cs := [u26]) Tryd.isAgg29 Tryd.sizeOf29 rfl (by simp) hB1023.all) ?_; clear ha a; intro a ha; refine wpList_nil (e_sq ?_)
    have hStqr1o0_1 : RowKit.Below W.heap.size wqr1o2_1 wqr1o2_1 := RowKit.Below.refl _ _
    refine ⟨fun _ => hStqr1o0_1, ?_⟩
    have qqr1o0_2 := RowKit.Below.trans qqr1o0_1 hStqr1o0_1
    refine x_only 3 rfl (by kernel_rfl) ?_; intro wqr1o3_1 hxqr1o3_1
    replace h1021 := h1021.ext hxqr1o3_1
    replace hB1023 := hB1023.ext hxqr1o3_1
    replace h1026 := h1026.ext hxqr1o3_1
    replace h1028 := h1028.ext hxqr1o3_1
    have hEqr1o3_1 := Ext.trans hEqr1o0_1 hxqr1o3_1
    have qqr1o3_1 := bel_step qqr1o0_2 hxqr1o3_1
    refine o_call ha rfl rfl Tryd.call15 (W_laws_w6Order h1021 h1026 q1037 hcqr1o3_1) ?_; clear ha a; rintro vqr1o3_1 wqr1o3_2 ⟨bqr1o3_1, hqr1o3_1, zqr1o3_1, hqr1o3_2, hxqr1o3_2⟩ a ha
    have qqr1o3_2 := Nq.new h1021.fpb zqr1o3_1
    have qqr1o3_3 := Nq.madeO zqr1o3_1 h1021.blt
    have qqr1o3_4 := Nq.new hB1023.fpb zqr1o3_1
    have qqr1o3_5 := Nq.madeO zqr1o3_1 hB1023.bi
    have qqr1o3_6 := Nq.new h1026.bnd zqr1o3_1
    have qqr1o3_7 := Nq.new h1028.fpb zqr1o3_1
    have qqr1o3_8 := Nq.madeO zqr1o3_1 h1028.blt
    replace hB1023 := hB1023.nq hxqr1o3_2 q1035
    replace h1026 := h1026.nq hxqr1o3_2 q1037
    replace h1028 := h1028.nq hxqr1o3_2 q1040
    have hEqr1o3_2 := Ext.then hEqr1o3_1 hxqr1o3_2 (Zn.bl z1022)
    have qqr1o3_9 := Zn.upD zqr1o3_1 hEqr1o3_1
    refine wpList_nil (e_sq ?_)
    have hStqr1o3_1 : RowKit.Below W.heap.size wqr1o3_1 wqr1o3_2 := chg_bel hxqr1o3_2 qqr1o3_1.size (Zn.bl z1022)
    refine ⟨fun _ => hStqr1o3_1, ?_⟩
    have qqr1o3_10 := RowKit.Below.trans qqr1o3_1 hStqr1o3_1
    refine x_only 4 rfl (by kernel_rfl) ?_; intro wqr1o4_1 hxqr1o4_1
    replace hqr1o3_2 := hqr1o3_2.ext hxqr1o4_1
    replace hB1023 := hB1023.ext hxqr1o4_1
    replace h1026 := h1026.ext hxqr1o4_1
    replace h1028 := h1028.ext hxqr1o4_1
    replace hqr1o3_1 := hqr1o3_1.ext hxqr1o4_1
    have hEqr1o4_1 := Ext.trans hEqr1o3_2 hxqr1o4_1
    have qqr1o4_1 := bel_step qqr1o3_10 hxqr1o4_1
    obtain ⟨fpqr1o4_1, hroqr1o4_1, hsqr1o4_1⟩ := hqr1o3_1.roF
    refine o_call ha rfl rfl Tryd.call14 (W_impl_InTurn h1026 hroqr1o4_1 hcqr1o4_1) ?_; clear ha a; rintro vqr1o4_1 wqr1o4_2 ⟨bqr1o4_1, hqr1o4_1, zqr1o4_1, hxqr1o4_2⟩ a ha
    have qqr1o4_2 := Zn.upB zqr1o4_1 qqr1o4_1
    have qqr1o4_3 := Nq.new hqr1o3_2.fpb zqr1o4_1
    have qqr1o4_4 := Nq.madeO zqr1o4_1 hqr1o3_2.blt
    have qqr1o4_5 := Nq.new hB1023.fpb zqr1o4_1
    have qqr1o4_6 := Nq.madeO zqr1o4_1 hB1023.bi
    have qqr1o4_7 := Nq.new h1026.bnd zqr1o4_1
    have qqr1o4_8 := Nq.new h1028.fpb zqr1o4_1
    have qqr1o4_9 := Nq.madeO zqr1o4_1 h1028.blt
    have qqr1o4_10 := Nq.new hqr1o3_1.fpb zqr1o4_1
    have qqr1o4_11 := Nq.madeO zqr1o4_1 hqr1o3_1.blt
    replace hqr1o3_2 := hqr1o3_2.ext hxqr1o4_2
    replace hB1023 := hB1023.ext hxqr1o4_2
    replace h1026 := h1026.ext hxqr1o4_2
    replace h1028 := h1028.ext hxqr1o4_2
    replace hqr1o3_1 := hqr1o3_1.ext hxqr1o4_2
    have hEqr1o4_2 := Ext.trans hEqr1o4_1 hxqr1o4_2
    have qqr1o4_12 := Zn.upD zqr1o4_1 hEqr1o4_1
    refine wpList_nil (e_sq ?_)
    have hStqr1o4_1 : RowKit.Below W.heap.size wqr1o4_1 wqr1o4_2 := ext_bel qqr1o4_1.size hxqr1o4_2
    refine ⟨fun _ => hStqr1o4_1, ?_⟩
    have qqr1o4_13 := RowKit.Below.trans qqr1o4_1 hStqr1o4_1
    refine x_g 5 rfl (by kernel_rfl) (want0 _) ha rfl qqr1o4_13 (g_assign rfl) ?_; clear ha a; intro a ha
    refine x_done (by kernel_rfl) ?_; intro w1399 hx1400
    replace hqr1o3_2 := hqr1o3_2.ext hx1400
    replace hB1023 := hB1023.ext hx1400
    replace h1026 := h1026.ext hx1400
    replace h1028 := h1028.ext hx1400
    replace hqr1o3_1 := hqr1o3_1.ext hx1400
    replace hqr1o4_1 := hqr1o4_1.ext hx1400
    have hE1401 := Ext.trans hEqr1o4_2 hx1400
    replace ha := ha.sub (σ' := [(4, (.pointer (some ⟨b34, 0, none⟩))), (6, (.int .i64 x65)), (7, v1031), (10, vqr1o4_1)]) ⟨rfl, rfl, rfl, rfl, trivial⟩; refine e_then ?_; refine wp_seq ?_; refine wp_region_lit ?_; refine op_g ha rfl (g_loadA (cs := [u26]) Tryd.isAgg29 Tryd.sizeOf29 rfl (by simp) hB1023.all) ?_; clear ha a; intro a ha; refine op_g ha rfl (g_move rfl) ?_; clear ha a; intro a ha
    obtain ⟨fp1402, hro1403, hs1404⟩ := h1028.roF
    obtain ⟨x1405, hc1406, hF⟩ := cal_some hF
    refine o_call ha rfl rfl Tryd.call14 (W_impl_InTurn h1026 hro1403 hc1406) ?_; clear ha a; rintro v1407 w1408 ⟨b1410, h1411, z1412, hx1409⟩ a ha
    have q1414 := Nq.new hB1023.fpb z1412
    have q1415 := Nq.madeO z1412 hB1023.bi
    have q1416 := Nq.new h1026.bnd z1412
    have q1417 := Nq.new h1028.fpb z1412
    have q1418 := Nq.madeO z1412 h1028.blt
    have q1419 := Nq.new hqr1o4_1.fpb z1412
    have q1420 := Nq.madeO z1412 hqr1o4_1.blt
    replace hB1023 := hB1023.ext hx1409
    replace h1026 := h1026.ext hx1409
    replace h1028 := h1028.ext hx1409
    replace hqr1o4_1 := hqr1o4_1.ext hx1409
    have hE1421 := Ext.trans hE1401 hx1409
    have q1422 := Zn.upD z1412 hE1401
    refine op_g ha rfl (g_assign rfl) ?_; clear ha a; intro a ha; refine wpList_nil ?_; replace ha := ha.sub (σ' := [(4, (.pointer (some ⟨b34, 0, none⟩))), (6, (.int .i64 x65)), (10, vqr1o4_1), (11, v1407)]) ⟨rfl, rfl, rfl, rfl, trivial⟩; refine e_then ?_; refine wp_seq ?_; refine wp_seq ?_; refine wp_region_lit ?_; refine op_g ha rfl (g_loadA (cs := [u26]) Tryd.isAgg29 Tryd.sizeOf29 rfl (by simp) hB1023.all) ?_; clear ha a; intro a ha; refine op_g ha rfl (g_move rfl) ?_; clear ha a; intro a ha
    obtain ⟨fp1465, hro1466, hs1467⟩ := hqr1o4_1.roF
    obtain ⟨x1468, hc1469, hF⟩ := cal_some hF
    refine o_call ha rfl rfl Tryd.call10 (W_spec_ColoursOk h1026 hro1466 hc1469) ?_; clear ha a; rintro v1470 w1471 ⟨rfl, hx1472⟩ a ha
    replace hB1023 := hB1023.ext hx1472
    replace h1026 := h1026.ext hx1472
    replace hqr1o4_1 := hqr1o4_1.ext hx1472
    replace h1411 := h1411.ext hx1472
    have hE1473 := Ext.trans hE1421 hx1472
    refine op_g ha rfl (g_not rfl) ?_; clear ha a; intro a ha; refine op_g ha rfl (g_move rfl) ?_; clear ha a; intro a ha
    by_cases hp1474 : ¬ (x1468 = true)
    · replace hF := if_t hp1474 hF
      rw [show (!x1468) = true from (n_iff (Iff.rfl)).2 hp1474] at ha
      (iterate 4 refine op_unwant ha rfl (yields ha rfl rfl) rfl ?_; clear ha a; intro a ha); refine op_g ha rfl (g_pick rfl rfl) ?_; clear ha a; intro a ha; refine op_g ha rfl (g_move rfl) ?_; clear ha a; intro a ha; (iterate 4 refine op_unwant ha rfl (yields ha rfl rfl) rfl ?_; clear ha a; intro a ha); refine op_g ha rfl (g_pick rfl rfl) ?_; clear ha a; intro a ha; refine op_g ha rfl (g_move rfl) ?_; clear ha a; intro a ha; (iterate 4 refine op_unwant ha rfl (yields ha rfl rfl) rfl ?_; clear ha a; intro a ha); refine op_g ha rfl (g_pick rfl rfl) ?_; clear ha a; intro a ha; refine wpList_nil ?_
      replace ha := ha.sub (σ' := [(4, (.pointer (some ⟨b34, 0, none⟩))), (10, vqr1o4_1), (97, (.bool true))]) ⟨rfl, rfl, rfl, trivial⟩; refine e_then ?_; refine c_true ha rfl ?_; refine wp_seq ?_; refine wp_region_lit ?_; refine op_g ha rfl (g_assign rfl) ?_; clear ha a; intro a ha; refine wpList_nil ?_; replace ha := ha.sub (σ' := [(2, (.bool false))]) ⟨rfl, trivial⟩; refine e_then ?_; refine wp_ret ?_; refine e_then_ret ?_; obtain rfl := Option.some.inj hF
      exact f_ret1 ha rfl rfl ⟨rfl, hE1473⟩
    replace hF := if_f hp1474 hF
    rw [show (!x1468) = false from b_false (n_iff (Iff.rfl)) hp1474] at ha
    refine op_want (yields ha rfl rfl) ?_; refine op_g ha rfl (g_loadA (cs := [u26]) Tryd.isAgg29 Tryd.sizeOf29 rfl (by simp) hB1023.all) ?_; clear ha a; intro a ha; refine op_want (yields ha rfl rfl) ?_; refine op_g ha rfl (g_move rfl) ?_; clear ha a; intro a ha; refine op_want (yields ha rfl rfl) ?_
    obtain ⟨fp1475, hro1476, hs1477⟩ := h1411.roF
    obtain ⟨x1478, hc1479, hF⟩ := cal_some hF
    refine o_call ha rfl rfl Tryd.call10 (W_spec_ColoursOk h1026 hro1476 hc1479) ?_; clear ha a; rintro v1480 w1481 ⟨rfl, hx1482⟩ a ha
    replace hB1023 := hB1023.ext hx1482
    replace h1026 := h1026.ext hx1482
    replace hqr1o4_1 := hqr1o4_1.ext hx1482
    replace h1411 := h1411.ext hx1482
    have hE1483 := Ext.trans hE1473 hx1482
    refine op_want (yields ha rfl rfl) ?_; refine op_g ha rfl (g_not rfl) ?_; clear ha a; intro a ha; refine op_g ha rfl (g_pick rfl rfl) ?_; clear ha a; intro a ha; refine op_g ha rfl (g_move rfl) ?_; clear ha a; intro a ha
    by_cases hp1484 : ¬ (x1478 = true)
    · replace hF := if_t hp1484 hF
      rw [show (!x1478) = true from (n_iff (Iff.rfl)).2 hp1484] at ha
      (iterate 4 refine op_unwant ha rfl (yields ha rfl rfl) rfl ?_; clear ha a; intro a ha); refine op_g ha rfl (g_pick rfl rfl) ?_; clear ha a; intro a ha; refine op_g ha rfl (g_move rfl) ?_; clear ha a; intro a ha; (iterate 4 refine op_unwant ha rfl (yields ha rfl rfl) rfl ?_; clear ha a; intro a ha); refine op_g ha rfl (g_pick rfl rfl) ?_; clear ha a; intro a ha; refine wpList_nil ?_; replace ha := ha.sub (σ' := [(4, (.pointer (some ⟨b34, 0, none⟩))), (10, vqr1o4_1), (97, (.bool true))]) ⟨rfl, rfl, rfl, trivial⟩; refine e_then ?_; refine c_true ha rfl ?_; refine wp_seq ?_; refine wp_region_lit ?_
      refine op_g ha rfl (g_assign rfl) ?_; clear ha a; intro a ha; refine wpList_nil ?_; replace ha := ha.sub (σ' := [(2, (.bool false))]) ⟨rfl, trivial⟩; refine e_then ?_; refine wp_ret ?_; refine e_then_ret ?_; obtain rfl := Option.some.inj hF
      exact f_ret1 ha rfl rfl ⟨rfl, hE1483⟩
    replace hF := if_f hp1484 hF
    rw [show (!x1478) = false from b_false (n_iff (Iff.rfl)) hp1484] at ha
    refine op_want (yields ha rfl rfl) ?_; refine op_g ha rfl (g_move rfl) ?_; clear ha a; intro a ha; refine op_want (yields ha rfl rfl) ?_
    obtain ⟨fp1485, hro1486, hs1487⟩ := h1411.roF
    obtain ⟨x1488, hc1489, hF⟩ := cal_some hF
    refine o_call ha rfl rfl Tryd.call16 (W_spec_ColoursMany hro1486 hc1489) ?_; clear ha a; rintro v1490 w1491 ⟨⟨rfl, hI1493⟩, hx1492⟩ a ha
    replace hB1023 := hB1023.ext hx1492
    replace h1026 := h1026.ext hx1492
    replace hqr1o4_1 := hqr1o4_1.ext hx1492
    replace h1411 := h1411.ext hx1492
    have hE1494 := Ext.trans hE1483 hx1492
    refine op_want (yields ha rfl rfl) ?_; refine op_g ha rfl (g_move rfl) ?_; clear ha a; intro a ha; refine op_want (yields ha rfl rfl) ?_; refine op_g ha rfl (g_neq rfl rfl) ?_; clear ha a; intro a ha; refine op_g ha rfl (g_pick rfl rfl) ?_; clear ha a; intro a ha; refine op_g ha rfl (g_move rfl) ?_; clear ha a; intro a ha
    by_cases hp1495 : x1488 ≠ x65
    · replace hF := if_t hp1495 hF
      rw [show (decide (x1488 ≠ x65)) = true from (decide_eq_true_iff).2 hp1495] at ha
      (iterate 4 refine op_unwant ha rfl (yields ha rfl rfl) rfl ?_; clear ha a; intro a ha); refine op_g ha rfl (g_pick rfl rfl) ?_; clear ha a; intro a ha; refine wpList_nil ?_; replace ha := ha.sub (σ' := [(4, (.pointer (some ⟨b34, 0, none⟩))), (10, vqr1o4_1), (97, (.bool true))]) ⟨rfl, rfl, rfl, trivial⟩; refine e_then ?_; refine c_true ha rfl ?_; refine wp_seq ?_; refine wp_region_lit ?_; refine op_g ha rfl (g_assign rfl) ?_; clear ha a; intro a ha; refine wpList_nil ?_; replace ha := ha.sub (σ' := [(2, (.bool false))]) ⟨rfl, trivial⟩; refine e_then ?_; refine wp_ret ?_; refine e_then_ret ?_
      obtain rfl := Option.some.inj hF
      exact f_ret1 ha rfl rfl ⟨rfl, hE1494⟩
    replace hF := if_f hp1495 hF
    rw [show (decide (x1488 ≠ x65)) = false from b_false (decide_eq_true_iff) hp1495] at ha
    refine op_want (yields ha rfl rfl) ?_; refine op_g ha rfl (g_move rfl) ?_; clear ha a; intro a ha; refine op_want (yields ha rfl rfl) ?_
    obtain ⟨fp1496, hro1497, hs1498⟩ := hqr1o4_1.roF
    obtain ⟨x1499, hc1500, hF⟩ := cal_some hF
    refine o_call ha rfl rfl Tryd.call16 (W_spec_ColoursMany hro1497 hc1500) ?_; clear ha a; rintro v1501 w1502 ⟨⟨rfl, hI1504⟩, hx1503⟩ a ha
    replace hB1023 := hB1023.ext hx1503
    replace h1026 := h1026.ext hx1503
    replace hqr1o4_1 := hqr1o4_1.ext hx1503
    replace h1411 := h1411.ext hx1503
    have hE1505 := Ext.trans hE1494 hx1503
    refine op_want (yields ha rfl rfl) ?_; refine op_g ha rfl (g_move rfl) ?_; clear ha a; intro a ha; refine op_want (yields ha rfl rfl) ?_; refine op_g ha rfl (g_lss rfl rfl) ?_; clear ha a; intro a ha; refine op_g ha rfl (g_pick rfl rfl) ?_; clear ha a; intro a ha; refine wpList_nil ?_; replace ha := ha.sub (σ' := [(4, (.pointer (some ⟨b34, 0, none⟩))), (10, vqr1o4_1), (97, (.bool (decide (x1499 < x65))))]) ⟨rfl, rfl, rfl, trivial⟩; refine e_then ?_; refine c_cond (x1499 < x65) ha rfl (decide_eq_true_iff) (fun hp1506 => ?_) (fun hp1506 => ?_)
    · replace hF := if_t hp1506 hF
      refine wp_seq ?_; refine wp_region_lit ?_; refine op_g ha rfl (g_assign rfl) ?_; clear ha a; intro a ha; refine wpList_nil ?_; replace ha := ha.sub (σ' := [(2, (.bool false))]) ⟨rfl, trivial⟩; refine e_then ?_; refine wp_ret ?_; refine e_then_ret ?_; obtain rfl := Option.some.inj hF
      exact f_ret1 ha rfl rfl ⟨rfl, hE1505⟩
    replace hF := if_f hp1506 hF; refine wp_skip ?_; refine e_then ?_; refine wp_seq ?_; refine wp_seq ?_; refine wp_region_lit ?_; refine op_g ha rfl (g_assign rfl) ?_; clear ha a; intro a ha; refine wpList_nil ?_; replace ha := ha.sub (σ' := [(4, (.pointer (some ⟨b34, 0, none⟩))), (10, vqr1o4_1), (12, (.int .i64 0))]) ⟨rfl, rfl, rfl, trivial⟩; refine e_then ?_; obtain ⟨o1634, ho1635, hK1636⟩ := bnd_some hF
    obtain ⟨n1637, hn1638⟩ := lp_some ho1635; clear ho1635
    refine c_loop (fun a w => Fr 115 [] a ∧ Chg [] W w ∧ o1634 = .inl ()) (fun n a w => ∃ (i1577 : Int), Fr 115 [(4, (.pointer (some ⟨b34, 0, none⟩))), (10, vqr1o4_1), (12, (.int .i64 i1577))] a ∧ Chg [] W w ∧ InI i1577 ∧ Bx w b34 [u26] 29 ∧ Zn W (b34 : Int) ∧ Ro (Rp.sl 2 Rp.int) w fp27 u26 x21.1 ∧ Ow Rp.int 2 true w [] bqr1o4_1 vqr1o4_1 xqr1o4_1 ∧ Zn W bqr1o4_1 ∧ Nq ([b34]) bqr1o4_1 ∧ Nq (fp27) (b34 : Int) ∧ Nq (fp27) bqr1o4_1 ∧ Nq (bl bqr1o4_1 ++ []) (b34 : Int) ∧ lpN (fun s => F_laws_FnColours_l5 x21 xqr1o4_1 s) n i1577 = some o1634) n1637 ⟨0, ha.sub ⟨rfl, rfl, rfl, trivial⟩, hE1505, (show InI 0 from by decide), hB1023, z1024, h1026, hqr1o4_1, qqr1o4_12, qqr1o4_5, q1038, qqr1o4_7, qqr1o4_6, hn1638⟩ ?_ ?_
    · rintro m1642 a w1569 ⟨i1577, ha, hE1583, hI1578, hB1570, z1571, h1573, h1575, z1576, q1579, q1580, q1581, q1582, hF⟩
      cases m1642 with
      | zero => exact (lpN_zero hF).elim
      | succ m1642 =>
        obtain ⟨z1641, hF, hN1640⟩ := lpN_succ hF
        have hF : F_laws_FnColours_l5 x21 xqr1o4_1 i1577 = some z1641 := hF; unfold F_laws_FnColours_l5 at hF
        refine wp_seq ?_; refine wp_seq ?_; refine wp_region_lit ?_; (iterate 2 refine op_g ha rfl (g_move rfl) ?_; clear ha a; intro a ha); refine op_g ha rfl (g_lenO sl31.und h1575 rfl) ?_; clear ha a; intro a ha; refine op_g ha rfl (g_lss rfl rfl) ?_; clear ha a; intro a ha; refine wpList_nil ?_; replace ha := ha.sub (σ' := [(4, (.pointer (some ⟨b34, 0, none⟩))), (10, vqr1o4_1), (12, (.int .i64 i1577)), (101, (.bool (decide (i1577 < (xqr1o4_1.length : Int)))))]) ⟨rfl, rfl, rfl, rfl, trivial⟩; refine e_then ?_; refine c_cond (i1577 < (xqr1o4_1.length : Int)) ha rfl (decide_eq_true_iff) (fun hp1643 => ?_) (fun hp1643 => ?_)
        · replace hF := if_t hp1643 hF
          refine wp_skip ?_; refine e_then ?_; refine wp_seq ?_; refine wp_block ?_; refine wp_seq ?_; refine d_quiet hmix (by kernel_rfl) ?_; (iterate 2 refine q_g ha rfl (g_move rfl) ?_; clear ha a; intro a ha); obtain ⟨x1644, g1645, gx1646, hF⟩ := idx_some hF
          obtain ⟨p1647, cs1648, f1649, hf1650, hpb1651, hat1652, hr1653, hi1654⟩ := h1575.at g1645 gx1646
          obtain ⟨rfl, hI1655, rfl⟩ := hr1653
          refine q_g ha rfl (hi1654.gives sl31 rfl rfl) ?_; clear ha a; intro a ha; refine q_g ha rfl (g_load Tryd.isAgg2 rfl hat1652.one) ?_; clear ha a; intro a ha; refine q_g ha rfl (g_field0 st29_0 rfl) ?_; clear ha a; intro a ha; refine q_g ha rfl (g_load Tryd.isAgg27 rfl (hB1570.cell rfl)) ?_; clear ha a; intro a ha; refine q_g ha rfl (g_move rfl) ?_; clear ha a; intro a ha; obtain ⟨x1656, g1657, gx1658, hF⟩ := idx_some hF
          obtain ⟨p1659, cs1660, f1661, hf1662, hpb1663, hat1664, hr1665, hi1666⟩ := h1573.at g1657 gx1658
          obtain ⟨v1667, rfl, h1668⟩ := hr1665
          have h1668 : Ro Rp.int w1569 f1661 v1667 x1656 := h1668
          have q1670 := Nq.mono q1580 hf1662
          have q1671 := Nq.mono q1581 hf1662
          refine q_g ha rfl (hi1666.gives sl27 rfl rfl) ?_; clear ha a; intro a ha; refine q_g ha rfl (g_load Tryd.isAgg31 rfl hat1664.one) ?_; clear ha a; intro a ha; refine q_g ha rfl (g_lenR sl31.und h1668 rfl) ?_; clear ha a; intro a ha; refine q_g ha rfl (g_gtr rfl rfl) ?_; clear ha a; intro a ha
          refine q_nil ?_; intro w1672 hx1673
          replace hB1570 := hB1570.ext hx1673
          replace h1573 := h1573.ext hx1673
          replace h1575 := h1575.ext hx1673
          replace h1668 := h1668.ext hx1673
          have hE1674 := Ext.trans hE1583 hx1673
          replace ha := ha.sub (σ' := [(4, (.pointer (some ⟨b34, 0, none⟩))), (10, vqr1o4_1), (12, (.int .i64 i1577)), (114, (.bool (decide ((x1656.length : Int) < x1644))))]) ⟨rfl, rfl, rfl, rfl, trivial⟩; refine e_then ?_; refine c_cond ((x1656.length : Int) < x1644) ha rfl (decide_eq_true_iff) (fun hp1675 => ?_) (fun hp1675 => ?_)
          · replace hF := if_t hp1675 hF
            refine wp_seq ?_; refine wp_region_lit ?_; refine op_g ha rfl (g_assign rfl) ?_; clear ha a; intro a ha; refine wpList_nil ?_; replace ha := ha.sub (σ' := [(2, (.bool false))]) ⟨rfl, trivial⟩; refine e_then ?_; refine wp_ret ?_; refine e_blk_ret ?_; refine e_then_ret ?_; refine e_lq_ret ?_; refine e_then_ret ?_; obtain rfl := Option.some.inj hF
            have e1676 := LK_inr hN1640; subst e1676
            have e1677 := BK_inr hK1636; subst e1677
            exact f_ret1 ha rfl rfl ⟨rfl, hE1674⟩
          replace hF := if_f hp1675 hF; refine wp_skip ?_; refine e_blk ?_; refine e_then ?_; refine wp_region_lit ?_; refine op_g ha rfl (g_move rfl) ?_; clear ha a; intro a ha; obtain ⟨hI1678, hF⟩ := ck_some hF; refine op_g ha rfl (g_add rfl rfl hI1678) ?_; clear ha a; intro a ha; refine op_g ha rfl (g_assign rfl) ?_; clear ha a; intro a ha; refine wpList_nil ?_; replace ha := ha.sub (σ' := [(4, (.pointer (some ⟨b34, 0, none⟩))), (10, vqr1o4_1), (12, (.int .i64 (i1577 + 1)))]) ⟨rfl, rfl, rfl, trivial⟩; refine e_lq ?_; obtain rfl := Option.some.inj hF
          exact ⟨_, Nat.lt_succ_self _, i1577 + 1, ha.sub ⟨rfl, rfl, rfl, trivial⟩, hE1674, hI1678, hB1570, z1571, h1573, h1575, z1576, q1579, q1580, q1581, q1582, hN1640⟩
        replace hF := if_f hp1643 hF; refine wp_exit ?_; refine e_then_exit ?_; refine e_lq_eq ?_; obtain rfl := Option.some.inj hF
        exact ⟨ha.sub trivial, hE1583, (LK_inr hN1640).symm⟩
    rintro a w1633 ⟨ha, hE1639, rfl⟩
    have hF : F_laws_FnColours_k6 = some _ := hK1636; clear hK1636; unfold F_laws_FnColours_k6 at hF
    refine e_then ?_; refine wp_seq ?_; refine wp_region_lit ?_; refine op_g ha rfl (g_assign rfl) ?_; clear ha a; intro a ha; refine wpList_nil ?_; refine e_then ?_; refine wp_ret ?_; obtain rfl := Option.some.inj hF
    exact f_ret1 ha rfl rfl ⟨rfl, hE1639⟩
  skip
  replace h1021 := h1021.ext hxqr1o2_1
  replace hB1023 := hB1023.ext hxqr1o2_1
  replace h1026 := h1026.ext hxqr1o2_1
  replace h1028 := h1028.ext hxqr1o2_1
  have hEqr1o3_1 := Ext.trans hEqr1o2_1 hxqr1o2_1
  have qqr1o3_1 := bel_step qqr1o2_2 hxqr1o2_1
  refine o_call ha rfl rfl Tryd.call15 (W_laws_w6Order h1021 h1026 q1037 hcqr1o3_1) ?_; clear ha a; rintro vqr1o3_1 wqr1o3_1 ⟨bqr1o3_1, hqr1o3_1, zqr1o3_1, hqr1o3_2, hxqr1o3_1⟩ a ha
  have qqr1o3_2 := Nq.new h1021.fpb zqr1o3_1
  have qqr1o3_3 := Nq.madeO zqr1o3_1 h1021.blt
  have qqr1o3_4 := Nq.new hB1023.fpb zqr1o3_1
  have qqr1o3_5 := Nq.madeO zqr1o3_1 hB1023.bi
  have qqr1o3_6 := Nq.new h1026.bnd zqr1o3_1
  have qqr1o3_7 := Nq.new h1028.fpb zqr1o3_1
  have qqr1o3_8 := Nq.madeO zqr1o3_1 h1028.blt
  replace hB1023 := hB1023.nq hxqr1o3_1 q1035
  replace h1026 := h1026.nq hxqr1o3_1 q1037
  replace h1028 := h1028.nq hxqr1o3_1 q1040
  have hEqr1o3_2 := Ext.then hEqr1o3_1 hxqr1o3_1 (Zn.bl z1022)
  have qqr1o3_9 := Zn.upD zqr1o3_1 hEqr1o3_1
  refine wpList_nil (e_sq ?_)
  have hStqr1o3_1 : RowKit.Below W.heap.size wqr1o2_1 wqr1o3_1 := chg_bel hxqr1o3_1 qqr1o3_1.size (Zn.bl z1022)
  refine ⟨fun _ => hStqr1o3_1, ?_⟩
  have qqr1o3_10 := RowKit.Below.trans qqr1o3_1 hStqr1o3_1
  refine x_only 0 rfl (by kernel_rfl) ?_; intro wqr1o0_1 hxqr1o0_1
  replace hqr1o3_2 := hqr1o3_2.ext hxqr1o0_1
  replace hB1023 := hB1023.ext hxqr1o0_1
  replace h1026 := h1026.ext hxqr1o0_1
  replace h1028 := h1028.ext hxqr1o0_1
  replace hqr1o3_1 := hqr1o3_1.ext hxqr1o0_1
  have hEqr1o0_1 := Ext.trans hEqr1o3_2 hxqr1o0_1
  have qqr1o0_1 := bel_step qqr1o3_10 hxqr1o0_1
  refine op_g ha rfl (g_loadA (cs := [u26]) Tryd.isAgg29 Tryd.sizeOf29 rfl (by simp) hB1023.all) ?_; clear ha a; intro a ha; refine wpList_nil (e_sq ?_)
  have hStqr1o0_1 : RowKit.Below W.heap.size wqr1o0_1 wqr1o0_1 := RowKit.Below.refl _ _
  refine ⟨fun _ => hStqr1o0_1, ?_⟩
  have qqr1o0_2 := RowKit.Below.trans qqr1o0_1 hStqr1o0_1
  refine x_only 4 rfl (by kernel_rfl) ?_; intro wqr1o4_1 hxqr1o4_1
  replace hqr1o3_2 := hqr1o3_2.ext hxqr1o4_1
  replace hB1023 := hB1023.ext hxqr1o4_1
  replace h1026 := h1026.ext hxqr1o4_1
  replace h1028 := h1028.ext hxqr1o4_1
  replace hqr1o3_1 := hqr1o3_1.ext hxqr1o4_1
  have hEqr1o4_1 := Ext.trans hEqr1o0_1 hxqr1o4_1
  have qqr1o4_1 := bel_step qqr1o0_2 hxqr1o4_1
  obtain ⟨fpqr1o4_1, hroqr1o4_1, hsqr1o4_1⟩ := hqr1o3_1.roF
  refine o_call ha rfl rfl Tryd.call14 (W_impl_InTurn h1026 hroqr1o4_1 hcqr1o4_1) ?_; clear ha a; rintro vqr1o4_1 wqr1o4_2 ⟨bqr1o4_1, hqr1o4_1, zqr1o4_1, hxqr1o4_2⟩ a ha
  have qqr1o4_2 := Zn.upB zqr1o4_1 qqr1o4_1
  have qqr1o4_3 := Nq.new hqr1o3_2.fpb zqr1o4_1
  have qqr1o4_4 := Nq.madeO zqr1o4_1 hqr1o3_2.blt
  have qqr1o4_5 := Nq.new hB1023.fpb zqr1o4_1
  have qqr1o4_6 := Nq.madeO zqr1o4_1 hB1023.bi
  have qqr1o4_7 := Nq.new h1026.bnd zqr1o4_1
  have qqr1o4_8 := Nq.new h1028.fpb zqr1o4_1
  have qqr1o4_9 := Nq.madeO zqr1o4_1 h1028.blt
  have qqr1o4_10 := Nq.new hqr1o3_1.fpb zqr1o4_1
  have qqr1o4_11 := Nq.madeO zqr1o4_1 hqr1o3_1.blt
  replace hqr1o3_2 := hqr1o3_2.ext hxqr1o4_2
  replace hB1023 := hB1023.ext hxqr1o4_2
  replace h1026 := h1026.ext hxqr1o4_2
  replace h1028 := h1028.ext hxqr1o4_2
  replace hqr1o3_1 := hqr1o3_1.ext hxqr1o4_2
  have hEqr1o4_2 := Ext.trans hEqr1o4_1 hxqr1o4_2
  have qqr1o4_12 := Zn.upD zqr1o4_1 hEqr1o4_1
  refine wpList_nil (e_sq ?_)
  have hStqr1o4_1 : RowKit.Below W.heap.size wqr1o4_1 wqr1o4_2 := ext_bel qqr1o4_1.size hxqr1o4_2
  refine ⟨fun _ => hStqr1o4_1, ?_⟩
  have qqr1o4_13 := RowKit.Below.trans qqr1o4_1 hStqr1o4_1
  refine x_g 5 rfl (by kernel_rfl) (want0 _) ha rfl qqr1o4_13 (g_assign rfl) ?_; clear ha a; intro a ha
  refine x_done (by kernel_rfl) ?_; intro w1399 hx1400
  replace hqr1o3_2 := hqr1o3_2.ext hx1400
  replace hB1023 := hB1023.ext hx1400
  replace h1026 := h1026.ext hx1400
  replace h1028 := h1028.ext hx1400
  replace hqr1o3_1 := hqr1o3_1.ext hx1400
  replace hqr1o4_1 := hqr1o4_1.ext hx1400
  have hE1401 := Ext.trans hEqr1o4_2 hx1400
  replace ha := ha.sub (σ' := [(4, (.pointer (some ⟨b34, 0, none⟩))), (6, (.int .i64 x65)), (7, v1031), (10, vqr1o4_1)]) ⟨rfl, rfl, rfl, rfl, trivial⟩; refine e_then ?_; refine wp_seq ?_; refine wp_region_lit ?_; refine op_g ha rfl (g_loadA (cs := [u26]) Tryd.isAgg29 Tryd.sizeOf29 rfl (by simp) hB1023.all) ?_; clear ha a; intro a ha; refine op_g ha rfl (g_move rfl) ?_; clear ha a; intro a ha
  obtain ⟨fp1402, hro1403, hs1404⟩ := h1028.roF
  obtain ⟨x1405, hc1406, hF⟩ := cal_some hF
  refine o_call ha rfl rfl Tryd.call14 (W_impl_InTurn h1026 hro1403 hc1406) ?_; clear ha a; rintro v1407 w1408 ⟨b1410, h1411, z1412, hx1409⟩ a ha
  have q1414 := Nq.new hB1023.fpb z1412
  have q1415 := Nq.madeO z1412 hB1023.bi
  have q1416 := Nq.new h1026.bnd z1412
  have q1417 := Nq.new h1028.fpb z1412
  have q1418 := Nq.madeO z1412 h1028.blt
  have q1419 := Nq.new hqr1o4_1.fpb z1412
  have q1420 := Nq.madeO z1412 hqr1o4_1.blt
  replace hB1023 := hB1023.ext hx1409
  replace h1026 := h1026.ext hx1409
  replace h1028 := h1028.ext hx1409
  replace hqr1o4_1 := hqr1o4_1.ext hx1409
  have hE1421 := Ext.trans hE1401 hx1409
  have q1422 := Zn.upD z1412 hE1401
  refine op_g ha rfl (g_assign rfl) ?_; clear ha a; intro a ha; refine wpList_nil ?_; replace ha := ha.sub (σ' := [(4, (.pointer (some ⟨b34, 0, none⟩))), (6, (.int .i64 x65)), (10, vqr1o4_1), (11, v1407)]) ⟨rfl, rfl, rfl, rfl, trivial⟩; refine e_then ?_; refine wp_seq ?_; refine wp_seq ?_; refine wp_region_lit ?_; refine op_g ha rfl (g_loadA (cs := [u26]) Tryd.isAgg29 Tryd.sizeOf29 rfl (by simp) hB1023.all) ?_; clear ha a; intro a ha; refine op_g ha rfl (g_move rfl) ?_; clear ha a; intro a ha
  obtain ⟨fp1465, hro1466, hs1467⟩ := hqr1o4_1.roF
  obtain ⟨x1468, hc1469, hF⟩ := cal_some hF
  refine o_call ha rfl rfl Tryd.call10 (W_spec_ColoursOk h1026 hro1466 hc1469) ?_; clear ha a; rintro v1470 w1471 ⟨rfl, hx1472⟩ a ha
  replace hB1023 := hB1023.ext hx1472
  replace h1026 := h1026.ext hx1472
  replace hqr1o4_1 := hqr1o4_1.ext hx1472
  replace h1411 := h1411.ext hx1472
  have hE1473 := Ext.trans hE1421 hx1472
  refine op_g ha rfl (g_not rfl) ?_; clear ha a; intro a ha; refine op_g ha rfl (g_move rfl) ?_; clear ha a; intro a ha
  by_cases hp1474 : ¬ (x1468 = true)
  · replace hF := if_t hp1474 hF
    rw [show (!x1468) = true from (n_iff (Iff.rfl)).2 hp1474] at ha
    (iterate 4 refine op_unwant ha rfl (yields ha rfl rfl) rfl ?_; clear ha a; intro a ha); refine op_g ha rfl (g_pick rfl rfl) ?_; clear ha a; intro a ha; refine op_g ha rfl (g_move rfl) ?_; clear ha a; intro a ha; (iterate 4 refine op_unwant ha rfl (yields ha rfl rfl) rfl ?_; clear ha a; intro a ha); refine op_g ha rfl (g_pick rfl rfl) ?_; clear ha a; intro a ha; refine op_g ha rfl (g_move rfl) ?_; clear ha a; intro a ha; (iterate 4 refine op_unwant ha rfl (yields ha rfl rfl) rfl ?_; clear ha a; intro a ha); refine op_g ha rfl (g_pick rfl rfl) ?_; clear ha a; intro a ha; refine wpList_nil ?_
    replace ha := ha.sub (σ' := [(4, (.pointer (some ⟨b34, 0, none⟩))), (10, vqr1o4_1), (97, (.bool true))]) ⟨rfl, rfl, rfl, trivial⟩; refine e_then ?_; refine c_true ha rfl ?_; refine wp_seq ?_; refine wp_region_lit ?_; refine op_g ha rfl (g_assign rfl) ?_; clear ha a; intro a ha; refine wpList_nil ?_; replace ha := ha.sub (σ' := [(2, (.bool false))]) ⟨rfl, trivial⟩; refine e_then ?_; refine wp_ret ?_; refine e_then_ret ?_; obtain rfl := Option.some.inj hF
    exact f_ret1 ha rfl rfl ⟨rfl, hE1473⟩
  replace hF := if_f hp1474 hF
  rw [show (!x1468) = false from b_false (n_iff (Iff.rfl)) hp1474] at ha
  refine op_want (yields ha rfl rfl) ?_; refine op_g ha rfl (g_loadA (cs := [u26]) Tryd.isAgg29 Tryd.sizeOf29 rfl (by simp) hB1023.all) ?_; clear ha a; intro a ha; refine op_want (yields ha rfl rfl) ?_; refine op_g ha rfl (g_move rfl) ?_; clear ha a; intro a ha; refine op_want (yields ha rfl rfl) ?_
  obtain ⟨fp1475, hro1476, hs1477⟩ := h1411.roF
  obtain ⟨x1478, hc1479, hF⟩ := cal_some hF
  refine o_call ha rfl rfl Tryd.call10 (W_spec_ColoursOk h1026 hro1476 hc1479) ?_; clear ha a; rintro v1480 w1481 ⟨rfl, hx1482⟩ a ha
  replace hB1023 := hB1023.ext hx1482
  replace h1026 := h1026.ext hx1482
  replace hqr1o4_1 := hqr1o4_1.ext hx1482
  replace h1411 := h1411.ext hx1482
  have hE1483 := Ext.trans hE1473 hx1482
  refine op_want (yields ha rfl rfl) ?_; refine op_g ha rfl (g_not rfl) ?_; clear ha a; intro a ha; refine op_g ha rfl (g_pick rfl rfl) ?_; clear ha a; intro a ha; refine op_g ha rfl (g_move rfl) ?_; clear ha a; intro a ha
  by_cases hp1484 : ¬ (x1478 = true)
  · replace hF := if_t hp1484 hF
    rw [show (!x1478) = true from (n_iff (Iff.rfl)).2 hp1484] at ha
    (iterate 4 refine op_unwant ha rfl (yields ha rfl rfl) rfl ?_; clear ha a; intro a ha); refine op_g ha rfl (g_pick rfl rfl) ?_; clear ha a; intro a ha; refine op_g ha rfl (g_move rfl) ?_; clear ha a; intro a ha; (iterate 4 refine op_unwant ha rfl (yields ha rfl rfl) rfl ?_; clear ha a; intro a ha); refine op_g ha rfl (g_pick rfl rfl) ?_; clear ha a; intro a ha; refine wpList_nil ?_; replace ha := ha.sub (σ' := [(4, (.pointer (some ⟨b34, 0, none⟩))), (10, vqr1o4_1), (97, (.bool true))]) ⟨rfl, rfl, rfl, trivial⟩; refine e_then ?_; refine c_true ha rfl ?_; refine wp_seq ?_; refine wp_region_lit ?_
    refine op_g ha rfl (g_assign rfl) ?_; clear ha a; intro a ha; refine wpList_nil ?_; replace ha := ha.sub (σ' := [(2, (.bool false))]) ⟨rfl, trivial⟩; refine e_then ?_; refine wp_ret ?_; refine e_then_ret ?_; obtain rfl := Option.some.inj hF
    exact f_ret1 ha rfl rfl ⟨rfl, hE1483⟩
  replace hF := if_f hp1484 hF
  rw [show (!x1478) = false from b_false (n_iff (Iff.rfl)) hp1484] at ha
  refine op_want (yields ha rfl rfl) ?_; refine op_g ha rfl (g_move rfl) ?_; clear ha a; intro a ha; refine op_want (yields ha rfl rfl) ?_
  obtain ⟨fp1485, hro1486, hs1487⟩ := h1411.roF
  obtain ⟨x1488, hc1489, hF⟩ := cal_some hF
  refine o_call ha rfl rfl Tryd.call16 (W_spec_ColoursMany hro1486 hc1489) ?_; clear ha a; rintro v1490 w1491 ⟨⟨rfl, hI1493⟩, hx1492⟩ a ha
  replace hB1023 := hB1023.ext hx1492
  replace h1026 := h1026.ext hx1492
  replace hqr1o4_1 := hqr1o4_1.ext hx1492
  replace h1411 := h1411.ext hx1492
  have hE1494 := Ext.trans hE1483 hx1492
  refine op_want (yields ha rfl rfl) ?_; refine op_g ha rfl (g_move rfl) ?_; clear ha a; intro a ha; refine op_want (yields ha rfl rfl) ?_; refine op_g ha rfl (g_neq rfl rfl) ?_; clear ha a; intro a ha; refine op_g ha rfl (g_pick rfl rfl) ?_; clear ha a; intro a ha; refine op_g ha rfl (g_move rfl) ?_; clear ha a; intro a ha
  by_cases hp1495 : x1488 ≠ x65
  · replace hF := if_t hp1495 hF
    rw [show (decide (x1488 ≠ x65)) = true from (decide_eq_true_iff).2 hp1495] at ha
    (iterate 4 refine op_unwant ha rfl (yields ha rfl rfl) rfl ?_; clear ha a; intro a ha); refine op_g ha rfl (g_pick rfl rfl) ?_; clear ha a; intro a ha; refine wpList_nil ?_; replace ha := ha.sub (σ' := [(4, (.pointer (some ⟨b34, 0, none⟩))), (10, vqr1o4_1), (97, (.bool true))]) ⟨rfl, rfl, rfl, trivial⟩; refine e_then ?_; refine c_true ha rfl ?_; refine wp_seq ?_; refine wp_region_lit ?_; refine op_g ha rfl (g_assign rfl) ?_; clear ha a; intro a ha; refine wpList_nil ?_; replace ha := ha.sub (σ' := [(2, (.bool false))]) ⟨rfl, trivial⟩; refine e_then ?_; refine wp_ret ?_; refine e_then_ret ?_
    obtain rfl := Option.some.inj hF
    exact f_ret1 ha rfl rfl ⟨rfl, hE1494⟩
  replace hF := if_f hp1495 hF
  rw [show (decide (x1488 ≠ x65)) = false from b_false (decide_eq_true_iff) hp1495] at ha
  refine op_want (yields ha rfl rfl) ?_; refine op_g ha rfl (g_move rfl) ?_; clear ha a; intro a ha; refine op_want (yields ha rfl rfl) ?_
  obtain ⟨fp1496, hro1497, hs1498⟩ := hqr1o4_1.roF
  obtain ⟨x1499, hc1500, hF⟩ := cal_some hF
  refine o_call ha rfl rfl Tryd.call16 (W_spec_ColoursMany hro1497 hc1500) ?_; clear ha a; rintro v1501 w1502 ⟨⟨rfl, hI1504⟩, hx1503⟩ a ha
  replace hB1023 := hB1023.ext hx1503
  replace h1026 := h1026.ext hx1503
  replace hqr1o4_1 := hqr1o4_1.ext hx1503
  replace h1411 := h1411.ext hx1503
  have hE1505 := Ext.trans hE1494 hx1503
  refine op_want (yields ha rfl rfl) ?_; refine op_g ha rfl (g_move rfl) ?_; clear ha a; intro a ha; refine op_want (yields ha rfl rfl) ?_; refine op_g ha rfl (g_lss rfl rfl) ?_; clear ha a; intro a ha; refine op_g ha rfl (g_pick rfl rfl) ?_; clear ha a; intro a ha; refine wpList_nil ?_; replace ha := ha.sub (σ' := [(4, (.pointer (some ⟨b34, 0, none⟩))), (10, vqr1o4_1), (97, (.bool (decide (x1499 < x65))))]) ⟨rfl, rfl, rfl, trivial⟩; refine e_then ?_; refine c_cond (x1499 < x65) ha rfl (decide_eq_true_iff) (fun hp1506 => ?_) (fun hp1506 => ?_)
  · replace hF := if_t hp1506 hF
    refine wp_seq ?_; refine wp_region_lit ?_; refine op_g ha rfl (g_assign rfl) ?_; clear ha a; intro a ha; refine wpList_nil ?_; replace ha := ha.sub (σ' := [(2, (.bool false))]) ⟨rfl, trivial⟩; refine e_then ?_; refine wp_ret ?_; refine e_then_ret ?_; obtain rfl := Option.some.inj hF
    exact f_ret1 ha rfl rfl ⟨rfl, hE1505⟩
  replace hF := if_f hp1506 hF; refine wp_skip ?_; refine e_then ?_; refine wp_seq ?_; refine wp_seq ?_; refine wp_region_lit ?_; refine op_g ha rfl (g_assign rfl) ?_; clear ha a; intro a ha; refine wpList_nil ?_; replace ha := ha.sub (σ' := [(4, (.pointer (some ⟨b34, 0, none⟩))), (10, vqr1o4_1), (12, (.int .i64 0))]) ⟨rfl, rfl, rfl, trivial⟩; refine e_then ?_; obtain ⟨o1634, ho1635, hK1636⟩ := bnd_some hF
  obtain ⟨n1637, hn1638⟩ := lp_some ho1635; clear ho1635
  refine c_loop (fun a w => Fr 115 [] a ∧ Chg [] W w ∧ o1634 = .inl ()) (fun n a w => ∃ (i1577 : Int), Fr 115 [(4, (.pointer (some ⟨b34, 0, none⟩))), (10, vqr1o4_1), (12, (.int .i64 i1577))] a ∧ Chg [] W w ∧ InI i1577 ∧ Bx w b34 [u26] 29 ∧ Zn W (b34 : Int) ∧ Ro (Rp.sl 2 Rp.int) w fp27 u26 x21.1 ∧ Ow Rp.int 2 true w [] bqr1o4_1 vqr1o4_1 xqr1o4_1 ∧ Zn W bqr1o4_1 ∧ Nq ([b34]) bqr1o4_1 ∧ Nq (fp27) (b34 : Int) ∧ Nq (fp27) bqr1o4_1 ∧ Nq (bl bqr1o4_1 ++ []) (b34 : Int) ∧ lpN (fun s => F_laws_FnColours_l5 x21 xqr1o4_1 s) n i1577 = some o1634) n1637 ⟨0, ha.sub ⟨rfl, rfl, rfl, trivial⟩, hE1505, (show InI 0 from by decide), hB1023, z1024, h1026, hqr1o4_1, qqr1o4_12, qqr1o4_5, q1038, qqr1o4_7, qqr1o4_6, hn1638⟩ ?_ ?_
  · rintro m1642 a w1569 ⟨i1577, ha, hE1583, hI1578, hB1570, z1571, h1573, h1575, z1576, q1579, q1580, q1581, q1582, hF⟩
    cases m1642 with
    | zero => exact (lpN_zero hF).elim
    | succ m1642 =>
      obtain ⟨z1641, hF, hN1640⟩ := lpN_succ hF
      have hF : F_laws_FnColours_l5 x21 xqr1o4_1 i1577 = some z1641 := hF; unfold F_laws_FnColours_l5 at hF
      refine wp_seq ?_; refine wp_seq ?_; refine wp_region_lit ?_; (iterate 2 refine op_g ha rfl (g_move rfl) ?_; clear ha a; intro a ha); refine op_g ha rfl (g_lenO sl31.und h1575 rfl) ?_; clear ha a; intro a ha; refine op_g ha rfl (g_lss rfl rfl) ?_; clear ha a; intro a ha; refine wpList_nil ?_; replace ha := ha.sub (σ' := [(4, (.pointer (some ⟨b34, 0, none⟩))), (10, vqr1o4_1), (12, (.int .i64 i1577)), (101, (.bool (decide (i1577 < (xqr1o4_1.length : Int)))))]) ⟨rfl, rfl, rfl, rfl, trivial⟩; refine e_then ?_; refine c_cond (i1577 < (xqr1o4_1.length : Int)) ha rfl (decide_eq_true_iff) (fun hp1643 => ?_) (fun hp1643 => ?_)
      · replace hF := if_t hp1643 hF
        refine wp_skip ?_; refine e_then ?_; refine wp_seq ?_; refine wp_block ?_; refine wp_seq ?_; refine d_quiet hmix (by kernel_rfl) ?_; (iterate 2 refine q_g ha rfl (g_move rfl) ?_; clear ha a; intro a ha); obtain ⟨x1644, g1645, gx1646, hF⟩ := idx_some hF
        obtain ⟨p1647, cs1648, f1649, hf1650, hpb1651, hat1652, hr1653, hi1654⟩ := h1575.at g1645 gx1646
        obtain ⟨rfl, hI1655, rfl⟩ := hr1653
        refine q_g ha rfl (hi1654.gives sl31 rfl rfl) ?_; clear ha a; intro a ha; refine q_g ha rfl (g_load Tryd.isAgg2 rfl hat1652.one) ?_; clear ha a; intro a ha; refine q_g ha rfl (g_field0 st29_0 rfl) ?_; clear ha a; intro a ha; refine q_g ha rfl (g_load Tryd.isAgg27 rfl (hB1570.cell rfl)) ?_; clear ha a; intro a ha; refine q_g ha rfl (g_move rfl) ?_; clear ha a; intro a ha; obtain ⟨x1656, g1657, gx1658, hF⟩ := idx_some hF
        obtain ⟨p1659, cs1660, f1661, hf1662, hpb1663, hat1664, hr1665, hi1666⟩ := h1573.at g1657 gx1658
        obtain ⟨v1667, rfl, h1668⟩ := hr1665
        have h1668 : Ro Rp.int w1569 f1661 v1667 x1656 := h1668
        have q1670 := Nq.mono q1580 hf1662
        have q1671 := Nq.mono q1581 hf1662
        refine q_g ha rfl (hi1666.gives sl27 rfl rfl) ?_; clear ha a; intro a ha; refine q_g ha rfl (g_load Tryd.isAgg31 rfl hat1664.one) ?_; clear ha a; intro a ha; refine q_g ha rfl (g_lenR sl31.und h1668 rfl) ?_; clear ha a; intro a ha; refine q_g ha rfl (g_gtr rfl rfl) ?_; clear ha a; intro a ha
        refine q_nil ?_; intro w1672 hx1673
        replace hB1570 := hB1570.ext hx1673
        replace h1573 := h1573.ext hx1673
        replace h1575 := h1575.ext hx1673
        replace h1668 := h1668.ext hx1673
        have hE1674 := Ext.trans hE1583 hx1673
        replace ha := ha.sub (σ' := [(4, (.pointer (some ⟨b34, 0, none⟩))), (10, vqr1o4_1), (12, (.int .i64 i1577)), (114, (.bool (decide ((x1656.length : Int) < x1644))))]) ⟨rfl, rfl, rfl, rfl, trivial⟩; refine e_then ?_; refine c_cond ((x1656.length : Int) < x1644) ha rfl (decide_eq_true_iff) (fun hp1675 => ?_) (fun hp1675 => ?_)
        · replace hF := if_t hp1675 hF
          refine wp_seq ?_; refine wp_region_lit ?_; refine op_g ha rfl (g_assign rfl) ?_; clear ha a; intro a ha; refine wpList_nil ?_; replace ha := ha.sub (σ' := [(2, (.bool false))]) ⟨rfl, trivial⟩; refine e_then ?_; refine wp_ret ?_; refine e_blk_ret ?_; refine e_then_ret ?_; refine e_lq_ret ?_; refine e_then_ret ?_; obtain rfl := Option.some.inj hF
          have e1676 := LK_inr hN1640; subst e1676
          have e1677 := BK_inr hK1636; subst e1677
          exact f_ret1 ha rfl rfl ⟨rfl, hE1674⟩
        replace hF := if_f hp1675 hF; refine wp_skip ?_; refine e_blk ?_; refine e_then ?_; refine wp_region_lit ?_; refine op_g ha rfl (g_move rfl) ?_; clear ha a; intro a ha; obtain ⟨hI1678, hF⟩ := ck_some hF; refine op_g ha rfl (g_add rfl rfl hI1678) ?_; clear ha a; intro a ha; refine op_g ha rfl (g_assign rfl) ?_; clear ha a; intro a ha; refine wpList_nil ?_; replace ha := ha.sub (σ' := [(4, (.pointer (some ⟨b34, 0, none⟩))), (10, vqr1o4_1), (12, (.int .i64 (i1577 + 1)))]) ⟨rfl, rfl, rfl, trivial⟩; refine e_lq ?_; obtain rfl := Option.some.inj hF
        exact ⟨_, Nat.lt_succ_self _, i1577 + 1, ha.sub ⟨rfl, rfl, rfl, trivial⟩, hE1674, hI1678, hB1570, z1571, h1573, h1575, z1576, q1579, q1580, q1581, q1582, hN1640⟩
      replace hF := if_f hp1643 hF; refine wp_exit ?_; refine e_then_exit ?_; refine e_lq_eq ?_; obtain rfl := Option.some.inj hF
      exact ⟨ha.sub trivial, hE1583, (LK_inr hN1640).symm⟩
  rintro a w1633 ⟨ha, hE1639, rfl⟩
  have hF : F_laws_FnColours_k6 = some _ := hK1636; clear hK1636; unfold F_laws_FnColours_k6 at hF
  refine e_then ?_; refine wp_seq ?_; refine wp_region_lit ?_; refine op_g ha rfl (g_assign rfl) ?_; clear ha a; intro a ha; refine wpList_nil ?_; refine e_then ?_; refine wp_ret ?_; obtain rfl := Option.some.inj hF
  exact f_ret1 ha rfl rfl ⟨rfl, hE1639⟩
end Go.Proofs.YtadjcnllmkdgiaaDoor
