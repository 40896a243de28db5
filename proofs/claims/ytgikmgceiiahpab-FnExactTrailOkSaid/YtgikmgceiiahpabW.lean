/- Walks, printed by gen.py. -/
import Derived.Test.YtgikmgceiiahpabF
import Derived.Test.YtgikmgceiiahpabW1
import Derived.Test.YtgikmgceiiahpabProg
import Derived.KernelRfl
set_option maxRecDepth 100000
namespace Go.Proofs.Ytgikmgceiiahpab
open Go Go.RowKit

set_option maxHeartbeats 2000000 in
theorem W_impl_netsOf {W : World} {va0_0 : Value} {fa0_0 : List Nat} {a0_0 : (List (List Int))} (ha0_0 : Ro (Rp.sl 2 Rp.int) W fa0_0 va0_0 a0_0) {r : (List (BitVec 32))} (hF : F_impl_netsOf a0_0 = some r) :
    Calls Try.prog 20 [.agg #[va0_0]].toArray W (Ret fun u w' => ∃ (b_u : Int), Ow Rp.u32 62 true w' [] b_u u r ∧ Zn W b_u ∧ Ext W w') := by
  refine f_enter Try.func20 rfl Try.ntmps20 rfl ?_
  intro a ha
  replace ha : Fr 21 [(0, (.agg #[va0_0]))] a := ha
  have hE : Chg [] W W := Chg.refl _ _
  unfold F_impl_netsOf at hF
  refine wp_seq ?_
  refine wp_region_lit ?_
  refine o_box ha rfl rfl rfl ?_; clear ha a; intro b1 w2 hB3 hx4 hlo5 a ha
  have q6 := Zn.one hlo5
  have q7 := Zn.upD q6 hE
  have hE8 := Ext.trans hE hx4
  refine op_g ha rfl (g_assign rfl) ?_; clear ha a; intro a ha
  refine wpList_nil ?_
  replace ha := ha.sub (σ' := [(1, (.pointer (some ⟨b1, 0, none⟩)))]) ⟨rfl, trivial⟩
  refine e_then ?_
  refine wp_seq ?_
  refine wp_region_lit ?_
  refine o_lit0 Rp.u32 ha rfl sl43 ?_; clear ha a; intro v9 w10 h11 hx12 a ha
  obtain ⟨b14, hb14⟩ : ∃ b : Int, b = w2.heap.size := ⟨_, rfl⟩; rw [← hb14] at h11
  have q15 := zn_of hb14
  have q16 := Nq.new hB3.fpb q15
  have q17 := Nq.madeO q15 hB3.bi
  have q18 := Zn.upD q15 hE8
  replace hB3 := hB3.ext hx12
  have hE19 := Ext.trans hE8 hx12
  refine op_g ha rfl (g_assign rfl) ?_; clear ha a; intro a ha
  refine wpList_nil ?_
  replace ha := ha.sub (σ' := [(1, (.pointer (some ⟨b1, 0, none⟩))), (3, v9)]) ⟨rfl, rfl, trivial⟩
  refine e_then ?_
  refine wp_seq ?_
  refine wp_seq ?_
  refine wp_region_lit ?_
  refine op_g ha rfl (g_field0 st27_0 rfl) ?_; clear ha a; intro a ha
  refine op_g ha rfl (g_load Try.isAgg22 rfl (hB3.cell rfl)) ?_; clear ha a; intro a ha
  refine op_g ha rfl (g_lenR sl22.und ha0_0 rfl) ?_; clear ha a; intro a ha
  refine op_g ha rfl (g_move rfl) ?_; clear ha a; intro a ha
  refine wpList_nil ?_
  replace ha := ha.sub (σ' := [(3, v9), (8, va0_0), (9, (.int .i64 (a0_0.length : Int))), (10, (.int .i64 0))]) ⟨rfl, rfl, rfl, rfl, trivial⟩
  refine e_then ?_
  obtain ⟨o152, ho153, hK154⟩ := bnd_some hF
  obtain ⟨n155, hn156⟩ := lp_some ho153; clear ho153
  refine c_loop (fun a w => ∃ (l149 : (List (BitVec 32))) (v150 : Value) (b151 : Int), Fr 21 [(3, v150)] a ∧ Chg [] W w ∧ Ow Rp.u32 62 true w [] b151 v150 l149 ∧ Zn W b151 ∧ o152 = .inl l149) (fun n a w => ∃ (l84 : (List (BitVec 32))) (i87 : Int) (v85 : Value) (b86 : Int), Fr 21 [(3, v85), (8, va0_0), (9, (.int .i64 (a0_0.length : Int))), (10, (.int .i64 i87))] a ∧ Chg [] W w ∧ InI i87 ∧ Ow Rp.u32 62 true w [] b86 v85 l84 ∧ Zn W b86 ∧ lpN (fun s => F_impl_netsOf_l1 a0_0 s.1 s.2) n (l84, i87) = some o152) n155 ⟨([] : (List (BitVec 32))), 0, v9, b14, ha.sub ⟨rfl, rfl, rfl, rfl, trivial⟩, hE19, (show InI 0 from by decide), h11, q18, hn156⟩ ?_ ?_
  · rintro m160 a w80 ⟨l84, i87, v85, b86, ha, hE89, hI88, h82, z83, hF⟩
    cases m160 with
    | zero => exact (lpN_zero hF).elim
    | succ m160 =>
      obtain ⟨z159, hF, hN158⟩ := lpN_succ hF
      have hF : F_impl_netsOf_l1 a0_0 l84 i87 = some z159 := hF; unfold F_impl_netsOf_l1 at hF
      refine wp_seq ?_
      refine wp_region_lit ?_
      refine op_g ha rfl (g_lss rfl rfl) ?_; clear ha a; intro a ha
      refine wpList_nil ?_
      replace ha := ha.sub (σ' := [(3, v85), (8, va0_0), (9, (.int .i64 (a0_0.length : Int))), (10, (.int .i64 i87)), (11, (.bool (decide (i87 < (a0_0.length : Int)))))]) ⟨rfl, rfl, rfl, rfl, rfl, trivial⟩
      refine e_then ?_
      refine wp_seq ?_
      refine c_cond (i87 < (a0_0.length : Int)) ha rfl (decide_eq_true_iff) (fun hp161 => ?_) (fun hp161 => ?_)
      · replace hF := if_t hp161 hF
        refine wp_skip ?_
        refine e_then ?_
        refine wp_seq ?_
        refine wp_block ?_
        refine wp_seq ?_
        refine wp_region_lit ?_
        obtain ⟨x162, g163, gx164, hF⟩ := idx_some hF
        obtain ⟨p165, cs166, f167, hf168, hpb169, hat170, hr171, hi172⟩ := ha0_0.at g163 gx164
        obtain ⟨v173, rfl, h174⟩ := hr171
        have h174 : Ro Rp.int W f167 v173 x162 := h174
        refine op_g ha rfl (hi172.gives sl22 rfl rfl) ?_; clear ha a; intro a ha
        refine op_g ha rfl (g_load0 hE89 Try.isAgg31 rfl hat170.one) ?_; clear ha a; intro a ha
        refine op_g ha rfl (g_assign rfl) ?_; clear ha a; intro a ha
        refine wpList_nil ?_
        replace ha := ha.sub (σ' := [(3, v85), (5, v173), (8, va0_0), (9, (.int .i64 (a0_0.length : Int))), (10, (.int .i64 i87))]) ⟨rfl, rfl, rfl, rfl, rfl, trivial⟩
        refine e_then ?_
        refine wp_region_lit ?_
        refine op_g ha rfl (g_move rfl) ?_; clear ha a; intro a ha
        refine op_g ha rfl (g_move rfl) ?_; clear ha a; intro a ha
        obtain ⟨x176, hc177, hF⟩ := cal_some hF
        refine o_call ha rfl rfl Try.call40 (W_impl_maskOf (h174.ext hE89) hc177) ?_; clear ha a; rintro v178 w179 ⟨rfl, hx180⟩ a ha
        replace h82 := h82.ext hx180
        have hE181 := Ext.trans hE89 hx180
        refine o_lit1 (o := true) (y := x176) Rp.u32 ha rfl sl43 rfl rfl rfl ⟨rfl, rfl⟩ ?_; clear ha a; intro v182 w183 h184 hx185 a ha
        obtain ⟨b187, hb187⟩ : ∃ b : Int, b = w179.heap.size := ⟨_, rfl⟩; rw [← hb187] at h184
        have q188 := zn_of hb187
        have q189 := Nq.new h82.fpb q188
        have q190 := Nq.madeO q188 h82.blt
        have q191 := Zn.upD q188 hE181
        replace h82 := h82.ext hx185
        have hE192 := Ext.trans hE181 hx185
        obtain ⟨hl193, hF⟩ := app_some hF
        refine o_append ha rfl sl43 rfl rfl rfl h82 h184.src (Nq.nil _) hl193 ?_; clear ha a; intro v194 w195 b196 h197 hc198 hb199 a ha
        replace h197 : Ow Rp.u32 62 true w195 [] b196 v194 _ := h197
        have q201 := Nq.appY q190 h184.fpb hb199
        have q202 := Nq.appX q189 (Nq.nil _) hb199 h184.blt
        have q203 := Zn.appD z83 hb199 hE192
        replace h184 := h184.nq hc198 q190
        have hE204 := Ext.then hE192 hc198 (Zn.bl z83)
        refine op_g ha rfl (g_assign rfl) ?_; clear ha a; intro a ha
        refine wpList_nil ?_
        replace ha := ha.sub (σ' := [(3, v194), (8, va0_0), (9, (.int .i64 (a0_0.length : Int))), (10, (.int .i64 i87))]) ⟨rfl, rfl, rfl, rfl, trivial⟩
        refine e_blk ?_
        refine e_then ?_
        refine wp_region_lit ?_
        obtain ⟨hI205, hF⟩ := ck_some hF
        refine op_g ha rfl (g_add rfl rfl hI205) ?_; clear ha a; intro a ha
        refine op_g ha rfl (g_move rfl) ?_; clear ha a; intro a ha
        refine wpList_nil ?_
        replace ha := ha.sub (σ' := [(3, v194), (8, va0_0), (9, (.int .i64 (a0_0.length : Int))), (10, (.int .i64 (i87 + 1)))]) ⟨rfl, rfl, rfl, rfl, trivial⟩
        refine e_lq ?_
        obtain rfl := Option.some.inj hF
        exact ⟨_, Nat.lt_succ_self _, (l84 ++ ([x176])), i87 + 1, v194, b196, ha.sub ⟨rfl, rfl, rfl, rfl, trivial⟩, hE204, hI205, h197, q203, hN158⟩
      · replace hF := if_f hp161 hF
        refine wp_exit ?_
        refine e_then_exit ?_
        refine e_lq_eq ?_
        obtain rfl := Option.some.inj hF
        exact ⟨l84, v85, b86, ha.sub ⟨rfl, trivial⟩, hE89, h82, z83, (LK_inr hN158).symm⟩
  · rintro a w145 ⟨l149, v150, b151, ha, hE157, h147, z148, rfl⟩
    have hF : F_impl_netsOf_k2 l149 = some _ := hK154; clear hK154; unfold F_impl_netsOf_k2 at hF
    refine e_then ?_
    refine wp_seq ?_
    refine wp_region_lit ?_
    refine op_g ha rfl (g_move rfl) ?_; clear ha a; intro a ha
    refine op_g ha rfl (g_assign rfl) ?_; clear ha a; intro a ha
    refine wpList_nil ?_
    replace ha := ha.sub (σ' := [(2, v150)]) ⟨rfl, trivial⟩
    refine e_then ?_
    refine wp_ret ?_
    obtain rfl := Option.some.inj hF
    exact f_ret1 ha rfl rfl ⟨_, h147, z148, hE157⟩
set_option maxHeartbeats 2000000 in
theorem W_impl_vset_has {W : World} {a0 : BitVec 32} {a1 : Int} (ha1 : InI a1) {r : Bool} (hF : F_impl_vset_has a0 a1 = some r) :
    Calls Try.prog 44 [.int .u32 (BitVec.toNat a0 : Int), .int .i64 a1].toArray W (Ret fun u w' => u = .bool r ∧ Ext W w') := by
  refine f_enter Try.func44 rfl Try.ntmps44 rfl ?_
  intro a ha
  replace ha : Fr 10 [(0, (.int .u32 (BitVec.toNat a0 : Int))), (1, (.int .i64 a1))] a := ha
  have hE : Chg [] W W := Chg.refl _ _
  unfold F_impl_vset_has at hF
  refine wp_seq ?_
  refine wp_region_lit ?_
  refine op_g ha rfl (g_assign rfl) ?_; clear ha a; intro a ha
  refine wpList_nil ?_
  replace ha := ha.sub (σ' := [(0, (.int .u32 (BitVec.toNat a0 : Int))), (1, (.int .i64 a1))]) ⟨rfl, rfl, trivial⟩
  refine e_then ?_
  refine wp_seq ?_
  refine wp_region_lit ?_
  refine op_g ha rfl (g_move rfl) ?_; clear ha a; intro a ha
  refine op_g ha rfl (g_move rfl) ?_; clear ha a; intro a ha
  obtain ⟨hs1, hF⟩ := grd_some hF
  refine op_g ha rfl (g32_shr (m := a0) rfl rfl hs1) ?_; clear ha a; intro a ha
  refine op_g ha rfl (g32_and (m := (a0 >>> (a1 : Int).toNat)) (n := (1#32)) rfl rfl) ?_; clear ha a; intro a ha
  refine op_g ha rfl (g32_eql (m := ((a0 >>> (a1 : Int).toNat) &&& (1#32))) (n := (1#32)) rfl rfl) ?_; clear ha a; intro a ha
  refine op_g ha rfl (g_assign rfl) ?_; clear ha a; intro a ha
  refine wpList_nil ?_
  replace ha := ha.sub (σ' := [(4, (.bool (decide (((a0 >>> (a1 : Int).toNat) &&& (1#32)) = (1#32)))))]) ⟨rfl, trivial⟩
  refine e_then ?_
  refine wp_ret ?_
  obtain rfl := Option.some.inj hF
  exact f_ret1 ha rfl rfl ⟨rfl, hE⟩
set_option maxHeartbeats 2000000 in
theorem W_impl_nets_part {W : World} {va0 : Value} {ba0 : Int} {a0 : (List (BitVec 32))} (ha0 : Ow Rp.u32 62 true W [] ba0 va0 a0) {a1 : Int} (ha1 : InI a1) {a2 : Int} (ha2 : InI a2) {r : (List (BitVec 32))} (hF : F_impl_nets_part a0 a1 a2 = some r) :
    Calls Try.prog 45 [va0, .int .i64 a1, .int .i64 a2].toArray W (Ret fun u w' => u = .tuple #[] ∧ Ow Rp.u32 62 true w' [] ba0 va0 r ∧ Chg (bl ba0) W w') := by
  refine f_enter Try.func45 rfl Try.ntmps45 rfl ?_
  intro a ha
  replace ha : Fr 22 [(0, va0), (1, (.int .i64 a1)), (2, (.int .i64 a2))] a := ha
  have hE : Chg (bl ba0) W W := Chg.refl _ _
  unfold F_impl_nets_part at hF
  refine wp_seq ?_
  refine d_region 8 hmix ?_
  refine u_g 0 rfl (by kernel_rfl) (want0 _) ha rfl (g_move rfl) ?_; clear ha a; intro a ha
  refine u_g 1 rfl (by kernel_rfl) (want0 _) ha rfl (g_move rfl) ?_; clear ha a; intro a ha
  obtain ⟨x1, g2, gx3, hF⟩ := idx_some hF
  obtain ⟨p4, cs5, f6, hf7, hpb8, hat9, hr10, hi11⟩ := ha0.at g2 gx3
  obtain ⟨rfl, rfl⟩ := hr10
  refine u_g 2 rfl (by kernel_rfl) (want0 _) ha rfl (hi11.gives sl43 rfl rfl) ?_; clear ha a; intro a ha
  refine u_g 3 rfl (by kernel_rfl) (want0 _) ha rfl (g_load Try.isAgg62 rfl hat9.one) ?_; clear ha a; intro a ha
  refine u_g 4 rfl (by kernel_rfl) (want0 _) ha rfl (g_move rfl) ?_; clear ha a; intro a ha
  obtain ⟨x14, hc15, hF⟩ := cal_some hF
  refine u_call (.int .u32 (BitVec.toNat x14 : Int)) 5 rfl (by kernel_rfl) (want0 _) ha rfl rfl Try.call50 (fun w13 hx12 => W_impl_one ha2 hc15) (fun _ _ _ h => ⟨h.1, h.2⟩) ?_; clear ha a; intro a ha
  refine u_g 6 rfl (by kernel_rfl) (want0 _) ha rfl (g32_andNot (m := x1) (n := x14) rfl rfl) ?_; clear ha a; intro a ha
  obtain ⟨x16, g17, gx18, hF⟩ := idx_some hF
  obtain ⟨p19, cs20, f21, hf22, hpb23, hat24, hr25, hi26⟩ := ha0.at g17 gx18
  obtain ⟨rfl, rfl⟩ := hr25
  refine u_g 7 rfl (by kernel_rfl) (want0 _) ha rfl (hi26.gives sl43 rfl rfl) ?_; clear ha a; intro a ha
  refine u_only 8 rfl (by kernel_rfl) ?_; intro w27 hx28
  replace ha0 := ha0.ext hx28
  have hE29 := Chg.more hE hx28
  refine o_storeE (f := []) (q := x1 &&& ~~~x14) ha Try.sizeOf62 rfl rfl rfl ha0 hi26 ⟨rfl, rfl⟩ (Nq.nil _) ?_; intro w30 fs31 h32 hc33 hs34
  obtain rfl := Subst.nil hs34
  have hE35 := Chg.same hE29 hc33
  refine wpList_nil (e_sq ?_)
  refine ⟨fun h => absurd h (by decide), ?_⟩
  refine u_done (by kernel_rfl) ?_; intro w36 hx37
  replace h32 := h32.ext hx37
  have hE38 := Chg.more hE35 hx37
  replace ha := ha.sub (σ' := [(0, va0), (1, (.int .i64 a1)), (2, (.int .i64 a2))]) ⟨rfl, rfl, rfl, trivial⟩
  refine e_then ?_
  refine d_region 8 hmix ?_
  refine u_g 0 rfl (by kernel_rfl) (want0 _) ha rfl (g_move rfl) ?_; clear ha a; intro a ha
  refine u_g 1 rfl (by kernel_rfl) (want0 _) ha rfl (g_move rfl) ?_; clear ha a; intro a ha
  obtain ⟨x39, g40, gx41, hF⟩ := idx_some hF
  obtain ⟨p42, cs43, f44, hf45, hpb46, hat47, hr48, hi49⟩ := h32.at g40 gx41
  obtain ⟨rfl, rfl⟩ := hr48
  refine u_g 2 rfl (by kernel_rfl) (want0 _) ha rfl (hi49.gives sl43 rfl rfl) ?_; clear ha a; intro a ha
  refine u_g 3 rfl (by kernel_rfl) (want0 _) ha rfl (g_load Try.isAgg62 rfl hat47.one) ?_; clear ha a; intro a ha
  refine u_g 4 rfl (by kernel_rfl) (want0 _) ha rfl (g_move rfl) ?_; clear ha a; intro a ha
  obtain ⟨x52, hc53, hF⟩ := cal_some hF
  refine u_call (.int .u32 (BitVec.toNat x52 : Int)) 5 rfl (by kernel_rfl) (want0 _) ha rfl rfl Try.call50 (fun w51 hx50 => W_impl_one ha1 hc53) (fun _ _ _ h => ⟨h.1, h.2⟩) ?_; clear ha a; intro a ha
  refine u_g 6 rfl (by kernel_rfl) (want0 _) ha rfl (g32_andNot (m := x39) (n := x52) rfl rfl) ?_; clear ha a; intro a ha
  obtain ⟨x54, g55, gx56, hF⟩ := idx_some hF
  obtain ⟨p57, cs58, f59, hf60, hpb61, hat62, hr63, hi64⟩ := h32.at g55 gx56
  obtain ⟨rfl, rfl⟩ := hr63
  refine u_g 7 rfl (by kernel_rfl) (want0 _) ha rfl (hi64.gives sl43 rfl rfl) ?_; clear ha a; intro a ha
  refine u_only 8 rfl (by kernel_rfl) ?_; intro w65 hx66
  replace h32 := h32.ext hx66
  have hE67 := Chg.more hE38 hx66
  refine o_storeE (f := []) (q := x39 &&& ~~~x52) ha Try.sizeOf62 rfl rfl rfl h32 hi64 ⟨rfl, rfl⟩ (Nq.nil _) ?_; intro w68 fs69 h70 hc71 hs72
  obtain rfl := Subst.nil hs72
  have hE73 := Chg.same hE67 hc71
  refine wpList_nil (e_sq ?_)
  refine ⟨fun h => absurd h (by decide), ?_⟩
  refine u_done (by kernel_rfl) ?_; intro w74 hx75
  replace h70 := h70.ext hx75
  have hE76 := Chg.more hE73 hx75
  replace ha := ha.sub (σ' := []) trivial
  obtain rfl := Option.some.inj hF
  exact f_end0 ha rfl ⟨rfl, h70, hE76⟩
set_option maxHeartbeats 2000000 in
theorem W_impl_useEdge {W : World} {va0 : Value} {ba0 : Int} {a0 : (List (BitVec 32))} (ha0 : Ow Rp.u32 62 true W [] ba0 va0 a0) {a1 : Int} (ha1 : InI a1) {a2 : Int} (ha2 : InI a2) {r : (Bool × (List (BitVec 32)))} (hF : F_impl_useEdge a0 a1 a2 = some r) :
    Calls Try.prog 29 [va0, .int .i64 a1, .int .i64 a2].toArray W (Ret fun u w' => u = .bool r.1 ∧ Ow Rp.u32 62 true w' [] ba0 va0 r.2 ∧ Chg (bl ba0) W w') := by
  refine f_enter Try.func29 rfl Try.ntmps29 rfl ?_
  intro a ha
  replace ha : Fr 18 [(0, va0), (1, (.int .i64 a1)), (2, (.int .i64 a2))] a := ha
  have hE : Chg (bl ba0) W W := Chg.refl _ _
  unfold F_impl_useEdge at hF
  refine wp_seq ?_
  refine wp_region_lit ?_
  refine op_g ha rfl (g_assign rfl) ?_; clear ha a; intro a ha
  refine wpList_nil ?_
  replace ha := ha.sub (σ' := [(0, va0), (1, (.int .i64 a1)), (2, (.int .i64 a2))]) ⟨rfl, rfl, rfl, trivial⟩
  refine e_then ?_
  refine wp_seq ?_
  refine wp_seq ?_
  refine wp_region_lit ?_
  refine op_g ha rfl (g_move rfl) ?_; clear ha a; intro a ha
  refine op_g ha rfl (g_move rfl) ?_; clear ha a; intro a ha
  obtain ⟨x1, g2, gx3, hF⟩ := idx_some hF
  obtain ⟨p4, cs5, f6, hf7, hpb8, hat9, hr10, hi11⟩ := ha0.at g2 gx3
  obtain ⟨rfl, rfl⟩ := hr10
  refine op_g ha rfl (hi11.gives sl43 rfl rfl) ?_; clear ha a; intro a ha
  refine op_g ha rfl (g_load Try.isAgg62 rfl hat9.one) ?_; clear ha a; intro a ha
  refine op_g ha rfl (g_move rfl) ?_; clear ha a; intro a ha
  obtain ⟨x12, hc13, hF⟩ := cal_some hF
  refine o_call ha rfl rfl Try.call44 (W_impl_vset_has ha2 hc13) ?_; clear ha a; rintro v14 w15 ⟨rfl, hx16⟩ a ha
  replace ha0 := ha0.ext hx16
  have hE17 := Chg.more hE hx16
  refine op_g ha rfl (g_not rfl) ?_; clear ha a; intro a ha
  refine wpList_nil ?_
  replace ha := ha.sub (σ' := [(0, va0), (1, (.int .i64 a1)), (2, (.int .i64 a2)), (13, (.bool (!x12)))]) ⟨rfl, rfl, rfl, rfl, trivial⟩
  refine e_then ?_
  refine c_cond (¬ (x12 = true)) ha rfl (n_iff (Iff.rfl)) (fun hp18 => ?_) (fun hp18 => ?_)
  · replace hF := if_t hp18 hF
    refine wp_seq ?_
    refine wp_region_lit ?_
    refine op_g ha rfl (g_assign rfl) ?_; clear ha a; intro a ha
    refine wpList_nil ?_
    replace ha := ha.sub (σ' := [(6, (.bool false))]) ⟨rfl, trivial⟩
    refine e_then ?_
    refine wp_ret ?_
    refine e_then_ret ?_
    obtain rfl := Option.some.inj hF
    exact f_ret1 ha rfl rfl ⟨rfl, ha0, hE17⟩
  · replace hF := if_f hp18 hF
    refine wp_skip ?_
    refine e_then ?_
    refine wp_seq ?_
    refine wp_region_lit ?_
    refine op_g ha rfl (g_move rfl) ?_; clear ha a; intro a ha
    refine op_g ha rfl (g_move rfl) ?_; clear ha a; intro a ha
    refine op_g ha rfl (g_move rfl) ?_; clear ha a; intro a ha
    obtain ⟨x19, hc20, hF⟩ := cal_some hF
    refine o_call ha rfl rfl Try.call45 (W_impl_nets_part ha0 ha1 ha2 hc20) ?_; clear ha a; rintro v21 w22 ⟨rfl, h24, hx23⟩ a ha
    have hE25 := Chg.same hE17 hx23
    refine wpList_nil ?_
    replace ha := ha.sub (σ' := []) trivial
    refine e_then ?_
    refine wp_seq ?_
    refine wp_region_lit ?_
    refine op_g ha rfl (g_assign rfl) ?_; clear ha a; intro a ha
    refine wpList_nil ?_
    refine e_then ?_
    refine wp_ret ?_
    obtain rfl := Option.some.inj hF
    exact f_ret1 ha rfl rfl ⟨rfl, h24, hE25⟩
set_option maxHeartbeats 2000000 in
theorem W_slices_IndexFunc_impl_nets_impl_vset {W : World} {va0 : Value} {fa0 : List Nat} {a0 : (List (BitVec 32))} (ha0 : Ro Rp.u32 W fa0 va0 a0) {ga1 : FuncId} {ga1c : List Value} {a1 : (BitVec 32) → Option Bool} (hga1 : ∀ w', Ext W w' → ∀ {z0 : BitVec 32} {r : Bool}, a1 z0 = some r → Calls Try.prog ga1 (([.int .u32 (BitVec.toNat z0 : Int)] : List Value) ++ ga1c).toArray w' (Ret fun u w'' => u = .bool r ∧ Ext w' w'')) (hca1 : ∀ args w, (callFunc ga1 args).run Try.prog w = .ok (.enter ga1 args) w) {r : Int} (hF : F_slices_IndexFunc_impl_nets_impl_vset a0 a1 = some r) :
    Calls Try.prog 51 [va0, .func (.func ga1) #[] ga1c.toArray].toArray W (Ret fun u w' => (u = .int .i64 r ∧ InI r) ∧ Ext W w') := by
  refine f_enter Try.func51 rfl Try.ntmps51 rfl ?_
  intro a ha
  replace ha : Fr 19 [(0, va0), (1, (.func (.func ga1) #[] ga1c.toArray))] a := ha
  have hE : Chg [] W W := Chg.refl _ _
  unfold F_slices_IndexFunc_impl_nets_impl_vset at hF
  refine wp_seq ?_
  refine wp_region_lit ?_
  refine op_g ha rfl (g_assign rfl) ?_; clear ha a; intro a ha
  refine wpList_nil ?_
  replace ha := ha.sub (σ' := [(0, va0), (1, (.func (.func ga1) #[] ga1c.toArray))]) ⟨rfl, rfl, trivial⟩
  refine e_then ?_
  refine wp_seq ?_
  refine wp_seq ?_
  refine wp_region_lit ?_
  refine op_g ha rfl (g_move rfl) ?_; clear ha a; intro a ha
  refine op_g ha rfl (g_lenR sl43.und ha0 rfl) ?_; clear ha a; intro a ha
  refine op_g ha rfl (g_move rfl) ?_; clear ha a; intro a ha
  refine wpList_nil ?_
  replace ha := ha.sub (σ' := [(0, va0), (1, (.func (.func ga1) #[] ga1c.toArray)), (7, (.int .i64 (a0.length : Int))), (8, (.int .i64 0))]) ⟨rfl, rfl, rfl, rfl, trivial⟩
  refine e_then ?_
  obtain ⟨o56, ho57, hK58⟩ := bnd_some hF
  obtain ⟨n59, hn60⟩ := lp_some ho57; clear ho57
  refine c_loop (fun a w => Fr 19 [] a ∧ Chg [] W w ∧ o56 = .inl ()) (fun n a w => ∃ (i28 : Int), Fr 19 [(0, va0), (1, (.func (.func ga1) #[] ga1c.toArray)), (7, (.int .i64 (a0.length : Int))), (8, (.int .i64 i28))] a ∧ Chg [] W w ∧ InI i28 ∧ lpN (fun s => F_slices_IndexFunc_impl_nets_impl_vset_l1 a0 a1 s) n i28 = some o56) n59 ⟨0, ha.sub ⟨rfl, rfl, rfl, rfl, trivial⟩, hE, (show InI 0 from by decide), hn60⟩ ?_ ?_
  · rintro m64 a w27 ⟨i28, ha, hE30, hI29, hF⟩
    cases m64 with
    | zero => exact (lpN_zero hF).elim
    | succ m64 =>
      obtain ⟨z63, hF, hN62⟩ := lpN_succ hF
      have hF : F_slices_IndexFunc_impl_nets_impl_vset_l1 a0 a1 i28 = some z63 := hF; unfold F_slices_IndexFunc_impl_nets_impl_vset_l1 at hF
      refine wp_seq ?_
      refine wp_region_lit ?_
      refine op_g ha rfl (g_lss rfl rfl) ?_; clear ha a; intro a ha
      refine wpList_nil ?_
      replace ha := ha.sub (σ' := [(0, va0), (1, (.func (.func ga1) #[] ga1c.toArray)), (7, (.int .i64 (a0.length : Int))), (8, (.int .i64 i28)), (9, (.bool (decide (i28 < (a0.length : Int)))))]) ⟨rfl, rfl, rfl, rfl, rfl, trivial⟩
      refine e_then ?_
      refine wp_seq ?_
      refine c_cond (i28 < (a0.length : Int)) ha rfl (decide_eq_true_iff) (fun hp65 => ?_) (fun hp65 => ?_)
      · replace hF := if_t hp65 hF
        refine wp_skip ?_
        refine e_then ?_
        refine wp_seq ?_
        refine wp_block ?_
        refine wp_seq ?_
        refine wp_region_lit ?_
        refine op_g ha rfl (g_move rfl) ?_; clear ha a; intro a ha
        refine op_g ha rfl (g_assign rfl) ?_; clear ha a; intro a ha
        refine wpList_nil ?_
        replace ha := ha.sub (σ' := [(0, va0), (1, (.func (.func ga1) #[] ga1c.toArray)), (5, (.int .i64 i28)), (7, (.int .i64 (a0.length : Int))), (8, (.int .i64 i28))]) ⟨rfl, rfl, rfl, rfl, rfl, trivial⟩
        refine e_then ?_
        refine wp_seq ?_
        refine wp_region_lit ?_
        refine op_g ha rfl (g_move rfl) ?_; clear ha a; intro a ha
        refine op_g ha rfl (g_move rfl) ?_; clear ha a; intro a ha
        refine op_g ha rfl (g_move rfl) ?_; clear ha a; intro a ha
        obtain ⟨x66, g67, gx68, hF⟩ := idx_some hF
        obtain ⟨p69, cs70, f71, hf72, hpb73, hat74, hr75, hi76⟩ := ha0.at g67 gx68
        obtain ⟨rfl, rfl⟩ := hr75
        refine op_g ha rfl (hi76.gives sl43 rfl rfl) ?_; clear ha a; intro a ha
        refine op_g ha rfl (g_load0 hE30 Try.isAgg62 rfl hat74.one) ?_; clear ha a; intro a ha
        obtain ⟨x77, hc78, hF⟩ := cal_some hF
        refine o_callv ha rfl rfl rfl hca1 (hga1 _ hE30  hc78) ?_; clear ha a; rintro v79 w80 ⟨rfl, hx81⟩ a ha
        have hE82 := Ext.trans hE30 hx81
        refine wpList_nil ?_
        replace ha := ha.sub (σ' := [(0, va0), (1, (.func (.func ga1) #[] ga1c.toArray)), (5, (.int .i64 i28)), (7, (.int .i64 (a0.length : Int))), (8, (.int .i64 i28)), (16, (.bool x77))]) ⟨rfl, rfl, rfl, rfl, rfl, rfl, trivial⟩
        refine e_then ?_
        refine c_cond (x77 = true) ha rfl (Iff.rfl) (fun hp83 => ?_) (fun hp83 => ?_)
        · replace hF := if_t hp83 hF
          refine wp_seq ?_
          refine wp_region_lit ?_
          refine op_g ha rfl (g_move rfl) ?_; clear ha a; intro a ha
          refine op_g ha rfl (g_assign rfl) ?_; clear ha a; intro a ha
          refine wpList_nil ?_
          replace ha := ha.sub (σ' := [(4, (.int .i64 i28))]) ⟨rfl, trivial⟩
          refine e_then ?_
          refine wp_ret ?_
          refine e_blk_ret ?_
          refine e_then_ret ?_
          refine e_lq_ret ?_
          refine e_then_ret ?_
          obtain rfl := Option.some.inj hF
          have e84 := LK_inr hN62; subst e84
          have e85 := BK_inr hK58; subst e85
          exact f_ret1 ha rfl rfl ⟨⟨rfl, hI29⟩, hE82⟩
        · replace hF := if_f hp83 hF
          refine wp_skip ?_
          refine e_blk ?_
          refine e_then ?_
          refine wp_region_lit ?_
          obtain ⟨hI86, hF⟩ := ck_some hF
          refine op_g ha rfl (g_add rfl rfl hI86) ?_; clear ha a; intro a ha
          refine op_g ha rfl (g_move rfl) ?_; clear ha a; intro a ha
          refine wpList_nil ?_
          replace ha := ha.sub (σ' := [(0, va0), (1, (.func (.func ga1) #[] ga1c.toArray)), (7, (.int .i64 (a0.length : Int))), (8, (.int .i64 (i28 + 1)))]) ⟨rfl, rfl, rfl, rfl, trivial⟩
          refine e_lq ?_
          obtain rfl := Option.some.inj hF
          exact ⟨_, Nat.lt_succ_self _, i28 + 1, ha.sub ⟨rfl, rfl, rfl, rfl, trivial⟩, hE82, hI86, hN62⟩
      · replace hF := if_f hp65 hF
        refine wp_exit ?_
        refine e_then_exit ?_
        refine e_lq_eq ?_
        obtain rfl := Option.some.inj hF
        exact ⟨ha.sub trivial, hE30, (LK_inr hN62).symm⟩
  · rintro a w55 ⟨ha, hE61, rfl⟩
    have hF : F_slices_IndexFunc_impl_nets_impl_vset_k2 = some _ := hK58; clear hK58; unfold F_slices_IndexFunc_impl_nets_impl_vset_k2 at hF
    refine e_then ?_
    refine wp_seq ?_
    refine wp_region_lit ?_
    refine op_g ha rfl (g_assign rfl) ?_; clear ha a; intro a ha
    refine wpList_nil ?_
    refine e_then ?_
    refine wp_ret ?_
    obtain rfl := Option.some.inj hF
    exact f_ret1 ha rfl rfl ⟨⟨rfl, (show InI (-1) from by decide)⟩, hE61⟩
set_option maxHeartbeats 2000000 in
theorem W_slices_ContainsFunc_impl_nets_impl_vset {W : World} {va0 : Value} {fa0 : List Nat} {a0 : (List (BitVec 32))} (ha0 : Ro Rp.u32 W fa0 va0 a0) {ga1 : FuncId} {ga1c : List Value} {a1 : (BitVec 32) → Option Bool} (hga1 : ∀ w', Ext W w' → ∀ {z0 : BitVec 32} {r : Bool}, a1 z0 = some r → Calls Try.prog ga1 (([.int .u32 (BitVec.toNat z0 : Int)] : List Value) ++ ga1c).toArray w' (Ret fun u w'' => u = .bool r ∧ Ext w' w'')) (hca1 : ∀ args w, (callFunc ga1 args).run Try.prog w = .ok (.enter ga1 args) w) {r : Bool} (hF : F_slices_ContainsFunc_impl_nets_impl_vset a0 a1 = some r) :
    Calls Try.prog 46 [va0, .func (.func ga1) #[] ga1c.toArray].toArray W (Ret fun u w' => u = .bool r ∧ Ext W w') := by
  refine f_enter Try.func46 rfl Try.ntmps46 rfl ?_
  intro a ha
  replace ha : Fr 9 [(0, va0), (1, (.func (.func ga1) #[] ga1c.toArray))] a := ha
  have hE : Chg [] W W := Chg.refl _ _
  unfold F_slices_ContainsFunc_impl_nets_impl_vset at hF
  refine wp_seq ?_
  refine wp_region_lit ?_
  refine op_g ha rfl (g_assign rfl) ?_; clear ha a; intro a ha
  refine wpList_nil ?_
  replace ha := ha.sub (σ' := [(0, va0), (1, (.func (.func ga1) #[] ga1c.toArray))]) ⟨rfl, rfl, trivial⟩
  refine e_then ?_
  refine wp_seq ?_
  refine wp_region_lit ?_
  refine op_g ha rfl (g_move rfl) ?_; clear ha a; intro a ha
  refine op_g ha rfl (g_move rfl) ?_; clear ha a; intro a ha
  obtain ⟨x2, hc3, hF⟩ := cal_some hF
  refine o_call ha rfl rfl Try.call51 (W_slices_IndexFunc_impl_nets_impl_vset (ha0.ext hE) (fun w hx => hga1 w (Ext.trans hE hx)) hca1 hc3) ?_; clear ha a; rintro v4 w5 ⟨⟨rfl, hI7⟩, hx6⟩ a ha
  have hE8 := Ext.trans hE hx6
  refine op_g ha rfl (g_geq rfl rfl) ?_; clear ha a; intro a ha
  refine op_g ha rfl (g_assign rfl) ?_; clear ha a; intro a ha
  refine wpList_nil ?_
  replace ha := ha.sub (σ' := [(4, (.bool (decide (0 ≤ x2))))]) ⟨rfl, trivial⟩
  refine e_then ?_
  refine wp_ret ?_
  obtain rfl := Option.some.inj hF
  exact f_ret1 ha rfl rfl ⟨rfl, hE8⟩
set_option maxHeartbeats 2000000 in
theorem W_impl_edgesLeft_1 {W : World} {a0 : BitVec 32} {r : Bool} (hF : F_impl_edgesLeft_1 a0 = some r) :
    Calls Try.prog 47 [.int .u32 (BitVec.toNat a0 : Int)].toArray W (Ret fun u w' => u = .bool r ∧ Ext W w') := by
  refine f_enter Try.func47 rfl Try.ntmps47 rfl ?_
  intro a ha
  replace ha : Fr 5 [(0, (.int .u32 (BitVec.toNat a0 : Int)))] a := ha
  have hE : Chg [] W W := Chg.refl _ _
  unfold F_impl_edgesLeft_1 at hF
  refine wp_seq ?_
  refine wp_region_lit ?_
  refine op_g ha rfl (g_assign rfl) ?_; clear ha a; intro a ha
  refine wpList_nil ?_
  replace ha := ha.sub (σ' := [(0, (.int .u32 (BitVec.toNat a0 : Int)))]) ⟨rfl, trivial⟩
  refine e_then ?_
  refine wp_seq ?_
  refine wp_region_lit ?_
  refine op_g ha rfl (g_move rfl) ?_; clear ha a; intro a ha
  refine op_g ha rfl (g32_neq (m := a0) (n := (0#32)) rfl rfl) ?_; clear ha a; intro a ha
  refine op_g ha rfl (g_assign rfl) ?_; clear ha a; intro a ha
  refine wpList_nil ?_
  replace ha := ha.sub (σ' := [(2, (.bool (decide (a0 ≠ (0#32)))))]) ⟨rfl, trivial⟩
  refine e_then ?_
  refine wp_ret ?_
  obtain rfl := Option.some.inj hF
  exact f_ret1 ha rfl rfl ⟨rfl, hE⟩
set_option maxHeartbeats 2000000 in
theorem W_impl_edgesLeft {W : World} {va0 : Value} {fa0 : List Nat} {a0 : (List (BitVec 32))} (ha0 : Ro Rp.u32 W fa0 va0 a0) {r : Bool} (hF : F_impl_edgesLeft a0 = some r) :
    Calls Try.prog 30 [va0].toArray W (Ret fun u w' => u = .bool r ∧ Ext W w') := by
  refine f_enter Try.func30 rfl Try.ntmps30 rfl ?_
  intro a ha
  replace ha : Fr 5 [(0, va0)] a := ha
  have hE : Chg [] W W := Chg.refl _ _
  unfold F_impl_edgesLeft at hF
  refine wp_seq ?_
  refine wp_region_lit ?_
  refine op_g ha rfl (g_assign rfl) ?_; clear ha a; intro a ha
  refine wpList_nil ?_
  replace ha := ha.sub (σ' := [(0, va0)]) ⟨rfl, trivial⟩
  refine e_then ?_
  refine wp_seq ?_
  refine wp_region_lit ?_
  refine op_g ha rfl (g_move rfl) ?_; clear ha a; intro a ha
  obtain ⟨x3, hc4, hF⟩ := cal_some hF
  refine o_call ha rfl rfl Try.call46 (W_slices_ContainsFunc_impl_nets_impl_vset (ha0.ext hE) (by intro _ hy2 z1 r hr; exact W_impl_edgesLeft_1  hr) Try.call47 hc4) ?_; clear ha a; rintro v5 w6 ⟨rfl, hx7⟩ a ha
  have hE8 := Ext.trans hE hx7
  refine op_g ha rfl (g_assign rfl) ?_; clear ha a; intro a ha
  refine wpList_nil ?_
  replace ha := ha.sub (σ' := [(2, (.bool x3))]) ⟨rfl, trivial⟩
  refine e_then ?_
  refine wp_ret ?_
  obtain rfl := Option.some.inj hF
  exact f_ret1 ha rfl rfl ⟨rfl, hE8⟩
set_option maxHeartbeats 2000000 in
theorem W_impl_TrailOk {W : World} {va0_0 : Value} {fa0_0 : List Nat} {a0_0 : (List (List Int))} (ha0_0 : Ro (Rp.sl 2 Rp.int) W fa0_0 va0_0 a0_0) {va1 : Value} {fa1 : List Nat} {a1 : (List Int)} (ha1 : Ro Rp.int W fa1 va1 a1) {r : Bool} (hF : F_impl_TrailOk a0_0 a1 = some r) :
    Calls Try.prog 12 [.agg #[va0_0], va1].toArray W (Ret fun u w' => u = .bool r ∧ Ext W w') := by
  refine f_enter Try.func12 rfl Try.ntmps12 rfl ?_
  intro a ha
  replace ha : Fr 48 [(0, (.agg #[va0_0])), (1, va1)] a := ha
  have hE : Chg [] W W := Chg.refl _ _
  unfold F_impl_TrailOk at hF
  refine wp_seq ?_
  refine wp_region_lit ?_
  refine o_box ha rfl rfl rfl ?_; clear ha a; intro b1 w2 hB3 hx4 hlo5 a ha
  have q6 := Zn.one hlo5
  have q7 := Zn.upD q6 hE
  have hE8 := Ext.trans hE hx4
  refine op_g ha rfl (g_assign rfl) ?_; clear ha a; intro a ha
  refine wpList_nil ?_
  replace ha := ha.sub (σ' := [(1, va1), (2, (.pointer (some ⟨b1, 0, none⟩)))]) ⟨rfl, rfl, trivial⟩
  refine e_then ?_
  refine wp_seq ?_
  refine wp_seq ?_
  refine wp_region_lit ?_
  refine op_g ha rfl (g_loadA (cs := [va0_0]) Try.isAgg27 Try.sizeOf27 rfl (by simp) hB3.all) ?_; clear ha a; intro a ha
  obtain ⟨x27, hc28, hF⟩ := cal_some hF
  refine o_call ha rfl rfl Try.call18 (W_impl_GraphOk (ha0_0.ext hE8) hc28) ?_; clear ha a; rintro v29 w30 ⟨rfl, hx31⟩ a ha
  replace hB3 := hB3.ext hx31
  have hE32 := Ext.trans hE8 hx31
  refine op_g ha rfl (g_not rfl) ?_; clear ha a; intro a ha
  refine op_g ha rfl (g_move rfl) ?_; clear ha a; intro a ha
  by_cases hp33 : ¬ (x27 = true)
  · replace hF := if_t hp33 hF
    rw [show (!x27) = true from (n_iff (Iff.rfl)).2 hp33] at ha
    refine op_unwant ha rfl (yields ha rfl rfl) rfl ?_; clear ha a; intro a ha
    refine op_unwant ha rfl (yields ha rfl rfl) rfl ?_; clear ha a; intro a ha
    refine op_unwant ha rfl (yields ha rfl rfl) rfl ?_; clear ha a; intro a ha
    refine op_g ha rfl (g_pick rfl rfl) ?_; clear ha a; intro a ha
    refine op_g ha rfl (g_move rfl) ?_; clear ha a; intro a ha
    refine op_unwant ha rfl (yields ha rfl rfl) rfl ?_; clear ha a; intro a ha
    refine op_unwant ha rfl (yields ha rfl rfl) rfl ?_; clear ha a; intro a ha
    refine op_unwant ha rfl (yields ha rfl rfl) rfl ?_; clear ha a; intro a ha
    refine op_g ha rfl (g_pick rfl rfl) ?_; clear ha a; intro a ha
    refine op_g ha rfl (g_move rfl) ?_; clear ha a; intro a ha
    refine op_unwant ha rfl (yields ha rfl rfl) rfl ?_; clear ha a; intro a ha
    refine op_unwant ha rfl (yields ha rfl rfl) rfl ?_; clear ha a; intro a ha
    refine op_unwant ha rfl (yields ha rfl rfl) rfl ?_; clear ha a; intro a ha
    refine op_g ha rfl (g_pick rfl rfl) ?_; clear ha a; intro a ha
    refine wpList_nil ?_
    replace ha := ha.sub (σ' := [(1, va1), (2, (.pointer (some ⟨b1, 0, none⟩))), (24, (.bool true))]) ⟨rfl, rfl, rfl, trivial⟩
    refine e_then ?_
    refine c_true ha rfl ?_
    refine wp_seq ?_
    refine wp_region_lit ?_
    refine op_g ha rfl (g_assign rfl) ?_; clear ha a; intro a ha
    refine wpList_nil ?_
    replace ha := ha.sub (σ' := [(4, (.bool false))]) ⟨rfl, trivial⟩
    refine e_then ?_
    refine wp_ret ?_
    refine e_then_ret ?_
    obtain rfl := Option.some.inj hF
    exact f_ret1 ha rfl rfl ⟨rfl, hE32⟩
  · replace hF := if_f hp33 hF
    rw [show (!x27) = false from b_false (n_iff (Iff.rfl)) hp33] at ha
    refine op_want (yields ha rfl rfl) ?_
    refine op_g ha rfl (g_move rfl) ?_; clear ha a; intro a ha
    refine op_want (yields ha rfl rfl) ?_
    refine op_g ha rfl (g_lenR sl31.und ha1 rfl) ?_; clear ha a; intro a ha
    refine op_want (yields ha rfl rfl) ?_
    refine op_g ha rfl (g_lss rfl rfl) ?_; clear ha a; intro a ha
    refine op_g ha rfl (g_pick rfl rfl) ?_; clear ha a; intro a ha
    refine op_g ha rfl (g_move rfl) ?_; clear ha a; intro a ha
    by_cases hp34 : (a1.length : Int) < 1
    · replace hF := if_t hp34 hF
      rw [show (decide ((a1.length : Int) < 1)) = true from (decide_eq_true_iff).2 hp34] at ha
      refine op_unwant ha rfl (yields ha rfl rfl) rfl ?_; clear ha a; intro a ha
      refine op_unwant ha rfl (yields ha rfl rfl) rfl ?_; clear ha a; intro a ha
      refine op_unwant ha rfl (yields ha rfl rfl) rfl ?_; clear ha a; intro a ha
      refine op_g ha rfl (g_pick rfl rfl) ?_; clear ha a; intro a ha
      refine op_g ha rfl (g_move rfl) ?_; clear ha a; intro a ha
      refine op_unwant ha rfl (yields ha rfl rfl) rfl ?_; clear ha a; intro a ha
      refine op_unwant ha rfl (yields ha rfl rfl) rfl ?_; clear ha a; intro a ha
      refine op_unwant ha rfl (yields ha rfl rfl) rfl ?_; clear ha a; intro a ha
      refine op_g ha rfl (g_pick rfl rfl) ?_; clear ha a; intro a ha
      refine wpList_nil ?_
      replace ha := ha.sub (σ' := [(1, va1), (2, (.pointer (some ⟨b1, 0, none⟩))), (24, (.bool true))]) ⟨rfl, rfl, rfl, trivial⟩
      refine e_then ?_
      refine c_true ha rfl ?_
      refine wp_seq ?_
      refine wp_region_lit ?_
      refine op_g ha rfl (g_assign rfl) ?_; clear ha a; intro a ha
      refine wpList_nil ?_
      replace ha := ha.sub (σ' := [(4, (.bool false))]) ⟨rfl, trivial⟩
      refine e_then ?_
      refine wp_ret ?_
      refine e_then_ret ?_
      obtain rfl := Option.some.inj hF
      exact f_ret1 ha rfl rfl ⟨rfl, hE32⟩
    · replace hF := if_f hp34 hF
      rw [show (decide ((a1.length : Int) < 1)) = false from b_false (decide_eq_true_iff) hp34] at ha
      refine op_want (yields ha rfl rfl) ?_
      refine op_g ha rfl (g_move rfl) ?_; clear ha a; intro a ha
      refine op_want (yields ha rfl rfl) ?_
      refine op_g ha rfl (g_lenR sl31.und ha1 rfl) ?_; clear ha a; intro a ha
      refine op_want (yields ha rfl rfl) ?_
      refine op_g ha rfl (g_gtr rfl rfl) ?_; clear ha a; intro a ha
      refine op_g ha rfl (g_pick rfl rfl) ?_; clear ha a; intro a ha
      refine op_g ha rfl (g_move rfl) ?_; clear ha a; intro a ha
      by_cases hp35 : 121 < (a1.length : Int)
      · replace hF := if_t hp35 hF
        rw [show (decide (121 < (a1.length : Int))) = true from (decide_eq_true_iff).2 hp35] at ha
        refine op_unwant ha rfl (yields ha rfl rfl) rfl ?_; clear ha a; intro a ha
        refine op_unwant ha rfl (yields ha rfl rfl) rfl ?_; clear ha a; intro a ha
        refine op_unwant ha rfl (yields ha rfl rfl) rfl ?_; clear ha a; intro a ha
        refine op_g ha rfl (g_pick rfl rfl) ?_; clear ha a; intro a ha
        refine wpList_nil ?_
        replace ha := ha.sub (σ' := [(1, va1), (2, (.pointer (some ⟨b1, 0, none⟩))), (24, (.bool true))]) ⟨rfl, rfl, rfl, trivial⟩
        refine e_then ?_
        refine c_true ha rfl ?_
        refine wp_seq ?_
        refine wp_region_lit ?_
        refine op_g ha rfl (g_assign rfl) ?_; clear ha a; intro a ha
        refine wpList_nil ?_
        replace ha := ha.sub (σ' := [(4, (.bool false))]) ⟨rfl, trivial⟩
        refine e_then ?_
        refine wp_ret ?_
        refine e_then_ret ?_
        obtain rfl := Option.some.inj hF
        exact f_ret1 ha rfl rfl ⟨rfl, hE32⟩
      · replace hF := if_f hp35 hF
        rw [show (decide (121 < (a1.length : Int))) = false from b_false (decide_eq_true_iff) hp35] at ha
        refine op_want (yields ha rfl rfl) ?_
        refine op_g ha rfl (g_move rfl) ?_; clear ha a; intro a ha
        refine op_want (yields ha rfl rfl) ?_
        refine op_g ha rfl (g_func rfl rfl) ?_; clear ha a; intro a ha
        refine op_want (yields ha rfl rfl) ?_
        obtain ⟨x38, hc39, hF⟩ := cal_some hF
        refine o_call ha rfl rfl Try.call26 (W_slices_ContainsFunc_int64 (ha1.ext hE32) (by intro _ hy37 z36 hz36 r hr; exact W_impl_TrailOk_1 hz36 (ha0_0.ext (Ext.trans hE32 hy37)) (hB3.ext hy37) hr) Try.call27 hc39) ?_; clear ha a; rintro v40 w41 ⟨rfl, hx42⟩ a ha
        replace hB3 := hB3.ext hx42
        have hE43 := Ext.trans hE32 hx42
        refine op_g ha rfl (g_pick rfl rfl) ?_; clear ha a; intro a ha
        refine wpList_nil ?_
        replace ha := ha.sub (σ' := [(1, va1), (2, (.pointer (some ⟨b1, 0, none⟩))), (24, (.bool x38))]) ⟨rfl, rfl, rfl, trivial⟩
        refine e_then ?_
        refine c_cond (x38 = true) ha rfl (Iff.rfl) (fun hp44 => ?_) (fun hp44 => ?_)
        · replace hF := if_t hp44 hF
          refine wp_seq ?_
          refine wp_region_lit ?_
          refine op_g ha rfl (g_assign rfl) ?_; clear ha a; intro a ha
          refine wpList_nil ?_
          replace ha := ha.sub (σ' := [(4, (.bool false))]) ⟨rfl, trivial⟩
          refine e_then ?_
          refine wp_ret ?_
          refine e_then_ret ?_
          obtain rfl := Option.some.inj hF
          exact f_ret1 ha rfl rfl ⟨rfl, hE43⟩
        · replace hF := if_f hp44 hF
          refine wp_skip ?_
          refine e_then ?_
          refine wp_seq ?_
          refine wp_region_lit ?_
          refine op_g ha rfl (g_loadA (cs := [va0_0]) Try.isAgg27 Try.sizeOf27 rfl (by simp) hB3.all) ?_; clear ha a; intro a ha
          obtain ⟨x45, hc46, hF⟩ := cal_some hF
          refine o_call ha rfl rfl Try.call20 (W_impl_netsOf (ha0_0.ext hE43) hc46) ?_; clear ha a; rintro v47 w48 ⟨b50, h51, z52, hx49⟩ a ha
          have q54 := Nq.new hB3.fpb z52
          have q55 := Nq.madeO z52 hB3.bi
          replace hB3 := hB3.ext hx49
          have hE56 := Ext.trans hE43 hx49
          have q57 := Zn.upD z52 hE43
          refine op_g ha rfl (g_assign rfl) ?_; clear ha a; intro a ha
          refine wpList_nil ?_
          replace ha := ha.sub (σ' := [(1, va1), (5, v47)]) ⟨rfl, rfl, trivial⟩
          refine e_then ?_
          refine wp_seq ?_
          refine wp_seq ?_
          refine wp_region_lit ?_
          refine op_g ha rfl (g_assign rfl) ?_; clear ha a; intro a ha
          refine wpList_nil ?_
          refine e_then ?_
          obtain ⟨o190, ho191, hK192⟩ := bnd_some hF
          obtain ⟨n193, hn194⟩ := lp_some ho191; clear ho191
          refine c_loop (fun a w => ∃ (l187 : (List (BitVec 32))) (v188 : Value) (b189 : Int), Fr 48 [(5, v188)] a ∧ Chg [] W w ∧ Ow Rp.u32 62 true w [] b189 v188 l187 ∧ Zn W b189 ∧ o190 = .inl l187) (fun n a w => ∃ (l122 : (List (BitVec 32))) (i125 : Int) (v123 : Value) (b124 : Int), Fr 48 [(1, va1), (5, v123), (6, (.int .i64 i125))] a ∧ Chg [] W w ∧ InI i125 ∧ Ow Rp.u32 62 true w [] b124 v123 l122 ∧ Zn W b124 ∧ lpN (fun s => F_impl_TrailOk_l1 a1 s.1 s.2) n (l122, i125) = some o190) n193 ⟨x45, 1, v47, b50, ha.sub ⟨rfl, rfl, rfl, trivial⟩, hE56, (show InI 1 from by decide), h51, q57, hn194⟩ ?_ ?_
          · rintro m198 a w118 ⟨l122, i125, v123, b124, ha, hE127, hI126, h120, z121, hF⟩
            cases m198 with
            | zero => exact (lpN_zero hF).elim
            | succ m198 =>
              obtain ⟨z197, hF, hN196⟩ := lpN_succ hF
              have hF : F_impl_TrailOk_l1 a1 l122 i125 = some z197 := hF; unfold F_impl_TrailOk_l1 at hF
              refine wp_seq ?_
              refine wp_seq ?_
              refine wp_region_lit ?_
              refine op_g ha rfl (g_move rfl) ?_; clear ha a; intro a ha
              refine op_g ha rfl (g_move rfl) ?_; clear ha a; intro a ha
              refine op_g ha rfl (g_lenR sl31.und ha1 rfl) ?_; clear ha a; intro a ha
              refine op_g ha rfl (g_lss rfl rfl) ?_; clear ha a; intro a ha
              refine wpList_nil ?_
              replace ha := ha.sub (σ' := [(1, va1), (5, v123), (6, (.int .i64 i125)), (30, (.bool (decide (i125 < (a1.length : Int)))))]) ⟨rfl, rfl, rfl, rfl, trivial⟩
              refine e_then ?_
              refine c_cond (i125 < (a1.length : Int)) ha rfl (decide_eq_true_iff) (fun hp199 => ?_) (fun hp199 => ?_)
              · replace hF := if_t hp199 hF
                refine wp_skip ?_
                refine e_then ?_
                refine wp_seq ?_
                refine wp_block ?_
                refine wp_seq ?_
                refine d_region 10 hmix ?_
                refine u_g 0 rfl (by kernel_rfl) (want0 _) ha rfl (g_move rfl) ?_; clear ha a; intro a ha
                refine u_g 1 rfl (by kernel_rfl) (want0 _) ha rfl (g_move rfl) ?_; clear ha a; intro a ha
                refine u_g 2 rfl (by kernel_rfl) (want0 _) ha rfl (g_move rfl) ?_; clear ha a; intro a ha
                obtain ⟨hI200, hF⟩ := ck_some hF
                refine u_g 3 rfl (by kernel_rfl) (want0 _) ha rfl (g_sub rfl rfl hI200) ?_; clear ha a; intro a ha
                obtain ⟨x202, g203, gx204, hF⟩ := idx_some hF
                obtain ⟨p205, cs206, f207, hf208, hpb209, hat210, hr211, hi212⟩ := ha1.at g203 gx204
                obtain ⟨rfl, hI213, rfl⟩ := hr211
                refine u_g 4 rfl (by kernel_rfl) (want0 _) ha rfl (hi212.gives sl31 rfl rfl) ?_; clear ha a; intro a ha
                refine u_g 5 rfl (by kernel_rfl) (want0 _) ha rfl (g_load0 hE127 Try.isAgg2 rfl hat210.one) ?_; clear ha a; intro a ha
                refine u_g 6 rfl (by kernel_rfl) (want0 _) ha rfl (g_move rfl) ?_; clear ha a; intro a ha
                refine u_g 7 rfl (by kernel_rfl) (want0 _) ha rfl (g_move rfl) ?_; clear ha a; intro a ha
                obtain ⟨x214, g215, gx216, hF⟩ := idx_some hF
                obtain ⟨p217, cs218, f219, hf220, hpb221, hat222, hr223, hi224⟩ := ha1.at g215 gx216
                obtain ⟨rfl, hI225, rfl⟩ := hr223
                refine u_g 8 rfl (by kernel_rfl) (want0 _) ha rfl (hi224.gives sl31 rfl rfl) ?_; clear ha a; intro a ha
                refine u_g 9 rfl (by kernel_rfl) (want0 _) ha rfl (g_load0 hE127 Try.isAgg2 rfl hat222.one) ?_; clear ha a; intro a ha
                refine u_only 10 rfl (by kernel_rfl) ?_; intro w226 hx227
                replace h120 := h120.ext hx227
                have hE228 := Ext.trans hE127 hx227
                obtain ⟨x229, hc230, hF⟩ := cal_some hF
                refine o_call ha rfl rfl Try.call29 (W_impl_useEdge h120 hI213 hI225 hc230) ?_; clear ha a; rintro v231 w232 ⟨rfl, h234, hx233⟩ a ha
                have hE235 := Ext.then hE228 hx233 (Zn.bl z121)
                refine wpList_nil (e_sq ?_)
                refine ⟨fun h => absurd h (by decide), ?_⟩
                refine u_only 11 rfl (by kernel_rfl) ?_; intro w236 hx237
                replace h234 := h234.ext hx237
                have hE238 := Ext.trans hE235 hx237
                refine op_g ha rfl (g_not rfl) ?_; clear ha a; intro a ha
                refine wpList_nil (e_sq ?_)
                refine ⟨fun h => absurd h (by decide), ?_⟩
                refine u_done (by kernel_rfl) ?_; intro w239 hx240
                replace h234 := h234.ext hx240
                have hE241 := Ext.trans hE238 hx240
                replace ha := ha.sub (σ' := [(1, va1), (5, v123), (6, (.int .i64 i125)), (44, (.bool (!x229.1)))]) ⟨rfl, rfl, rfl, rfl, trivial⟩
                refine e_then ?_
                refine c_cond (¬ (x229.1 = true)) ha rfl (n_iff (Iff.rfl)) (fun hp242 => ?_) (fun hp242 => ?_)
                · replace hF := if_t hp242 hF
                  refine wp_seq ?_
                  refine wp_region_lit ?_
                  refine op_g ha rfl (g_assign rfl) ?_; clear ha a; intro a ha
                  refine wpList_nil ?_
                  replace ha := ha.sub (σ' := [(4, (.bool false))]) ⟨rfl, trivial⟩
                  refine e_then ?_
                  refine wp_ret ?_
                  refine e_blk_ret ?_
                  refine e_then_ret ?_
                  refine e_lq_ret ?_
                  refine e_then_ret ?_
                  obtain rfl := Option.some.inj hF
                  have e243 := LK_inr hN196; subst e243
                  have e244 := BK_inr hK192; subst e244
                  exact f_ret1 ha rfl rfl ⟨rfl, hE241⟩
                · replace hF := if_f hp242 hF
                  refine wp_skip ?_
                  refine e_blk ?_
                  refine e_then ?_
                  refine wp_region_lit ?_
                  refine op_g ha rfl (g_move rfl) ?_; clear ha a; intro a ha
                  obtain ⟨hI245, hF⟩ := ck_some hF
                  refine op_g ha rfl (g_add rfl rfl hI245) ?_; clear ha a; intro a ha
                  refine op_g ha rfl (g_assign rfl) ?_; clear ha a; intro a ha
                  refine wpList_nil ?_
                  replace ha := ha.sub (σ' := [(1, va1), (5, v123), (6, (.int .i64 (i125 + 1)))]) ⟨rfl, rfl, rfl, trivial⟩
                  refine e_lq ?_
                  obtain rfl := Option.some.inj hF
                  exact ⟨_, Nat.lt_succ_self _, x229.2, i125 + 1, v123, b124, ha.sub ⟨rfl, rfl, rfl, trivial⟩, hE241, hI245, h234, z121, hN196⟩
              · replace hF := if_f hp199 hF
                refine wp_exit ?_
                refine e_then_exit ?_
                refine e_lq_eq ?_
                obtain rfl := Option.some.inj hF
                exact ⟨l122, v123, b124, ha.sub ⟨rfl, trivial⟩, hE127, h120, z121, (LK_inr hN196).symm⟩
          · rintro a w183 ⟨l187, v188, b189, ha, hE195, h185, z186, rfl⟩
            have hF : F_impl_TrailOk_k2 l187 = some _ := hK192; clear hK192; unfold F_impl_TrailOk_k2 at hF
            refine e_then ?_
            refine wp_seq ?_
            refine wp_region_lit ?_
            refine op_g ha rfl (g_move rfl) ?_; clear ha a; intro a ha
            obtain ⟨fp247, hro248, -⟩ := h185.weak.ro
            obtain ⟨x249, hc250, hF⟩ := cal_some hF
            refine o_call ha rfl rfl Try.call30 (W_impl_edgesLeft hro248 hc250) ?_; clear ha a; rintro v251 w252 ⟨rfl, hx253⟩ a ha
            replace h185 := h185.ext hx253
            have hE254 := Ext.trans hE195 hx253
            refine op_g ha rfl (g_not rfl) ?_; clear ha a; intro a ha
            refine op_g ha rfl (g_assign rfl) ?_; clear ha a; intro a ha
            refine wpList_nil ?_
            replace ha := ha.sub (σ' := [(4, (.bool (!x249)))]) ⟨rfl, trivial⟩
            refine e_then ?_
            refine wp_ret ?_
            obtain rfl := Option.some.inj hF
            exact f_ret1 ha rfl rfl ⟨rfl, hE254⟩
set_option maxHeartbeats 2000000 in
theorem W_laws_eqInt64S {W : World} {va0 : Value} {fa0 : List Nat} {a0 : (List Int)} (ha0 : Ro Rp.int W fa0 va0 a0) {va1 : Value} {fa1 : List Nat} {a1 : (List Int)} (ha1 : Ro Rp.int W fa1 va1 a1) {r : Bool} (hF : F_laws_eqInt64S a0 a1 = some r) :
    Calls Try.prog 13 [va0, va1].toArray W (Ret fun u w' => u = .bool r ∧ Ext W w') := by
  refine f_enter Try.func13 rfl Try.ntmps13 rfl ?_
  intro a ha
  replace ha : Fr 26 [(0, va0), (1, va1)] a := ha
  have hE : Chg [] W W := Chg.refl _ _
  unfold F_laws_eqInt64S at hF
  refine wp_seq ?_
  refine wp_region_lit ?_
  refine op_g ha rfl (g_assign rfl) ?_; clear ha a; intro a ha
  refine wpList_nil ?_
  replace ha := ha.sub (σ' := [(0, va0), (1, va1)]) ⟨rfl, rfl, trivial⟩
  refine e_then ?_
  refine wp_seq ?_
  refine wp_seq ?_
  refine wp_region_lit ?_
  refine op_g ha rfl (g_move rfl) ?_; clear ha a; intro a ha
  refine op_g ha rfl (g_lenR sl31.und ha0 rfl) ?_; clear ha a; intro a ha
  refine op_g ha rfl (g_move rfl) ?_; clear ha a; intro a ha
  refine op_g ha rfl (g_lenR sl31.und ha1 rfl) ?_; clear ha a; intro a ha
  refine op_g ha rfl (g_neq rfl rfl) ?_; clear ha a; intro a ha
  refine wpList_nil ?_
  replace ha := ha.sub (σ' := [(0, va0), (1, va1), (10, (.bool (decide ((a0.length : Int) ≠ (a1.length : Int)))))]) ⟨rfl, rfl, rfl, trivial⟩
  refine e_then ?_
  refine c_cond ((a0.length : Int) ≠ (a1.length : Int)) ha rfl (decide_eq_true_iff) (fun hp1 => ?_) (fun hp1 => ?_)
  · replace hF := if_t hp1 hF
    refine wp_seq ?_
    refine wp_region_lit ?_
    refine op_g ha rfl (g_assign rfl) ?_; clear ha a; intro a ha
    refine wpList_nil ?_
    replace ha := ha.sub (σ' := [(4, (.bool false))]) ⟨rfl, trivial⟩
    refine e_then ?_
    refine wp_ret ?_
    refine e_then_ret ?_
    obtain rfl := Option.some.inj hF
    exact f_ret1 ha rfl rfl ⟨rfl, hE⟩
  · replace hF := if_f hp1 hF
    refine wp_skip ?_
    refine e_then ?_
    refine wp_seq ?_
    refine wp_seq ?_
    refine wp_region_lit ?_
    refine op_g ha rfl (g_assign rfl) ?_; clear ha a; intro a ha
    refine wpList_nil ?_
    replace ha := ha.sub (σ' := [(0, va0), (1, va1), (5, (.int .i64 0))]) ⟨rfl, rfl, rfl, trivial⟩
    refine e_then ?_
    obtain ⟨o77, ho78, hK79⟩ := bnd_some hF
    obtain ⟨n80, hn81⟩ := lp_some ho78; clear ho78
    refine c_loop (fun a w => Fr 26 [] a ∧ Chg [] W w ∧ o77 = .inl ()) (fun n a w => ∃ (i39 : Int), Fr 26 [(0, va0), (1, va1), (5, (.int .i64 i39))] a ∧ Chg [] W w ∧ InI i39 ∧ lpN (fun s => F_laws_eqInt64S_l1 a0 a1 s) n i39 = some o77) n80 ⟨0, ha.sub ⟨rfl, rfl, rfl, trivial⟩, hE, (show InI 0 from by decide), hn81⟩ ?_ ?_
    · rintro m85 a w38 ⟨i39, ha, hE41, hI40, hF⟩
      cases m85 with
      | zero => exact (lpN_zero hF).elim
      | succ m85 =>
        obtain ⟨z84, hF, hN83⟩ := lpN_succ hF
        have hF : F_laws_eqInt64S_l1 a0 a1 i39 = some z84 := hF; unfold F_laws_eqInt64S_l1 at hF
        refine wp_seq ?_
        refine wp_seq ?_
        refine wp_region_lit ?_
        refine op_g ha rfl (g_move rfl) ?_; clear ha a; intro a ha
        refine op_g ha rfl (g_move rfl) ?_; clear ha a; intro a ha
        refine op_g ha rfl (g_lenR sl31.und ha0 rfl) ?_; clear ha a; intro a ha
        refine op_g ha rfl (g_lss rfl rfl) ?_; clear ha a; intro a ha
        refine wpList_nil ?_
        replace ha := ha.sub (σ' := [(0, va0), (1, va1), (5, (.int .i64 i39)), (14, (.bool (decide (i39 < (a0.length : Int)))))]) ⟨rfl, rfl, rfl, rfl, trivial⟩
        refine e_then ?_
        refine c_cond (i39 < (a0.length : Int)) ha rfl (decide_eq_true_iff) (fun hp86 => ?_) (fun hp86 => ?_)
        · replace hF := if_t hp86 hF
          refine wp_skip ?_
          refine e_then ?_
          refine wp_seq ?_
          refine wp_block ?_
          refine wp_seq ?_
          refine d_quiet hmix (by kernel_rfl) ?_
          refine q_g ha rfl (g_move rfl) ?_; clear ha a; intro a ha
          refine q_g ha rfl (g_move rfl) ?_; clear ha a; intro a ha
          obtain ⟨x87, g88, gx89, hF⟩ := idx_some hF
          obtain ⟨p90, cs91, f92, hf93, hpb94, hat95, hr96, hi97⟩ := ha0.at g88 gx89
          obtain ⟨rfl, hI98, rfl⟩ := hr96
          refine q_g ha rfl (hi97.gives sl31 rfl rfl) ?_; clear ha a; intro a ha
          refine q_g ha rfl (g_load0 hE41 Try.isAgg2 rfl hat95.one) ?_; clear ha a; intro a ha
          refine q_g ha rfl (g_move rfl) ?_; clear ha a; intro a ha
          refine q_g ha rfl (g_move rfl) ?_; clear ha a; intro a ha
          obtain ⟨x99, g100, gx101, hF⟩ := idx_some hF
          obtain ⟨p102, cs103, f104, hf105, hpb106, hat107, hr108, hi109⟩ := ha1.at g100 gx101
          obtain ⟨rfl, hI110, rfl⟩ := hr108
          refine q_g ha rfl (hi109.gives sl31 rfl rfl) ?_; clear ha a; intro a ha
          refine q_g ha rfl (g_load0 hE41 Try.isAgg2 rfl hat107.one) ?_; clear ha a; intro a ha
          refine q_g ha rfl (g_neq rfl rfl) ?_; clear ha a; intro a ha
          refine q_nil ?_; intro w111 hx112
          have hE113 := Ext.trans hE41 hx112
          replace ha := ha.sub (σ' := [(0, va0), (1, va1), (5, (.int .i64 i39)), (25, (.bool (decide (x87 ≠ x99))))]) ⟨rfl, rfl, rfl, rfl, trivial⟩
          refine e_then ?_
          refine c_cond (x87 ≠ x99) ha rfl (decide_eq_true_iff) (fun hp114 => ?_) (fun hp114 => ?_)
          · replace hF := if_t hp114 hF
            refine wp_seq ?_
            refine wp_region_lit ?_
            refine op_g ha rfl (g_assign rfl) ?_; clear ha a; intro a ha
            refine wpList_nil ?_
            replace ha := ha.sub (σ' := [(4, (.bool false))]) ⟨rfl, trivial⟩
            refine e_then ?_
            refine wp_ret ?_
            refine e_blk_ret ?_
            refine e_then_ret ?_
            refine e_lq_ret ?_
            refine e_then_ret ?_
            obtain rfl := Option.some.inj hF
            have e115 := LK_inr hN83; subst e115
            have e116 := BK_inr hK79; subst e116
            exact f_ret1 ha rfl rfl ⟨rfl, hE113⟩
          · replace hF := if_f hp114 hF
            refine wp_skip ?_
            refine e_blk ?_
            refine e_then ?_
            refine wp_region_lit ?_
            refine op_g ha rfl (g_move rfl) ?_; clear ha a; intro a ha
            obtain ⟨hI117, hF⟩ := ck_some hF
            refine op_g ha rfl (g_add rfl rfl hI117) ?_; clear ha a; intro a ha
            refine op_g ha rfl (g_assign rfl) ?_; clear ha a; intro a ha
            refine wpList_nil ?_
            replace ha := ha.sub (σ' := [(0, va0), (1, va1), (5, (.int .i64 (i39 + 1)))]) ⟨rfl, rfl, rfl, trivial⟩
            refine e_lq ?_
            obtain rfl := Option.some.inj hF
            exact ⟨_, Nat.lt_succ_self _, i39 + 1, ha.sub ⟨rfl, rfl, rfl, trivial⟩, hE113, hI117, hN83⟩
        · replace hF := if_f hp86 hF
          refine wp_exit ?_
          refine e_then_exit ?_
          refine e_lq_eq ?_
          obtain rfl := Option.some.inj hF
          exact ⟨ha.sub trivial, hE41, (LK_inr hN83).symm⟩
    · rintro a w76 ⟨ha, hE82, rfl⟩
      have hF : F_laws_eqInt64S_k2 = some _ := hK79; clear hK79; unfold F_laws_eqInt64S_k2 at hF
      refine e_then ?_
      refine wp_seq ?_
      refine wp_region_lit ?_
      refine op_g ha rfl (g_assign rfl) ?_; clear ha a; intro a ha
      refine wpList_nil ?_
      refine e_then ?_
      refine wp_ret ?_
      obtain rfl := Option.some.inj hF
      exact f_ret1 ha rfl rfl ⟨rfl, hE82⟩
set_option maxHeartbeats 2000000 in
theorem W_laws_eqInt64SS {W : World} {va0 : Value} {fa0 : List Nat} {a0 : (List (List Int))} (ha0 : Ro (Rp.sl 2 Rp.int) W fa0 va0 a0) {va1 : Value} {fa1 : List Nat} {a1 : (List (List Int))} (ha1 : Ro (Rp.sl 2 Rp.int) W fa1 va1 a1) {r : Bool} (hF : F_laws_eqInt64SS a0 a1 = some r) :
    Calls Try.prog 21 [va0, va1].toArray W (Ret fun u w' => u = .bool r ∧ Ext W w') := by
  refine f_enter Try.func21 rfl Try.ntmps21 rfl ?_
  intro a ha
  replace ha : Fr 27 [(0, va0), (1, va1)] a := ha
  have hE : Chg [] W W := Chg.refl _ _
  unfold F_laws_eqInt64SS at hF
  refine wp_seq ?_
  refine wp_region_lit ?_
  refine op_g ha rfl (g_assign rfl) ?_; clear ha a; intro a ha
  refine wpList_nil ?_
  replace ha := ha.sub (σ' := [(0, va0), (1, va1)]) ⟨rfl, rfl, trivial⟩
  refine e_then ?_
  refine wp_seq ?_
  refine wp_seq ?_
  refine wp_region_lit ?_
  refine op_g ha rfl (g_move rfl) ?_; clear ha a; intro a ha
  refine op_g ha rfl (g_lenR sl22.und ha0 rfl) ?_; clear ha a; intro a ha
  refine op_g ha rfl (g_move rfl) ?_; clear ha a; intro a ha
  refine op_g ha rfl (g_lenR sl22.und ha1 rfl) ?_; clear ha a; intro a ha
  refine op_g ha rfl (g_neq rfl rfl) ?_; clear ha a; intro a ha
  refine wpList_nil ?_
  replace ha := ha.sub (σ' := [(0, va0), (1, va1), (10, (.bool (decide ((a0.length : Int) ≠ (a1.length : Int)))))]) ⟨rfl, rfl, rfl, trivial⟩
  refine e_then ?_
  refine c_cond ((a0.length : Int) ≠ (a1.length : Int)) ha rfl (decide_eq_true_iff) (fun hp1 => ?_) (fun hp1 => ?_)
  · replace hF := if_t hp1 hF
    refine wp_seq ?_
    refine wp_region_lit ?_
    refine op_g ha rfl (g_assign rfl) ?_; clear ha a; intro a ha
    refine wpList_nil ?_
    replace ha := ha.sub (σ' := [(4, (.bool false))]) ⟨rfl, trivial⟩
    refine e_then ?_
    refine wp_ret ?_
    refine e_then_ret ?_
    obtain rfl := Option.some.inj hF
    exact f_ret1 ha rfl rfl ⟨rfl, hE⟩
  · replace hF := if_f hp1 hF
    refine wp_skip ?_
    refine e_then ?_
    refine wp_seq ?_
    refine wp_seq ?_
    refine wp_region_lit ?_
    refine op_g ha rfl (g_assign rfl) ?_; clear ha a; intro a ha
    refine wpList_nil ?_
    replace ha := ha.sub (σ' := [(0, va0), (1, va1), (5, (.int .i64 0))]) ⟨rfl, rfl, rfl, trivial⟩
    refine e_then ?_
    obtain ⟨o93, ho94, hK95⟩ := bnd_some hF
    obtain ⟨n96, hn97⟩ := lp_some ho94; clear ho94
    refine c_loop (fun a w => Fr 27 [] a ∧ Chg [] W w ∧ o93 = .inl ()) (fun n a w => ∃ (i47 : Int), Fr 27 [(0, va0), (1, va1), (5, (.int .i64 i47))] a ∧ Chg [] W w ∧ InI i47 ∧ lpN (fun s => F_laws_eqInt64SS_l1 a0 a1 s) n i47 = some o93) n96 ⟨0, ha.sub ⟨rfl, rfl, rfl, trivial⟩, hE, (show InI 0 from by decide), hn97⟩ ?_ ?_
    · rintro m101 a w46 ⟨i47, ha, hE49, hI48, hF⟩
      cases m101 with
      | zero => exact (lpN_zero hF).elim
      | succ m101 =>
        obtain ⟨z100, hF, hN99⟩ := lpN_succ hF
        have hF : F_laws_eqInt64SS_l1 a0 a1 i47 = some z100 := hF; unfold F_laws_eqInt64SS_l1 at hF
        refine wp_seq ?_
        refine wp_seq ?_
        refine wp_region_lit ?_
        refine op_g ha rfl (g_move rfl) ?_; clear ha a; intro a ha
        refine op_g ha rfl (g_move rfl) ?_; clear ha a; intro a ha
        refine op_g ha rfl (g_lenR sl22.und ha0 rfl) ?_; clear ha a; intro a ha
        refine op_g ha rfl (g_lss rfl rfl) ?_; clear ha a; intro a ha
        refine wpList_nil ?_
        replace ha := ha.sub (σ' := [(0, va0), (1, va1), (5, (.int .i64 i47)), (14, (.bool (decide (i47 < (a0.length : Int)))))]) ⟨rfl, rfl, rfl, rfl, trivial⟩
        refine e_then ?_
        refine c_cond (i47 < (a0.length : Int)) ha rfl (decide_eq_true_iff) (fun hp102 => ?_) (fun hp102 => ?_)
        · replace hF := if_t hp102 hF
          refine wp_skip ?_
          refine e_then ?_
          refine wp_seq ?_
          refine wp_block ?_
          refine wp_seq ?_
          refine d_quiet hmix (by kernel_rfl) ?_
          refine q_g ha rfl (g_move rfl) ?_; clear ha a; intro a ha
          refine q_g ha rfl (g_move rfl) ?_; clear ha a; intro a ha
          obtain ⟨x103, g104, gx105, hF⟩ := idx_some hF
          obtain ⟨p106, cs107, f108, hf109, hpb110, hat111, hr112, hi113⟩ := ha0.at g104 gx105
          obtain ⟨v114, rfl, h115⟩ := hr112
          have h115 : Ro Rp.int W f108 v114 x103 := h115
          refine q_g ha rfl (hi113.gives sl22 rfl rfl) ?_; clear ha a; intro a ha
          refine q_g ha rfl (g_load0 hE49 Try.isAgg31 rfl hat111.one) ?_; clear ha a; intro a ha
          refine q_g ha rfl (g_move rfl) ?_; clear ha a; intro a ha
          refine q_g ha rfl (g_move rfl) ?_; clear ha a; intro a ha
          obtain ⟨x117, g118, gx119, hF⟩ := idx_some hF
          obtain ⟨p120, cs121, f122, hf123, hpb124, hat125, hr126, hi127⟩ := ha1.at g118 gx119
          obtain ⟨v128, rfl, h129⟩ := hr126
          have h129 : Ro Rp.int W f122 v128 x117 := h129
          refine q_g ha rfl (hi127.gives sl22 rfl rfl) ?_; clear ha a; intro a ha
          refine q_g ha rfl (g_load0 hE49 Try.isAgg31 rfl hat125.one) ?_; clear ha a; intro a ha
          obtain ⟨x133, hc134, hF⟩ := cal_some hF
          refine q_call (.bool x133) ha rfl rfl Try.call13 (fun w132 hx131 => W_laws_eqInt64S (h115.ext (Ext.trans hE49 hx131)) (h129.ext (Ext.trans hE49 hx131)) hc134) (fun _ _ _ h => ⟨h.1, h.2⟩) ?_; clear ha a; intro a ha
          refine q_g ha rfl (g_not rfl) ?_; clear ha a; intro a ha
          refine q_nil ?_; intro w135 hx136
          have hE137 := Ext.trans hE49 hx136
          replace ha := ha.sub (σ' := [(0, va0), (1, va1), (5, (.int .i64 i47)), (26, (.bool (!x133)))]) ⟨rfl, rfl, rfl, rfl, trivial⟩
          refine e_then ?_
          refine c_cond (¬ (x133 = true)) ha rfl (n_iff (Iff.rfl)) (fun hp138 => ?_) (fun hp138 => ?_)
          · replace hF := if_t hp138 hF
            refine wp_seq ?_
            refine wp_region_lit ?_
            refine op_g ha rfl (g_assign rfl) ?_; clear ha a; intro a ha
            refine wpList_nil ?_
            replace ha := ha.sub (σ' := [(4, (.bool false))]) ⟨rfl, trivial⟩
            refine e_then ?_
            refine wp_ret ?_
            refine e_blk_ret ?_
            refine e_then_ret ?_
            refine e_lq_ret ?_
            refine e_then_ret ?_
            obtain rfl := Option.some.inj hF
            have e139 := LK_inr hN99; subst e139
            have e140 := BK_inr hK95; subst e140
            exact f_ret1 ha rfl rfl ⟨rfl, hE137⟩
          · replace hF := if_f hp138 hF
            refine wp_skip ?_
            refine e_blk ?_
            refine e_then ?_
            refine wp_region_lit ?_
            refine op_g ha rfl (g_move rfl) ?_; clear ha a; intro a ha
            obtain ⟨hI141, hF⟩ := ck_some hF
            refine op_g ha rfl (g_add rfl rfl hI141) ?_; clear ha a; intro a ha
            refine op_g ha rfl (g_assign rfl) ?_; clear ha a; intro a ha
            refine wpList_nil ?_
            replace ha := ha.sub (σ' := [(0, va0), (1, va1), (5, (.int .i64 (i47 + 1)))]) ⟨rfl, rfl, rfl, trivial⟩
            refine e_lq ?_
            obtain rfl := Option.some.inj hF
            exact ⟨_, Nat.lt_succ_self _, i47 + 1, ha.sub ⟨rfl, rfl, rfl, trivial⟩, hE137, hI141, hN99⟩
        · replace hF := if_f hp102 hF
          refine wp_exit ?_
          refine e_then_exit ?_
          refine e_lq_eq ?_
          obtain rfl := Option.some.inj hF
          exact ⟨ha.sub trivial, hE49, (LK_inr hN99).symm⟩
    · rintro a w92 ⟨ha, hE98, rfl⟩
      have hF : F_laws_eqInt64SS_k2 = some _ := hK95; clear hK95; unfold F_laws_eqInt64SS_k2 at hF
      refine e_then ?_
      refine wp_seq ?_
      refine wp_region_lit ?_
      refine op_g ha rfl (g_assign rfl) ?_; clear ha a; intro a ha
      refine wpList_nil ?_
      refine e_then ?_
      refine wp_ret ?_
      obtain rfl := Option.some.inj hF
      exact f_ret1 ha rfl rfl ⟨rfl, hE98⟩
set_option maxHeartbeats 2000000 in
theorem W_laws_eqGraph {W : World} {va0_0 : Value} {fa0_0 : List Nat} {a0_0 : (List (List Int))} (ha0_0 : Ro (Rp.sl 2 Rp.int) W fa0_0 va0_0 a0_0) {va1_0 : Value} {fa1_0 : List Nat} {a1_0 : (List (List Int))} (ha1_0 : Ro (Rp.sl 2 Rp.int) W fa1_0 va1_0 a1_0) {r : Bool} (hF : F_laws_eqGraph a0_0 a1_0 = some r) :
    Calls Try.prog 9 [.agg #[va0_0], .agg #[va1_0]].toArray W (Ret fun u w' => u = .bool r ∧ Ext W w') := by
  refine f_enter Try.func9 rfl Try.ntmps9 rfl ?_
  intro a ha
  replace ha : Fr 11 [(0, (.agg #[va0_0])), (1, (.agg #[va1_0]))] a := ha
  have hE : Chg [] W W := Chg.refl _ _
  unfold F_laws_eqGraph at hF
  refine wp_seq ?_
  refine wp_region_lit ?_
  refine o_box ha rfl rfl rfl ?_; clear ha a; intro b1 w2 hB3 hx4 hlo5 a ha
  have q6 := Zn.one hlo5
  have q7 := Zn.upD q6 hE
  have hE8 := Ext.trans hE hx4
  refine o_box ha rfl rfl rfl ?_; clear ha a; intro b9 w10 hB11 hx12 hlo13 a ha
  have q14 := Zn.one hlo13
  have q15 := Nq.new hB3.fpb q14
  have q16 := Nq.made1 hlo13 hB3.bi
  have q17 := Zn.upD q14 hE8
  replace hB3 := hB3.ext hx12
  have hE18 := Ext.trans hE8 hx12
  refine op_g ha rfl (g_assign rfl) ?_; clear ha a; intro a ha
  refine wpList_nil ?_
  replace ha := ha.sub (σ' := [(2, (.pointer (some ⟨b1, 0, none⟩))), (3, (.pointer (some ⟨b9, 0, none⟩)))]) ⟨rfl, rfl, trivial⟩
  refine e_then ?_
  refine wp_seq ?_
  refine wp_seq ?_
  refine wp_region_lit ?_
  refine op_g ha rfl (g_field0 st27_0 rfl) ?_; clear ha a; intro a ha
  refine op_g ha rfl (g_load Try.isAgg22 rfl (hB3.cell rfl)) ?_; clear ha a; intro a ha
  refine op_g ha rfl (g_field0 st27_0 rfl) ?_; clear ha a; intro a ha
  refine op_g ha rfl (g_load Try.isAgg22 rfl (hB11.cell rfl)) ?_; clear ha a; intro a ha
  obtain ⟨x19, hc20, hF⟩ := cal_some hF
  refine o_call ha rfl rfl Try.call21 (W_laws_eqInt64SS (ha0_0.ext hE18) (ha1_0.ext hE18) hc20) ?_; clear ha a; rintro v21 w22 ⟨rfl, hx23⟩ a ha
  replace hB3 := hB3.ext hx23
  replace hB11 := hB11.ext hx23
  have hE24 := Ext.trans hE18 hx23
  refine op_g ha rfl (g_not rfl) ?_; clear ha a; intro a ha
  refine wpList_nil ?_
  replace ha := ha.sub (σ' := [(10, (.bool (!x19)))]) ⟨rfl, trivial⟩
  refine e_then ?_
  refine c_cond (¬ (x19 = true)) ha rfl (n_iff (Iff.rfl)) (fun hp25 => ?_) (fun hp25 => ?_)
  · replace hF := if_t hp25 hF
    refine wp_seq ?_
    refine wp_region_lit ?_
    refine op_g ha rfl (g_assign rfl) ?_; clear ha a; intro a ha
    refine wpList_nil ?_
    replace ha := ha.sub (σ' := [(4, (.bool false))]) ⟨rfl, trivial⟩
    refine e_then ?_
    refine wp_ret ?_
    refine e_then_ret ?_
    obtain rfl := Option.some.inj hF
    exact f_ret1 ha rfl rfl ⟨rfl, hE24⟩
  · replace hF := if_f hp25 hF
    refine wp_skip ?_
    refine e_then ?_
    refine wp_seq ?_
    refine wp_region_lit ?_
    refine op_g ha rfl (g_assign rfl) ?_; clear ha a; intro a ha
    refine wpList_nil ?_
    replace ha := ha.sub (σ' := [(4, (.bool true))]) ⟨rfl, trivial⟩
    refine e_then ?_
    refine wp_ret ?_
    obtain rfl := Option.some.inj hF
    exact f_ret1 ha rfl rfl ⟨rfl, hE24⟩
set_option maxHeartbeats 2000000 in
theorem W_laws_FnExactTrailOk {W : World} {va0_0 : Value} {fa0_0 : List Nat} {a0_0 : (List (List Int))} (ha0_0 : Ro (Rp.sl 2 Rp.int) W fa0_0 va0_0 a0_0) {va1 : Value} {fa1 : List Nat} {a1 : (List Int)} (ha1 : Ro Rp.int W fa1 va1 a1) {r : Bool} (hF : F_laws_FnExactTrailOk a0_0 a1 = some r) :
    Calls Try.prog 4 [.agg #[va0_0], va1].toArray W (Ret fun u w' => u = .bool r ∧ Ext W w') := by
  refine f_enter Try.func4 rfl Try.ntmps4 rfl ?_
  intro a ha
  replace ha : Fr 43 [(0, (.agg #[va0_0])), (1, va1)] a := ha
  have hE : Chg [] W W := Chg.refl _ _
  unfold F_laws_FnExactTrailOk at hF
  refine wp_seq ?_
  refine wp_region_lit ?_
  refine o_box ha rfl rfl rfl ?_; clear ha a; intro b1 w2 hB3 hx4 hlo5 a ha
  have q6 := Zn.one hlo5
  have q7 := Zn.upD q6 hE
  have hE8 := Ext.trans hE hx4
  refine op_g ha rfl (g_assign rfl) ?_; clear ha a; intro a ha
  refine wpList_nil ?_
  replace ha := ha.sub (σ' := [(1, va1), (2, (.pointer (some ⟨b1, 0, none⟩)))]) ⟨rfl, rfl, trivial⟩
  refine e_then ?_
  refine wp_seq ?_
  refine wp_seq ?_
  refine wp_region_lit ?_
  refine op_g ha rfl (g_move rfl) ?_; clear ha a; intro a ha
  refine op_g ha rfl (g_lenR sl31.und ha1 rfl) ?_; clear ha a; intro a ha
  refine op_g ha rfl (g_gtr rfl rfl) ?_; clear ha a; intro a ha
  refine wpList_nil ?_
  replace ha := ha.sub (σ' := [(1, va1), (2, (.pointer (some ⟨b1, 0, none⟩))), (12, (.bool (decide (1048576 < (a1.length : Int)))))]) ⟨rfl, rfl, rfl, trivial⟩
  refine e_then ?_
  refine c_cond (1048576 < (a1.length : Int)) ha rfl (decide_eq_true_iff) (fun hp9 => ?_) (fun hp9 => ?_)
  · replace hF := if_t hp9 hF
    refine wp_seq ?_
    refine wp_region_lit ?_
    refine op_g ha rfl (g_assign rfl) ?_; clear ha a; intro a ha
    refine wpList_nil ?_
    replace ha := ha.sub (σ' := [(4, (.bool true))]) ⟨rfl, trivial⟩
    refine e_then ?_
    refine wp_ret ?_
    refine e_then_ret ?_
    obtain rfl := Option.some.inj hF
    exact f_ret1 ha rfl rfl ⟨rfl, hE8⟩
  · replace hF := if_f hp9 hF
    refine wp_skip ?_
    refine e_then ?_
    refine wp_seq ?_
    refine wp_region_lit ?_
    refine op_g ha rfl (g_assign rfl) ?_; clear ha a; intro a ha
    refine wpList_nil ?_
    replace ha := ha.sub (σ' := [(1, va1), (2, (.pointer (some ⟨b1, 0, none⟩))), (5, (.int .i64 1048576))]) ⟨rfl, rfl, rfl, trivial⟩
    refine e_then ?_
    refine wp_seq ?_
    refine wp_region_lit ?_
    refine op_g ha rfl (g_loadA (cs := [va0_0]) Try.isAgg24 Try.sizeOf24 rfl (by simp) hB3.all) ?_; clear ha a; intro a ha
    refine op_g ha rfl (g_move rfl) ?_; clear ha a; intro a ha
    obtain ⟨x10, hc11, hF⟩ := cal_some hF
    refine o_call ha rfl rfl Try.call5 (W_laws_szGraph (ha0_0.ext hE8) (show InI 1048576 from by decide) hc11) ?_; clear ha a; rintro v12 w13 ⟨⟨rfl, hI15⟩, hx14⟩ a ha
    replace hB3 := hB3.ext hx14
    have hE16 := Ext.trans hE8 hx14
    refine op_g ha rfl (g_assign rfl) ?_; clear ha a; intro a ha
    refine wpList_nil ?_
    replace ha := ha.sub (σ' := [(1, va1), (2, (.pointer (some ⟨b1, 0, none⟩))), (5, (.int .i64 x10))]) ⟨rfl, rfl, rfl, trivial⟩
    refine e_then ?_
    refine wp_seq ?_
    refine wp_seq ?_
    refine wp_region_lit ?_
    refine op_g ha rfl (g_move rfl) ?_; clear ha a; intro a ha
    refine op_g ha rfl (g_lss rfl rfl) ?_; clear ha a; intro a ha
    refine wpList_nil ?_
    replace ha := ha.sub (σ' := [(1, va1), (2, (.pointer (some ⟨b1, 0, none⟩))), (17, (.bool (decide (x10 < 0))))]) ⟨rfl, rfl, rfl, trivial⟩
    refine e_then ?_
    refine c_cond (x10 < 0) ha rfl (decide_eq_true_iff) (fun hp17 => ?_) (fun hp17 => ?_)
    · replace hF := if_t hp17 hF
      refine wp_seq ?_
      refine wp_region_lit ?_
      refine op_g ha rfl (g_assign rfl) ?_; clear ha a; intro a ha
      refine wpList_nil ?_
      replace ha := ha.sub (σ' := [(4, (.bool true))]) ⟨rfl, trivial⟩
      refine e_then ?_
      refine wp_ret ?_
      refine e_then_ret ?_
      obtain rfl := Option.some.inj hF
      exact f_ret1 ha rfl rfl ⟨rfl, hE16⟩
    · replace hF := if_f hp17 hF
      refine wp_skip ?_
      refine e_then ?_
      refine wp_seq ?_
      refine wp_region_lit ?_
      refine op_g ha rfl (g_loadA (cs := [va0_0]) Try.isAgg24 Try.sizeOf24 rfl (by simp) hB3.all) ?_; clear ha a; intro a ha
      obtain ⟨x18, hc19, hF⟩ := cal_some hF
      refine o_call ha rfl rfl Try.call7 (W_laws_toGraph (ha0_0.ext hE16) hc19) ?_; clear ha a; rintro v20 w21 ⟨u23, b24, fs28, rfl, h25, z26, zf29, nd30, hx22⟩ a ha
      have q31 := Nq.new hB3.fpb z26
      have q32 := Nq.madeF z26 zf29 hB3.bi
      have q33 := Nf.new hB3.fpb zf29
      replace hB3 := hB3.ext hx22
      have hE34 := Ext.trans hE16 hx22
      have q35 := Zn.upD z26 hE16
      have q36 := zf_up zf29 hE16
      refine op_g ha rfl (g_move rfl) ?_; clear ha a; intro a ha
      obtain ⟨x37, hc38, hF⟩ := cal_some hF
      refine o_call ha rfl rfl Try.call11 (W_laws_toInt64S (ha1.ext hE34) hc38) ?_; clear ha a; rintro v39 w40 ⟨b42, h43, z44, hx41⟩ a ha
      have q46 := Nq.new hB3.fpb z44
      have q47 := Nq.madeO z44 hB3.bi
      have q48 := Nq.new h25.fpb z44
      have q49 := Nq.madeO z44 h25.blt
      have q50 := Nf.old z44 (zf_nil _) h25.bnd
      replace hB3 := hB3.ext hx41
      replace h25 := h25.ext hx41
      have hE51 := Ext.trans hE34 hx41
      have q52 := Zn.upD z44 hE34
      obtain ⟨fp53, hro54, -⟩ := h25.weak.ro
      obtain ⟨fp55, hro56, -⟩ := h43.weak.ro
      obtain ⟨x57, hc58, hF⟩ := cal_some hF
      refine o_call ha rfl rfl Try.call10 (W_spec_TrailOk hro54 hro56 hc58) ?_; clear ha a; rintro v59 w60 ⟨rfl, hx61⟩ a ha
      replace hB3 := hB3.ext hx61
      replace h25 := h25.ext hx61
      replace h43 := h43.ext hx61
      have hE62 := Ext.trans hE51 hx61
      refine op_g ha rfl (g_assign rfl) ?_; clear ha a; intro a ha
      refine wpList_nil ?_
      replace ha := ha.sub (σ' := [(1, va1), (2, (.pointer (some ⟨b1, 0, none⟩))), (6, (.bool x57))]) ⟨rfl, rfl, rfl, trivial⟩
      refine e_then ?_
      refine wp_seq ?_
      refine wp_region_lit ?_
      refine op_g ha rfl (g_loadA (cs := [va0_0]) Try.isAgg24 Try.sizeOf24 rfl (by simp) hB3.all) ?_; clear ha a; intro a ha
      obtain ⟨x63, hc64, hF⟩ := cal_some hF
      refine o_call ha rfl rfl Try.call7 (W_laws_toGraph (ha0_0.ext hE62) hc64) ?_; clear ha a; rintro v65 w66 ⟨u68, b69, fs73, rfl, h70, z71, zf74, nd75, hx67⟩ a ha
      have q76 := Nq.new hB3.fpb z71
      have q77 := Nq.madeF z71 zf74 hB3.bi
      have q78 := Nf.new hB3.fpb zf74
      replace hB3 := hB3.ext hx67
      have hE79 := Ext.trans hE62 hx67
      have q80 := Zn.upD z71 hE62
      have q81 := zf_up zf74 hE62
      refine o_alloc (cs := [(.slice none 0 0)]) ha rfl Try.zeroValue27 rfl ?_; clear ha a; intro b82 w83 hB84 hx85 hlo86 a ha
      have q87 := Zn.one hlo86
      have q88 := Nq.new hB3.fpb q87
      have q89 := Nq.made1 hlo86 hB3.bi
      have q90 := Nq.new h70.fpb q87
      have q91 := Nq.made1 hlo86 h70.blt
      have q92 := Zn.upD q87 hE79
      replace hB3 := hB3.ext hx85
      replace h70 := h70.ext hx85
      have hE93 := Ext.trans hE79 hx85
      refine o_storeA (vs := [u68]) ha hB84 Try.sizeOf27 rfl rfl (by intro c hc; simp only [List.mem_cons, List.not_mem_nil, or_false] at hc; rcases hc with hc <;> subst hc <;> first | rfl | exact h70.oneC) rfl ?_; intro w94 hB95 hc96
      replace hc96 := hc96.bl
      replace hB95 : Bx w94 b82 [u68] 27 := hB95
      replace hB3 := hB3.nq hc96 q88
      replace h70 := h70.nq hc96 q90
      have hE97 := Ext.then hE93 hc96 (Zn.bl q92)
      refine wpList_nil ?_
      replace ha := ha.sub (σ' := [(1, va1), (2, (.pointer (some ⟨b1, 0, none⟩))), (6, (.bool x57)), (7, (.pointer (some ⟨b82, 0, none⟩)))]) ⟨rfl, rfl, rfl, rfl, trivial⟩
      refine e_then ?_
      refine wp_seq ?_
      refine wp_region_lit ?_
      refine op_g ha rfl (g_move rfl) ?_; clear ha a; intro a ha
      obtain ⟨x98, hc99, hF⟩ := cal_some hF
      refine o_call ha rfl rfl Try.call11 (W_laws_toInt64S (ha1.ext hE97) hc99) ?_; clear ha a; rintro v100 w101 ⟨b103, h104, z105, hx102⟩ a ha
      have q107 := Nq.new hB3.fpb z105
      have q108 := Nq.madeO z105 hB3.bi
      have q109 := Nq.new h70.fpb z105
      have q110 := Nq.madeO z105 h70.blt
      have q111 := Nq.new hB95.fpb z105
      have q112 := Nq.madeO z105 hB95.bi
      have q113 := Nf.old z105 (zf_nil _) h70.bnd
      replace hB3 := hB3.ext hx102
      replace h70 := h70.ext hx102
      replace hB95 := hB95.ext hx102
      have hE114 := Ext.trans hE97 hx102
      have q115 := Zn.upD z105 hE97
      refine op_g ha rfl (g_assign rfl) ?_; clear ha a; intro a ha
      refine wpList_nil ?_
      replace ha := ha.sub (σ' := [(1, va1), (2, (.pointer (some ⟨b1, 0, none⟩))), (6, (.bool x57)), (7, (.pointer (some ⟨b82, 0, none⟩))), (8, v100)]) ⟨rfl, rfl, rfl, rfl, rfl, trivial⟩
      refine e_then ?_
      refine wp_seq ?_
      refine wp_region_lit ?_
      refine op_g ha rfl (g_loadA (cs := [u68]) Try.isAgg27 Try.sizeOf27 rfl (by simp) hB95.all) ?_; clear ha a; intro a ha
      refine op_g ha rfl (g_move rfl) ?_; clear ha a; intro a ha
      obtain ⟨fp116, hro117, -⟩ := h70.weak.ro
      obtain ⟨fp118, hro119, -⟩ := h104.weak.ro
      obtain ⟨x120, hc121, hF⟩ := cal_some hF
      refine o_call ha rfl rfl Try.call12 (W_impl_TrailOk hro117 hro119 hc121) ?_; clear ha a; rintro v122 w123 ⟨rfl, hx124⟩ a ha
      replace hB3 := hB3.ext hx124
      replace h70 := h70.ext hx124
      replace hB95 := hB95.ext hx124
      replace h104 := h104.ext hx124
      have hE125 := Ext.trans hE114 hx124
      refine op_g ha rfl (g_assign rfl) ?_; clear ha a; intro a ha
      refine wpList_nil ?_
      replace ha := ha.sub (σ' := [(1, va1), (2, (.pointer (some ⟨b1, 0, none⟩))), (6, (.bool x57)), (7, (.pointer (some ⟨b82, 0, none⟩))), (8, v100), (9, (.bool x120))]) ⟨rfl, rfl, rfl, rfl, rfl, rfl, trivial⟩
      refine e_then ?_
      refine wp_seq ?_
      refine wp_seq ?_
      refine wp_region_lit ?_
      refine op_g ha rfl (g_move rfl) ?_; clear ha a; intro a ha
      refine op_g ha rfl (g_move rfl) ?_; clear ha a; intro a ha
      refine op_g ha rfl (gB_neq un4 rfl rfl) ?_; clear ha a; intro a ha
      refine wpList_nil ?_
      replace ha := ha.sub (σ' := [(1, va1), (2, (.pointer (some ⟨b1, 0, none⟩))), (7, (.pointer (some ⟨b82, 0, none⟩))), (8, v100), (32, (.bool (x120 != x57)))]) ⟨rfl, rfl, rfl, rfl, rfl, trivial⟩
      refine e_then ?_
      refine c_cond ((x120 != x57) = true) ha rfl (Iff.rfl) (fun hp126 => ?_) (fun hp126 => ?_)
      · replace hF := if_t hp126 hF
        refine wp_seq ?_
        refine wp_region_lit ?_
        refine op_g ha rfl (g_assign rfl) ?_; clear ha a; intro a ha
        refine wpList_nil ?_
        replace ha := ha.sub (σ' := [(4, (.bool false))]) ⟨rfl, trivial⟩
        refine e_then ?_
        refine wp_ret ?_
        refine e_then_ret ?_
        obtain rfl := Option.some.inj hF
        exact f_ret1 ha rfl rfl ⟨rfl, hE125⟩
      · replace hF := if_f hp126 hF
        refine wp_skip ?_
        refine e_then ?_
        refine wp_seq ?_
        refine wp_seq ?_
        refine d_region 5 hmix ?_
        refine u_g 0 rfl (by kernel_rfl) (want0 _) ha rfl (g_loadA (cs := [u68]) Try.isAgg27 Try.sizeOf27 rfl (by simp) hB95.all) ?_; clear ha a; intro a ha
        refine u_g 1 rfl (by kernel_rfl) (want0 _) ha rfl (g_loadA (cs := [va0_0]) Try.isAgg24 Try.sizeOf24 rfl (by simp) hB3.all) ?_; clear ha a; intro a ha
        refine u_only 2 rfl (by kernel_rfl) ?_; intro w127 hx128
        replace hB3 := hB3.ext hx128
        replace h70 := h70.ext hx128
        replace hB95 := hB95.ext hx128
        replace h104 := h104.ext hx128
        have hE129 := Ext.trans hE125 hx128
        obtain ⟨x130, hc131, hF⟩ := cal_some hF
        refine o_call ha rfl rfl Try.call7 (W_laws_toGraph (ha0_0.ext hE129) hc131) ?_; clear ha a; rintro v132 w133 ⟨u135, b136, fs140, rfl, h137, z138, zf141, nd142, hx134⟩ a ha
        have q143 := Nq.new hB3.fpb z138
        have q144 := Nq.madeF z138 zf141 hB3.bi
        have q145 := Nq.new h70.fpb z138
        have q146 := Nq.madeF z138 zf141 h70.blt
        have q147 := Nq.new hB95.fpb z138
        have q148 := Nq.madeF z138 zf141 hB95.bi
        have q149 := Nq.new h104.fpb z138
        have q150 := Nq.madeF z138 zf141 h104.blt
        have q151 := Nf.new hB3.fpb zf141
        have q152 := Nf.new h70.fpb zf141
        have q153 := Nf.old z138 zf141 h70.bnd
        have q154 := Nf.new hB95.fpb zf141
        have q155 := Nf.new h104.fpb zf141
        replace hB3 := hB3.ext hx134
        replace h70 := h70.ext hx134
        replace hB95 := hB95.ext hx134
        replace h104 := h104.ext hx134
        have hE156 := Ext.trans hE129 hx134
        have q157 := Zn.upD z138 hE129
        have q158 := zf_up zf141 hE129
        refine wpList_nil (e_sq ?_)
        refine ⟨fun _ => hx134, ?_⟩
        obtain ⟨fp161, hro162, -⟩ := h70.weak.ro
        obtain ⟨fp163, hro164, -⟩ := h137.weak.ro
        obtain ⟨x165, hc166, hF⟩ := cal_some hF
        refine u_call (.bool x165) 3 rfl (by kernel_rfl) (want0 _) ha rfl rfl Try.call9 (fun w160 hx159 => W_laws_eqGraph (hro162.ext hx159) (hro164.ext hx159) hc166) (fun _ _ _ h => ⟨h.1, h.2⟩) ?_; clear ha a; intro a ha
        refine u_g 4 rfl (by kernel_rfl) (want0 _) ha rfl (g_not rfl) ?_; clear ha a; intro a ha
        refine u_done (by kernel_rfl) ?_; intro w167 hx168
        replace hB3 := hB3.ext hx168
        replace h70 := h70.ext hx168
        replace hB95 := hB95.ext hx168
        replace h104 := h104.ext hx168
        replace h137 := h137.ext hx168
        have hE169 := Ext.trans hE156 hx168
        replace ha := ha.sub (σ' := [(1, va1), (8, v100), (37, (.bool (!x165)))]) ⟨rfl, rfl, rfl, trivial⟩
        refine e_then ?_
        refine c_cond (¬ (x165 = true)) ha rfl (n_iff (Iff.rfl)) (fun hp170 => ?_) (fun hp170 => ?_)
        · replace hF := if_t hp170 hF
          refine wp_seq ?_
          refine wp_region_lit ?_
          refine op_g ha rfl (g_assign rfl) ?_; clear ha a; intro a ha
          refine wpList_nil ?_
          replace ha := ha.sub (σ' := [(4, (.bool false))]) ⟨rfl, trivial⟩
          refine e_then ?_
          refine wp_ret ?_
          refine e_then_ret ?_
          obtain rfl := Option.some.inj hF
          exact f_ret1 ha rfl rfl ⟨rfl, hE169⟩
        · replace hF := if_f hp170 hF
          refine wp_skip ?_
          refine e_then ?_
          refine wp_seq ?_
          refine wp_seq ?_
          refine wp_region_lit ?_
          refine op_g ha rfl (g_move rfl) ?_; clear ha a; intro a ha
          refine op_g ha rfl (g_move rfl) ?_; clear ha a; intro a ha
          obtain ⟨x171, hc172, hF⟩ := cal_some hF
          refine o_call ha rfl rfl Try.call11 (W_laws_toInt64S (ha1.ext hE169) hc172) ?_; clear ha a; rintro v173 w174 ⟨b176, h177, z178, hx175⟩ a ha
          have q180 := Nq.new h104.fpb z178
          have q181 := Nq.madeO z178 h104.blt
          replace h104 := h104.ext hx175
          have hE182 := Ext.trans hE169 hx175
          have q183 := Zn.upD z178 hE169
          obtain ⟨fp184, hro185, -⟩ := h104.weak.ro
          obtain ⟨fp186, hro187, -⟩ := h177.weak.ro
          obtain ⟨x188, hc189, hF⟩ := cal_some hF
          refine o_call ha rfl rfl Try.call13 (W_laws_eqInt64S hro185 hro187 hc189) ?_; clear ha a; rintro v190 w191 ⟨rfl, hx192⟩ a ha
          replace h104 := h104.ext hx192
          replace h177 := h177.ext hx192
          have hE193 := Ext.trans hE182 hx192
          refine op_g ha rfl (g_not rfl) ?_; clear ha a; intro a ha
          refine wpList_nil ?_
          replace ha := ha.sub (σ' := [(42, (.bool (!x188)))]) ⟨rfl, trivial⟩
          refine e_then ?_
          refine c_cond (¬ (x188 = true)) ha rfl (n_iff (Iff.rfl)) (fun hp194 => ?_) (fun hp194 => ?_)
          · replace hF := if_t hp194 hF
            refine wp_seq ?_
            refine wp_region_lit ?_
            refine op_g ha rfl (g_assign rfl) ?_; clear ha a; intro a ha
            refine wpList_nil ?_
            replace ha := ha.sub (σ' := [(4, (.bool false))]) ⟨rfl, trivial⟩
            refine e_then ?_
            refine wp_ret ?_
            refine e_then_ret ?_
            obtain rfl := Option.some.inj hF
            exact f_ret1 ha rfl rfl ⟨rfl, hE193⟩
          · replace hF := if_f hp194 hF
            refine wp_skip ?_
            refine e_then ?_
            refine wp_seq ?_
            refine wp_region_lit ?_
            refine op_g ha rfl (g_assign rfl) ?_; clear ha a; intro a ha
            refine wpList_nil ?_
            replace ha := ha.sub (σ' := [(4, (.bool true))]) ⟨rfl, trivial⟩
            refine e_then ?_
            refine wp_ret ?_
            obtain rfl := Option.some.inj hF
            exact f_ret1 ha rfl rfl ⟨rfl, hE193⟩
end Go.Proofs.Ytgikmgceiiahpab
