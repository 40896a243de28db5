/- Walks, printed by gen.py. -/
import Derived.Test.YtlbgoodonecebaaDoorF
import Derived.Test.YtlbgoodonecebaaDoorW1
import Derived.Test.YtlbgoodonecebaaDoorProg
import Derived.KernelRfl
set_option maxRecDepth 100000
namespace Go.Proofs.YtlbgoodonecebaaDoor
open Go Go.RowKit

set_option maxHeartbeats 2000000 in
theorem W_impl_bestClasses {W : World} {va0 : Value} {fa0 : List Nat} {a0 : (List (BitVec 32))} (ha0 : Ro Rp.u32 W fa0 va0 a0) {r : (List (BitVec 32))} (hF : F_impl_bestClasses a0 = some r) :
    Calls Tryd.prog 55 [va0].toArray W (Ret fun u w' => ∃ (b_u : Int), Ow Rp.u32 59 true w' [] b_u u r ∧ Zn W b_u ∧ Ext W w') := by
  refine f_enter Tryd.func55 rfl Tryd.ntmps55 rfl ?_
  intro a ha
  replace ha : Fr 13 [(0, va0)] a := ha
  have hE : Chg [] W W := Chg.refl _ _
  unfold F_impl_bestClasses at hF
  refine wp_seq ?_
  refine wp_region_lit ?_
  refine op_g ha rfl (g_assign rfl) ?_; clear ha a; intro a ha
  refine wpList_nil ?_
  replace ha := ha.sub (σ' := [(0, va0)]) ⟨rfl, trivial⟩
  refine e_then ?_
  refine wp_seq ?_
  refine wp_region_lit ?_
  refine op_g ha rfl (g_assign rfl) ?_; clear ha a; intro a ha
  refine wpList_nil ?_
  refine e_then ?_
  obtain ⟨o56, ho57, hK58⟩ := bnd_some hF
  obtain ⟨n59, hn60⟩ := lp_some ho57; clear ho57
  refine c_loop (fun a w => Fr 13 [] a ∧ Chg [] W w ∧ o56 = .inl ()) (fun n a w => ∃ (i28 : Int), Fr 13 [(0, va0), (3, (.int .i64 i28))] a ∧ Chg [] W w ∧ InI i28 ∧ lpN (fun s => F_impl_bestClasses_l1 a0 s) n i28 = some o56) n59 ⟨1, ha.sub ⟨rfl, rfl, trivial⟩, hE, (show InI 1 from by decide), hn60⟩ ?_ ?_
  · rintro m64 a w27 ⟨i28, ha, hE30, hI29, hF⟩
    cases m64 with
    | zero => exact (lpN_zero hF).elim
    | succ m64 =>
      obtain ⟨z63, hF, hN62⟩ := lpN_succ hF
      have hF : F_impl_bestClasses_l1 a0 i28 = some z63 := hF; unfold F_impl_bestClasses_l1 at hF
      refine wp_seq ?_
      refine wp_block ?_
      refine wp_seq ?_
      refine wp_region_lit ?_
      refine op_g ha rfl (g_move rfl) ?_; clear ha a; intro a ha
      obtain ⟨g69, g69b, hF⟩ := mkS_some hF
      refine o_make (z0 := (0 : BitVec 32)) Rp.u32 ha rfl sl54 rfl (fun w => ⟨rfl, rfl⟩) rfl g69 g69b ?_; clear ha a; intro v65 w66 h67 hx68 a ha
      obtain ⟨b72, hb72⟩ : ∃ b : Int, b = w27.heap.size := ⟨_, rfl⟩; rw [← hb72] at h67
      have q73 := zn_of hb72
      have q74 := Zn.upD q73 hE30
      have hE75 := Ext.trans hE30 hx68
      refine op_g ha rfl (g_assign rfl) ?_; clear ha a; intro a ha
      refine wpList_nil ?_
      replace ha := ha.sub (σ' := [(0, va0), (3, (.int .i64 i28)), (4, v65)]) ⟨rfl, rfl, rfl, trivial⟩
      refine e_then ?_
      refine wp_seq ?_
      refine wp_region_lit ?_
      refine op_g ha rfl (g_move rfl) ?_; clear ha a; intro a ha
      refine op_g ha rfl (g_move rfl) ?_; clear ha a; intro a ha
      obtain ⟨x76, hc77, hF⟩ := cal_some hF
      refine o_call ha rfl rfl Tryd.call79 (W_impl_colourOn (ha0.ext hE75) (show InI 0 from by decide) h67 (show InI 0 from by decide) (Nq.new ha0.bnd q74) hc77) ?_; clear ha a; rintro v78 w79 ⟨rfl, h81, hx80⟩ a ha
      have hE82 := Ext.then hE75 hx80 (Zn.bl q74)
      refine wpList_nil ?_
      replace ha := ha.sub (σ' := [(0, va0), (3, (.int .i64 i28)), (4, v65), (11, (.bool x76.1))]) ⟨rfl, rfl, rfl, rfl, trivial⟩
      refine e_then ?_
      refine c_cond (x76.1 = true) ha rfl (Iff.rfl) (fun hp83 => ?_) (fun hp83 => ?_)
      · replace hF := if_t hp83 hF
        refine wp_seq ?_
        refine wp_region_lit ?_
        refine op_g ha rfl (g_move rfl) ?_; clear ha a; intro a ha
        refine op_g ha rfl (g_assign rfl) ?_; clear ha a; intro a ha
        refine wpList_nil ?_
        replace ha := ha.sub (σ' := [(2, v65)]) ⟨rfl, trivial⟩
        refine e_then ?_
        refine wp_ret ?_
        refine e_blk_ret ?_
        refine e_then_ret ?_
        refine e_lq_ret ?_
        obtain rfl := Option.some.inj hF
        have e84 := LK_inr hN62; subst e84
        have e85 := BK_inr hK58; subst e85
        exact f_ret1 ha rfl rfl ⟨_, h81, q74, hE82⟩
      · replace hF := if_f hp83 hF
        refine wp_skip ?_
        refine e_blk ?_
        refine e_then ?_
        refine wp_region_lit ?_
        refine op_g ha rfl (g_move rfl) ?_; clear ha a; intro a ha
        obtain ⟨hI86, hF⟩ := ck_some hF
        refine op_g ha rfl (g_add rfl rfl hI86) ?_; clear ha a; intro a ha
        refine op_g ha rfl (g_assign rfl) ?_; clear ha a; intro a ha
        refine wpList_nil ?_
        replace ha := ha.sub (σ' := [(0, va0), (3, (.int .i64 (i28 + 1)))]) ⟨rfl, rfl, trivial⟩
        refine e_lq ?_
        obtain rfl := Option.some.inj hF
        exact ⟨_, Nat.lt_succ_self _, i28 + 1, ha.sub ⟨rfl, rfl, trivial⟩, hE82, hI86, hN62⟩
  · rintro a w55 ⟨ha, hE61, rfl⟩
    cases hK58
set_option maxHeartbeats 2000000 in
theorem W_math_bits_TrailingZeros32 {W : World} {a0 : BitVec 32} (hG : GT 0 W) {r : Int} (hF : F_math_bits_TrailingZeros32 a0 = some r) :
    Calls Tryd.prog 87 [.int .u32 (BitVec.toNat a0 : Int)].toArray W (Ret fun u w' => (u = .int .i64 r ∧ InI r) ∧ Ext W w') := by
  refine f_enter Tryd.func87 rfl Tryd.ntmps87 rfl ?_
  intro a ha
  replace ha : Fr 14 [(0, (.int .u32 (BitVec.toNat a0 : Int)))] a := ha
  have hE : Chg [] W W := Chg.refl _ _
  unfold F_math_bits_TrailingZeros32 at hF
  refine wp_seq ?_
  refine wp_region_lit ?_
  refine op_g ha rfl (g_assign rfl) ?_; clear ha a; intro a ha
  refine wpList_nil ?_
  replace ha := ha.sub (σ' := [(0, (.int .u32 (BitVec.toNat a0 : Int)))]) ⟨rfl, trivial⟩
  refine e_then ?_
  refine wp_seq ?_
  refine wp_seq ?_
  refine wp_region_lit ?_
  refine op_g ha rfl (g_move rfl) ?_; clear ha a; intro a ha
  refine op_g ha rfl (g32_eql (m := a0) (n := (0#32)) rfl rfl) ?_; clear ha a; intro a ha
  refine wpList_nil ?_
  replace ha := ha.sub (σ' := [(0, (.int .u32 (BitVec.toNat a0 : Int))), (4, (.bool (decide (a0 = (0#32)))))]) ⟨rfl, rfl, trivial⟩
  refine e_then ?_
  refine c_cond (a0 = (0#32)) ha rfl (decide_eq_true_iff) (fun hp1 => ?_) (fun hp1 => ?_)
  · replace hF := if_t hp1 hF
    refine wp_seq ?_
    refine wp_region_lit ?_
    refine op_g ha rfl (g_assign rfl) ?_; clear ha a; intro a ha
    refine wpList_nil ?_
    replace ha := ha.sub (σ' := [(2, (.int .i64 32))]) ⟨rfl, trivial⟩
    refine e_then ?_
    refine wp_ret ?_
    refine e_then_ret ?_
    obtain rfl := Option.some.inj hF
    exact f_ret1 ha rfl rfl ⟨⟨rfl, (show InI 32 from by decide)⟩, hE⟩
  · replace hF := if_f hp1 hF
    refine wp_skip ?_
    refine e_then ?_
    refine wp_seq ?_
    refine wp_region_lit ?_
    refine op_g ha rfl (g_move rfl) ?_; clear ha a; intro a ha
    refine op_g ha rfl (g_move rfl) ?_; clear ha a; intro a ha
    refine op_g ha rfl (g32_neg (m := a0) rfl) ?_; clear ha a; intro a ha
    refine op_g ha rfl (g32_and (m := a0) (n := (-a0)) rfl rfl) ?_; clear ha a; intro a ha
    refine op_g ha rfl (g32_mul (m := (a0 &&& (-a0))) (n := (125613361#32)) rfl rfl) ?_; clear ha a; intro a ha
    refine op_g ha rfl (g32_shr (m := ((a0 &&& (-a0)) * (125613361#32))) rfl rfl (show InU 27 from by decide).1) ?_; clear ha a; intro a ha
    obtain ⟨x2, g3, gx4, hF⟩ := idx_some hF
    refine op_g ha rfl (g_idxG un101 Tryd.sizeOf5 rfl g3 (idx_lt g3 gx4 (by decide))) ?_; clear ha a; intro a ha
    refine op_g ha rfl (g_load Tryd.isAgg5 rfl (Tab.cell (hG.ext hE) gx4)) ?_; clear ha a; intro a ha
    refine op_g ha rfl (g_conv8 (m := x2) un5 un3 rfl) ?_; clear ha a; intro a ha
    refine op_g ha rfl (g_assign rfl) ?_; clear ha a; intro a ha
    refine wpList_nil ?_
    replace ha := ha.sub (σ' := [(2, (.int .i64 (BitVec.toNat x2 : Int)))]) ⟨rfl, trivial⟩
    refine e_then ?_
    refine wp_ret ?_
    obtain rfl := Option.some.inj hF
    exact f_ret1 ha rfl rfl ⟨⟨rfl, (in_u8 _)⟩, hE⟩
set_option maxHeartbeats 2000000 in
theorem W_impl_vset_least {W : World} {a0 : BitVec 32} (hG : GT 0 W) {r : Int} (hF : F_impl_vset_least a0 = some r) :
    Calls Tryd.prog 72 [.int .u32 (BitVec.toNat a0 : Int)].toArray W (Ret fun u w' => (u = .int .i64 r ∧ InI r) ∧ Ext W w') := by
  refine f_enter Tryd.func72 rfl Tryd.ntmps72 rfl ?_
  intro a ha
  replace ha : Fr 5 [(0, (.int .u32 (BitVec.toNat a0 : Int)))] a := ha
  have hE : Chg [] W W := Chg.refl _ _
  unfold F_impl_vset_least at hF
  refine wp_seq ?_
  refine wp_region_lit ?_
  refine op_g ha rfl (g_assign rfl) ?_; clear ha a; intro a ha
  refine wpList_nil ?_
  replace ha := ha.sub (σ' := [(0, (.int .u32 (BitVec.toNat a0 : Int)))]) ⟨rfl, trivial⟩
  refine e_then ?_
  refine wp_seq ?_
  refine wp_region_lit ?_
  refine op_g ha rfl (g_move rfl) ?_; clear ha a; intro a ha
  obtain ⟨x1, hc2, hF⟩ := cal_some hF
  refine o_call ha rfl rfl Tryd.call87 (W_math_bits_TrailingZeros32 (hG.ext hE) hc2) ?_; clear ha a; rintro v3 w4 ⟨⟨rfl, hI6⟩, hx5⟩ a ha
  have hE7 := Ext.trans hE hx5
  refine op_g ha rfl (g_assign rfl) ?_; clear ha a; intro a ha
  refine wpList_nil ?_
  replace ha := ha.sub (σ' := [(2, (.int .i64 x1))]) ⟨rfl, trivial⟩
  refine e_then ?_
  refine wp_ret ?_
  obtain rfl := Option.some.inj hF
  exact f_ret1 ha rfl rfl ⟨⟨rfl, hI6⟩, hE7⟩
set_option maxHeartbeats 2000000 in
theorem W_impl_vset_list {W : World} {a0 : BitVec 32} (hG : GT 0 W) {r : (List Int)} (hF : F_impl_vset_list a0 = some r) :
    Calls Tryd.prog 46 [.int .u32 (BitVec.toNat a0 : Int)].toArray W (Ret fun u w' => ∃ (b_u : Int), Ow Rp.int 3 true w' [] b_u u r ∧ Zn W b_u ∧ Ext W w') := by
  refine f_enter Tryd.func46 rfl Tryd.ntmps46 rfl ?_
  intro a ha
  replace ha : Fr 17 [(0, (.int .u32 (BitVec.toNat a0 : Int)))] a := ha
  have hE : Chg [] W W := Chg.refl _ _
  unfold F_impl_vset_list at hF
  refine wp_seq ?_
  refine wp_region_lit ?_
  refine op_g ha rfl (g_assign rfl) ?_; clear ha a; intro a ha
  refine wpList_nil ?_
  replace ha := ha.sub (σ' := [(0, (.int .u32 (BitVec.toNat a0 : Int)))]) ⟨rfl, trivial⟩
  refine e_then ?_
  refine wp_seq ?_
  refine wp_region_lit ?_
  refine o_lit0 Rp.int ha rfl sl62 ?_; clear ha a; intro v1 w2 h3 hx4 a ha
  obtain ⟨b6, hb6⟩ : ∃ b : Int, b = W.heap.size := ⟨_, rfl⟩; rw [← hb6] at h3
  have q7 := zn_of hb6
  have q8 := Zn.upD q7 hE
  have hE9 := Ext.trans hE hx4
  refine op_g ha rfl (g_assign rfl) ?_; clear ha a; intro a ha
  refine wpList_nil ?_
  replace ha := ha.sub (σ' := [(0, (.int .u32 (BitVec.toNat a0 : Int))), (3, v1)]) ⟨rfl, rfl, trivial⟩
  refine e_then ?_
  refine wp_seq ?_
  obtain ⟨o109, ho110, hK111⟩ := bnd_some hF
  obtain ⟨n112, hn113⟩ := lp_some ho110; clear ho110
  refine c_loop (fun a w => ∃ (l106 : (List Int)) (v107 : Value) (b108 : Int), Fr 17 [(3, v107)] a ∧ Chg [] W w ∧ Ow Rp.int 3 true w [] b108 v107 l106 ∧ Zn W b108 ∧ o109 = .inl l106) (fun n a w => ∃ (u55 : BitVec 32) (l59 : (List Int)) (v60 : Value) (b61 : Int), Fr 17 [(0, (.int .u32 (BitVec.toNat u55 : Int))), (3, v60)] a ∧ Chg [] W w ∧ Ow Rp.int 3 true w [] b61 v60 l59 ∧ Zn W b61 ∧ lpN (fun s => F_impl_vset_list_l1 s.1 s.2) n (u55, l59) = some o109) n112 ⟨a0, ([] : (List Int)), v1, b6, ha.sub ⟨rfl, rfl, trivial⟩, hE9, h3, q8, hn113⟩ ?_ ?_
  · rintro m117 a w54 ⟨u55, l59, v60, b61, ha, hE62, h57, z58, hF⟩
    cases m117 with
    | zero => exact (lpN_zero hF).elim
    | succ m117 =>
      obtain ⟨z116, hF, hN115⟩ := lpN_succ hF
      have hF : F_impl_vset_list_l1 u55 l59 = some z116 := hF; unfold F_impl_vset_list_l1 at hF
      refine wp_seq ?_
      refine wp_seq ?_
      refine wp_region_lit ?_
      refine op_g ha rfl (g_move rfl) ?_; clear ha a; intro a ha
      refine op_g ha rfl (g32_neq (m := u55) (n := (0#32)) rfl rfl) ?_; clear ha a; intro a ha
      refine wpList_nil ?_
      replace ha := ha.sub (σ' := [(0, (.int .u32 (BitVec.toNat u55 : Int))), (3, v60), (6, (.bool (decide (u55 ≠ (0#32)))))]) ⟨rfl, rfl, rfl, trivial⟩
      refine e_then ?_
      refine c_cond (u55 ≠ (0#32)) ha rfl (decide_eq_true_iff) (fun hp118 => ?_) (fun hp118 => ?_)
      · replace hF := if_t hp118 hF
        refine wp_skip ?_
        refine e_then ?_
        refine wp_seq ?_
        refine wp_block ?_
        refine wp_region_lit ?_
        refine op_g ha rfl (g_move rfl) ?_; clear ha a; intro a ha
        refine op_g ha rfl (g_move rfl) ?_; clear ha a; intro a ha
        obtain ⟨x119, hc120, hF⟩ := cal_some hF
        refine o_call ha rfl rfl Tryd.call72 (W_impl_vset_least (hG.ext hE62) hc120) ?_; clear ha a; rintro v121 w122 ⟨⟨rfl, hI124⟩, hx123⟩ a ha
        replace h57 := h57.ext hx123
        have hE125 := Ext.trans hE62 hx123
        refine o_lit1 (o := true) (y := x119) Rp.int ha rfl sl62 rfl rfl rfl ⟨rfl, hI124, rfl⟩ ?_; clear ha a; intro v126 w127 h128 hx129 a ha
        obtain ⟨b131, hb131⟩ : ∃ b : Int, b = w122.heap.size := ⟨_, rfl⟩; rw [← hb131] at h128
        have q132 := zn_of hb131
        have q133 := Nq.new h57.fpb q132
        have q134 := Nq.madeO q132 h57.blt
        have q135 := Zn.upD q132 hE125
        replace h57 := h57.ext hx129
        have hE136 := Ext.trans hE125 hx129
        obtain ⟨hl137, hF⟩ := app_some hF
        refine o_append ha rfl sl62 rfl rfl rfl h57 h128.src (Nq.nil _) hl137 ?_; clear ha a; intro v138 w139 b140 h141 hc142 hb143 a ha
        replace h141 : Ow Rp.int 3 true w139 [] b140 v138 _ := h141
        have q145 := Nq.appY q134 h128.fpb hb143
        have q146 := Nq.appX q133 (Nq.nil _) hb143 h128.blt
        have q147 := Zn.appD z58 hb143 hE136
        replace h128 := h128.nq hc142 q134
        have hE148 := Ext.then hE136 hc142 (Zn.bl z58)
        refine op_g ha rfl (g_assign rfl) ?_; clear ha a; intro a ha
        refine wpList_nil ?_
        replace ha := ha.sub (σ' := [(0, (.int .u32 (BitVec.toNat u55 : Int))), (3, v138)]) ⟨rfl, rfl, trivial⟩
        refine e_blk ?_
        refine e_then ?_
        refine wp_region_lit ?_
        refine op_g ha rfl (g_move rfl) ?_; clear ha a; intro a ha
        refine op_g ha rfl (g_move rfl) ?_; clear ha a; intro a ha
        refine op_g ha rfl (g32_sub (m := u55) (n := (1#32)) rfl rfl) ?_; clear ha a; intro a ha
        refine op_g ha rfl (g32_and (m := u55) (n := (u55 - (1#32))) rfl rfl) ?_; clear ha a; intro a ha
        refine op_g ha rfl (g_assign rfl) ?_; clear ha a; intro a ha
        refine wpList_nil ?_
        replace ha := ha.sub (σ' := [(0, (.int .u32 (BitVec.toNat (u55 &&& (u55 - (1#32))) : Int))), (3, v138)]) ⟨rfl, rfl, trivial⟩
        refine e_lq ?_
        obtain rfl := Option.some.inj hF
        exact ⟨_, Nat.lt_succ_self _, u55 &&& (u55 - (1#32)), (l59 ++ ([x119])), v138, b140, ha.sub ⟨rfl, rfl, trivial⟩, hE148, h141, q147, hN115⟩
      · replace hF := if_f hp118 hF
        refine wp_exit ?_
        refine e_then_exit ?_
        refine e_lq_eq ?_
        obtain rfl := Option.some.inj hF
        exact ⟨l59, v60, b61, ha.sub ⟨rfl, trivial⟩, hE62, h57, z58, (LK_inr hN115).symm⟩
  · rintro a w102 ⟨l106, v107, b108, ha, hE114, h104, z105, rfl⟩
    have hF : F_impl_vset_list_k2 l106 = some _ := hK111; clear hK111; unfold F_impl_vset_list_k2 at hF
    refine e_then ?_
    refine wp_seq ?_
    refine wp_region_lit ?_
    refine op_g ha rfl (g_move rfl) ?_; clear ha a; intro a ha
    refine op_g ha rfl (g_assign rfl) ?_; clear ha a; intro a ha
    refine wpList_nil ?_
    replace ha := ha.sub (σ' := [(2, v107)]) ⟨rfl, trivial⟩
    refine e_then ?_
    refine wp_ret ?_
    obtain rfl := Option.some.inj hF
    exact f_ret1 ha rfl rfl ⟨_, h104, z105, hE114⟩
set_option maxHeartbeats 2000000 in
theorem W_impl_BestColours {W : World} {va0_0 : Value} {fa0_0 : List Nat} {a0_0 : (List (List Int))} (ha0_0 : Ro (Rp.sl 2 Rp.int) W fa0_0 va0_0 a0_0) (hG : GT 0 W) {r : (List Int)} (hF : F_impl_BestColours a0_0 = some r) :
    Calls Tryd.prog 19 [.agg #[va0_0]].toArray W (Ret fun u w' => ∃ (b_u : Int), Ow Rp.int 2 true w' [] b_u u r ∧ Zn W b_u ∧ Ext W w') := by
  refine f_enter Tryd.func19 rfl Tryd.ntmps19 rfl ?_
  intro a ha
  replace ha : Fr 38 [(0, (.agg #[va0_0]))] a := ha
  have hE : Chg [] W W := Chg.refl _ _
  unfold F_impl_BestColours at hF
  refine wp_seq ?_
  refine wp_region_lit ?_
  refine o_box ha rfl rfl rfl ?_; clear ha a; intro b1 w2 hB3 hx4 hlo5 a ha
  have q6 := Zn.one hlo5
  have q7 := Zn.upD q6 hE
  have hE8 := Ext.trans hE hx4
  refine op_g ha rfl (g_assign rfl) ?_; clear ha a; intro a ha
  refine wpList_nil ?_
  replace ha := ha.sub (σ' := [(1, (.pointer (some ⟨b1, 0, none⟩)))]) ⟨rfl, trivial⟩
  refine e_then ?_
  refine wp_seq ?_
  refine wp_seq ?_
  refine wp_region_lit ?_
  refine op_g ha rfl (g_loadA (cs := [va0_0]) Tryd.isAgg27 Tryd.sizeOf27 rfl (by simp) hB3.all) ?_; clear ha a; intro a ha
  obtain ⟨x9, hc10, hF⟩ := cal_some hF
  refine o_call ha rfl rfl Tryd.call43 (W_impl_GraphOk (ha0_0.ext hE8) hc10) ?_; clear ha a; rintro v11 w12 ⟨rfl, hx13⟩ a ha
  replace hB3 := hB3.ext hx13
  have hE14 := Ext.trans hE8 hx13
  refine op_g ha rfl (g_not rfl) ?_; clear ha a; intro a ha
  refine wpList_nil ?_
  replace ha := ha.sub (σ' := [(1, (.pointer (some ⟨b1, 0, none⟩))), (10, (.bool (!x9)))]) ⟨rfl, rfl, trivial⟩
  refine e_then ?_
  refine c_cond (¬ (x9 = true)) ha rfl (n_iff (Iff.rfl)) (fun hp15 => ?_) (fun hp15 => ?_)
  · replace hF := if_t hp15 hF
    refine wp_seq ?_
    refine wp_region_lit ?_
    refine op_g ha rfl (g_assign rfl) ?_; clear ha a; intro a ha
    refine wpList_nil ?_
    replace ha := ha.sub (σ' := [(2, (.slice none 0 0))]) ⟨rfl, trivial⟩
    refine e_then ?_
    refine wp_ret ?_
    refine e_then_ret ?_
    obtain rfl := Option.some.inj hF
    exact f_ret1 ha rfl rfl ⟨-1, (Ow.nil (by decide)), (.inl (by decide)), hE14⟩
  · replace hF := if_f hp15 hF
    refine wp_skip ?_
    refine e_then ?_
    refine wp_seq ?_
    refine wp_region_lit ?_
    refine op_g ha rfl (g_field0 st27_0 rfl) ?_; clear ha a; intro a ha
    refine op_g ha rfl (g_load Tryd.isAgg22 rfl (hB3.cell rfl)) ?_; clear ha a; intro a ha
    refine op_g ha rfl (g_lenR sl22.und ha0_0 rfl) ?_; clear ha a; intro a ha
    obtain ⟨g20, g20b, hF⟩ := mkS_some hF
    refine o_make (z0 := (0 : Int)) Rp.int ha rfl sl31 rfl (fun w => ⟨rfl, by decide, rfl⟩) rfl g20 g20b ?_; clear ha a; intro v16 w17 h18 hx19 a ha
    obtain ⟨b23, hb23⟩ : ∃ b : Int, b = w12.heap.size := ⟨_, rfl⟩; rw [← hb23] at h18
    have q24 := zn_of hb23
    have q25 := Nq.new hB3.fpb q24
    have q26 := Nq.madeO q24 hB3.bi
    have q27 := Zn.upD q24 hE14
    replace hB3 := hB3.ext hx19
    have hE28 := Ext.trans hE14 hx19
    refine op_g ha rfl (g_assign rfl) ?_; clear ha a; intro a ha
    refine wpList_nil ?_
    replace ha := ha.sub (σ' := [(1, (.pointer (some ⟨b1, 0, none⟩))), (3, v16)]) ⟨rfl, rfl, trivial⟩
    refine e_then ?_
    refine wp_seq ?_
    refine wp_seq ?_
    refine wp_region_lit ?_
    refine op_g ha rfl (g_loadA (cs := [va0_0]) Tryd.isAgg27 Tryd.sizeOf27 rfl (by simp) hB3.all) ?_; clear ha a; intro a ha
    obtain ⟨x29, hc30, hF⟩ := cal_some hF
    refine o_call ha rfl rfl Tryd.call44 (W_impl_netsOf (ha0_0.ext hE28) hc30) ?_; clear ha a; rintro v31 w32 ⟨b34, h35, z36, hx33⟩ a ha
    have q38 := Nq.new hB3.fpb z36
    have q39 := Nq.madeO z36 hB3.bi
    have q40 := Nq.new h18.fpb z36
    have q41 := Nq.madeO z36 h18.blt
    replace hB3 := hB3.ext hx33
    replace h18 := h18.ext hx33
    have hE42 := Ext.trans hE28 hx33
    have q43 := Zn.upD z36 hE28
    obtain ⟨fp44, hro45, hs46⟩ := h35.roF
    obtain ⟨x47, hc48, hF⟩ := cal_some hF
    refine o_call ha rfl rfl Tryd.call55 (W_impl_bestClasses hro45 hc48) ?_; clear ha a; rintro v49 w50 ⟨b52, h53, z54, hx51⟩ a ha
    have q56 := Nq.new hB3.fpb z54
    have q57 := Nq.madeO z54 hB3.bi
    have q58 := Nq.new h18.fpb z54
    have q59 := Nq.madeO z54 h18.blt
    have q60 := Nq.new h35.fpb z54
    have q61 := Nq.madeO z54 h35.blt
    replace hB3 := hB3.ext hx51
    replace h18 := h18.ext hx51
    replace h35 := h35.ext hx51
    have hE62 := Ext.trans hE42 hx51
    have q63 := Zn.upD z54 hE42
    refine op_g ha rfl (g_lenO sl54.und h53 rfl) ?_; clear ha a; intro a ha
    refine op_g ha rfl (g_move rfl) ?_; clear ha a; intro a ha
    refine wpList_nil ?_
    replace ha := ha.sub (σ' := [(3, v16), (17, v49), (18, (.int .i64 (x47.length : Int))), (19, (.int .i64 0))]) ⟨rfl, rfl, rfl, rfl, trivial⟩
    refine e_then ?_
    obtain ⟨o584, ho585, hK586⟩ := bnd_some hF
    obtain ⟨n587, hn588⟩ := lp_some ho585; clear ho585
    refine c_loop (fun a w => ∃ (l581 : (List Int)) (v582 : Value) (b583 : Int), Fr 38 [(3, v582)] a ∧ Chg [] W w ∧ Ow Rp.int 2 true w [] b583 v582 l581 ∧ Zn W b583 ∧ o584 = .inl l581) (fun n a w => ∃ (l322 : (List Int)) (i328 : Int) (v323 : Value) (b324 : Int), Fr 38 [(3, v323), (17, v49), (18, (.int .i64 (x47.length : Int))), (19, (.int .i64 i328))] a ∧ Chg [] W w ∧ InI i328 ∧ Ow Rp.int 2 true w [] b324 v323 l322 ∧ Zn W b324 ∧ Ow Rp.u32 59 true w [] b52 v49 x47 ∧ Zn W b52 ∧ Nq (bl b324 ++ []) b52 ∧ Nq (bl b52 ++ []) b324 ∧ lpN (fun s => F_impl_BestColours_l1 x47 s.1 s.2) n (l322, i328) = some o584) n587 ⟨(List.replicate ((a0_0.length : Int) : Int).toNat (0 : Int)), 0, v16, b23, ha.sub ⟨rfl, rfl, rfl, rfl, trivial⟩, hE62, (show InI 0 from by decide), h18, q27, h53, q63, q58, q59, hn588⟩ ?_ ?_
    · rintro m592 a w318 ⟨l322, i328, v323, b324, ha, hE332, hI329, h320, z321, h326, z327, q330, q331, hF⟩
      cases m592 with
      | zero => exact (lpN_zero hF).elim
      | succ m592 =>
        obtain ⟨z591, hF, hN590⟩ := lpN_succ hF
        have hF : F_impl_BestColours_l1 x47 l322 i328 = some z591 := hF; unfold F_impl_BestColours_l1 at hF
        refine wp_seq ?_
        refine wp_region_lit ?_
        refine op_g ha rfl (g_lss rfl rfl) ?_; clear ha a; intro a ha
        refine wpList_nil ?_
        replace ha := ha.sub (σ' := [(3, v323), (17, v49), (18, (.int .i64 (x47.length : Int))), (19, (.int .i64 i328)), (20, (.bool (decide (i328 < (x47.length : Int)))))]) ⟨rfl, rfl, rfl, rfl, rfl, trivial⟩
        refine e_then ?_
        refine wp_seq ?_
        refine c_cond (i328 < (x47.length : Int)) ha rfl (decide_eq_true_iff) (fun hp593 => ?_) (fun hp593 => ?_)
        · replace hF := if_t hp593 hF
          refine wp_skip ?_
          refine e_then ?_
          refine wp_seq ?_
          refine wp_block ?_
          refine wp_seq ?_
          refine wp_region_lit ?_
          refine op_g ha rfl (g_move rfl) ?_; clear ha a; intro a ha
          obtain ⟨x594, g595, gx596, hF⟩ := idx_some hF
          obtain ⟨p597, cs598, f599, hf600, hpb601, hat602, hr603, hi604⟩ := h326.at g595 gx596
          obtain ⟨rfl, rfl⟩ := hr603
          refine op_g ha rfl (hi604.gives sl54 rfl rfl) ?_; clear ha a; intro a ha
          refine op_g ha rfl (g_load Tryd.isAgg59 rfl hat602.one) ?_; clear ha a; intro a ha
          refine op_g ha rfl (g_assign rfl) ?_; clear ha a; intro a ha
          refine op_g ha rfl (g_assign rfl) ?_; clear ha a; intro a ha
          refine wpList_nil ?_
          replace ha := ha.sub (σ' := [(3, v323), (4, (.int .i64 i328)), (5, (.int .u32 (BitVec.toNat x594 : Int))), (17, v49), (18, (.int .i64 (x47.length : Int))), (19, (.int .i64 i328))]) ⟨rfl, rfl, rfl, rfl, rfl, rfl, trivial⟩
          refine e_then ?_
          refine wp_seq ?_
          refine wp_region_lit ?_
          refine op_g ha rfl (g_move rfl) ?_; clear ha a; intro a ha
          obtain ⟨x605, hc606, hF⟩ := cal_some hF
          refine o_call ha rfl rfl Tryd.call46 (W_impl_vset_list (hG.ext hE332) hc606) ?_; clear ha a; rintro v607 w608 ⟨b610, h611, z612, hx609⟩ a ha
          have q614 := Nq.new h320.fpb z612
          have q615 := Nq.madeO z612 h320.blt
          have q616 := Nq.new h326.fpb z612
          have q617 := Nq.madeO z612 h326.blt
          replace h320 := h320.ext hx609
          replace h326 := h326.ext hx609
          have hE618 := Ext.trans hE332 hx609
          have q619 := Zn.upD z612 hE332
          refine op_g ha rfl (g_lenO sl62.und h611 rfl) ?_; clear ha a; intro a ha
          refine op_g ha rfl (g_move rfl) ?_; clear ha a; intro a ha
          refine wpList_nil ?_
          replace ha := ha.sub (σ' := [(3, v323), (4, (.int .i64 i328)), (17, v49), (18, (.int .i64 (x47.length : Int))), (19, (.int .i64 i328)), (25, v607), (26, (.int .i64 (x605.length : Int))), (27, (.int .i64 0))]) ⟨rfl, rfl, rfl, rfl, rfl, rfl, rfl, rfl, trivial⟩
          refine e_then ?_
          obtain ⟨o779, ho780, hK781⟩ := bnd_some hF
          obtain ⟨n782, hn783⟩ := lp_some ho780; clear ho780
          refine c_loop (fun a w => ∃ (l771 : (List Int)) (v772 : Value) (b773 : Int), Fr 38 [(3, v772), (17, v49), (18, (.int .i64 (x47.length : Int))), (19, (.int .i64 i328))] a ∧ Chg [] W w ∧ Ow Rp.int 2 true w [] b773 v772 l771 ∧ Zn W b773 ∧ Ow Rp.u32 59 true w [] b52 v49 x47 ∧ Zn W b52 ∧ Nq (bl b773 ++ []) b52 ∧ Nq (bl b52 ++ []) b773 ∧ o779 = .inl l771) (fun n a w => ∃ (l695 : (List Int)) (i704 : Int) (v696 : Value) (b697 : Int), Fr 38 [(3, v696), (4, (.int .i64 i328)), (17, v49), (18, (.int .i64 (x47.length : Int))), (19, (.int .i64 i328)), (25, v607), (26, (.int .i64 (x605.length : Int))), (27, (.int .i64 i704))] a ∧ Chg [] W w ∧ InI i704 ∧ Ow Rp.int 2 true w [] b697 v696 l695 ∧ Zn W b697 ∧ Ow Rp.u32 59 true w [] b52 v49 x47 ∧ Zn W b52 ∧ Ow Rp.int 3 true w [] b610 v607 x605 ∧ Zn W b610 ∧ Nq (bl b697 ++ []) b52 ∧ Nq (bl b697 ++ []) b610 ∧ Nq (bl b52 ++ []) b697 ∧ Nq (bl b52 ++ []) b610 ∧ Nq (bl b610 ++ []) b697 ∧ Nq (bl b610 ++ []) b52 ∧ lpN (fun s => F_impl_BestColours_l2 i328 x605 s.1 s.2) n (l695, i704) = some o779) n782 ⟨l322, 0, v323, b324, ha.sub ⟨rfl, rfl, rfl, rfl, rfl, rfl, rfl, rfl, trivial⟩, hE618, (show InI 0 from by decide), h320, z321, h326, z327, h611, q619, q330, q614, q331, q616, q615, q617, hn783⟩ ?_ ?_
          · rintro m787 a w691 ⟨l695, i704, v696, b697, ha, hE712, hI705, h693, z694, h699, z700, h702, z703, q706, q707, q708, q709, q710, q711, hF⟩
            cases m787 with
            | zero => exact (lpN_zero hF).elim
            | succ m787 =>
              obtain ⟨z786, hF, hN785⟩ := lpN_succ hF
              have hF : F_impl_BestColours_l2 i328 x605 l695 i704 = some z786 := hF; unfold F_impl_BestColours_l2 at hF
              refine wp_seq ?_
              refine wp_region_lit ?_
              refine op_g ha rfl (g_lss rfl rfl) ?_; clear ha a; intro a ha
              refine wpList_nil ?_
              replace ha := ha.sub (σ' := [(3, v696), (4, (.int .i64 i328)), (17, v49), (18, (.int .i64 (x47.length : Int))), (19, (.int .i64 i328)), (25, v607), (26, (.int .i64 (x605.length : Int))), (27, (.int .i64 i704)), (28, (.bool (decide (i704 < (x605.length : Int)))))]) ⟨rfl, rfl, rfl, rfl, rfl, rfl, rfl, rfl, rfl, trivial⟩
              refine e_then ?_
              refine wp_seq ?_
              refine c_cond (i704 < (x605.length : Int)) ha rfl (decide_eq_true_iff) (fun hp788 => ?_) (fun hp788 => ?_)
              · replace hF := if_t hp788 hF
                refine wp_skip ?_
                refine e_then ?_
                refine wp_seq ?_
                refine wp_block ?_
                refine wp_seq ?_
                refine wp_region_lit ?_
                obtain ⟨x789, g790, gx791, hF⟩ := idx_some hF
                obtain ⟨p792, cs793, f794, hf795, hpb796, hat797, hr798, hi799⟩ := h702.at g790 gx791
                obtain ⟨rfl, hI800, rfl⟩ := hr798
                refine op_g ha rfl (hi799.gives sl62 rfl rfl) ?_; clear ha a; intro a ha
                refine op_g ha rfl (g_load Tryd.isAgg3 rfl hat797.one) ?_; clear ha a; intro a ha
                refine op_g ha rfl (g_assign rfl) ?_; clear ha a; intro a ha
                refine wpList_nil ?_
                replace ha := ha.sub (σ' := [(3, v696), (4, (.int .i64 i328)), (7, (.int .i64 x789)), (17, v49), (18, (.int .i64 (x47.length : Int))), (19, (.int .i64 i328)), (25, v607), (26, (.int .i64 (x605.length : Int))), (27, (.int .i64 i704))]) ⟨rfl, rfl, rfl, rfl, rfl, rfl, rfl, rfl, rfl, trivial⟩
                refine e_then ?_
                refine wp_region_lit ?_
                refine op_g ha rfl (g_move rfl) ?_; clear ha a; intro a ha
                refine op_g ha rfl (g_move rfl) ?_; clear ha a; intro a ha
                refine op_g ha rfl (g_move rfl) ?_; clear ha a; intro a ha
                obtain ⟨x801, g802, gx803, hF⟩ := idx_some hF
                obtain ⟨p804, cs805, f806, hf807, hpb808, hat809, hr810, hi811⟩ := h693.at g802 gx803
                obtain ⟨rfl, hI812, rfl⟩ := hr810
                refine op_g ha rfl (hi811.gives sl31 rfl rfl) ?_; clear ha a; intro a ha
                refine o_storeE (f := []) (q := i328) ha Tryd.sizeOf2 rfl rfl rfl h693 hi811 ⟨rfl, hI329, rfl⟩ (Nq.nil _) ?_; intro w813 fs814 h815 hc816 hs817
                obtain rfl := Subst.nil hs817
                replace h699 := h699.nq hc816 q708
                replace h702 := h702.nq hc816 q710
                have hE818 := Ext.then hE712 hc816 (Zn.bl z694)
                refine wpList_nil ?_
                replace ha := ha.sub (σ' := [(3, v696), (4, (.int .i64 i328)), (17, v49), (18, (.int .i64 (x47.length : Int))), (19, (.int .i64 i328)), (25, v607), (26, (.int .i64 (x605.length : Int))), (27, (.int .i64 i704))]) ⟨rfl, rfl, rfl, rfl, rfl, rfl, rfl, rfl, trivial⟩
                refine e_blk ?_
                refine e_then ?_
                refine wp_region_lit ?_
                obtain ⟨hI819, hF⟩ := ck_some hF
                refine op_g ha rfl (g_add rfl rfl hI819) ?_; clear ha a; intro a ha
                refine op_g ha rfl (g_move rfl) ?_; clear ha a; intro a ha
                refine wpList_nil ?_
                replace ha := ha.sub (σ' := [(3, v696), (4, (.int .i64 i328)), (17, v49), (18, (.int .i64 (x47.length : Int))), (19, (.int .i64 i328)), (25, v607), (26, (.int .i64 (x605.length : Int))), (27, (.int .i64 (i704 + 1)))]) ⟨rfl, rfl, rfl, rfl, rfl, rfl, rfl, rfl, trivial⟩
                refine e_lq ?_
                obtain rfl := Option.some.inj hF
                exact ⟨_, Nat.lt_succ_self _, (l695.set ((x789 : Int).toNat) i328), i704 + 1, v696, b697, ha.sub ⟨rfl, rfl, rfl, rfl, rfl, rfl, rfl, rfl, trivial⟩, hE818, hI819, h815, z694, h699, z700, h702, z703, q706, q707, q708, q709, q710, q711, hN785⟩
              · replace hF := if_f hp788 hF
                refine wp_exit ?_
                refine e_then_exit ?_
                refine e_lq_eq ?_
                obtain rfl := Option.some.inj hF
                exact ⟨l695, v696, b697, ha.sub ⟨rfl, rfl, rfl, rfl, trivial⟩, hE712, h693, z694, h699, z700, q706, q708, (LK_inr hN785).symm⟩
          · rintro a w767 ⟨l771, v772, b773, ha, hE784, h769, z770, h775, z776, q777, q778, rfl⟩
            have hF : F_impl_BestColours_k3 i328 l771 = some _ := hK781; clear hK781; unfold F_impl_BestColours_k3 at hF
            refine e_blk ?_
            refine e_then ?_
            refine wp_region_lit ?_
            obtain ⟨hI821, hF⟩ := ck_some hF
            refine op_g ha rfl (g_add rfl rfl hI821) ?_; clear ha a; intro a ha
            refine op_g ha rfl (g_move rfl) ?_; clear ha a; intro a ha
            refine wpList_nil ?_
            replace ha := ha.sub (σ' := [(3, v772), (17, v49), (18, (.int .i64 (x47.length : Int))), (19, (.int .i64 (i328 + 1)))]) ⟨rfl, rfl, rfl, rfl, trivial⟩
            refine e_lq ?_
            obtain rfl := Option.some.inj hF
            exact ⟨_, Nat.lt_succ_self _, l771, i328 + 1, v772, b773, ha.sub ⟨rfl, rfl, rfl, rfl, trivial⟩, hE784, hI821, h769, z770, h775, z776, q777, q778, hN590⟩
        · replace hF := if_f hp593 hF
          refine wp_exit ?_
          refine e_then_exit ?_
          refine e_lq_eq ?_
          obtain rfl := Option.some.inj hF
          exact ⟨l322, v323, b324, ha.sub ⟨rfl, trivial⟩, hE332, h320, z321, (LK_inr hN590).symm⟩
    · rintro a w577 ⟨l581, v582, b583, ha, hE589, h579, z580, rfl⟩
      have hF : F_impl_BestColours_k4 l581 = some _ := hK586; clear hK586; unfold F_impl_BestColours_k4 at hF
      refine e_then ?_
      refine wp_seq ?_
      refine wp_region_lit ?_
      refine op_g ha rfl (g_move rfl) ?_; clear ha a; intro a ha
      refine op_g ha rfl (g_assign rfl) ?_; clear ha a; intro a ha
      refine wpList_nil ?_
      replace ha := ha.sub (σ' := [(2, v582)]) ⟨rfl, trivial⟩
      refine e_then ?_
      refine wp_ret ?_
      obtain rfl := Option.some.inj hF
      exact f_ret1 ha rfl rfl ⟨_, h579, z580, hE589⟩
set_option maxHeartbeats 2000000 in
theorem W_laws_eqInt64S {W : World} {va0 : Value} {fa0 : List Nat} {a0 : (List Int)} (ha0 : Ro Rp.int W fa0 va0 a0) {va1 : Value} {fa1 : List Nat} {a1 : (List Int)} (ha1 : Ro Rp.int W fa1 va1 a1) {r : Bool} (hF : F_laws_eqInt64S a0 a1 = some r) :
    Calls Tryd.prog 17 [va0, va1].toArray W (Ret fun u w' => u = .bool r ∧ Ext W w') := by
  refine f_enter Tryd.func17 rfl Tryd.ntmps17 rfl ?_
  intro a ha
  replace ha : Fr 26 [(0, va0), (1, va1)] a := ha
  have hE : Chg [] W W := Chg.refl _ _
  unfold F_laws_eqInt64S at hF
  refine wp_seq ?_
  refine wp_region_lit ?_
  refine op_g ha rfl (g_assign rfl) ?_; clear ha a; intro a ha
  refine wpList_nil ?_
  replace ha := ha.sub (σ' := [(0, va0), (1, va1)]) ⟨rfl, rfl, trivial⟩
  refine e_then ?_
  refine wp_seq ?_
  refine wp_seq ?_
  refine wp_region_lit ?_
  refine op_g ha rfl (g_move rfl) ?_; clear ha a; intro a ha
  refine op_g ha rfl (g_lenR sl31.und ha0 rfl) ?_; clear ha a; intro a ha
  refine op_g ha rfl (g_move rfl) ?_; clear ha a; intro a ha
  refine op_g ha rfl (g_lenR sl31.und ha1 rfl) ?_; clear ha a; intro a ha
  refine op_g ha rfl (g_neq rfl rfl) ?_; clear ha a; intro a ha
  refine wpList_nil ?_
  replace ha := ha.sub (σ' := [(0, va0), (1, va1), (10, (.bool (decide ((a0.length : Int) ≠ (a1.length : Int)))))]) ⟨rfl, rfl, rfl, trivial⟩
  refine e_then ?_
  refine c_cond ((a0.length : Int) ≠ (a1.length : Int)) ha rfl (decide_eq_true_iff) (fun hp1 => ?_) (fun hp1 => ?_)
  · replace hF := if_t hp1 hF
    refine wp_seq ?_
    refine wp_region_lit ?_
    refine op_g ha rfl (g_assign rfl) ?_; clear ha a; intro a ha
    refine wpList_nil ?_
    replace ha := ha.sub (σ' := [(4, (.bool false))]) ⟨rfl, trivial⟩
    refine e_then ?_
    refine wp_ret ?_
    refine e_then_ret ?_
    obtain rfl := Option.some.inj hF
    exact f_ret1 ha rfl rfl ⟨rfl, hE⟩
  · replace hF := if_f hp1 hF
    refine wp_skip ?_
    refine e_then ?_
    refine wp_seq ?_
    refine wp_seq ?_
    refine wp_region_lit ?_
    refine op_g ha rfl (g_assign rfl) ?_; clear ha a; intro a ha
    refine wpList_nil ?_
    replace ha := ha.sub (σ' := [(0, va0), (1, va1), (5, (.int .i64 0))]) ⟨rfl, rfl, rfl, trivial⟩
    refine e_then ?_
    obtain ⟨o77, ho78, hK79⟩ := bnd_some hF
    obtain ⟨n80, hn81⟩ := lp_some ho78; clear ho78
    refine c_loop (fun a w => Fr 26 [] a ∧ Chg [] W w ∧ o77 = .inl ()) (fun n a w => ∃ (i39 : Int), Fr 26 [(0, va0), (1, va1), (5, (.int .i64 i39))] a ∧ Chg [] W w ∧ InI i39 ∧ lpN (fun s => F_laws_eqInt64S_l1 a0 a1 s) n i39 = some o77) n80 ⟨0, ha.sub ⟨rfl, rfl, rfl, trivial⟩, hE, (show InI 0 from by decide), hn81⟩ ?_ ?_
    · rintro m85 a w38 ⟨i39, ha, hE41, hI40, hF⟩
      cases m85 with
      | zero => exact (lpN_zero hF).elim
      | succ m85 =>
        obtain ⟨z84, hF, hN83⟩ := lpN_succ hF
        have hF : F_laws_eqInt64S_l1 a0 a1 i39 = some z84 := hF; unfold F_laws_eqInt64S_l1 at hF
        refine wp_seq ?_
        refine wp_seq ?_
        refine wp_region_lit ?_
        refine op_g ha rfl (g_move rfl) ?_; clear ha a; intro a ha
        refine op_g ha rfl (g_move rfl) ?_; clear ha a; intro a ha
        refine op_g ha rfl (g_lenR sl31.und ha0 rfl) ?_; clear ha a; intro a ha
        refine op_g ha rfl (g_lss rfl rfl) ?_; clear ha a; intro a ha
        refine wpList_nil ?_
        replace ha := ha.sub (σ' := [(0, va0), (1, va1), (5, (.int .i64 i39)), (14, (.bool (decide (i39 < (a0.length : Int)))))]) ⟨rfl, rfl, rfl, rfl, trivial⟩
        refine e_then ?_
        refine c_cond (i39 < (a0.length : Int)) ha rfl (decide_eq_true_iff) (fun hp86 => ?_) (fun hp86 => ?_)
        · replace hF := if_t hp86 hF
          refine wp_skip ?_
          refine e_then ?_
          refine wp_seq ?_
          refine wp_block ?_
          refine wp_seq ?_
          refine d_quiet hmix (by kernel_rfl) ?_
          refine q_g ha rfl (g_move rfl) ?_; clear ha a; intro a ha
          refine q_g ha rfl (g_move rfl) ?_; clear ha a; intro a ha
          obtain ⟨x87, g88, gx89, hF⟩ := idx_some hF
          obtain ⟨p90, cs91, f92, hf93, hpb94, hat95, hr96, hi97⟩ := ha0.at g88 gx89
          obtain ⟨rfl, hI98, rfl⟩ := hr96
          refine q_g ha rfl (hi97.gives sl31 rfl rfl) ?_; clear ha a; intro a ha
          refine q_g ha rfl (g_load0 hE41 Tryd.isAgg2 rfl hat95.one) ?_; clear ha a; intro a ha
          refine q_g ha rfl (g_move rfl) ?_; clear ha a; intro a ha
          refine q_g ha rfl (g_move rfl) ?_; clear ha a; intro a ha
          obtain ⟨x99, g100, gx101, hF⟩ := idx_some hF
          obtain ⟨p102, cs103, f104, hf105, hpb106, hat107, hr108, hi109⟩ := ha1.at g100 gx101
          obtain ⟨rfl, hI110, rfl⟩ := hr108
          refine q_g ha rfl (hi109.gives sl31 rfl rfl) ?_; clear ha a; intro a ha
          refine q_g ha rfl (g_load0 hE41 Tryd.isAgg2 rfl hat107.one) ?_; clear ha a; intro a ha
          refine q_g ha rfl (g_neq rfl rfl) ?_; clear ha a; intro a ha
          refine q_nil ?_; intro w111 hx112
          have hE113 := Ext.trans hE41 hx112
          replace ha := ha.sub (σ' := [(0, va0), (1, va1), (5, (.int .i64 i39)), (25, (.bool (decide (x87 ≠ x99))))]) ⟨rfl, rfl, rfl, rfl, trivial⟩
          refine e_then ?_
          refine c_cond (x87 ≠ x99) ha rfl (decide_eq_true_iff) (fun hp114 => ?_) (fun hp114 => ?_)
          · replace hF := if_t hp114 hF
            refine wp_seq ?_
            refine wp_region_lit ?_
            refine op_g ha rfl (g_assign rfl) ?_; clear ha a; intro a ha
            refine wpList_nil ?_
            replace ha := ha.sub (σ' := [(4, (.bool false))]) ⟨rfl, trivial⟩
            refine e_then ?_
            refine wp_ret ?_
            refine e_blk_ret ?_
            refine e_then_ret ?_
            refine e_lq_ret ?_
            refine e_then_ret ?_
            obtain rfl := Option.some.inj hF
            have e115 := LK_inr hN83; subst e115
            have e116 := BK_inr hK79; subst e116
            exact f_ret1 ha rfl rfl ⟨rfl, hE113⟩
          · replace hF := if_f hp114 hF
            refine wp_skip ?_
            refine e_blk ?_
            refine e_then ?_
            refine wp_region_lit ?_
            refine op_g ha rfl (g_move rfl) ?_; clear ha a; intro a ha
            obtain ⟨hI117, hF⟩ := ck_some hF
            refine op_g ha rfl (g_add rfl rfl hI117) ?_; clear ha a; intro a ha
            refine op_g ha rfl (g_assign rfl) ?_; clear ha a; intro a ha
            refine wpList_nil ?_
            replace ha := ha.sub (σ' := [(0, va0), (1, va1), (5, (.int .i64 (i39 + 1)))]) ⟨rfl, rfl, rfl, trivial⟩
            refine e_lq ?_
            obtain rfl := Option.some.inj hF
            exact ⟨_, Nat.lt_succ_self _, i39 + 1, ha.sub ⟨rfl, rfl, rfl, trivial⟩, hE113, hI117, hN83⟩
        · replace hF := if_f hp86 hF
          refine wp_exit ?_
          refine e_then_exit ?_
          refine e_lq_eq ?_
          obtain rfl := Option.some.inj hF
          exact ⟨ha.sub trivial, hE41, (LK_inr hN83).symm⟩
    · rintro a w76 ⟨ha, hE82, rfl⟩
      have hF : F_laws_eqInt64S_k2 = some _ := hK79; clear hK79; unfold F_laws_eqInt64S_k2 at hF
      refine e_then ?_
      refine wp_seq ?_
      refine wp_region_lit ?_
      refine op_g ha rfl (g_assign rfl) ?_; clear ha a; intro a ha
      refine wpList_nil ?_
      refine e_then ?_
      refine wp_ret ?_
      obtain rfl := Option.some.inj hF
      exact f_ret1 ha rfl rfl ⟨rfl, hE82⟩
set_option maxHeartbeats 2000000 in
theorem W_laws_eqInt64SS {W : World} {va0 : Value} {fa0 : List Nat} {a0 : (List (List Int))} (ha0 : Ro (Rp.sl 2 Rp.int) W fa0 va0 a0) {va1 : Value} {fa1 : List Nat} {a1 : (List (List Int))} (ha1 : Ro (Rp.sl 2 Rp.int) W fa1 va1 a1) {r : Bool} (hF : F_laws_eqInt64SS a0 a1 = some r) :
    Calls Tryd.prog 33 [va0, va1].toArray W (Ret fun u w' => u = .bool r ∧ Ext W w') := by
  refine f_enter Tryd.func33 rfl Tryd.ntmps33 rfl ?_
  intro a ha
  replace ha : Fr 27 [(0, va0), (1, va1)] a := ha
  have hE : Chg [] W W := Chg.refl _ _
  unfold F_laws_eqInt64SS at hF
  refine wp_seq ?_
  refine wp_region_lit ?_
  refine op_g ha rfl (g_assign rfl) ?_; clear ha a; intro a ha
  refine wpList_nil ?_
  replace ha := ha.sub (σ' := [(0, va0), (1, va1)]) ⟨rfl, rfl, trivial⟩
  refine e_then ?_
  refine wp_seq ?_
  refine wp_seq ?_
  refine wp_region_lit ?_
  refine op_g ha rfl (g_move rfl) ?_; clear ha a; intro a ha
  refine op_g ha rfl (g_lenR sl22.und ha0 rfl) ?_; clear ha a; intro a ha
  refine op_g ha rfl (g_move rfl) ?_; clear ha a; intro a ha
  refine op_g ha rfl (g_lenR sl22.und ha1 rfl) ?_; clear ha a; intro a ha
  refine op_g ha rfl (g_neq rfl rfl) ?_; clear ha a; intro a ha
  refine wpList_nil ?_
  replace ha := ha.sub (σ' := [(0, va0), (1, va1), (10, (.bool (decide ((a0.length : Int) ≠ (a1.length : Int)))))]) ⟨rfl, rfl, rfl, trivial⟩
  refine e_then ?_
  refine c_cond ((a0.length : Int) ≠ (a1.length : Int)) ha rfl (decide_eq_true_iff) (fun hp1 => ?_) (fun hp1 => ?_)
  · replace hF := if_t hp1 hF
    refine wp_seq ?_
    refine wp_region_lit ?_
    refine op_g ha rfl (g_assign rfl) ?_; clear ha a; intro a ha
    refine wpList_nil ?_
    replace ha := ha.sub (σ' := [(4, (.bool false))]) ⟨rfl, trivial⟩
    refine e_then ?_
    refine wp_ret ?_
    refine e_then_ret ?_
    obtain rfl := Option.some.inj hF
    exact f_ret1 ha rfl rfl ⟨rfl, hE⟩
  · replace hF := if_f hp1 hF
    refine wp_skip ?_
    refine e_then ?_
    refine wp_seq ?_
    refine wp_seq ?_
    refine wp_region_lit ?_
    refine op_g ha rfl (g_assign rfl) ?_; clear ha a; intro a ha
    refine wpList_nil ?_
    replace ha := ha.sub (σ' := [(0, va0), (1, va1), (5, (.int .i64 0))]) ⟨rfl, rfl, rfl, trivial⟩
    refine e_then ?_
    obtain ⟨o93, ho94, hK95⟩ := bnd_some hF
    obtain ⟨n96, hn97⟩ := lp_some ho94; clear ho94
    refine c_loop (fun a w => Fr 27 [] a ∧ Chg [] W w ∧ o93 = .inl ()) (fun n a w => ∃ (i47 : Int), Fr 27 [(0, va0), (1, va1), (5, (.int .i64 i47))] a ∧ Chg [] W w ∧ InI i47 ∧ lpN (fun s => F_laws_eqInt64SS_l1 a0 a1 s) n i47 = some o93) n96 ⟨0, ha.sub ⟨rfl, rfl, rfl, trivial⟩, hE, (show InI 0 from by decide), hn97⟩ ?_ ?_
    · rintro m101 a w46 ⟨i47, ha, hE49, hI48, hF⟩
      cases m101 with
      | zero => exact (lpN_zero hF).elim
      | succ m101 =>
        obtain ⟨z100, hF, hN99⟩ := lpN_succ hF
        have hF : F_laws_eqInt64SS_l1 a0 a1 i47 = some z100 := hF; unfold F_laws_eqInt64SS_l1 at hF
        refine wp_seq ?_
        refine wp_seq ?_
        refine wp_region_lit ?_
        refine op_g ha rfl (g_move rfl) ?_; clear ha a; intro a ha
        refine op_g ha rfl (g_move rfl) ?_; clear ha a; intro a ha
        refine op_g ha rfl (g_lenR sl22.und ha0 rfl) ?_; clear ha a; intro a ha
        refine op_g ha rfl (g_lss rfl rfl) ?_; clear ha a; intro a ha
        refine wpList_nil ?_
        replace ha := ha.sub (σ' := [(0, va0), (1, va1), (5, (.int .i64 i47)), (14, (.bool (decide (i47 < (a0.length : Int)))))]) ⟨rfl, rfl, rfl, rfl, trivial⟩
        refine e_then ?_
        refine c_cond (i47 < (a0.length : Int)) ha rfl (decide_eq_true_iff) (fun hp102 => ?_) (fun hp102 => ?_)
        · replace hF := if_t hp102 hF
          refine wp_skip ?_
          refine e_then ?_
          refine wp_seq ?_
          refine wp_block ?_
          refine wp_seq ?_
          refine d_quiet hmix (by kernel_rfl) ?_
          refine q_g ha rfl (g_move rfl) ?_; clear ha a; intro a ha
          refine q_g ha rfl (g_move rfl) ?_; clear ha a; intro a ha
          obtain ⟨x103, g104, gx105, hF⟩ := idx_some hF
          obtain ⟨p106, cs107, f108, hf109, hpb110, hat111, hr112, hi113⟩ := ha0.at g104 gx105
          obtain ⟨v114, rfl, h115⟩ := hr112
          have h115 : Ro Rp.int W f108 v114 x103 := h115
          refine q_g ha rfl (hi113.gives sl22 rfl rfl) ?_; clear ha a; intro a ha
          refine q_g ha rfl (g_load0 hE49 Tryd.isAgg31 rfl hat111.one) ?_; clear ha a; intro a ha
          refine q_g ha rfl (g_move rfl) ?_; clear ha a; intro a ha
          refine q_g ha rfl (g_move rfl) ?_; clear ha a; intro a ha
          obtain ⟨x117, g118, gx119, hF⟩ := idx_some hF
          obtain ⟨p120, cs121, f122, hf123, hpb124, hat125, hr126, hi127⟩ := ha1.at g118 gx119
          obtain ⟨v128, rfl, h129⟩ := hr126
          have h129 : Ro Rp.int W f122 v128 x117 := h129
          refine q_g ha rfl (hi127.gives sl22 rfl rfl) ?_; clear ha a; intro a ha
          refine q_g ha rfl (g_load0 hE49 Tryd.isAgg31 rfl hat125.one) ?_; clear ha a; intro a ha
          obtain ⟨x133, hc134, hF⟩ := cal_some hF
          refine q_call (.bool x133) ha rfl rfl Tryd.call17 (fun w132 hx131 => W_laws_eqInt64S (h115.ext (Ext.trans hE49 hx131)) (h129.ext (Ext.trans hE49 hx131)) hc134) (fun _ _ _ h => ⟨h.1, h.2⟩) ?_; clear ha a; intro a ha
          refine q_g ha rfl (g_not rfl) ?_; clear ha a; intro a ha
          refine q_nil ?_; intro w135 hx136
          have hE137 := Ext.trans hE49 hx136
          replace ha := ha.sub (σ' := [(0, va0), (1, va1), (5, (.int .i64 i47)), (26, (.bool (!x133)))]) ⟨rfl, rfl, rfl, rfl, trivial⟩
          refine e_then ?_
          refine c_cond (¬ (x133 = true)) ha rfl (n_iff (Iff.rfl)) (fun hp138 => ?_) (fun hp138 => ?_)
          · replace hF := if_t hp138 hF
            refine wp_seq ?_
            refine wp_region_lit ?_
            refine op_g ha rfl (g_assign rfl) ?_; clear ha a; intro a ha
            refine wpList_nil ?_
            replace ha := ha.sub (σ' := [(4, (.bool false))]) ⟨rfl, trivial⟩
            refine e_then ?_
            refine wp_ret ?_
            refine e_blk_ret ?_
            refine e_then_ret ?_
            refine e_lq_ret ?_
            refine e_then_ret ?_
            obtain rfl := Option.some.inj hF
            have e139 := LK_inr hN99; subst e139
            have e140 := BK_inr hK95; subst e140
            exact f_ret1 ha rfl rfl ⟨rfl, hE137⟩
          · replace hF := if_f hp138 hF
            refine wp_skip ?_
            refine e_blk ?_
            refine e_then ?_
            refine wp_region_lit ?_
            refine op_g ha rfl (g_move rfl) ?_; clear ha a; intro a ha
            obtain ⟨hI141, hF⟩ := ck_some hF
            refine op_g ha rfl (g_add rfl rfl hI141) ?_; clear ha a; intro a ha
            refine op_g ha rfl (g_assign rfl) ?_; clear ha a; intro a ha
            refine wpList_nil ?_
            replace ha := ha.sub (σ' := [(0, va0), (1, va1), (5, (.int .i64 (i47 + 1)))]) ⟨rfl, rfl, rfl, trivial⟩
            refine e_lq ?_
            obtain rfl := Option.some.inj hF
            exact ⟨_, Nat.lt_succ_self _, i47 + 1, ha.sub ⟨rfl, rfl, rfl, trivial⟩, hE137, hI141, hN99⟩
        · replace hF := if_f hp102 hF
          refine wp_exit ?_
          refine e_then_exit ?_
          refine e_lq_eq ?_
          obtain rfl := Option.some.inj hF
          exact ⟨ha.sub trivial, hE49, (LK_inr hN99).symm⟩
    · rintro a w92 ⟨ha, hE98, rfl⟩
      have hF : F_laws_eqInt64SS_k2 = some _ := hK95; clear hK95; unfold F_laws_eqInt64SS_k2 at hF
      refine e_then ?_
      refine wp_seq ?_
      refine wp_region_lit ?_
      refine op_g ha rfl (g_assign rfl) ?_; clear ha a; intro a ha
      refine wpList_nil ?_
      refine e_then ?_
      refine wp_ret ?_
      obtain rfl := Option.some.inj hF
      exact f_ret1 ha rfl rfl ⟨rfl, hE98⟩
set_option maxHeartbeats 2000000 in
theorem W_laws_eqGraph {W : World} {va0_0 : Value} {fa0_0 : List Nat} {a0_0 : (List (List Int))} (ha0_0 : Ro (Rp.sl 2 Rp.int) W fa0_0 va0_0 a0_0) {va1_0 : Value} {fa1_0 : List Nat} {a1_0 : (List (List Int))} (ha1_0 : Ro (Rp.sl 2 Rp.int) W fa1_0 va1_0 a1_0) {r : Bool} (hF : F_laws_eqGraph a0_0 a1_0 = some r) :
    Calls Tryd.prog 13 [.agg #[va0_0], .agg #[va1_0]].toArray W (Ret fun u w' => u = .bool r ∧ Ext W w') := by
  refine f_enter Tryd.func13 rfl Tryd.ntmps13 rfl ?_
  intro a ha
  replace ha : Fr 11 [(0, (.agg #[va0_0])), (1, (.agg #[va1_0]))] a := ha
  have hE : Chg [] W W := Chg.refl _ _
  unfold F_laws_eqGraph at hF
  refine wp_seq ?_
  refine wp_region_lit ?_
  refine o_box ha rfl rfl rfl ?_; clear ha a; intro b1 w2 hB3 hx4 hlo5 a ha
  have q6 := Zn.one hlo5
  have q7 := Zn.upD q6 hE
  have hE8 := Ext.trans hE hx4
  refine o_box ha rfl rfl rfl ?_; clear ha a; intro b9 w10 hB11 hx12 hlo13 a ha
  have q14 := Zn.one hlo13
  have q15 := Nq.new hB3.fpb q14
  have q16 := Nq.made1 hlo13 hB3.bi
  have q17 := Zn.upD q14 hE8
  replace hB3 := hB3.ext hx12
  have hE18 := Ext.trans hE8 hx12
  refine op_g ha rfl (g_assign rfl) ?_; clear ha a; intro a ha
  refine wpList_nil ?_
  replace ha := ha.sub (σ' := [(2, (.pointer (some ⟨b1, 0, none⟩))), (3, (.pointer (some ⟨b9, 0, none⟩)))]) ⟨rfl, rfl, trivial⟩
  refine e_then ?_
  refine wp_seq ?_
  refine wp_seq ?_
  refine wp_region_lit ?_
  refine op_g ha rfl (g_field0 st27_0 rfl) ?_; clear ha a; intro a ha
  refine op_g ha rfl (g_load Tryd.isAgg22 rfl (hB3.cell rfl)) ?_; clear ha a; intro a ha
  refine op_g ha rfl (g_field0 st27_0 rfl) ?_; clear ha a; intro a ha
  refine op_g ha rfl (g_load Tryd.isAgg22 rfl (hB11.cell rfl)) ?_; clear ha a; intro a ha
  obtain ⟨x19, hc20, hF⟩ := cal_some hF
  refine o_call ha rfl rfl Tryd.call33 (W_laws_eqInt64SS (ha0_0.ext hE18) (ha1_0.ext hE18) hc20) ?_; clear ha a; rintro v21 w22 ⟨rfl, hx23⟩ a ha
  replace hB3 := hB3.ext hx23
  replace hB11 := hB11.ext hx23
  have hE24 := Ext.trans hE18 hx23
  refine op_g ha rfl (g_not rfl) ?_; clear ha a; intro a ha
  refine wpList_nil ?_
  replace ha := ha.sub (σ' := [(10, (.bool (!x19)))]) ⟨rfl, trivial⟩
  refine e_then ?_
  refine c_cond (¬ (x19 = true)) ha rfl (n_iff (Iff.rfl)) (fun hp25 => ?_) (fun hp25 => ?_)
  · replace hF := if_t hp25 hF
    refine wp_seq ?_
    refine wp_region_lit ?_
    refine op_g ha rfl (g_assign rfl) ?_; clear ha a; intro a ha
    refine wpList_nil ?_
    replace ha := ha.sub (σ' := [(4, (.bool false))]) ⟨rfl, trivial⟩
    refine e_then ?_
    refine wp_ret ?_
    refine e_then_ret ?_
    obtain rfl := Option.some.inj hF
    exact f_ret1 ha rfl rfl ⟨rfl, hE24⟩
  · replace hF := if_f hp25 hF
    refine wp_skip ?_
    refine e_then ?_
    refine wp_seq ?_
    refine wp_region_lit ?_
    refine op_g ha rfl (g_assign rfl) ?_; clear ha a; intro a ha
    refine wpList_nil ?_
    replace ha := ha.sub (σ' := [(4, (.bool true))]) ⟨rfl, trivial⟩
    refine e_then ?_
    refine wp_ret ?_
    obtain rfl := Option.some.inj hF
    exact f_ret1 ha rfl rfl ⟨rfl, hE24⟩
set_option maxHeartbeats 2000000 in
theorem W_laws_markInt64S {W : World} {va0 : Value} {ba0 : Int} {a0 : (List Int)} (ha0 : Ow Rp.int 2 true W [] ba0 va0 a0) {a1 : Int} (ha1 : InI a1) {r : (Int × (List Int))} (hF : F_laws_markInt64S a0 a1 = some r) :
    Calls Tryd.prog 21 [va0, .int .i64 a1].toArray W (Ret fun u w' => (u = .int .i64 r.1 ∧ InI r.1) ∧ Ow Rp.int 2 true w' [] ba0 va0 r.2 ∧ Chg (bl ba0) W w') := by
  refine f_enter Tryd.func21 rfl Tryd.ntmps21 rfl ?_
  intro a ha
  replace ha : Fr 19 [(0, va0), (1, (.int .i64 a1))] a := ha
  have hE : Chg (bl ba0) W W := Chg.refl _ _
  unfold F_laws_markInt64S at hF
  refine wp_seq ?_
  refine wp_region_lit ?_
  refine op_g ha rfl (g_assign rfl) ?_; clear ha a; intro a ha
  refine wpList_nil ?_
  replace ha := ha.sub (σ' := [(0, va0), (1, (.int .i64 a1))]) ⟨rfl, rfl, trivial⟩
  refine e_then ?_
  refine wp_seq ?_
  refine wp_seq ?_
  refine wp_region_lit ?_
  refine op_g ha rfl (g_assign rfl) ?_; clear ha a; intro a ha
  refine wpList_nil ?_
  refine e_then ?_
  obtain ⟨o85, ho86, hK87⟩ := bnd_some hF
  obtain ⟨n88, hn89⟩ := lp_some ho86; clear ho86
  refine c_loop (fun a w => ∃ (i79 : Int) (l82 : (List Int)), Fr 19 [(1, (.int .i64 i79))] a ∧ Chg (bl ba0) W w ∧ InI i79 ∧ Ow Rp.int 2 true w [] ba0 va0 l82 ∧ o85 = .inl (i79, l82)) (fun n a w => ∃ (l38 : (List Int)) (i41 : Int) (i43 : Int), Fr 19 [(0, va0), (1, (.int .i64 i41)), (5, (.int .i64 i43))] a ∧ Chg (bl ba0) W w ∧ InI i41 ∧ InI i43 ∧ Ow Rp.int 2 true w [] ba0 va0 l38 ∧ lpN (fun s => F_laws_markInt64S_l1 s.1 s.2.1 s.2.2) n (l38, i41, i43) = some o85) n88 ⟨a0, a1, 0, ha.sub ⟨rfl, rfl, rfl, trivial⟩, hE, ha1, (show InI 0 from by decide), ha0, hn89⟩ ?_ ?_
  · rintro m93 a w36 ⟨l38, i41, i43, ha, hE45, hI42, hI44, h37, hF⟩
    cases m93 with
    | zero => exact (lpN_zero hF).elim
    | succ m93 =>
      obtain ⟨z92, hF, hN91⟩ := lpN_succ hF
      have hF : F_laws_markInt64S_l1 l38 i41 i43 = some z92 := hF; unfold F_laws_markInt64S_l1 at hF
      refine wp_seq ?_
      refine wp_seq ?_
      refine wp_region_lit ?_
      refine op_g ha rfl (g_move rfl) ?_; clear ha a; intro a ha
      refine op_g ha rfl (g_move rfl) ?_; clear ha a; intro a ha
      refine op_g ha rfl (g_lenO sl31.und h37 rfl) ?_; clear ha a; intro a ha
      refine op_g ha rfl (g_lss rfl rfl) ?_; clear ha a; intro a ha
      refine wpList_nil ?_
      replace ha := ha.sub (σ' := [(0, va0), (1, (.int .i64 i41)), (5, (.int .i64 i43)), (9, (.bool (decide (i43 < (l38.length : Int)))))]) ⟨rfl, rfl, rfl, rfl, trivial⟩
      refine e_then ?_
      refine c_cond (i43 < (l38.length : Int)) ha rfl (decide_eq_true_iff) (fun hp94 => ?_) (fun hp94 => ?_)
      · replace hF := if_t hp94 hF
        refine wp_skip ?_
        refine e_then ?_
        refine wp_seq ?_
        refine wp_block ?_
        refine wp_seq ?_
        refine wp_region_lit ?_
        refine op_g ha rfl (g_move rfl) ?_; clear ha a; intro a ha
        refine op_g ha rfl (g_move rfl) ?_; clear ha a; intro a ha
        refine op_g ha rfl (g_move rfl) ?_; clear ha a; intro a ha
        obtain ⟨x95, g96, gx97, hF⟩ := idx_some hF
        obtain ⟨p98, cs99, f100, hf101, hpb102, hat103, hr104, hi105⟩ := h37.at g96 gx97
        obtain ⟨rfl, hI106, rfl⟩ := hr104
        refine op_g ha rfl (hi105.gives sl31 rfl rfl) ?_; clear ha a; intro a ha
        refine o_storeE (f := []) (q := i41) ha Tryd.sizeOf2 rfl rfl rfl h37 hi105 ⟨rfl, hI42, rfl⟩ (Nq.nil _) ?_; intro w107 fs108 h109 hc110 hs111
        obtain rfl := Subst.nil hs111
        have hE112 := Chg.same hE45 hc110
        refine wpList_nil ?_
        replace ha := ha.sub (σ' := [(0, va0), (1, (.int .i64 i41)), (5, (.int .i64 i43))]) ⟨rfl, rfl, rfl, trivial⟩
        refine e_then ?_
        refine wp_region_lit ?_
        refine op_g ha rfl (g_move rfl) ?_; clear ha a; intro a ha
        obtain ⟨hI113, hF⟩ := ck_some hF
        refine op_g ha rfl (g_add rfl rfl hI113) ?_; clear ha a; intro a ha
        refine op_g ha rfl (g_assign rfl) ?_; clear ha a; intro a ha
        refine wpList_nil ?_
        replace ha := ha.sub (σ' := [(0, va0), (1, (.int .i64 (i41 + 1))), (5, (.int .i64 i43))]) ⟨rfl, rfl, rfl, trivial⟩
        refine e_blk ?_
        refine e_then ?_
        refine wp_region_lit ?_
        refine op_g ha rfl (g_move rfl) ?_; clear ha a; intro a ha
        obtain ⟨hI115, hF⟩ := ck_some hF
        refine op_g ha rfl (g_add rfl rfl hI115) ?_; clear ha a; intro a ha
        refine op_g ha rfl (g_assign rfl) ?_; clear ha a; intro a ha
        refine wpList_nil ?_
        replace ha := ha.sub (σ' := [(0, va0), (1, (.int .i64 (i41 + 1))), (5, (.int .i64 (i43 + 1)))]) ⟨rfl, rfl, rfl, trivial⟩
        refine e_lq ?_
        obtain rfl := Option.some.inj hF
        exact ⟨_, Nat.lt_succ_self _, (l38.set ((i43 : Int).toNat) i41), i41 + 1, i43 + 1, ha.sub ⟨rfl, rfl, rfl, trivial⟩, hE112, hI113, hI115, h109, hN91⟩
      · replace hF := if_f hp94 hF
        refine wp_exit ?_
        refine e_then_exit ?_
        refine e_lq_eq ?_
        obtain rfl := Option.some.inj hF
        exact ⟨i41, l38, ha.sub ⟨rfl, trivial⟩, hE45, hI42, h37, (LK_inr hN91).symm⟩
  · rintro a w78 ⟨i79, l82, ha, hE90, hI80, h81, rfl⟩
    have hF : F_laws_markInt64S_k2 i79 l82 = some _ := hK87; clear hK87; unfold F_laws_markInt64S_k2 at hF
    refine e_then ?_
    refine wp_seq ?_
    refine wp_region_lit ?_
    refine op_g ha rfl (g_move rfl) ?_; clear ha a; intro a ha
    refine op_g ha rfl (g_assign rfl) ?_; clear ha a; intro a ha
    refine wpList_nil ?_
    replace ha := ha.sub (σ' := [(4, (.int .i64 i79))]) ⟨rfl, trivial⟩
    refine e_then ?_
    refine wp_ret ?_
    obtain rfl := Option.some.inj hF
    exact f_ret1 ha rfl rfl ⟨⟨rfl, hI80⟩, h81, hE90⟩
set_option maxHeartbeats 2000000 in
theorem W_laws_markInt64SS {W : World} {va0 : Value} {ba0 : Int} {fa0 : List Nat} {a0 : (List (List Int))} (ha0 : Ow (Rp.sl 2 Rp.int) 31 true W fa0 ba0 va0 a0) (nda0 : (bl ba0 ++ fa0).Nodup) {a1 : Int} (ha1 : InI a1) {r : (Int × (List (List Int)))} (hF : F_laws_markInt64SS a0 a1 = some r) :
    Calls Tryd.prog 34 [va0, .int .i64 a1].toArray W (Ret fun u w' => (u = .int .i64 r.1 ∧ InI r.1) ∧ Ow (Rp.sl 2 Rp.int) 31 true w' fa0 ba0 va0 r.2 ∧ Chg ((bl ba0 ++ fa0)) W w') := by
  refine f_enter Tryd.func34 rfl Tryd.ntmps34 rfl ?_
  intro a ha
  replace ha : Fr 19 [(0, va0), (1, (.int .i64 a1))] a := ha
  have hE : Chg ((bl ba0 ++ fa0)) W W := Chg.refl _ _
  unfold F_laws_markInt64SS at hF
  refine wp_seq ?_
  refine wp_region_lit ?_
  refine op_g ha rfl (g_assign rfl) ?_; clear ha a; intro a ha
  refine wpList_nil ?_
  replace ha := ha.sub (σ' := [(0, va0), (1, (.int .i64 a1))]) ⟨rfl, rfl, trivial⟩
  refine e_then ?_
  refine wp_seq ?_
  refine wp_seq ?_
  refine wp_region_lit ?_
  refine op_g ha rfl (g_assign rfl) ?_; clear ha a; intro a ha
  refine wpList_nil ?_
  refine e_then ?_
  obtain ⟨o101, ho102, hK103⟩ := bnd_some hF
  obtain ⟨n104, hn105⟩ := lp_some ho102; clear ho102
  refine c_loop (fun a w => ∃ (i95 : Int) (l98 : (List (List Int))), Fr 19 [(1, (.int .i64 i95))] a ∧ Chg ((bl ba0 ++ fa0)) W w ∧ InI i95 ∧ Ow (Rp.sl 2 Rp.int) 31 true w fa0 ba0 va0 l98 ∧ o101 = .inl (i95, l98)) (fun n a w => ∃ (l46 : (List (List Int))) (i49 : Int) (i51 : Int), Fr 19 [(0, va0), (1, (.int .i64 i49)), (5, (.int .i64 i51))] a ∧ Chg ((bl ba0 ++ fa0)) W w ∧ InI i49 ∧ InI i51 ∧ Ow (Rp.sl 2 Rp.int) 31 true w fa0 ba0 va0 l46 ∧ lpN (fun s => F_laws_markInt64SS_l1 s.1 s.2.1 s.2.2) n (l46, i49, i51) = some o101) n104 ⟨a0, a1, 0, ha.sub ⟨rfl, rfl, rfl, trivial⟩, hE, ha1, (show InI 0 from by decide), ha0, hn105⟩ ?_ ?_
  · rintro m109 a w44 ⟨l46, i49, i51, ha, hE53, hI50, hI52, h45, hF⟩
    cases m109 with
    | zero => exact (lpN_zero hF).elim
    | succ m109 =>
      obtain ⟨z108, hF, hN107⟩ := lpN_succ hF
      have hF : F_laws_markInt64SS_l1 l46 i49 i51 = some z108 := hF; unfold F_laws_markInt64SS_l1 at hF
      refine wp_seq ?_
      refine wp_seq ?_
      refine wp_region_lit ?_
      refine op_g ha rfl (g_move rfl) ?_; clear ha a; intro a ha
      refine op_g ha rfl (g_move rfl) ?_; clear ha a; intro a ha
      refine op_g ha rfl (g_lenO sl22.und h45 rfl) ?_; clear ha a; intro a ha
      refine op_g ha rfl (g_lss rfl rfl) ?_; clear ha a; intro a ha
      refine wpList_nil ?_
      replace ha := ha.sub (σ' := [(0, va0), (1, (.int .i64 i49)), (5, (.int .i64 i51)), (9, (.bool (decide (i51 < (l46.length : Int)))))]) ⟨rfl, rfl, rfl, rfl, trivial⟩
      refine e_then ?_
      refine c_cond (i51 < (l46.length : Int)) ha rfl (decide_eq_true_iff) (fun hp110 => ?_) (fun hp110 => ?_)
      · replace hF := if_t hp110 hF
        refine wp_skip ?_
        refine e_then ?_
        refine wp_seq ?_
        refine wp_block ?_
        refine wp_region_lit ?_
        refine op_g ha rfl (g_move rfl) ?_; clear ha a; intro a ha
        refine op_g ha rfl (g_move rfl) ?_; clear ha a; intro a ha
        obtain ⟨x111, g112, gx113, hF⟩ := idx_some hF
        obtain ⟨p114, cs115, f116, hf117, hpb118, hat119, hr120, hi121⟩ := h45.at g112 gx113
        replace hr120 := (Rp.sl 2 Rp.int).weak hr120
        obtain ⟨v122, rfl, h123⟩ := hr120
        have h123 : Ro Rp.int w44 f116 v122 x111 := h123
        have q125 := Nq.mono (Ow.ne h45) hf117
        refine op_g ha rfl (hi121.gives sl22 rfl rfl) ?_; clear ha a; intro a ha
        refine op_g ha rfl (g_load Tryd.isAgg31 rfl hat119.one) ?_; clear ha a; intro a ha
        refine op_g ha rfl (g_move rfl) ?_; clear ha a; intro a ha
        obtain ⟨b126, h127, hm128, hb129⟩ := Ow.row (k := 0) (lens_sl 2 Rp.int) scal_int h45 nda0 gx113 hi121 hat119 rfl rfl
        obtain ⟨x130, hc131, hF⟩ := cal_some hF
        refine o_call ha rfl rfl Tryd.call21 (W_laws_markInt64S h127 hI50 hc131) ?_; clear ha a; rintro v132 w133 ⟨⟨rfl, hI135⟩, h136, hx134⟩ a ha
        have h137 := hb129 w133 _ hx134 h136
        have hE138 := Chg.join hE53 hx134 (S2.par hm128)
        refine op_g ha rfl (g_assign rfl) ?_; clear ha a; intro a ha
        refine wpList_nil ?_
        replace ha := ha.sub (σ' := [(0, va0), (1, (.int .i64 x130.1)), (5, (.int .i64 i51))]) ⟨rfl, rfl, rfl, trivial⟩
        refine e_blk ?_
        refine e_then ?_
        refine wp_region_lit ?_
        refine op_g ha rfl (g_move rfl) ?_; clear ha a; intro a ha
        obtain ⟨hI139, hF⟩ := ck_some hF
        refine op_g ha rfl (g_add rfl rfl hI139) ?_; clear ha a; intro a ha
        refine op_g ha rfl (g_assign rfl) ?_; clear ha a; intro a ha
        refine wpList_nil ?_
        replace ha := ha.sub (σ' := [(0, va0), (1, (.int .i64 x130.1)), (5, (.int .i64 (i51 + 1)))]) ⟨rfl, rfl, rfl, trivial⟩
        refine e_lq ?_
        obtain rfl := Option.some.inj hF
        exact ⟨_, Nat.lt_succ_self _, (l46.set ((i51 : Int).toNat) x130.2), x130.1, i51 + 1, ha.sub ⟨rfl, rfl, rfl, trivial⟩, hE138, hI135, hI139, h137, hN107⟩
      · replace hF := if_f hp110 hF
        refine wp_exit ?_
        refine e_then_exit ?_
        refine e_lq_eq ?_
        obtain rfl := Option.some.inj hF
        exact ⟨i49, l46, ha.sub ⟨rfl, trivial⟩, hE53, hI50, h45, (LK_inr hN107).symm⟩
  · rintro a w94 ⟨i95, l98, ha, hE106, hI96, h97, rfl⟩
    have hF : F_laws_markInt64SS_k2 i95 l98 = some _ := hK103; clear hK103; unfold F_laws_markInt64SS_k2 at hF
    refine e_then ?_
    refine wp_seq ?_
    refine wp_region_lit ?_
    refine op_g ha rfl (g_move rfl) ?_; clear ha a; intro a ha
    refine op_g ha rfl (g_assign rfl) ?_; clear ha a; intro a ha
    refine wpList_nil ?_
    replace ha := ha.sub (σ' := [(4, (.int .i64 i95))]) ⟨rfl, trivial⟩
    refine e_then ?_
    refine wp_ret ?_
    obtain rfl := Option.some.inj hF
    exact f_ret1 ha rfl rfl ⟨⟨rfl, hI96⟩, h97, hE106⟩
set_option maxHeartbeats 2000000 in
theorem W_laws_markGraph {W : World} {va0_0 : Value} {ba0_0 : Int} {fa0_0 : List Nat} {a0_0 : (List (List Int))} (ha0_0 : Ow (Rp.sl 2 Rp.int) 31 true W fa0_0 ba0_0 va0_0 a0_0) (nda0_0 : (bl ba0_0 ++ fa0_0).Nodup) {a1 : Int} (ha1 : InI a1) {r : (Int × (List (List Int)))} (hF : F_laws_markGraph a0_0 a1 = some r) :
    Calls Tryd.prog 20 [.agg #[va0_0], .int .i64 a1].toArray W (Ret fun u w' => (u = .int .i64 r.1 ∧ InI r.1) ∧ Ow (Rp.sl 2 Rp.int) 31 true w' fa0_0 ba0_0 va0_0 r.2 ∧ Chg ((bl ba0_0 ++ fa0_0)) W w') := by
  refine f_enter Tryd.func20 rfl Tryd.ntmps20 rfl ?_
  intro a ha
  replace ha : Fr 10 [(0, (.agg #[va0_0])), (1, (.int .i64 a1))] a := ha
  have hE : Chg ((bl ba0_0 ++ fa0_0)) W W := Chg.refl _ _
  unfold F_laws_markGraph at hF
  refine wp_seq ?_
  refine wp_region_lit ?_
  refine o_box ha rfl rfl rfl ?_; clear ha a; intro b1 w2 hB3 hx4 hlo5 a ha
  have q6 := Zn.one hlo5
  have q7 := Nq.new ha0_0.fpb q6
  have q8 := Nq.made1 hlo5 ha0_0.blt
  have q9 := Zn.upD q6 hE
  replace ha0_0 := ha0_0.ext hx4
  have hE10 := Chg.more hE hx4
  refine op_g ha rfl (g_assign rfl) ?_; clear ha a; intro a ha
  refine wpList_nil ?_
  replace ha := ha.sub (σ' := [(1, (.int .i64 a1)), (2, (.pointer (some ⟨b1, 0, none⟩)))]) ⟨rfl, rfl, trivial⟩
  refine e_then ?_
  refine wp_seq ?_
  refine wp_region_lit ?_
  refine op_g ha rfl (g_field0 st27_0 rfl) ?_; clear ha a; intro a ha
  refine op_g ha rfl (g_load Tryd.isAgg22 rfl (hB3.cell rfl)) ?_; clear ha a; intro a ha
  refine op_g ha rfl (g_move rfl) ?_; clear ha a; intro a ha
  obtain ⟨x11, hc12, hF⟩ := cal_some hF
  refine o_call ha rfl rfl Tryd.call34 (W_laws_markInt64SS ha0_0 nda0_0 ha1 hc12) ?_; clear ha a; rintro v13 w14 ⟨⟨rfl, hI16⟩, h17, hx15⟩ a ha
  have hE18 := Chg.join hE10 hx15 (S2.par (fun _ h => h))
  refine op_g ha rfl (g_assign rfl) ?_; clear ha a; intro a ha
  refine wpList_nil ?_
  replace ha := ha.sub (σ' := [(1, (.int .i64 x11.1))]) ⟨rfl, trivial⟩
  refine e_then ?_
  refine wp_seq ?_
  refine wp_region_lit ?_
  refine op_g ha rfl (g_move rfl) ?_; clear ha a; intro a ha
  refine op_g ha rfl (g_assign rfl) ?_; clear ha a; intro a ha
  refine wpList_nil ?_
  replace ha := ha.sub (σ' := [(4, (.int .i64 x11.1))]) ⟨rfl, trivial⟩
  refine e_then ?_
  refine wp_ret ?_
  obtain rfl := Option.some.inj hF
  exact f_ret1 ha rfl rfl ⟨⟨rfl, hI16⟩, h17, hE18⟩
set_option maxHeartbeats 2000000 in
theorem W_laws_heldInt64S {W : World} {va0 : Value} {fa0 : List Nat} {a0 : (List Int)} (ha0 : Ro Rp.int W fa0 va0 a0) {a1 : Int} (ha1 : InI a1) {r : Int} (hF : F_laws_heldInt64S a0 a1 = some r) :
    Calls Tryd.prog 22 [va0, .int .i64 a1].toArray W (Ret fun u w' => (u = .int .i64 r ∧ InI r) ∧ Ext W w') := by
  refine f_enter Tryd.func22 rfl Tryd.ntmps22 rfl ?_
  intro a ha
  replace ha : Fr 21 [(0, va0), (1, (.int .i64 a1))] a := ha
  have hE : Chg [] W W := Chg.refl _ _
  unfold F_laws_heldInt64S at hF
  refine wp_seq ?_
  refine wp_region_lit ?_
  refine op_g ha rfl (g_assign rfl) ?_; clear ha a; intro a ha
  refine wpList_nil ?_
  replace ha := ha.sub (σ' := [(0, va0), (1, (.int .i64 a1))]) ⟨rfl, rfl, trivial⟩
  refine e_then ?_
  refine wp_seq ?_
  refine wp_seq ?_
  refine wp_region_lit ?_
  refine op_g ha rfl (g_assign rfl) ?_; clear ha a; intro a ha
  refine wpList_nil ?_
  refine e_then ?_
  obtain ⟨o58, ho59, hK60⟩ := bnd_some hF
  obtain ⟨n61, hn62⟩ := lp_some ho59; clear ho59
  refine c_loop (fun a w => ∃ (i56 : Int), Fr 21 [(1, (.int .i64 i56))] a ∧ Chg [] W w ∧ InI i56 ∧ o58 = .inl i56) (fun n a w => ∃ (i27 : Int) (i29 : Int), Fr 21 [(0, va0), (1, (.int .i64 i27)), (5, (.int .i64 i29))] a ∧ Chg [] W w ∧ InI i27 ∧ InI i29 ∧ lpN (fun s => F_laws_heldInt64S_l1 a0 s.1 s.2) n (i27, i29) = some o58) n61 ⟨a1, 0, ha.sub ⟨rfl, rfl, rfl, trivial⟩, hE, ha1, (show InI 0 from by decide), hn62⟩ ?_ ?_
  · rintro m66 a w26 ⟨i27, i29, ha, hE31, hI28, hI30, hF⟩
    cases m66 with
    | zero => exact (lpN_zero hF).elim
    | succ m66 =>
      obtain ⟨z65, hF, hN64⟩ := lpN_succ hF
      have hF : F_laws_heldInt64S_l1 a0 i27 i29 = some z65 := hF; unfold F_laws_heldInt64S_l1 at hF
      refine wp_seq ?_
      refine wp_seq ?_
      refine wp_region_lit ?_
      refine op_g ha rfl (g_move rfl) ?_; clear ha a; intro a ha
      refine op_g ha rfl (g_move rfl) ?_; clear ha a; intro a ha
      refine op_g ha rfl (g_lenR sl31.und ha0 rfl) ?_; clear ha a; intro a ha
      refine op_g ha rfl (g_lss rfl rfl) ?_; clear ha a; intro a ha
      refine wpList_nil ?_
      replace ha := ha.sub (σ' := [(0, va0), (1, (.int .i64 i27)), (5, (.int .i64 i29)), (9, (.bool (decide (i29 < (a0.length : Int)))))]) ⟨rfl, rfl, rfl, rfl, trivial⟩
      refine e_then ?_
      refine c_cond (i29 < (a0.length : Int)) ha rfl (decide_eq_true_iff) (fun hp67 => ?_) (fun hp67 => ?_)
      · replace hF := if_t hp67 hF
        refine wp_skip ?_
        refine e_then ?_
        refine wp_seq ?_
        refine wp_block ?_
        refine wp_seq ?_
        refine wp_seq ?_
        refine wp_region_lit ?_
        refine op_g ha rfl (g_move rfl) ?_; clear ha a; intro a ha
        refine op_g ha rfl (g_move rfl) ?_; clear ha a; intro a ha
        obtain ⟨x68, g69, gx70, hF⟩ := idx_some hF
        obtain ⟨p71, cs72, f73, hf74, hpb75, hat76, hr77, hi78⟩ := ha0.at g69 gx70
        obtain ⟨rfl, hI79, rfl⟩ := hr77
        refine op_g ha rfl (hi78.gives sl31 rfl rfl) ?_; clear ha a; intro a ha
        refine op_g ha rfl (g_load0 hE31 Tryd.isAgg2 rfl hat76.one) ?_; clear ha a; intro a ha
        refine op_g ha rfl (g_move rfl) ?_; clear ha a; intro a ha
        refine op_g ha rfl (g_neq rfl rfl) ?_; clear ha a; intro a ha
        refine wpList_nil ?_
        replace ha := ha.sub (σ' := [(0, va0), (1, (.int .i64 i27)), (5, (.int .i64 i29)), (17, (.bool (decide (x68 ≠ i27))))]) ⟨rfl, rfl, rfl, rfl, trivial⟩
        refine e_then ?_
        refine c_cond (x68 ≠ i27) ha rfl (decide_eq_true_iff) (fun hp80 => ?_) (fun hp80 => ?_)
        · replace hF := if_t hp80 hF
          refine wp_seq ?_
          refine wp_region_lit ?_
          refine op_g ha rfl (g_assign rfl) ?_; clear ha a; intro a ha
          refine wpList_nil ?_
          replace ha := ha.sub (σ' := [(4, (.int .i64 (-1)))]) ⟨rfl, trivial⟩
          refine e_then ?_
          refine wp_ret ?_
          refine e_then_ret ?_
          refine e_blk_ret ?_
          refine e_then_ret ?_
          refine e_lq_ret ?_
          refine e_then_ret ?_
          obtain rfl := Option.some.inj hF
          have e81 := LK_inr hN64; subst e81
          have e82 := BK_inr hK60; subst e82
          exact f_ret1 ha rfl rfl ⟨⟨rfl, (show InI (-1) from by decide)⟩, hE31⟩
        · replace hF := if_f hp80 hF
          refine wp_skip ?_
          refine e_then ?_
          refine wp_region_lit ?_
          refine op_g ha rfl (g_move rfl) ?_; clear ha a; intro a ha
          obtain ⟨hI83, hF⟩ := ck_some hF
          refine op_g ha rfl (g_add rfl rfl hI83) ?_; clear ha a; intro a ha
          refine op_g ha rfl (g_assign rfl) ?_; clear ha a; intro a ha
          refine wpList_nil ?_
          replace ha := ha.sub (σ' := [(0, va0), (1, (.int .i64 (i27 + 1))), (5, (.int .i64 i29))]) ⟨rfl, rfl, rfl, trivial⟩
          refine e_blk ?_
          refine e_then ?_
          refine wp_region_lit ?_
          refine op_g ha rfl (g_move rfl) ?_; clear ha a; intro a ha
          obtain ⟨hI85, hF⟩ := ck_some hF
          refine op_g ha rfl (g_add rfl rfl hI85) ?_; clear ha a; intro a ha
          refine op_g ha rfl (g_assign rfl) ?_; clear ha a; intro a ha
          refine wpList_nil ?_
          replace ha := ha.sub (σ' := [(0, va0), (1, (.int .i64 (i27 + 1))), (5, (.int .i64 (i29 + 1)))]) ⟨rfl, rfl, rfl, trivial⟩
          refine e_lq ?_
          obtain rfl := Option.some.inj hF
          exact ⟨_, Nat.lt_succ_self _, i27 + 1, i29 + 1, ha.sub ⟨rfl, rfl, rfl, trivial⟩, hE31, hI83, hI85, hN64⟩
      · replace hF := if_f hp67 hF
        refine wp_exit ?_
        refine e_then_exit ?_
        refine e_lq_eq ?_
        obtain rfl := Option.some.inj hF
        exact ⟨i27, ha.sub ⟨rfl, trivial⟩, hE31, hI28, (LK_inr hN64).symm⟩
  · rintro a w55 ⟨i56, ha, hE63, hI57, rfl⟩
    have hF : F_laws_heldInt64S_k2 i56 = some _ := hK60; clear hK60; unfold F_laws_heldInt64S_k2 at hF
    refine e_then ?_
    refine wp_seq ?_
    refine wp_region_lit ?_
    refine op_g ha rfl (g_move rfl) ?_; clear ha a; intro a ha
    refine op_g ha rfl (g_assign rfl) ?_; clear ha a; intro a ha
    refine wpList_nil ?_
    replace ha := ha.sub (σ' := [(4, (.int .i64 i56))]) ⟨rfl, trivial⟩
    refine e_then ?_
    refine wp_ret ?_
    obtain rfl := Option.some.inj hF
    exact f_ret1 ha rfl rfl ⟨⟨rfl, hI57⟩, hE63⟩
set_option maxHeartbeats 2000000 in
theorem W_laws_FnExactBestColours {W : World} {va0_0 : Value} {fa0_0 : List Nat} {a0_0 : (List (List Int))} (ha0_0 : Ro (Rp.sl 2 Rp.int) W fa0_0 va0_0 a0_0) (hG : GT 0 W) {r : Bool} (hF : F_laws_FnExactBestColours a0_0 = some r) :
    Calls Tryd.prog 5 [.agg #[va0_0]].toArray W (Ret fun u w' => u = .bool r ∧ Ext W w') := by
  refine f_enter Tryd.func5 rfl Tryd.ntmps5 rfl ?_
  intro a ha
  replace ha : Fr 69 [(0, (.agg #[va0_0]))] a := ha
  have hE : Chg [] W W := Chg.refl _ _
  unfold F_laws_FnExactBestColours at hF
  refine wp_seq ?_
  refine wp_region_lit ?_
  refine o_box ha rfl rfl rfl ?_; clear ha a; intro b1 w2 hB3 hx4 hlo5 a ha
  have q6 := Zn.one hlo5
  have q7 := Zn.upD q6 hE
  have hE8 := Ext.trans hE hx4
  refine op_g ha rfl (g_assign rfl) ?_; clear ha a; intro a ha
  refine wpList_nil ?_
  replace ha := ha.sub (σ' := [(1, (.pointer (some ⟨b1, 0, none⟩)))]) ⟨rfl, trivial⟩
  refine e_then ?_
  refine wp_seq ?_
  refine wp_region_lit ?_
  refine op_g ha rfl (g_assign rfl) ?_; clear ha a; intro a ha
  refine wpList_nil ?_
  refine e_then ?_
  refine wp_seq ?_
  refine wp_region_lit ?_
  refine op_g ha rfl (g_loadA (cs := [va0_0]) Tryd.isAgg24 Tryd.sizeOf24 rfl (by simp) hB3.all) ?_; clear ha a; intro a ha
  refine op_g ha rfl (g_move rfl) ?_; clear ha a; intro a ha
  obtain ⟨x9, hc10, hF⟩ := cal_some hF
  refine o_call ha rfl rfl Tryd.call9 (W_laws_szGraph (ha0_0.ext hE8) (show InI 1048576 from by decide) hc10) ?_; clear ha a; rintro v11 w12 ⟨⟨rfl, hI14⟩, hx13⟩ a ha
  replace hB3 := hB3.ext hx13
  have hE15 := Ext.trans hE8 hx13
  refine op_g ha rfl (g_assign rfl) ?_; clear ha a; intro a ha
  refine wpList_nil ?_
  replace ha := ha.sub (σ' := [(1, (.pointer (some ⟨b1, 0, none⟩))), (3, (.int .i64 x9))]) ⟨rfl, rfl, trivial⟩
  refine e_then ?_
  refine wp_seq ?_
  refine wp_seq ?_
  refine wp_region_lit ?_
  refine op_g ha rfl (g_move rfl) ?_; clear ha a; intro a ha
  refine op_g ha rfl (g_lss rfl rfl) ?_; clear ha a; intro a ha
  refine wpList_nil ?_
  replace ha := ha.sub (σ' := [(1, (.pointer (some ⟨b1, 0, none⟩))), (15, (.bool (decide (x9 < 0))))]) ⟨rfl, rfl, trivial⟩
  refine e_then ?_
  refine c_cond (x9 < 0) ha rfl (decide_eq_true_iff) (fun hp16 => ?_) (fun hp16 => ?_)
  · replace hF := if_t hp16 hF
    refine wp_seq ?_
    refine wp_region_lit ?_
    refine op_g ha rfl (g_assign rfl) ?_; clear ha a; intro a ha
    refine wpList_nil ?_
    replace ha := ha.sub (σ' := [(2, (.bool true))]) ⟨rfl, trivial⟩
    refine e_then ?_
    refine wp_ret ?_
    refine e_then_ret ?_
    obtain rfl := Option.some.inj hF
    exact f_ret1 ha rfl rfl ⟨rfl, hE15⟩
  · replace hF := if_f hp16 hF
    refine wp_skip ?_
    refine e_then ?_
    refine wp_seq ?_
    refine wp_region_lit ?_
    refine op_g ha rfl (g_loadA (cs := [va0_0]) Tryd.isAgg24 Tryd.sizeOf24 rfl (by simp) hB3.all) ?_; clear ha a; intro a ha
    obtain ⟨x17, hc18, hF⟩ := cal_some hF
    refine o_call ha rfl rfl Tryd.call11 (W_laws_toGraph (ha0_0.ext hE15) hc18) ?_; clear ha a; rintro v19 w20 ⟨u22, b23, fs27, rfl, h24, z25, zf28, nd29, hx21⟩ a ha
    have q30 := Nq.new hB3.fpb z25
    have q31 := Nq.madeF z25 zf28 hB3.bi
    have q32 := Nf.new hB3.fpb zf28
    replace hB3 := hB3.ext hx21
    have hE33 := Ext.trans hE15 hx21
    have q34 := Zn.upD z25 hE15
    have q35 := zf_up zf28 hE15
    obtain ⟨fp36, hro37, hs38⟩ := h24.roF
    obtain ⟨x39, hc40, hF⟩ := cal_some hF
    refine o_call ha rfl rfl Tryd.call18 (W_spec_BestColours hro37 hc40) ?_; clear ha a; rintro v41 w42 ⟨fp44, h45, pv46, hx43⟩ a ha
    have q48 := Nq.rd pv46 (Nq.mono q31 hs38) hB3.bi
    replace hB3 := hB3.ext hx43
    replace h24 := h24.ext hx43
    have hE49 := Ext.trans hE33 hx43
    refine op_g ha rfl (g_assign rfl) ?_; clear ha a; intro a ha
    refine wpList_nil ?_
    replace ha := ha.sub (σ' := [(1, (.pointer (some ⟨b1, 0, none⟩))), (4, v41)]) ⟨rfl, rfl, trivial⟩
    refine e_then ?_
    refine wp_seq ?_
    refine wp_region_lit ?_
    refine op_g ha rfl (g_loadA (cs := [va0_0]) Tryd.isAgg24 Tryd.sizeOf24 rfl (by simp) hB3.all) ?_; clear ha a; intro a ha
    obtain ⟨x50, hc51, hF⟩ := cal_some hF
    refine o_call ha rfl rfl Tryd.call11 (W_laws_toGraph (ha0_0.ext hE49) hc51) ?_; clear ha a; rintro v52 w53 ⟨u55, b56, fs60, rfl, h57, z58, zf61, nd62, hx54⟩ a ha
    have q63 := Nq.new hB3.fpb z58
    have q64 := Nq.madeF z58 zf61 hB3.bi
    have q65 := Nq.new h45.bnd z58
    have q66 := Nf.new hB3.fpb zf61
    have q67 := Nf.new h45.bnd zf61
    replace hB3 := hB3.ext hx54
    replace h45 := h45.ext hx54
    have hE68 := Ext.trans hE49 hx54
    have q69 := Zn.upD z58 hE49
    have q70 := zf_up zf61 hE49
    refine o_alloc (cs := [(.slice none 0 0)]) ha rfl Tryd.zeroValue27 rfl ?_; clear ha a; intro b71 w72 hB73 hx74 hlo75 a ha
    have q76 := Zn.one hlo75
    have q77 := Nq.new hB3.fpb q76
    have q78 := Nq.made1 hlo75 hB3.bi
    have q79 := Nq.new h45.bnd q76
    have q80 := Nq.new h57.fpb q76
    have q81 := Nq.made1 hlo75 h57.blt
    have q82 := Zn.upD q76 hE68
    replace hB3 := hB3.ext hx74
    replace h45 := h45.ext hx74
    replace h57 := h57.ext hx74
    have hE83 := Ext.trans hE68 hx74
    refine o_storeA (vs := [u55]) ha hB73 Tryd.sizeOf27 rfl rfl (by intro c hc; simp only [List.mem_cons, List.not_mem_nil, or_false] at hc; rcases hc with hc <;> subst hc <;> first | rfl | exact h57.oneC) rfl ?_; intro w84 hB85 hc86
    replace hc86 := hc86.bl
    replace hB85 : Bx w84 b71 [u55] 27 := hB85
    replace hB3 := hB3.nq hc86 q77
    replace h45 := h45.nq hc86 q79
    replace h57 := h57.nq hc86 q80
    have hE87 := Ext.then hE83 hc86 (Zn.bl q82)
    refine wpList_nil ?_
    replace ha := ha.sub (σ' := [(1, (.pointer (some ⟨b1, 0, none⟩))), (4, v41), (5, (.pointer (some ⟨b71, 0, none⟩)))]) ⟨rfl, rfl, rfl, trivial⟩
    refine e_then ?_
    refine wp_seq ?_
    refine wp_region_lit ?_
    refine op_g ha rfl (g_loadA (cs := [u55]) Tryd.isAgg27 Tryd.sizeOf27 rfl (by simp) hB85.all) ?_; clear ha a; intro a ha
    obtain ⟨fp88, hro89, hs90⟩ := h57.roF
    obtain ⟨x91, hc92, hF⟩ := cal_some hF
    refine o_call ha rfl rfl Tryd.call19 (W_impl_BestColours hro89 (hG.ext hE87) hc92) ?_; clear ha a; rintro v93 w94 ⟨b96, h97, z98, hx95⟩ a ha
    have q100 := Nq.new hB3.fpb z98
    have q101 := Nq.madeO z98 hB3.bi
    have q102 := Nq.new h45.bnd z98
    have q103 := Nq.new h57.fpb z98
    have q104 := Nq.madeO z98 h57.blt
    have q105 := Nq.new hB85.fpb z98
    have q106 := Nq.madeO z98 hB85.bi
    have q107 := Nf.old z98 (zf_nil _) h57.bnd
    replace hB3 := hB3.ext hx95
    replace h45 := h45.ext hx95
    replace h57 := h57.ext hx95
    replace hB85 := hB85.ext hx95
    have hE108 := Ext.trans hE87 hx95
    have q109 := Zn.upD z98 hE87
    refine op_g ha rfl (g_assign rfl) ?_; clear ha a; intro a ha
    refine wpList_nil ?_
    replace ha := ha.sub (σ' := [(1, (.pointer (some ⟨b1, 0, none⟩))), (4, v41), (5, (.pointer (some ⟨b71, 0, none⟩))), (6, v93)]) ⟨rfl, rfl, rfl, rfl, trivial⟩
    refine e_then ?_
    refine wp_seq ?_
    refine wp_seq ?_
    refine wp_region_lit ?_
    refine op_g ha rfl (g_move rfl) ?_; clear ha a; intro a ha
    refine op_g ha rfl (g_move rfl) ?_; clear ha a; intro a ha
    obtain ⟨fp110, hro111, hs112⟩ := h97.roF
    obtain ⟨x113, hc114, hF⟩ := cal_some hF
    refine o_call ha rfl rfl Tryd.call17 (W_laws_eqInt64S hro111 h45 hc114) ?_; clear ha a; rintro v115 w116 ⟨rfl, hx117⟩ a ha
    replace hB3 := hB3.ext hx117
    replace h45 := h45.ext hx117
    replace h57 := h57.ext hx117
    replace hB85 := hB85.ext hx117
    replace h97 := h97.ext hx117
    have hE118 := Ext.trans hE108 hx117
    refine op_g ha rfl (g_not rfl) ?_; clear ha a; intro a ha
    refine wpList_nil ?_
    replace ha := ha.sub (σ' := [(1, (.pointer (some ⟨b1, 0, none⟩))), (4, v41), (5, (.pointer (some ⟨b71, 0, none⟩))), (6, v93), (26, (.bool (!x113)))]) ⟨rfl, rfl, rfl, rfl, rfl, trivial⟩
    refine e_then ?_
    refine c_cond (¬ (x113 = true)) ha rfl (n_iff (Iff.rfl)) (fun hp119 => ?_) (fun hp119 => ?_)
    · replace hF := if_t hp119 hF
      refine wp_seq ?_
      refine wp_region_lit ?_
      refine op_g ha rfl (g_assign rfl) ?_; clear ha a; intro a ha
      refine wpList_nil ?_
      replace ha := ha.sub (σ' := [(2, (.bool false))]) ⟨rfl, trivial⟩
      refine e_then ?_
      refine wp_ret ?_
      refine e_then_ret ?_
      obtain rfl := Option.some.inj hF
      exact f_ret1 ha rfl rfl ⟨rfl, hE118⟩
    · replace hF := if_f hp119 hF
      refine wp_skip ?_
      refine e_then ?_
      refine wp_seq ?_
      refine wp_seq ?_
      refine d_region 5 hmix ?_
      refine u_g 0 rfl (by kernel_rfl) (want0 _) ha rfl (g_loadA (cs := [u55]) Tryd.isAgg27 Tryd.sizeOf27 rfl (by simp) hB85.all) ?_; clear ha a; intro a ha
      refine u_g 1 rfl (by kernel_rfl) (want0 _) ha rfl (g_loadA (cs := [va0_0]) Tryd.isAgg24 Tryd.sizeOf24 rfl (by simp) hB3.all) ?_; clear ha a; intro a ha
      refine u_only 2 rfl (by kernel_rfl) ?_; intro w120 hx121
      replace hB3 := hB3.ext hx121
      replace h45 := h45.ext hx121
      replace h57 := h57.ext hx121
      replace hB85 := hB85.ext hx121
      replace h97 := h97.ext hx121
      have hE122 := Ext.trans hE118 hx121
      obtain ⟨x123, hc124, hF⟩ := cal_some hF
      refine o_call ha rfl rfl Tryd.call11 (W_laws_toGraph (ha0_0.ext hE122) hc124) ?_; clear ha a; rintro v125 w126 ⟨u128, b129, fs133, rfl, h130, z131, zf134, nd135, hx127⟩ a ha
      have q136 := Nq.new hB3.fpb z131
      have q137 := Nq.madeF z131 zf134 hB3.bi
      have q138 := Nq.new h45.bnd z131
      have q139 := Nq.new h57.fpb z131
      have q140 := Nq.madeF z131 zf134 h57.blt
      have q141 := Nq.new hB85.fpb z131
      have q142 := Nq.madeF z131 zf134 hB85.bi
      have q143 := Nq.new h97.fpb z131
      have q144 := Nq.madeF z131 zf134 h97.blt
      have q145 := Nf.new hB3.fpb zf134
      have q146 := Nf.new h45.bnd zf134
      have q147 := Nf.new h57.fpb zf134
      have q148 := Nf.old z131 zf134 h57.bnd
      have q149 := Nf.new hB85.fpb zf134
      have q150 := Nf.new h97.fpb zf134
      replace hB3 := hB3.ext hx127
      replace h45 := h45.ext hx127
      replace h57 := h57.ext hx127
      replace hB85 := hB85.ext hx127
      replace h97 := h97.ext hx127
      have hE151 := Ext.trans hE122 hx127
      have q152 := Zn.upD z131 hE122
      have q153 := zf_up zf134 hE122
      refine wpList_nil (e_sq ?_)
      refine ⟨fun _ => hx127, ?_⟩
      obtain ⟨fp156, hro157, hs158⟩ := h57.roF
      obtain ⟨fp159, hro160, hs161⟩ := h130.roF
      obtain ⟨x162, hc163, hF⟩ := cal_some hF
      refine u_call (.bool x162) 3 rfl (by kernel_rfl) (want0 _) ha rfl rfl Tryd.call13 (fun w155 hx154 => W_laws_eqGraph (hro157.ext hx154) (hro160.ext hx154) hc163) (fun _ _ _ h => ⟨h.1, h.2⟩) ?_; clear ha a; intro a ha
      refine u_g 4 rfl (by kernel_rfl) (want0 _) ha rfl (g_not rfl) ?_; clear ha a; intro a ha
      refine u_done (by kernel_rfl) ?_; intro w164 hx165
      replace hB3 := hB3.ext hx165
      replace h45 := h45.ext hx165
      replace h57 := h57.ext hx165
      replace hB85 := hB85.ext hx165
      replace h97 := h97.ext hx165
      replace h130 := h130.ext hx165
      have hE166 := Ext.trans hE151 hx165
      replace ha := ha.sub (σ' := [(1, (.pointer (some ⟨b1, 0, none⟩))), (4, v41), (5, (.pointer (some ⟨b71, 0, none⟩))), (6, v93), (31, (.bool (!x162)))]) ⟨rfl, rfl, rfl, rfl, rfl, trivial⟩
      refine e_then ?_
      refine c_cond (¬ (x162 = true)) ha rfl (n_iff (Iff.rfl)) (fun hp167 => ?_) (fun hp167 => ?_)
      · replace hF := if_t hp167 hF
        refine wp_seq ?_
        refine wp_region_lit ?_
        refine op_g ha rfl (g_assign rfl) ?_; clear ha a; intro a ha
        refine wpList_nil ?_
        replace ha := ha.sub (σ' := [(2, (.bool false))]) ⟨rfl, trivial⟩
        refine e_then ?_
        refine wp_ret ?_
        refine e_then_ret ?_
        obtain rfl := Option.some.inj hF
        exact f_ret1 ha rfl rfl ⟨rfl, hE166⟩
      · replace hF := if_f hp167 hF
        refine wp_skip ?_
        refine e_then ?_
        refine wp_seq ?_
        refine wp_region_lit ?_
        refine op_g ha rfl (g_assign rfl) ?_; clear ha a; intro a ha
        refine wpList_nil ?_
        replace ha := ha.sub (σ' := [(1, (.pointer (some ⟨b1, 0, none⟩))), (4, v41), (5, (.pointer (some ⟨b71, 0, none⟩))), (6, v93), (7, (.int .i64 1))]) ⟨rfl, rfl, rfl, rfl, rfl, trivial⟩
        refine e_then ?_
        refine wp_seq ?_
        refine wp_region_lit ?_
        refine op_g ha rfl (g_loadA (cs := [u55]) Tryd.isAgg27 Tryd.sizeOf27 rfl (by simp) hB85.all) ?_; clear ha a; intro a ha
        refine op_g ha rfl (g_move rfl) ?_; clear ha a; intro a ha
        obtain ⟨x168, hc169, hF⟩ := cal_some hF
        refine o_call ha rfl rfl Tryd.call20 (W_laws_markGraph h57 nd62 (show InI 1 from by decide) hc169) ?_; clear ha a; rintro v170 w171 ⟨⟨rfl, hI173⟩, h174, hx172⟩ a ha
        replace hB3 := hB3.off hx172 (Off.nest q63 q66)
        replace h45 := h45.off hx172 (Off.nest q65 q67)
        replace h97 := h97.off hx172 (Off.nest q104 q107)
        have hE175 := Chg.join hE166 hx172 (S2.nest q69 q70)
        refine op_g ha rfl (g_assign rfl) ?_; clear ha a; intro a ha
        refine wpList_nil ?_
        replace ha := ha.sub (σ' := [(1, (.pointer (some ⟨b1, 0, none⟩))), (4, v41), (6, v93), (7, (.int .i64 x168.1))]) ⟨rfl, rfl, rfl, rfl, trivial⟩
        refine e_then ?_
        refine wp_seq ?_
        refine wp_seq ?_
        refine wp_region_lit ?_
        refine op_g ha rfl (g_move rfl) ?_; clear ha a; intro a ha
        refine op_g ha rfl (g_lss rfl rfl) ?_; clear ha a; intro a ha
        refine op_g ha rfl (g_move rfl) ?_; clear ha a; intro a ha
        by_cases hp187 : x168.1 < 0
        · replace hF := if_t hp187 hF
          rw [show (decide (x168.1 < 0)) = true from (decide_eq_true_iff).2 hp187] at ha
          refine op_unwant ha rfl (yields ha rfl rfl) rfl ?_; clear ha a; intro a ha
          refine op_unwant ha rfl (yields ha rfl rfl) rfl ?_; clear ha a; intro a ha
          refine op_unwant ha rfl (yields ha rfl rfl) rfl ?_; clear ha a; intro a ha
          refine op_unwant ha rfl (yields ha rfl rfl) rfl ?_; clear ha a; intro a ha
          refine op_g ha rfl (g_pick rfl rfl) ?_; clear ha a; intro a ha
          refine wpList_nil ?_
          replace ha := ha.sub (σ' := [(1, (.pointer (some ⟨b1, 0, none⟩))), (4, v41), (6, v93), (42, (.bool true))]) ⟨rfl, rfl, rfl, rfl, trivial⟩
          refine e_then ?_
          refine c_true ha rfl ?_
          refine wp_seq ?_
          refine wp_region_lit ?_
          refine op_g ha rfl (g_assign rfl) ?_; clear ha a; intro a ha
          refine wpList_nil ?_
          replace ha := ha.sub (σ' := [(2, (.bool false))]) ⟨rfl, trivial⟩
          refine e_then ?_
          refine wp_ret ?_
          refine e_then_ret ?_
          obtain rfl := Option.some.inj hF
          exact f_ret1 ha rfl rfl ⟨rfl, hE175⟩
        · replace hF := if_f hp187 hF
          rw [show (decide (x168.1 < 0)) = false from b_false (decide_eq_true_iff) hp187] at ha
          refine op_want (yields ha rfl rfl) ?_
          refine op_g ha rfl (g_move rfl) ?_; clear ha a; intro a ha
          refine op_want (yields ha rfl rfl) ?_
          refine op_g ha rfl (g_move rfl) ?_; clear ha a; intro a ha
          refine op_want (yields ha rfl rfl) ?_
          obtain ⟨fp188, hro189, hs190⟩ := h97.roF
          obtain ⟨x191, hc192, hF⟩ := cal_some hF
          refine o_call ha rfl rfl Tryd.call17 (W_laws_eqInt64S hro189 h45 hc192) ?_; clear ha a; rintro v193 w194 ⟨rfl, hx195⟩ a ha
          replace hB3 := hB3.ext hx195
          replace h45 := h45.ext hx195
          replace h97 := h97.ext hx195
          have hE196 := Ext.trans hE175 hx195
          refine op_want (yields ha rfl rfl) ?_
          refine op_g ha rfl (g_not rfl) ?_; clear ha a; intro a ha
          refine op_g ha rfl (g_pick rfl rfl) ?_; clear ha a; intro a ha
          refine wpList_nil ?_
          replace ha := ha.sub (σ' := [(1, (.pointer (some ⟨b1, 0, none⟩))), (4, v41), (6, v93), (42, (.bool (!x191)))]) ⟨rfl, rfl, rfl, rfl, trivial⟩
          refine e_then ?_
          refine c_cond (¬ (x191 = true)) ha rfl (n_iff (Iff.rfl)) (fun hp197 => ?_) (fun hp197 => ?_)
          · replace hF := if_t hp197 hF
            refine wp_seq ?_
            refine wp_region_lit ?_
            refine op_g ha rfl (g_assign rfl) ?_; clear ha a; intro a ha
            refine wpList_nil ?_
            replace ha := ha.sub (σ' := [(2, (.bool false))]) ⟨rfl, trivial⟩
            refine e_then ?_
            refine wp_ret ?_
            refine e_then_ret ?_
            obtain rfl := Option.some.inj hF
            exact f_ret1 ha rfl rfl ⟨rfl, hE196⟩
          · replace hF := if_f hp197 hF
            refine wp_skip ?_
            refine e_then ?_
            refine wp_seq ?_
            refine wp_region_lit ?_
            refine op_g ha rfl (g_assign rfl) ?_; clear ha a; intro a ha
            refine wpList_nil ?_
            replace ha := ha.sub (σ' := [(1, (.pointer (some ⟨b1, 0, none⟩))), (4, v41), (6, v93), (8, (.int .i64 1))]) ⟨rfl, rfl, rfl, rfl, trivial⟩
            refine e_then ?_
            refine wp_seq ?_
            refine wp_region_lit ?_
            refine op_g ha rfl (g_move rfl) ?_; clear ha a; intro a ha
            refine op_g ha rfl (g_move rfl) ?_; clear ha a; intro a ha
            obtain ⟨x198, hc199, hF⟩ := cal_some hF
            refine o_call ha rfl rfl Tryd.call21 (W_laws_markInt64S h97 (show InI 1 from by decide) hc199) ?_; clear ha a; rintro v200 w201 ⟨⟨rfl, hI203⟩, h204, hx202⟩ a ha
            replace hB3 := hB3.nq hx202 q100
            replace h45 := h45.nq hx202 q102
            have hE205 := Ext.then hE196 hx202 (Zn.bl q109)
            refine op_g ha rfl (g_assign rfl) ?_; clear ha a; intro a ha
            refine wpList_nil ?_
            replace ha := ha.sub (σ' := [(1, (.pointer (some ⟨b1, 0, none⟩))), (4, v41), (6, v93), (8, (.int .i64 x198.1))]) ⟨rfl, rfl, rfl, rfl, trivial⟩
            refine e_then ?_
            refine wp_seq ?_
            refine wp_region_lit ?_
            refine op_g ha rfl (g_assign rfl) ?_; clear ha a; intro a ha
            refine wpList_nil ?_
            replace ha := ha.sub (σ' := [(1, (.pointer (some ⟨b1, 0, none⟩))), (4, v41), (6, v93), (8, (.int .i64 x198.1)), (9, (.int .i64 1))]) ⟨rfl, rfl, rfl, rfl, rfl, trivial⟩
            refine e_then ?_
            refine wp_seq ?_
            refine wp_region_lit ?_
            refine op_g ha rfl (g_move rfl) ?_; clear ha a; intro a ha
            refine op_g ha rfl (g_move rfl) ?_; clear ha a; intro a ha
            obtain ⟨fp206, hro207, hs208⟩ := h204.roF
            obtain ⟨x209, hc210, hF⟩ := cal_some hF
            refine o_call ha rfl rfl Tryd.call22 (W_laws_heldInt64S hro207 (show InI 1 from by decide) hc210) ?_; clear ha a; rintro v211 w212 ⟨⟨rfl, hI214⟩, hx213⟩ a ha
            replace hB3 := hB3.ext hx213
            replace h45 := h45.ext hx213
            replace h204 := h204.ext hx213
            have hE215 := Ext.trans hE205 hx213
            refine op_g ha rfl (g_assign rfl) ?_; clear ha a; intro a ha
            refine wpList_nil ?_
            replace ha := ha.sub (σ' := [(1, (.pointer (some ⟨b1, 0, none⟩))), (4, v41), (6, v93), (8, (.int .i64 x198.1)), (9, (.int .i64 x209))]) ⟨rfl, rfl, rfl, rfl, rfl, trivial⟩
            refine e_then ?_
            refine wp_seq ?_
            refine wp_seq ?_
            refine wp_region_lit ?_
            refine op_g ha rfl (g_move rfl) ?_; clear ha a; intro a ha
            refine op_g ha rfl (g_lss rfl rfl) ?_; clear ha a; intro a ha
            refine wpList_nil ?_
            replace ha := ha.sub (σ' := [(1, (.pointer (some ⟨b1, 0, none⟩))), (4, v41), (6, v93), (8, (.int .i64 x198.1)), (9, (.int .i64 x209)), (50, (.bool (decide (x209 < 0))))]) ⟨rfl, rfl, rfl, rfl, rfl, rfl, trivial⟩
            refine e_then ?_
            refine c_cond (x209 < 0) ha rfl (decide_eq_true_iff) (fun hp216 => ?_) (fun hp216 => ?_)
            · replace hF := if_t hp216 hF
              refine wp_seq ?_
              refine wp_region_lit ?_
              refine op_g ha rfl (g_assign rfl) ?_; clear ha a; intro a ha
              refine wpList_nil ?_
              replace ha := ha.sub (σ' := [(2, (.bool false))]) ⟨rfl, trivial⟩
              refine e_then ?_
              refine wp_ret ?_
              refine e_then_ret ?_
              obtain rfl := Option.some.inj hF
              exact f_ret1 ha rfl rfl ⟨rfl, hE215⟩
            · replace hF := if_f hp216 hF
              refine wp_skip ?_
              refine e_then ?_
              refine wp_seq ?_
              refine wp_seq ?_
              refine wp_region_lit ?_
              refine op_g ha rfl (g_move rfl) ?_; clear ha a; intro a ha
              refine op_g ha rfl (g_move rfl) ?_; clear ha a; intro a ha
              refine op_g ha rfl (g_neq rfl rfl) ?_; clear ha a; intro a ha
              refine wpList_nil ?_
              replace ha := ha.sub (σ' := [(1, (.pointer (some ⟨b1, 0, none⟩))), (4, v41), (6, v93), (8, (.int .i64 x198.1)), (53, (.bool (decide (x209 ≠ x198.1))))]) ⟨rfl, rfl, rfl, rfl, rfl, trivial⟩
              refine e_then ?_
              refine c_cond (x209 ≠ x198.1) ha rfl (decide_eq_true_iff) (fun hp217 => ?_) (fun hp217 => ?_)
              · replace hF := if_t hp217 hF
                refine wp_seq ?_
                refine wp_region_lit ?_
                refine op_g ha rfl (g_assign rfl) ?_; clear ha a; intro a ha
                refine wpList_nil ?_
                replace ha := ha.sub (σ' := [(2, (.bool false))]) ⟨rfl, trivial⟩
                refine e_then ?_
                refine wp_ret ?_
                refine e_then_ret ?_
                obtain rfl := Option.some.inj hF
                exact f_ret1 ha rfl rfl ⟨rfl, hE215⟩
              · replace hF := if_f hp217 hF
                refine wp_skip ?_
                refine e_then ?_
                refine wp_seq ?_
                refine wp_region_lit ?_
                refine op_g ha rfl (g_loadA (cs := [va0_0]) Tryd.isAgg24 Tryd.sizeOf24 rfl (by simp) hB3.all) ?_; clear ha a; intro a ha
                obtain ⟨x218, hc219, hF⟩ := cal_some hF
                refine o_call ha rfl rfl Tryd.call11 (W_laws_toGraph (ha0_0.ext hE215) hc219) ?_; clear ha a; rintro v220 w221 ⟨u223, b224, fs228, rfl, h225, z226, zf229, nd230, hx222⟩ a ha
                have q231 := Nq.new hB3.fpb z226
                have q232 := Nq.madeF z226 zf229 hB3.bi
                have q233 := Nq.new h45.bnd z226
                have q234 := Nq.new h204.fpb z226
                have q235 := Nq.madeF z226 zf229 h204.blt
                have q236 := Nf.new hB3.fpb zf229
                have q237 := Nf.new h45.bnd zf229
                have q238 := Nf.new h204.fpb zf229
                replace hB3 := hB3.ext hx222
                replace h45 := h45.ext hx222
                replace h204 := h204.ext hx222
                have hE239 := Ext.trans hE215 hx222
                have q240 := Zn.upD z226 hE215
                have q241 := zf_up zf229 hE215
                obtain ⟨fp242, hro243, hs244⟩ := h225.roF
                obtain ⟨x245, hc246, hF⟩ := cal_some hF
                refine o_call ha rfl rfl Tryd.call19 (W_impl_BestColours hro243 (hG.ext hE239) hc246) ?_; clear ha a; rintro v247 w248 ⟨b250, h251, z252, hx249⟩ a ha
                have q254 := Nq.new hB3.fpb z252
                have q255 := Nq.madeO z252 hB3.bi
                have q256 := Nq.new h45.bnd z252
                have q257 := Nq.new h204.fpb z252
                have q258 := Nq.madeO z252 h204.blt
                have q259 := Nq.new h225.fpb z252
                have q260 := Nq.madeO z252 h225.blt
                have q261 := Nf.old z252 (zf_nil _) h225.bnd
                replace hB3 := hB3.ext hx249
                replace h45 := h45.ext hx249
                replace h204 := h204.ext hx249
                replace h225 := h225.ext hx249
                have hE262 := Ext.trans hE239 hx249
                have q263 := Zn.upD z252 hE239
                refine op_g ha rfl (g_assign rfl) ?_; clear ha a; intro a ha
                refine wpList_nil ?_
                replace ha := ha.sub (σ' := [(4, v41), (6, v93), (8, (.int .i64 x198.1)), (10, v247)]) ⟨rfl, rfl, rfl, rfl, trivial⟩
                refine e_then ?_
                refine wp_seq ?_
                refine wp_seq ?_
                refine wp_region_lit ?_
                refine op_g ha rfl (g_move rfl) ?_; clear ha a; intro a ha
                refine op_g ha rfl (g_move rfl) ?_; clear ha a; intro a ha
                obtain ⟨fp264, hro265, hs266⟩ := h251.roF
                obtain ⟨x267, hc268, hF⟩ := cal_some hF
                refine o_call ha rfl rfl Tryd.call17 (W_laws_eqInt64S hro265 h45 hc268) ?_; clear ha a; rintro v269 w270 ⟨rfl, hx271⟩ a ha
                replace h45 := h45.ext hx271
                replace h204 := h204.ext hx271
                replace h251 := h251.ext hx271
                have hE272 := Ext.trans hE262 hx271
                refine op_g ha rfl (g_not rfl) ?_; clear ha a; intro a ha
                refine wpList_nil ?_
                replace ha := ha.sub (σ' := [(6, v93), (8, (.int .i64 x198.1)), (60, (.bool (!x267)))]) ⟨rfl, rfl, rfl, trivial⟩
                refine e_then ?_
                refine c_cond (¬ (x267 = true)) ha rfl (n_iff (Iff.rfl)) (fun hp273 => ?_) (fun hp273 => ?_)
                · replace hF := if_t hp273 hF
                  refine wp_seq ?_
                  refine wp_region_lit ?_
                  refine op_g ha rfl (g_assign rfl) ?_; clear ha a; intro a ha
                  refine wpList_nil ?_
                  replace ha := ha.sub (σ' := [(2, (.bool false))]) ⟨rfl, trivial⟩
                  refine e_then ?_
                  refine wp_ret ?_
                  refine e_then_ret ?_
                  obtain rfl := Option.some.inj hF
                  exact f_ret1 ha rfl rfl ⟨rfl, hE272⟩
                · replace hF := if_f hp273 hF
                  refine wp_skip ?_
                  refine e_then ?_
                  refine wp_seq ?_
                  refine wp_region_lit ?_
                  refine op_g ha rfl (g_assign rfl) ?_; clear ha a; intro a ha
                  refine wpList_nil ?_
                  replace ha := ha.sub (σ' := [(6, v93), (8, (.int .i64 x198.1)), (9, (.int .i64 1))]) ⟨rfl, rfl, rfl, trivial⟩
                  refine e_then ?_
                  refine wp_seq ?_
                  refine wp_region_lit ?_
                  refine op_g ha rfl (g_move rfl) ?_; clear ha a; intro a ha
                  refine op_g ha rfl (g_move rfl) ?_; clear ha a; intro a ha
                  obtain ⟨fp274, hro275, hs276⟩ := h204.roF
                  obtain ⟨x277, hc278, hF⟩ := cal_some hF
                  refine o_call ha rfl rfl Tryd.call22 (W_laws_heldInt64S hro275 (show InI 1 from by decide) hc278) ?_; clear ha a; rintro v279 w280 ⟨⟨rfl, hI282⟩, hx281⟩ a ha
                  replace h204 := h204.ext hx281
                  have hE283 := Ext.trans hE272 hx281
                  refine op_g ha rfl (g_assign rfl) ?_; clear ha a; intro a ha
                  refine wpList_nil ?_
                  replace ha := ha.sub (σ' := [(8, (.int .i64 x198.1)), (9, (.int .i64 x277))]) ⟨rfl, rfl, trivial⟩
                  refine e_then ?_
                  refine wp_seq ?_
                  refine wp_seq ?_
                  refine wp_region_lit ?_
                  refine op_g ha rfl (g_move rfl) ?_; clear ha a; intro a ha
                  refine op_g ha rfl (g_lss rfl rfl) ?_; clear ha a; intro a ha
                  refine wpList_nil ?_
                  replace ha := ha.sub (σ' := [(8, (.int .i64 x198.1)), (9, (.int .i64 x277)), (65, (.bool (decide (x277 < 0))))]) ⟨rfl, rfl, rfl, trivial⟩
                  refine e_then ?_
                  refine c_cond (x277 < 0) ha rfl (decide_eq_true_iff) (fun hp284 => ?_) (fun hp284 => ?_)
                  · replace hF := if_t hp284 hF
                    refine wp_seq ?_
                    refine wp_region_lit ?_
                    refine op_g ha rfl (g_assign rfl) ?_; clear ha a; intro a ha
                    refine wpList_nil ?_
                    replace ha := ha.sub (σ' := [(2, (.bool false))]) ⟨rfl, trivial⟩
                    refine e_then ?_
                    refine wp_ret ?_
                    refine e_then_ret ?_
                    obtain rfl := Option.some.inj hF
                    exact f_ret1 ha rfl rfl ⟨rfl, hE283⟩
                  · replace hF := if_f hp284 hF
                    refine wp_skip ?_
                    refine e_then ?_
                    refine wp_seq ?_
                    refine wp_seq ?_
                    refine wp_region_lit ?_
                    refine op_g ha rfl (g_move rfl) ?_; clear ha a; intro a ha
                    refine op_g ha rfl (g_move rfl) ?_; clear ha a; intro a ha
                    refine op_g ha rfl (g_neq rfl rfl) ?_; clear ha a; intro a ha
                    refine wpList_nil ?_
                    replace ha := ha.sub (σ' := [(68, (.bool (decide (x277 ≠ x198.1))))]) ⟨rfl, trivial⟩
                    refine e_then ?_
                    refine c_cond (x277 ≠ x198.1) ha rfl (decide_eq_true_iff) (fun hp285 => ?_) (fun hp285 => ?_)
                    · replace hF := if_t hp285 hF
                      refine wp_seq ?_
                      refine wp_region_lit ?_
                      refine op_g ha rfl (g_assign rfl) ?_; clear ha a; intro a ha
                      refine wpList_nil ?_
                      replace ha := ha.sub (σ' := [(2, (.bool false))]) ⟨rfl, trivial⟩
                      refine e_then ?_
                      refine wp_ret ?_
                      refine e_then_ret ?_
                      obtain rfl := Option.some.inj hF
                      exact f_ret1 ha rfl rfl ⟨rfl, hE283⟩
                    · replace hF := if_f hp285 hF
                      refine wp_skip ?_
                      refine e_then ?_
                      refine wp_seq ?_
                      refine wp_region_lit ?_
                      refine op_g ha rfl (g_assign rfl) ?_; clear ha a; intro a ha
                      refine wpList_nil ?_
                      replace ha := ha.sub (σ' := [(2, (.bool true))]) ⟨rfl, trivial⟩
                      refine e_then ?_
                      refine wp_ret ?_
                      obtain rfl := Option.some.inj hF
                      exact f_ret1 ha rfl rfl ⟨rfl, hE283⟩
end Go.Proofs.YtlbgoodonecebaaDoor
