/- Walks, printed by gen.py. -/
import Derived.Test.YtmaaloijdjnblaaGreatDoorF
import Derived.Test.YtmaaloijdjnblaaGreatDoorW2
import Derived.Test.YtmaaloijdjnblaaGreatDoorProg
import Derived.KernelRfl
set_option maxRecDepth 100000
namespace Go.Proofs.YtmaaloijdjnblaaGreatDoor
open Go Go.RowKit

set_option maxHeartbeats 2000000 in
theorem W_impl_growthOf {W : World} {va0 : Value} {fa0 : List Nat} {a0 : (List (BitVec 32))} (ha0 : Ro Rp.u32 W fa0 va0 a0) (hG : GT 0 W) {r : (List (Int × Int))} (hF : F_impl_growthOf a0 = some r) :
    Calls Tryz.prog 30 [va0].toArray W (Ret fun u w' => ∃ (b_u : Int), Ow (Rp.prod Rp.int Rp.int) 82 true w' [] b_u u r ∧ Zn W b_u ∧ Ext W w') := by
  refine f_enter Tryz.func30 rfl Tryz.ntmps30 rfl ?_
  intro a ha
  replace ha : Fr 64 [(0, va0)] a := ha
  have hE : Chg [] W W := Chg.refl _ _
  unfold F_impl_growthOf at hF
  refine wp_seq ?_; refine wp_region_lit ?_; refine op_g ha rfl (g_assign rfl) ?_; clear ha a; intro a ha; refine wpList_nil ?_; replace ha := ha.sub (σ' := [(0, va0)]) ⟨rfl, trivial⟩; refine e_then ?_; refine wp_seq ?_; refine wp_region_lit ?_
  refine o_lit0 (Rp.prod Rp.int Rp.int) ha rfl sl58 ?_; clear ha a; intro v1 w2 h3 hx4 a ha
  obtain ⟨b6, hb6⟩ : ∃ b : Int, b = W.heap.size := ⟨_, rfl⟩; rw [← hb6] at h3
  have q7 := zn_of hb6
  have q8 := Zn.upD q7 hE
  have hE9 := Ext.trans hE hx4
  (iterate 2 refine op_g ha rfl (g_assign rfl) ?_; clear ha a; intro a ha); refine wpList_nil ?_; replace ha := ha.sub (σ' := [(0, va0), (3, v1), (4, (.int .u32 (BitVec.toNat (0#32) : Int)))]) ⟨rfl, rfl, rfl, trivial⟩; refine e_then ?_; refine wp_seq ?_; obtain ⟨o907, ho908, hK909⟩ := bnd_some hF
  obtain ⟨n910, hn911⟩ := lp_some ho908; clear ho908
  refine c_loop (fun a w => ∃ (l904 : (List (Int × Int))) (v905 : Value) (b906 : Int), Fr 64 [(3, v905)] a ∧ Chg [] W w ∧ Ow (Rp.prod Rp.int Rp.int) 82 true w [] b906 v905 l904 ∧ Zn W b906 ∧ o907 = .inl l904) (fun n a w => ∃ (l457 : (List (Int × Int))) (u460 : BitVec 32) (v458 : Value) (b459 : Int), Fr 64 [(0, va0), (3, v458), (4, (.int .u32 (BitVec.toNat u460 : Int)))] a ∧ Chg [] W w ∧ Ow (Rp.prod Rp.int Rp.int) 82 true w [] b459 v458 l457 ∧ Zn W b459 ∧ lpN (fun s => F_impl_growthOf_l1 a0 s.1 s.2) n (l457, u460) = some o907) n910 ⟨([] : (List (Int × Int))), 0#32, v1, b6, ha.sub ⟨rfl, rfl, rfl, trivial⟩, hE9, h3, q8, hn911⟩ ?_ ?_
  · rintro m915 a w453 ⟨l457, u460, v458, b459, ha, hE461, h455, z456, hF⟩
    cases m915 with
    | zero => exact (lpN_zero hF).elim
    | succ m915 =>
      obtain ⟨z914, hF, hN913⟩ := lpN_succ hF
      have hF : F_impl_growthOf_l1 a0 l457 u460 = some z914 := hF; unfold F_impl_growthOf_l1 at hF
      refine wp_seq ?_; refine wp_seq ?_; refine wp_region_lit ?_; (iterate 2 refine op_g ha rfl (g_move rfl) ?_; clear ha a; intro a ha); obtain ⟨x916, hc917, hF⟩ := cal_some hF
      refine o_call ha rfl rfl Tryz.call48 (W_impl_nets_all (ha0.ext hE461) hc917) ?_; clear ha a; rintro v918 w919 ⟨rfl, hx920⟩ a ha
      replace h455 := h455.ext hx920
      have hE921 := Ext.trans hE461 hx920
      refine op_g ha rfl (g32_neq (m := u460) (n := x916) rfl rfl) ?_; clear ha a; intro a ha; refine wpList_nil ?_; replace ha := ha.sub (σ' := [(0, va0), (3, v458), (4, (.int .u32 (BitVec.toNat u460 : Int))), (16, (.bool (decide (u460 ≠ x916))))]) ⟨rfl, rfl, rfl, rfl, trivial⟩; refine e_then ?_; refine c_cond (u460 ≠ x916) ha rfl (decide_eq_true_iff) (fun hp922 => ?_) (fun hp922 => ?_)
      · replace hF := if_t hp922 hF
        refine wp_skip ?_; refine e_then ?_; refine wp_block ?_; refine wp_seq ?_; refine wp_region_lit ?_; (iterate 2 refine op_g ha rfl (g_assign rfl) ?_; clear ha a; intro a ha); refine wpList_nil ?_; replace ha := ha.sub (σ' := [(0, va0), (3, v458), (4, (.int .u32 (BitVec.toNat u460 : Int))), (5, (.int .i64 (-1))), (6, (.int .i64 (-1)))]) ⟨rfl, rfl, rfl, rfl, rfl, trivial⟩; refine e_then ?_; refine wp_seq ?_; refine wp_seq ?_; refine wp_region_lit ?_; refine op_g ha rfl (g_move rfl) ?_; clear ha a; intro a ha; obtain ⟨x923, hc924, hF⟩ := cal_some hF
        refine o_call ha rfl rfl Tryz.call48 (W_impl_nets_all (ha0.ext hE921) hc924) ?_; clear ha a; rintro v925 w926 ⟨rfl, hx927⟩ a ha
        replace h455 := h455.ext hx927
        have hE928 := Ext.trans hE921 hx927
        refine op_g ha rfl (g_move rfl) ?_; clear ha a; intro a ha; refine op_g ha rfl (g32_andNot (m := x923) (n := u460) rfl rfl) ?_; clear ha a; intro a ha; obtain ⟨x929, hc930, hF⟩ := cal_some hF
        refine o_call ha rfl rfl Tryz.call49 (W_impl_vset_list (hG.ext hE928) hc930) ?_; clear ha a; rintro v931 w932 ⟨b934, h935, z936, hx933⟩ a ha
        have q938 := Nq.new h455.fpb z936
        have q939 := Nq.madeO z936 h455.blt
        replace h455 := h455.ext hx933
        have hE940 := Ext.trans hE928 hx933
        have q941 := Zn.upD z936 hE928
        refine op_g ha rfl (g_lenO sl66.und h935 rfl) ?_; clear ha a; intro a ha; refine op_g ha rfl (g_move rfl) ?_; clear ha a; intro a ha; refine wpList_nil ?_; replace ha := ha.sub (σ' := [(0, va0), (3, v458), (4, (.int .u32 (BitVec.toNat u460 : Int))), (5, (.int .i64 (-1))), (6, (.int .i64 (-1))), (21, v931), (22, (.int .i64 (x929.length : Int))), (23, (.int .i64 0))]) ⟨rfl, rfl, rfl, rfl, rfl, rfl, rfl, rfl, trivial⟩; refine e_then ?_; obtain ⟨o1076, ho1077, hK1078⟩ := bnd_some hF
        obtain ⟨n1079, hn1080⟩ := lp_some ho1077; clear ho1077
        refine c_loop (fun a w => ∃ (i1074 : Int), Fr 64 [(0, va0), (3, v458), (4, (.int .u32 (BitVec.toNat u460 : Int))), (5, (.int .i64 i1074))] a ∧ Chg [] W w ∧ InI i1074 ∧ Ow (Rp.prod Rp.int Rp.int) 82 true w [] b459 v458 l457 ∧ Zn W b459 ∧ o1076 = .inl i1074) (fun n a w => ∃ (i1007 : Int) (i1009 : Int) (i1014 : Int), Fr 64 [(0, va0), (3, v458), (4, (.int .u32 (BitVec.toNat u460 : Int))), (5, (.int .i64 i1007)), (6, (.int .i64 i1009)), (21, v931), (22, (.int .i64 (x929.length : Int))), (23, (.int .i64 i1014))] a ∧ Chg [] W w ∧ InI i1007 ∧ InI i1009 ∧ InI i1014 ∧ Ow (Rp.prod Rp.int Rp.int) 82 true w [] b459 v458 l457 ∧ Zn W b459 ∧ Ow Rp.int 3 true w [] b934 v931 x929 ∧ Zn W b934 ∧ Nq (bl b459 ++ []) b934 ∧ Nq (bl b934 ++ []) b459 ∧ lpN (fun s => F_impl_growthOf_l2 a0 u460 x929 s.1 s.2.1 s.2.2) n (i1007, i1009, i1014) = some o1076) n1079 ⟨(-1), (-1), 0, ha.sub ⟨rfl, rfl, rfl, rfl, rfl, rfl, rfl, rfl, trivial⟩, hE940, (show InI (-1) from by decide), (show InI (-1) from by decide), (show InI 0 from by decide), h455, z456, h935, q941, q938, q939, hn1080⟩ ?_ ?_
        · rintro m1084 a w1003 ⟨i1007, i1009, i1014, ha, hE1018, hI1008, hI1010, hI1015, h1005, z1006, h1012, z1013, q1016, q1017, hF⟩
          cases m1084 with
          | zero => exact (lpN_zero hF).elim
          | succ m1084 =>
            obtain ⟨z1083, hF, hN1082⟩ := lpN_succ hF
            have hF : F_impl_growthOf_l2 a0 u460 x929 i1007 i1009 i1014 = some z1083 := hF; unfold F_impl_growthOf_l2 at hF
            refine wp_seq ?_; refine wp_region_lit ?_; refine op_g ha rfl (g_lss rfl rfl) ?_; clear ha a; intro a ha; refine wpList_nil ?_; replace ha := ha.sub (σ' := [(0, va0), (3, v458), (4, (.int .u32 (BitVec.toNat u460 : Int))), (5, (.int .i64 i1007)), (6, (.int .i64 i1009)), (21, v931), (22, (.int .i64 (x929.length : Int))), (23, (.int .i64 i1014)), (24, (.bool (decide (i1014 < (x929.length : Int)))))]) ⟨rfl, rfl, rfl, rfl, rfl, rfl, rfl, rfl, rfl, trivial⟩; refine e_then ?_; refine wp_seq ?_; refine c_cond (i1014 < (x929.length : Int)) ha rfl (decide_eq_true_iff) (fun hp1085 => ?_) (fun hp1085 => ?_)
            · replace hF := if_t hp1085 hF
              refine wp_skip ?_; refine e_then ?_; refine wp_seq ?_; refine wp_block ?_; refine wp_seq ?_; refine wp_region_lit ?_; obtain ⟨x1086, g1087, gx1088, hF⟩ := idx_some hF
              obtain ⟨p1089, cs1090, f1091, hf1092, hpb1093, hat1094, hr1095, hi1096⟩ := h1012.at g1087 gx1088
              obtain ⟨rfl, hI1097, rfl⟩ := hr1095
              refine op_g ha rfl (hi1096.gives sl66 rfl rfl) ?_; clear ha a; intro a ha; refine op_g ha rfl (g_load Tryz.isAgg3 rfl hat1094.one) ?_; clear ha a; intro a ha; refine op_g ha rfl (g_assign rfl) ?_; clear ha a; intro a ha; refine wpList_nil ?_; replace ha := ha.sub (σ' := [(0, va0), (3, v458), (4, (.int .u32 (BitVec.toNat u460 : Int))), (5, (.int .i64 i1007)), (6, (.int .i64 i1009)), (8, (.int .i64 x1086)), (21, v931), (22, (.int .i64 (x929.length : Int))), (23, (.int .i64 i1014))]) ⟨rfl, rfl, rfl, rfl, rfl, rfl, rfl, rfl, rfl, trivial⟩; refine e_then ?_; refine wp_seq ?_; refine wp_region_lit ?_
              (iterate 2 refine op_g ha rfl (g_move rfl) ?_; clear ha a; intro a ha); obtain ⟨x1098, g1099, gx1100, hF⟩ := idx_some hF
              obtain ⟨p1101, cs1102, f1103, hf1104, hpb1105, hat1106, hr1107, hi1108⟩ := ha0.at g1099 gx1100
              obtain ⟨rfl, rfl⟩ := hr1107
              refine op_g ha rfl (hi1108.gives sl46 rfl rfl) ?_; clear ha a; intro a ha; refine op_g ha rfl (g_load0 hE1018 Tryz.isAgg64 rfl hat1106.one) ?_; clear ha a; intro a ha; refine op_g ha rfl (g_move rfl) ?_; clear ha a; intro a ha; refine op_g ha rfl (g32_and (m := x1098) (n := u460) rfl rfl) ?_; clear ha a; intro a ha; obtain ⟨x1109, hc1110, hF⟩ := cal_some hF
              refine o_call ha rfl rfl Tryz.call50 (W_impl_vset_size  hc1110) ?_; clear ha a; rintro v1111 w1112 ⟨⟨rfl, hI1114⟩, hx1113⟩ a ha
              replace h1005 := h1005.ext hx1113
              replace h1012 := h1012.ext hx1113
              have hE1115 := Ext.trans hE1018 hx1113
              refine op_g ha rfl (g_assign rfl) ?_; clear ha a; intro a ha; refine wpList_nil ?_; replace ha := ha.sub (σ' := [(0, va0), (3, v458), (4, (.int .u32 (BitVec.toNat u460 : Int))), (5, (.int .i64 i1007)), (6, (.int .i64 i1009)), (8, (.int .i64 x1086)), (9, (.int .i64 x1109)), (21, v931), (22, (.int .i64 (x929.length : Int))), (23, (.int .i64 i1014))]) ⟨rfl, rfl, rfl, rfl, rfl, rfl, rfl, rfl, rfl, rfl, trivial⟩; refine e_then ?_; refine wp_seq ?_; refine wp_region_lit ?_; (iterate 2 refine op_g ha rfl (g_move rfl) ?_; clear ha a; intro a ha); refine op_g ha rfl (g_gtr rfl rfl) ?_; clear ha a; intro a ha
              refine wpList_nil ?_; replace ha := ha.sub (σ' := [(0, va0), (3, v458), (4, (.int .u32 (BitVec.toNat u460 : Int))), (5, (.int .i64 i1007)), (6, (.int .i64 i1009)), (8, (.int .i64 x1086)), (9, (.int .i64 x1109)), (21, v931), (22, (.int .i64 (x929.length : Int))), (23, (.int .i64 i1014)), (36, (.bool (decide (i1009 < x1109))))]) ⟨rfl, rfl, rfl, rfl, rfl, rfl, rfl, rfl, rfl, rfl, rfl, trivial⟩; refine e_then ?_; refine c_cond (i1009 < x1109) ha rfl (decide_eq_true_iff) (fun hp1116 => ?_) (fun hp1116 => ?_)
              · replace hF := if_t hp1116 hF
                refine wp_region_lit ?_; (iterate 2 refine op_g ha rfl (g_move rfl) ?_; clear ha a; intro a ha); (iterate 2 refine op_g ha rfl (g_assign rfl) ?_; clear ha a; intro a ha); refine wpList_nil ?_; replace ha := ha.sub (σ' := [(0, va0), (3, v458), (4, (.int .u32 (BitVec.toNat u460 : Int))), (5, (.int .i64 x1086)), (6, (.int .i64 x1109)), (21, v931), (22, (.int .i64 (x929.length : Int))), (23, (.int .i64 i1014))]) ⟨rfl, rfl, rfl, rfl, rfl, rfl, rfl, rfl, trivial⟩; refine e_blk ?_; refine e_then ?_; refine wp_region_lit ?_; obtain ⟨hI1117, hF⟩ := ck_some hF; refine op_g ha rfl (g_add rfl rfl hI1117) ?_; clear ha a; intro a ha
                refine op_g ha rfl (g_move rfl) ?_; clear ha a; intro a ha; refine wpList_nil ?_; replace ha := ha.sub (σ' := [(0, va0), (3, v458), (4, (.int .u32 (BitVec.toNat u460 : Int))), (5, (.int .i64 x1086)), (6, (.int .i64 x1109)), (21, v931), (22, (.int .i64 (x929.length : Int))), (23, (.int .i64 (i1014 + 1)))]) ⟨rfl, rfl, rfl, rfl, rfl, rfl, rfl, rfl, trivial⟩; refine e_lq ?_; obtain rfl := Option.some.inj hF
                exact ⟨_, Nat.lt_succ_self _, x1086, x1109, i1014 + 1, ha.sub ⟨rfl, rfl, rfl, rfl, rfl, rfl, rfl, rfl, trivial⟩, hE1115, hI1097, hI1114, hI1117, h1005, z1006, h1012, z1013, q1016, q1017, hN1082⟩
              replace hF := if_f hp1116 hF; refine wp_skip ?_; refine e_blk ?_; refine e_then ?_; refine wp_region_lit ?_; obtain ⟨hI1119, hF⟩ := ck_some hF; refine op_g ha rfl (g_add rfl rfl hI1119) ?_; clear ha a; intro a ha; refine op_g ha rfl (g_move rfl) ?_; clear ha a; intro a ha; refine wpList_nil ?_; replace ha := ha.sub (σ' := [(0, va0), (3, v458), (4, (.int .u32 (BitVec.toNat u460 : Int))), (5, (.int .i64 i1007)), (6, (.int .i64 i1009)), (21, v931), (22, (.int .i64 (x929.length : Int))), (23, (.int .i64 (i1014 + 1)))]) ⟨rfl, rfl, rfl, rfl, rfl, rfl, rfl, rfl, trivial⟩; refine e_lq ?_
              obtain rfl := Option.some.inj hF
              exact ⟨_, Nat.lt_succ_self _, i1007, i1009, i1014 + 1, ha.sub ⟨rfl, rfl, rfl, rfl, rfl, rfl, rfl, rfl, trivial⟩, hE1115, hI1008, hI1010, hI1119, h1005, z1006, h1012, z1013, q1016, q1017, hN1082⟩
            replace hF := if_f hp1085 hF; refine wp_exit ?_; refine e_then_exit ?_; refine e_lq_eq ?_; obtain rfl := Option.some.inj hF
            exact ⟨i1007, ha.sub ⟨rfl, rfl, rfl, rfl, trivial⟩, hE1018, hI1008, h1005, z1006, (LK_inr hN1082).symm⟩
        rintro a w1070 ⟨i1074, ha, hE1081, hI1075, h1072, z1073, rfl⟩
        have hF : F_impl_growthOf_k3 a0 l457 u460 i1074 = some _ := hK1078; clear hK1078; unfold F_impl_growthOf_k3 at hF
        refine e_then ?_; refine wp_seq ?_; refine wp_seq ?_; refine wp_region_lit ?_; (iterate 2 refine op_g ha rfl (g_move rfl) ?_; clear ha a; intro a ha); obtain ⟨x1121, g1122, gx1123, hF⟩ := idx_some hF
        obtain ⟨p1124, cs1125, f1126, hf1127, hpb1128, hat1129, hr1130, hi1131⟩ := ha0.at g1122 gx1123
        obtain ⟨rfl, rfl⟩ := hr1130
        refine op_g ha rfl (hi1131.gives sl46 rfl rfl) ?_; clear ha a; intro a ha; refine op_g ha rfl (g_load0 hE1081 Tryz.isAgg64 rfl hat1129.one) ?_; clear ha a; intro a ha; refine op_g ha rfl (g_move rfl) ?_; clear ha a; intro a ha; refine op_g ha rfl (g32_and (m := x1121) (n := u460) rfl rfl) ?_; clear ha a; intro a ha; obtain ⟨x1132, hc1133, hF⟩ := cal_some hF
        refine o_call ha rfl rfl Tryz.call49 (W_impl_vset_list (hG.ext hE1081) hc1133) ?_; clear ha a; rintro v1134 w1135 ⟨b1137, h1138, z1139, hx1136⟩ a ha
        have q1141 := Nq.new h1072.fpb z1139
        have q1142 := Nq.madeO z1139 h1072.blt
        replace h1072 := h1072.ext hx1136
        have hE1143 := Ext.trans hE1081 hx1136
        have q1144 := Zn.upD z1139 hE1081
        refine op_g ha rfl (g_lenO sl66.und h1138 rfl) ?_; clear ha a; intro a ha; refine op_g ha rfl (g_move rfl) ?_; clear ha a; intro a ha; refine wpList_nil ?_; replace ha := ha.sub (σ' := [(0, va0), (3, v458), (4, (.int .u32 (BitVec.toNat u460 : Int))), (5, (.int .i64 i1074)), (46, v1134), (47, (.int .i64 (x1132.length : Int))), (48, (.int .i64 0))]) ⟨rfl, rfl, rfl, rfl, rfl, rfl, rfl, trivial⟩; refine e_then ?_; obtain ⟨o1289, ho1290, hK1291⟩ := bnd_some hF
        obtain ⟨n1292, hn1293⟩ := lp_some ho1290; clear ho1290
        refine c_loop (fun a w => ∃ (l1286 : (List (Int × Int))) (v1287 : Value) (b1288 : Int), Fr 64 [(0, va0), (3, v1287), (4, (.int .u32 (BitVec.toNat u460 : Int))), (5, (.int .i64 i1074))] a ∧ Chg [] W w ∧ Ow (Rp.prod Rp.int Rp.int) 82 true w [] b1288 v1287 l1286 ∧ Zn W b1288 ∧ o1289 = .inl l1286) (fun n a w => ∃ (l1215 : (List (Int × Int))) (i1221 : Int) (v1216 : Value) (b1217 : Int), Fr 64 [(0, va0), (3, v1216), (4, (.int .u32 (BitVec.toNat u460 : Int))), (5, (.int .i64 i1074)), (46, v1134), (47, (.int .i64 (x1132.length : Int))), (48, (.int .i64 i1221))] a ∧ Chg [] W w ∧ InI i1221 ∧ Ow (Rp.prod Rp.int Rp.int) 82 true w [] b1217 v1216 l1215 ∧ Zn W b1217 ∧ Ow Rp.int 3 true w [] b1137 v1134 x1132 ∧ Zn W b1137 ∧ Nq (bl b1217 ++ []) b1137 ∧ Nq (bl b1137 ++ []) b1217 ∧ lpN (fun s => F_impl_growthOf_l4 i1074 x1132 s.1 s.2) n (l1215, i1221) = some o1289) n1292 ⟨l457, 0, v458, b459, ha.sub ⟨rfl, rfl, rfl, rfl, rfl, rfl, rfl, trivial⟩, hE1143, (show InI 0 from by decide), h1072, z1073, h1138, q1144, q1141, q1142, hn1293⟩ ?_ ?_
        · rintro m1297 a w1211 ⟨l1215, i1221, v1216, b1217, ha, hE1225, hI1222, h1213, z1214, h1219, z1220, q1223, q1224, hF⟩
          cases m1297 with
          | zero => exact (lpN_zero hF).elim
          | succ m1297 =>
            obtain ⟨z1296, hF, hN1295⟩ := lpN_succ hF
            have hF : F_impl_growthOf_l4 i1074 x1132 l1215 i1221 = some z1296 := hF; unfold F_impl_growthOf_l4 at hF
            refine wp_seq ?_; refine wp_region_lit ?_; refine op_g ha rfl (g_lss rfl rfl) ?_; clear ha a; intro a ha; refine wpList_nil ?_; replace ha := ha.sub (σ' := [(0, va0), (3, v1216), (4, (.int .u32 (BitVec.toNat u460 : Int))), (5, (.int .i64 i1074)), (46, v1134), (47, (.int .i64 (x1132.length : Int))), (48, (.int .i64 i1221)), (49, (.bool (decide (i1221 < (x1132.length : Int)))))]) ⟨rfl, rfl, rfl, rfl, rfl, rfl, rfl, rfl, trivial⟩; refine e_then ?_; refine wp_seq ?_; refine c_cond (i1221 < (x1132.length : Int)) ha rfl (decide_eq_true_iff) (fun hp1298 => ?_) (fun hp1298 => ?_)
            · replace hF := if_t hp1298 hF
              refine wp_skip ?_; refine e_then ?_; refine wp_seq ?_; refine wp_block ?_; refine wp_seq ?_; refine wp_region_lit ?_; obtain ⟨x1299, g1300, gx1301, hF⟩ := idx_some hF
              obtain ⟨p1302, cs1303, f1304, hf1305, hpb1306, hat1307, hr1308, hi1309⟩ := h1219.at g1300 gx1301
              obtain ⟨rfl, hI1310, rfl⟩ := hr1308
              refine op_g ha rfl (hi1309.gives sl66 rfl rfl) ?_; clear ha a; intro a ha; refine op_g ha rfl (g_load Tryz.isAgg3 rfl hat1307.one) ?_; clear ha a; intro a ha; refine op_g ha rfl (g_assign rfl) ?_; clear ha a; intro a ha; refine wpList_nil ?_; replace ha := ha.sub (σ' := [(0, va0), (3, v1216), (4, (.int .u32 (BitVec.toNat u460 : Int))), (5, (.int .i64 i1074)), (11, (.int .i64 x1299)), (46, v1134), (47, (.int .i64 (x1132.length : Int))), (48, (.int .i64 i1221))]) ⟨rfl, rfl, rfl, rfl, rfl, rfl, rfl, rfl, trivial⟩; refine e_then ?_; refine wp_region_lit ?_; (iterate 3 refine op_g ha rfl (g_move rfl) ?_; clear ha a; intro a ha)
              refine op_g ha rfl (g_build (vs := [(0, (.int .i64 x1299)), (1, (.int .i64 i1074))]) (cells := #[(.int .i64 x1299), (.int .i64 i1074)]) rfl (by rfl)) ?_; clear ha a; intro a ha
              refine o_lit1 (o := true) (y := (x1299, i1074)) (Rp.prod Rp.int Rp.int) ha rfl sl58 rfl rfl rfl ⟨[], [], [_], _, rfl, rfl, ⟨rfl, hI1310, rfl⟩, ⟨rfl, hI1075, rfl⟩⟩ ?_; clear ha a; intro v1311 w1312 h1313 hx1314 a ha
              obtain ⟨b1316, hb1316⟩ : ∃ b : Int, b = w1211.heap.size := ⟨_, rfl⟩; rw [← hb1316] at h1313
              have q1317 := zn_of hb1316
              have q1318 := Nq.new h1213.fpb q1317
              have q1319 := Nq.madeO q1317 h1213.blt
              have q1320 := Nq.new h1219.fpb q1317
              have q1321 := Nq.madeO q1317 h1219.blt
              have q1322 := Zn.upD q1317 hE1225
              replace h1213 := h1213.ext hx1314
              replace h1219 := h1219.ext hx1314
              have hE1323 := Ext.trans hE1225 hx1314
              obtain ⟨hl1324, hF⟩ := app_some hF
              refine o_append ha rfl sl58 rfl rfl rfl h1213 h1313.src (Nq.nil _) hl1324 ?_; clear ha a; intro v1325 w1326 b1327 h1328 hc1329 hb1330 a ha
              replace h1328 : Ow (Rp.prod Rp.int Rp.int) 82 true w1326 [] b1327 v1325 _ := h1328
              have q1332 := Nq.appY q1224 h1219.fpb hb1330
              have q1333 := Nq.appX q1223 (Nq.nil _) hb1330 h1219.blt
              have q1334 := Nq.appY q1319 h1313.fpb hb1330
              have q1335 := Nq.appX q1318 (Nq.nil _) hb1330 h1313.blt
              have q1336 := Zn.appD z1214 hb1330 hE1323
              replace h1219 := h1219.nq hc1329 q1224
              replace h1313 := h1313.nq hc1329 q1319
              have hE1337 := Ext.then hE1323 hc1329 (Zn.bl z1214)
              refine op_g ha rfl (g_assign rfl) ?_; clear ha a; intro a ha; refine wpList_nil ?_; replace ha := ha.sub (σ' := [(0, va0), (3, v1325), (4, (.int .u32 (BitVec.toNat u460 : Int))), (5, (.int .i64 i1074)), (46, v1134), (47, (.int .i64 (x1132.length : Int))), (48, (.int .i64 i1221))]) ⟨rfl, rfl, rfl, rfl, rfl, rfl, rfl, trivial⟩; refine e_blk ?_; refine e_then ?_; refine wp_region_lit ?_; obtain ⟨hI1338, hF⟩ := ck_some hF; refine op_g ha rfl (g_add rfl rfl hI1338) ?_; clear ha a; intro a ha; refine op_g ha rfl (g_move rfl) ?_; clear ha a; intro a ha; refine wpList_nil ?_; replace ha := ha.sub (σ' := [(0, va0), (3, v1325), (4, (.int .u32 (BitVec.toNat u460 : Int))), (5, (.int .i64 i1074)), (46, v1134), (47, (.int .i64 (x1132.length : Int))), (48, (.int .i64 (i1221 + 1)))]) ⟨rfl, rfl, rfl, rfl, rfl, rfl, rfl, trivial⟩
              refine e_lq ?_; obtain rfl := Option.some.inj hF
              exact ⟨_, Nat.lt_succ_self _, (l1215 ++ ([(x1299, i1074)])), i1221 + 1, v1325, b1327, ha.sub ⟨rfl, rfl, rfl, rfl, rfl, rfl, rfl, trivial⟩, hE1337, hI1338, h1328, q1336, h1219, z1220, q1333, q1332, hN1295⟩
            replace hF := if_f hp1298 hF; refine wp_exit ?_; refine e_then_exit ?_; refine e_lq_eq ?_; obtain rfl := Option.some.inj hF
            exact ⟨l1215, v1216, b1217, ha.sub ⟨rfl, rfl, rfl, rfl, trivial⟩, hE1225, h1213, z1214, (LK_inr hN1295).symm⟩
        rintro a w1282 ⟨l1286, v1287, b1288, ha, hE1294, h1284, z1285, rfl⟩
        have hF : F_impl_growthOf_k5 u460 i1074 l1286 = some _ := hK1291; clear hK1291; unfold F_impl_growthOf_k5 at hF
        refine e_then ?_; refine wp_region_lit ?_; (iterate 2 refine op_g ha rfl (g_move rfl) ?_; clear ha a; intro a ha); obtain ⟨x1340, hc1341, hF⟩ := cal_some hF
        refine o_call ha rfl rfl Tryz.call51 (W_impl_one hI1075 hc1341) ?_; clear ha a; rintro v1342 w1343 ⟨rfl, hx1344⟩ a ha
        replace h1284 := h1284.ext hx1344
        have hE1345 := Ext.trans hE1294 hx1344
        refine op_g ha rfl (g32_or (m := u460) (n := x1340) rfl rfl) ?_; clear ha a; intro a ha; refine op_g ha rfl (g_assign rfl) ?_; clear ha a; intro a ha; refine wpList_nil ?_; replace ha := ha.sub (σ' := [(0, va0), (3, v1287), (4, (.int .u32 (BitVec.toNat (u460 ||| x1340) : Int)))]) ⟨rfl, rfl, rfl, trivial⟩; refine e_blk ?_; refine e_lq ?_; obtain rfl := Option.some.inj hF
        exact ⟨_, Nat.lt_succ_self _, l1286, u460 ||| x1340, v1287, b1288, ha.sub ⟨rfl, rfl, rfl, trivial⟩, hE1345, h1284, z1285, hN913⟩
      replace hF := if_f hp922 hF; refine wp_exit ?_; refine e_then_exit ?_; refine e_lq_eq ?_; obtain rfl := Option.some.inj hF
      exact ⟨l457, v458, b459, ha.sub ⟨rfl, trivial⟩, hE921, h455, z456, (LK_inr hN913).symm⟩
  rintro a w900 ⟨l904, v905, b906, ha, hE912, h902, z903, rfl⟩
  have hF : F_impl_growthOf_k6 l904 = some _ := hK909; clear hK909; unfold F_impl_growthOf_k6 at hF
  refine e_then ?_; refine wp_seq ?_; refine wp_region_lit ?_; refine op_g ha rfl (g_move rfl) ?_; clear ha a; intro a ha; refine op_g ha rfl (g_assign rfl) ?_; clear ha a; intro a ha; refine wpList_nil ?_; replace ha := ha.sub (σ' := [(2, v905)]) ⟨rfl, trivial⟩; refine e_then ?_; refine wp_ret ?_; obtain rfl := Option.some.inj hF
  exact f_ret1 ha rfl rfl ⟨_, h902, z903, hE912⟩
set_option maxHeartbeats 2000000 in

set_option maxHeartbeats 2000000 in

set_option maxHeartbeats 2000000 in

set_option maxHeartbeats 2000000 in
theorem W_slices_Sorted_int {W : World} {va0 : Value} {a0 : (List Int)} (ha0 : Seq3 W va0 a0) {r : (List Int)} (hF : F_slices_Sorted_int a0 = some r) :
    Calls Tryz.prog 68 [va0].toArray W (Ret fun u w' => ∃ (b_u : Int), Ow Rp.int 3 true w' [] b_u u r ∧ Zn W b_u ∧ Ext W w') := by
  refine f_enter Tryz.func68 rfl Tryz.ntmps68 rfl ?_
  intro a ha
  replace ha : Fr 9 [(0, va0)] a := ha
  have hE : Chg [] W W := Chg.refl _ _
  unfold F_slices_Sorted_int at hF
  refine wp_seq ?_; refine wp_region_lit ?_; refine op_g ha rfl (g_assign rfl) ?_; clear ha a; intro a ha; refine wpList_nil ?_; replace ha := ha.sub (σ' := [(0, va0)]) ⟨rfl, trivial⟩; refine e_then ?_; refine wp_seq ?_; refine wp_region_lit ?_; refine op_g ha rfl (g_move rfl) ?_; clear ha a; intro a ha; obtain ⟨x1, hc2, hF⟩ := cal_some hF
  refine o_call ha rfl rfl Tryz.call75 (W_slices_Collect_int ha0 hc2) ?_; clear ha a; rintro v3 w4 ⟨b6, h7, z8, hx5⟩ a ha
  have hE10 := Ext.trans hE hx5
  have q11 := Zn.upD z8 hE
  refine op_g ha rfl (g_assign rfl) ?_; clear ha a; intro a ha; refine wpList_nil ?_; replace ha := ha.sub (σ' := [(3, v3)]) ⟨rfl, trivial⟩; refine e_then ?_; refine wp_seq ?_; refine wp_region_lit ?_; refine op_g ha rfl (g_move rfl) ?_; clear ha a; intro a ha; obtain ⟨x12, hc13, hF⟩ := cal_some hF
  refine o_call ha rfl rfl Tryz.call76 (W_slices_Sort_int h7 hc13) ?_; clear ha a; rintro v14 w15 ⟨rfl, h17, hx16⟩ a ha
  have hE18 := Ext.then hE10 hx16 (Zn.bl q11)
  refine wpList_nil ?_; replace ha := ha.sub (σ' := [(3, v3)]) ⟨rfl, trivial⟩; refine e_then ?_; refine wp_seq ?_; refine wp_region_lit ?_; refine op_g ha rfl (g_move rfl) ?_; clear ha a; intro a ha; refine op_g ha rfl (g_assign rfl) ?_; clear ha a; intro a ha; refine wpList_nil ?_; replace ha := ha.sub (σ' := [(2, v3)]) ⟨rfl, trivial⟩; refine e_then ?_; refine wp_ret ?_; obtain rfl := Option.some.inj hF
  exact f_ret1 ha rfl rfl ⟨_, h17, q11, hE18⟩
set_option maxHeartbeats 2000000 in
theorem W_slices_Index_int {W : World} {va0 : Value} {fa0 : List Nat} {a0 : (List Int)} (ha0 : Ro Rp.int W fa0 va0 a0) {a1 : Int} (ha1 : InI a1) {r : Int} (hF : F_slices_Index_int a0 a1 = some r) :
    Calls Tryz.prog 78 [va0, .int .i64 a1].toArray W (Ret fun u w' => (u = .int .i64 r ∧ InI r) ∧ Ext W w') := by
  refine f_enter Tryz.func78 rfl Tryz.ntmps78 rfl ?_
  intro a ha
  replace ha : Fr 19 [(0, va0), (1, (.int .i64 a1))] a := ha
  have hE : Chg [] W W := Chg.refl _ _
  unfold F_slices_Index_int at hF
  refine wp_seq ?_; refine wp_region_lit ?_; refine op_g ha rfl (g_assign rfl) ?_; clear ha a; intro a ha; refine wpList_nil ?_; replace ha := ha.sub (σ' := [(0, va0), (1, (.int .i64 a1))]) ⟨rfl, rfl, trivial⟩; refine e_then ?_; refine wp_seq ?_; refine wp_seq ?_; refine wp_region_lit ?_; refine op_g ha rfl (g_move rfl) ?_; clear ha a; intro a ha; refine op_g ha rfl (g_lenR sl66.und ha0 rfl) ?_; clear ha a; intro a ha; refine op_g ha rfl (g_move rfl) ?_; clear ha a; intro a ha; refine wpList_nil ?_; replace ha := ha.sub (σ' := [(0, va0), (1, (.int .i64 a1)), (7, (.int .i64 (a0.length : Int))), (8, (.int .i64 0))]) ⟨rfl, rfl, rfl, rfl, trivial⟩
  refine e_then ?_; obtain ⟨o46, ho47, hK48⟩ := bnd_some hF
  obtain ⟨n49, hn50⟩ := lp_some ho47; clear ho47
  refine c_loop (fun a w => Fr 19 [] a ∧ Chg [] W w ∧ o46 = .inl ()) (fun n a w => ∃ (i23 : Int), Fr 19 [(0, va0), (1, (.int .i64 a1)), (7, (.int .i64 (a0.length : Int))), (8, (.int .i64 i23))] a ∧ Chg [] W w ∧ InI i23 ∧ lpN (fun s => F_slices_Index_int_l1 a0 a1 s) n i23 = some o46) n49 ⟨0, ha.sub ⟨rfl, rfl, rfl, rfl, trivial⟩, hE, (show InI 0 from by decide), hn50⟩ ?_ ?_
  · rintro m54 a w22 ⟨i23, ha, hE25, hI24, hF⟩
    cases m54 with
    | zero => exact (lpN_zero hF).elim
    | succ m54 =>
      obtain ⟨z53, hF, hN52⟩ := lpN_succ hF
      have hF : F_slices_Index_int_l1 a0 a1 i23 = some z53 := hF; unfold F_slices_Index_int_l1 at hF
      refine wp_seq ?_; refine wp_region_lit ?_; refine op_g ha rfl (g_lss rfl rfl) ?_; clear ha a; intro a ha; refine wpList_nil ?_; replace ha := ha.sub (σ' := [(0, va0), (1, (.int .i64 a1)), (7, (.int .i64 (a0.length : Int))), (8, (.int .i64 i23)), (9, (.bool (decide (i23 < (a0.length : Int)))))]) ⟨rfl, rfl, rfl, rfl, rfl, trivial⟩; refine e_then ?_; refine wp_seq ?_; refine c_cond (i23 < (a0.length : Int)) ha rfl (decide_eq_true_iff) (fun hp55 => ?_) (fun hp55 => ?_)
      · replace hF := if_t hp55 hF
        refine wp_skip ?_; refine e_then ?_; refine wp_seq ?_; refine wp_block ?_; refine wp_seq ?_; refine wp_region_lit ?_; refine op_g ha rfl (g_move rfl) ?_; clear ha a; intro a ha; refine op_g ha rfl (g_assign rfl) ?_; clear ha a; intro a ha; refine wpList_nil ?_; replace ha := ha.sub (σ' := [(0, va0), (1, (.int .i64 a1)), (5, (.int .i64 i23)), (7, (.int .i64 (a0.length : Int))), (8, (.int .i64 i23))]) ⟨rfl, rfl, rfl, rfl, rfl, trivial⟩; refine e_then ?_; refine wp_seq ?_; refine wp_region_lit ?_; (iterate 3 refine op_g ha rfl (g_move rfl) ?_; clear ha a; intro a ha); obtain ⟨x56, g57, gx58, hF⟩ := idx_some hF
        obtain ⟨p59, cs60, f61, hf62, hpb63, hat64, hr65, hi66⟩ := ha0.at g57 gx58
        obtain ⟨rfl, hI67, rfl⟩ := hr65
        refine op_g ha rfl (hi66.gives sl66 rfl rfl) ?_; clear ha a; intro a ha; refine op_g ha rfl (g_load0 hE25 Tryz.isAgg3 rfl hat64.one) ?_; clear ha a; intro a ha; refine op_g ha rfl (g_eql rfl rfl) ?_; clear ha a; intro a ha; refine wpList_nil ?_; replace ha := ha.sub (σ' := [(0, va0), (1, (.int .i64 a1)), (5, (.int .i64 i23)), (7, (.int .i64 (a0.length : Int))), (8, (.int .i64 i23)), (16, (.bool (decide (a1 = x56))))]) ⟨rfl, rfl, rfl, rfl, rfl, rfl, trivial⟩; refine e_then ?_; refine c_cond (a1 = x56) ha rfl (decide_eq_true_iff) (fun hp68 => ?_) (fun hp68 => ?_)
        · replace hF := if_t hp68 hF
          refine wp_seq ?_; refine wp_region_lit ?_; refine op_g ha rfl (g_move rfl) ?_; clear ha a; intro a ha; refine op_g ha rfl (g_assign rfl) ?_; clear ha a; intro a ha; refine wpList_nil ?_; replace ha := ha.sub (σ' := [(4, (.int .i64 i23))]) ⟨rfl, trivial⟩; refine e_then ?_; refine wp_ret ?_; refine e_blk_ret ?_; refine e_then_ret ?_; refine e_lq_ret ?_; refine e_then_ret ?_; obtain rfl := Option.some.inj hF
          have e69 := LK_inr hN52; subst e69
          have e70 := BK_inr hK48; subst e70
          exact f_ret1 ha rfl rfl ⟨⟨rfl, hI24⟩, hE25⟩
        replace hF := if_f hp68 hF; refine wp_skip ?_; refine e_blk ?_; refine e_then ?_; refine wp_region_lit ?_; obtain ⟨hI71, hF⟩ := ck_some hF; refine op_g ha rfl (g_add rfl rfl hI71) ?_; clear ha a; intro a ha; refine op_g ha rfl (g_move rfl) ?_; clear ha a; intro a ha; refine wpList_nil ?_; replace ha := ha.sub (σ' := [(0, va0), (1, (.int .i64 a1)), (7, (.int .i64 (a0.length : Int))), (8, (.int .i64 (i23 + 1)))]) ⟨rfl, rfl, rfl, rfl, trivial⟩; refine e_lq ?_; obtain rfl := Option.some.inj hF
        exact ⟨_, Nat.lt_succ_self _, i23 + 1, ha.sub ⟨rfl, rfl, rfl, rfl, trivial⟩, hE25, hI71, hN52⟩
      replace hF := if_f hp55 hF; refine wp_exit ?_; refine e_then_exit ?_; refine e_lq_eq ?_; obtain rfl := Option.some.inj hF
      exact ⟨ha.sub trivial, hE25, (LK_inr hN52).symm⟩
  rintro a w45 ⟨ha, hE51, rfl⟩
  have hF : F_slices_Index_int_k2 = some _ := hK48; clear hK48; unfold F_slices_Index_int_k2 at hF
  refine e_then ?_; refine wp_seq ?_; refine wp_region_lit ?_; refine op_g ha rfl (g_assign rfl) ?_; clear ha a; intro a ha; refine wpList_nil ?_; refine e_then ?_; refine wp_ret ?_; obtain rfl := Option.some.inj hF
  exact f_ret1 ha rfl rfl ⟨⟨rfl, (show InI (-1) from by decide)⟩, hE51⟩
set_option maxHeartbeats 2000000 in
theorem W_impl_turns_after {W : World} {va0 : Value} {fa0 : List Nat} {a0 : (List (List Int))} (ha0 : Ro (Rp.sl 3 Rp.int) W fa0 va0 a0) {a1 : Int} (ha1 : InI a1) {a2 : Int} (ha2 : InI a2) {r : Int} (hF : F_impl_turns_after a0 a1 a2 = some r) :
    Calls Tryz.prog 70 [va0, .int .i64 a1, .int .i64 a2].toArray W (Ret fun u w' => (u = .int .i64 r ∧ InI r) ∧ Ext W w') := by
  refine f_enter Tryz.func70 rfl Tryz.ntmps70 rfl ?_
  intro a ha
  replace ha : Fr 28 [(0, va0), (1, (.int .i64 a1)), (2, (.int .i64 a2))] a := ha
  have hE : Chg [] W W := Chg.refl _ _
  unfold F_impl_turns_after at hF
  refine wp_seq ?_; refine wp_region_lit ?_; refine op_g ha rfl (g_assign rfl) ?_; clear ha a; intro a ha; refine wpList_nil ?_; replace ha := ha.sub (σ' := [(0, va0), (1, (.int .i64 a1)), (2, (.int .i64 a2))]) ⟨rfl, rfl, rfl, trivial⟩; refine e_then ?_; refine wp_seq ?_; refine wp_region_lit ?_; (iterate 2 refine op_g ha rfl (g_move rfl) ?_; clear ha a; intro a ha); obtain ⟨x1, g2, gx3, hF⟩ := idx_some hF
  obtain ⟨p4, cs5, f6, hf7, hpb8, hat9, hr10, hi11⟩ := ha0.at g2 gx3
  obtain ⟨v12, rfl, h13⟩ := hr10
  have h13 : Ro Rp.int W f6 v12 x1 := h13
  refine op_g ha rfl (hi11.gives sl49 rfl rfl) ?_; clear ha a; intro a ha; refine op_g ha rfl (g_load0 hE Tryz.isAgg66 rfl hat9.one) ?_; clear ha a; intro a ha; refine op_g ha rfl (g_move rfl) ?_; clear ha a; intro a ha; obtain ⟨x15, hc16, hF⟩ := cal_some hF
  refine o_call ha rfl rfl Tryz.call78 (W_slices_Index_int (h13.ext hE) ha2 hc16) ?_; clear ha a; rintro v17 w18 ⟨⟨rfl, hI20⟩, hx19⟩ a ha
  have hE21 := Ext.trans hE hx19
  refine op_g ha rfl (g_assign rfl) ?_; clear ha a; intro a ha; refine wpList_nil ?_; replace ha := ha.sub (σ' := [(0, va0), (1, (.int .i64 a1)), (7, (.int .i64 x15))]) ⟨rfl, rfl, rfl, trivial⟩; refine e_then ?_; refine wp_seq ?_; refine d_quiet hmix (by kernel_rfl) ?_; (iterate 2 refine q_g ha rfl (g_move rfl) ?_; clear ha a; intro a ha); obtain ⟨x22, g23, gx24, hF⟩ := idx_some hF
  obtain ⟨p25, cs26, f27, hf28, hpb29, hat30, hr31, hi32⟩ := ha0.at g23 gx24
  obtain ⟨v33, rfl, h34⟩ := hr31
  have h34 : Ro Rp.int W f27 v33 x22 := h34
  refine q_g ha rfl (hi32.gives sl49 rfl rfl) ?_; clear ha a; intro a ha; refine q_g ha rfl (g_load0 hE21 Tryz.isAgg66 rfl hat30.one) ?_; clear ha a; intro a ha; refine q_g ha rfl (g_move rfl) ?_; clear ha a; intro a ha; obtain ⟨hI36, hF⟩ := ck_some hF; refine q_g ha rfl (g_add rfl rfl hI36) ?_; clear ha a; intro a ha; (iterate 2 refine q_g ha rfl (g_move rfl) ?_; clear ha a; intro a ha); obtain ⟨x38, g39, gx40, hF⟩ := idx_some hF
  obtain ⟨p41, cs42, f43, hf44, hpb45, hat46, hr47, hi48⟩ := ha0.at g39 gx40
  obtain ⟨v49, rfl, h50⟩ := hr47
  have h50 : Ro Rp.int W f43 v49 x38 := h50
  refine q_g ha rfl (hi48.gives sl49 rfl rfl) ?_; clear ha a; intro a ha; refine q_g ha rfl (g_load0 hE21 Tryz.isAgg66 rfl hat46.one) ?_; clear ha a; intro a ha; refine q_g ha rfl (g_lenR sl66.und h50 rfl) ?_; clear ha a; intro a ha; obtain ⟨hq52, hF⟩ := grd_some hF
  have hI53 := in_rem hI36 hq52.1 hq52.2
  refine q_g ha rfl (g_rem rfl rfl hI36 hq52.1 hq52.2) ?_; clear ha a; intro a ha; obtain ⟨x54, g55, gx56, hF⟩ := idx_some hF
  obtain ⟨p57, cs58, f59, hf60, hpb61, hat62, hr63, hi64⟩ := h34.at g55 gx56
  obtain ⟨rfl, hI65, rfl⟩ := hr63
  refine q_g ha rfl (hi64.gives sl66 rfl rfl) ?_; clear ha a; intro a ha; refine q_g ha rfl (g_load0 hE21 Tryz.isAgg3 rfl hat62.one) ?_; clear ha a; intro a ha; refine q_g ha rfl (g_assign rfl) ?_; clear ha a; intro a ha
  refine q_nil ?_; intro w66 hx67
  have hE68 := Ext.trans hE21 hx67
  replace ha := ha.sub (σ' := [(6, (.int .i64 x54))]) ⟨rfl, trivial⟩; refine e_then ?_; refine wp_ret ?_; obtain rfl := Option.some.inj hF
  exact f_ret1 ha rfl rfl ⟨⟨rfl, hI65⟩, hE68⟩
set_option maxHeartbeats 2000000 in
theorem W_impl_turns_faces {W : World} {va0 : Value} {fa0 : List Nat} {a0 : (List (List Int))} (ha0 : Ro (Rp.sl 3 Rp.int) W fa0 va0 a0) {r : ((List (List Int)) × (Tf (Int × Int)))} (hF : F_impl_turns_faces a0 = some r) :
    Calls Tryz.prog 52 [va0].toArray W (Ret fun u w' => ∃ (u0 : Value) (u1 : Value) (b_u0 : Int) (fs_u0 : List Nat) (m_u1 : Nat), u = .tuple #[u0, u1] ∧ Ow (Rp.sl 3 Rp.int) 66 true w' fs_u0 b_u0 u0 r.1 ∧ Zn W b_u0 ∧ (∀ k ∈ fs_u0, W.heap.size ≤ k) ∧ (bl b_u0 ++ fs_u0).Nodup ∧ u1 = .map (some m_u1) ∧ MtP KP82 w' m_u1 r.2 ∧ Zn W (m_u1 : Int) ∧ Ext W w') := by
  refine f_enter Tryz.func52 rfl Tryz.ntmps52 rfl ?_
  intro a ha
  replace ha : Fr 80 [(0, va0)] a := ha
  have hE : Chg [] W W := Chg.refl _ _
  unfold F_impl_turns_faces at hF
  refine wp_seq ?_; refine wp_region_lit ?_; (iterate 2 refine op_g ha rfl (g_assign rfl) ?_; clear ha a; intro a ha); refine wpList_nil ?_; replace ha := ha.sub (σ' := [(0, va0)]) ⟨rfl, trivial⟩; refine e_then ?_; refine wp_seq ?_; refine wp_region_lit ?_
  refine o_lit0 (Rp.sl 3 Rp.int) ha rfl sl48 ?_; clear ha a; intro v1 w2 h3 hx4 a ha
  obtain ⟨b6, hb6⟩ : ∃ b : Int, b = W.heap.size := ⟨_, rfl⟩; rw [← hb6] at h3
  have q7 := zn_of hb6
  have q8 := Zn.upD q7 hE
  have hE9 := Ext.trans hE hx4
  refine o_newP KP82 kP82 ha rfl ?_; clear ha a; intro m10 w11 hM12 hx13 hlo14 a ha
  have q15 := Zn.one hlo14
  have q16 := Nq.new h3.fpb q15
  have q17 := Nq.made1 hlo14 h3.blt
  have q18 := Zn.upD q15 hE9
  replace h3 := h3.ext hx13
  have hE19 := Ext.trans hE9 hx13
  (iterate 2 refine op_g ha rfl (g_assign rfl) ?_; clear ha a; intro a ha); refine wpList_nil ?_; replace ha := ha.sub (σ' := [(0, va0), (4, v1), (5, (.map (some m10)))]) ⟨rfl, rfl, rfl, trivial⟩; refine e_then ?_; refine wp_seq ?_; refine wp_seq ?_; refine wp_region_lit ?_; refine op_g ha rfl (g_move rfl) ?_; clear ha a; intro a ha; refine op_g ha rfl (g_lenR sl49.und ha0 rfl) ?_; clear ha a; intro a ha; refine op_g ha rfl (g_move rfl) ?_; clear ha a; intro a ha; refine wpList_nil ?_; replace ha := ha.sub (σ' := [(0, va0), (4, v1), (5, (.map (some m10))), (18, va0), (19, (.int .i64 (a0.length : Int))), (20, (.int .i64 0))]) ⟨rfl, rfl, rfl, rfl, rfl, rfl, trivial⟩
  refine e_then ?_; obtain ⟨o3831, ho3832, hK3833⟩ := bnd_some hF
  obtain ⟨n3834, hn3835⟩ := lp_some ho3832; clear ho3832
  refine c_loop (fun a w => ∃ (l3823 : (List (List Int))) (T3828 : Tf (Int × Int)) (fs3820 : List Nat) (v3824 : Value) (b3825 : Int), Fr 80 [(4, v3824), (5, (.map (some m10)))] a ∧ Chg [] W w ∧ Ow (Rp.sl 3 Rp.int) 66 true w fs3820 b3825 v3824 l3823 ∧ Zn W b3825 ∧ (∀ k ∈ fs3820, W.heap.size ≤ k) ∧ (bl b3825 ++ fs3820).Nodup ∧ MtP KP82 w m10 T3828 ∧ Zn W (m10 : Int) ∧ Nq (bl b3825 ++ fs3820) (m10 : Int) ∧ Nq ([m10]) b3825 ∧ o3831 = .inl (l3823, T3828)) (fun n a w => ∃ (l1922 : (List (List Int))) (T1927 : Tf (Int × Int)) (i1928 : Int) (fs1919 : List Nat) (v1923 : Value) (b1924 : Int), Fr 80 [(0, va0), (4, v1923), (5, (.map (some m10))), (18, va0), (19, (.int .i64 (a0.length : Int))), (20, (.int .i64 i1928))] a ∧ Chg [] W w ∧ InI i1928 ∧ Ow (Rp.sl 3 Rp.int) 66 true w fs1919 b1924 v1923 l1922 ∧ Zn W b1924 ∧ (∀ k ∈ fs1919, W.heap.size ≤ k) ∧ (bl b1924 ++ fs1919).Nodup ∧ MtP KP82 w m10 T1927 ∧ Zn W (m10 : Int) ∧ Nq (bl b1924 ++ fs1919) (m10 : Int) ∧ Nq ([m10]) b1924 ∧ lpN (fun s => F_impl_turns_faces_l1 a0 s.1 s.2.1 s.2.2) n (l1922, T1927, i1928) = some o3831) n3834 ⟨([] : (List (List Int))), (noT : Tf (Int × Int)), 0, [], v1, b6, ha.sub ⟨rfl, rfl, rfl, rfl, rfl, rfl, trivial⟩, hE19, (show InI 0 from by decide), h3, q8, (zf_nil _), (bl_nodup b6), hM12, q18, q16, q17, hn3835⟩ ?_ ?_
  · rintro m3839 a w1915 ⟨l1922, T1927, i1928, fs1919, v1923, b1924, ha, hE1932, hI1929, h1917, z1918, zf1920, nd1921, hM1925, z1926, q1930, q1931, hF⟩
    cases m3839 with
    | zero => exact (lpN_zero hF).elim
    | succ m3839 =>
      obtain ⟨z3838, hF, hN3837⟩ := lpN_succ hF
      have hF : F_impl_turns_faces_l1 a0 l1922 T1927 i1928 = some z3838 := hF; unfold F_impl_turns_faces_l1 at hF
      refine wp_seq ?_; refine wp_region_lit ?_; refine op_g ha rfl (g_lss rfl rfl) ?_; clear ha a; intro a ha; refine wpList_nil ?_; replace ha := ha.sub (σ' := [(0, va0), (4, v1923), (5, (.map (some m10))), (18, va0), (19, (.int .i64 (a0.length : Int))), (20, (.int .i64 i1928)), (21, (.bool (decide (i1928 < (a0.length : Int)))))]) ⟨rfl, rfl, rfl, rfl, rfl, rfl, rfl, trivial⟩; refine e_then ?_; refine wp_seq ?_; refine c_cond (i1928 < (a0.length : Int)) ha rfl (decide_eq_true_iff) (fun hp3840 => ?_) (fun hp3840 => ?_)
      · replace hF := if_t hp3840 hF
        refine wp_skip ?_; refine e_then ?_; refine wp_seq ?_; refine wp_block ?_; refine wp_seq ?_; refine wp_region_lit ?_; refine op_g ha rfl (g_move rfl) ?_; clear ha a; intro a ha; obtain ⟨x3841, g3842, gx3843, hF⟩ := idx_some hF
        obtain ⟨p3844, cs3845, f3846, hf3847, hpb3848, hat3849, hr3850, hi3851⟩ := ha0.at g3842 gx3843
        obtain ⟨v3852, rfl, h3853⟩ := hr3850
        have h3853 : Ro Rp.int W f3846 v3852 x3841 := h3853
        refine op_g ha rfl (hi3851.gives sl49 rfl rfl) ?_; clear ha a; intro a ha; refine op_g ha rfl (g_load0 hE1932 Tryz.isAgg66 rfl hat3849.one) ?_; clear ha a; intro a ha; (iterate 2 refine op_g ha rfl (g_assign rfl) ?_; clear ha a; intro a ha); refine wpList_nil ?_; replace ha := ha.sub (σ' := [(0, va0), (4, v1923), (5, (.map (some m10))), (6, (.int .i64 i1928)), (7, v3852), (18, va0), (19, (.int .i64 (a0.length : Int))), (20, (.int .i64 i1928))]) ⟨rfl, rfl, rfl, rfl, rfl, rfl, rfl, rfl, trivial⟩; refine e_then ?_; refine wp_seq ?_; refine wp_region_lit ?_; refine op_g ha rfl (g_move rfl) ?_; clear ha a; intro a ha
        obtain ⟨x3855, hc3856, hF⟩ := cal_some hF
        refine o_call ha rfl rfl Tryz.call69 (W_slices_Values_int (h3853.ext hE1932) hc3856) ?_; clear ha a; rintro v3857 w3858 ⟨h3860, hx3859⟩ a ha
        replace h1917 := h1917.ext hx3859
        replace hM1925 := hM1925.ext hx3859
        have hE3861 := Ext.trans hE1932 hx3859
        obtain ⟨x3862, hc3863, hF⟩ := cal_some hF
        refine o_call ha rfl rfl Tryz.call68 (W_slices_Sorted_int h3860 hc3863) ?_; clear ha a; rintro v3864 w3865 ⟨b3867, h3868, z3869, hx3866⟩ a ha
        have q3871 := Nq.new h1917.fpb z3869
        have q3872 := Nq.madeO z3869 h1917.blt
        have q3873 := Nq.new hM1925.fpb z3869
        have q3874 := Nq.madeO z3869 hM1925.bi
        have q3875 := Nf.old z3869 (zf_nil _) h1917.bnd
        replace h1917 := h1917.ext hx3866
        replace hM1925 := hM1925.ext hx3866
        have hE3876 := Ext.trans hE3861 hx3866
        have q3877 := Zn.upD z3869 hE3861
        refine op_g ha rfl (g_lenO sl66.und h3868 rfl) ?_; clear ha a; intro a ha; refine op_g ha rfl (g_move rfl) ?_; clear ha a; intro a ha; refine wpList_nil ?_; replace ha := ha.sub (σ' := [(0, va0), (4, v1923), (5, (.map (some m10))), (6, (.int .i64 i1928)), (18, va0), (19, (.int .i64 (a0.length : Int))), (20, (.int .i64 i1928)), (27, v3864), (28, (.int .i64 (x3862.length : Int))), (29, (.int .i64 0))]) ⟨rfl, rfl, rfl, rfl, rfl, rfl, rfl, rfl, rfl, rfl, trivial⟩; refine e_then ?_; obtain ⟨o5127, ho5128, hK5129⟩ := bnd_some hF
        obtain ⟨n5130, hn5131⟩ := lp_some ho5128; clear ho5128
        refine c_loop (fun a w => ∃ (l5119 : (List (List Int))) (T5124 : Tf (Int × Int)) (fs5116 : List Nat) (v5120 : Value) (b5121 : Int), Fr 80 [(0, va0), (4, v5120), (5, (.map (some m10))), (18, va0), (19, (.int .i64 (a0.length : Int))), (20, (.int .i64 i1928))] a ∧ Chg [] W w ∧ Ow (Rp.sl 3 Rp.int) 66 true w fs5116 b5121 v5120 l5119 ∧ Zn W b5121 ∧ (∀ k ∈ fs5116, W.heap.size ≤ k) ∧ (bl b5121 ++ fs5116).Nodup ∧ MtP KP82 w m10 T5124 ∧ Zn W (m10 : Int) ∧ Nq (bl b5121 ++ fs5116) (m10 : Int) ∧ Nq ([m10]) b5121 ∧ o5127 = .inl (l5119, T5124)) (fun n a w => ∃ (l4502 : (List (List Int))) (T4507 : Tf (Int × Int)) (i4511 : Int) (fs4499 : List Nat) (v4503 : Value) (b4504 : Int), Fr 80 [(0, va0), (4, v4503), (5, (.map (some m10))), (6, (.int .i64 i1928)), (18, va0), (19, (.int .i64 (a0.length : Int))), (20, (.int .i64 i1928)), (27, v3864), (28, (.int .i64 (x3862.length : Int))), (29, (.int .i64 i4511))] a ∧ Chg [] W w ∧ InI i4511 ∧ Ow (Rp.sl 3 Rp.int) 66 true w fs4499 b4504 v4503 l4502 ∧ Zn W b4504 ∧ (∀ k ∈ fs4499, W.heap.size ≤ k) ∧ (bl b4504 ++ fs4499).Nodup ∧ MtP KP82 w m10 T4507 ∧ Zn W (m10 : Int) ∧ Ow Rp.int 3 true w [] b3867 v3864 x3862 ∧ Zn W b3867 ∧ Nq (bl b4504 ++ fs4499) (m10 : Int) ∧ Nq (bl b4504 ++ fs4499) b3867 ∧ Nq ([m10]) b4504 ∧ Nq ([m10]) b3867 ∧ Nq (bl b3867 ++ []) b4504 ∧ Nq (bl b3867 ++ []) (m10 : Int) ∧ lpN (fun s => F_impl_turns_faces_l2 a0 i1928 x3862 s.1 s.2.1 s.2.2) n (l4502, T4507, i4511) = some o5127) n5130 ⟨l1922, T1927, 0, fs1919, v1923, b1924, ha.sub ⟨rfl, rfl, rfl, rfl, rfl, rfl, rfl, rfl, rfl, rfl, trivial⟩, hE3876, (show InI 0 from by decide), h1917, z1918, zf1920, nd1921, hM1925, z1926, h3868, q3877, q1930, q3871, q1931, q3873, q3872, q3874, hn5131⟩ ?_ ?_
        · rintro m5135 a w4495 ⟨l4502, T4507, i4511, fs4499, v4503, b4504, ha, hE4519, hI4512, h4497, z4498, zf4500, nd4501, hM4505, z4506, h4509, z4510, q4513, q4514, q4515, q4516, q4517, q4518, hF⟩
          cases m5135 with
          | zero => exact (lpN_zero hF).elim
          | succ m5135 =>
            obtain ⟨z5134, hF, hN5133⟩ := lpN_succ hF
            have hF : F_impl_turns_faces_l2 a0 i1928 x3862 l4502 T4507 i4511 = some z5134 := hF; unfold F_impl_turns_faces_l2 at hF
            refine wp_seq ?_; refine wp_region_lit ?_; refine op_g ha rfl (g_lss rfl rfl) ?_; clear ha a; intro a ha; refine wpList_nil ?_; replace ha := ha.sub (σ' := [(0, va0), (4, v4503), (5, (.map (some m10))), (6, (.int .i64 i1928)), (18, va0), (19, (.int .i64 (a0.length : Int))), (20, (.int .i64 i1928)), (27, v3864), (28, (.int .i64 (x3862.length : Int))), (29, (.int .i64 i4511)), (30, (.bool (decide (i4511 < (x3862.length : Int)))))]) ⟨rfl, rfl, rfl, rfl, rfl, rfl, rfl, rfl, rfl, rfl, rfl, trivial⟩; refine e_then ?_; refine wp_seq ?_; refine c_cond (i4511 < (x3862.length : Int)) ha rfl (decide_eq_true_iff) (fun hp5136 => ?_) (fun hp5136 => ?_)
            · replace hF := if_t hp5136 hF
              refine wp_skip ?_; refine e_then ?_; refine wp_seq ?_; refine wp_block ?_; refine wp_seq ?_; refine wp_region_lit ?_; obtain ⟨x5137, g5138, gx5139, hF⟩ := idx_some hF
              obtain ⟨p5140, cs5141, f5142, hf5143, hpb5144, hat5145, hr5146, hi5147⟩ := h4509.at g5138 gx5139
              obtain ⟨rfl, hI5148, rfl⟩ := hr5146
              refine op_g ha rfl (hi5147.gives sl66 rfl rfl) ?_; clear ha a; intro a ha; refine op_g ha rfl (g_load Tryz.isAgg3 rfl hat5145.one) ?_; clear ha a; intro a ha; refine op_g ha rfl (g_assign rfl) ?_; clear ha a; intro a ha; refine wpList_nil ?_; replace ha := ha.sub (σ' := [(0, va0), (4, v4503), (5, (.map (some m10))), (6, (.int .i64 i1928)), (9, (.int .i64 x5137)), (18, va0), (19, (.int .i64 (a0.length : Int))), (20, (.int .i64 i1928)), (27, v3864), (28, (.int .i64 (x3862.length : Int))), (29, (.int .i64 i4511))]) ⟨rfl, rfl, rfl, rfl, rfl, rfl, rfl, rfl, rfl, rfl, rfl, trivial⟩; refine e_then ?_
              refine wp_seq ?_; refine wp_seq ?_; refine wp_region_lit ?_; (iterate 3 refine op_g ha rfl (g_move rfl) ?_; clear ha a; intro a ha); refine op_g ha rfl (g_build (vs := [(0, (.int .i64 i1928)), (1, (.int .i64 x5137))]) (cells := #[(.int .i64 i1928), (.int .i64 x5137)]) rfl (by rfl)) ?_; clear ha a; intro a ha; refine op_g ha rfl (g_lookup2 rfl rfl (hM4505.look2 uM84 Tryz.zeroValue3 hI1929 hI5148)) ?_; clear ha a; intro a ha; refine op_g ha rfl (g_move rfl) ?_; clear ha a; intro a ha; (iterate 2 refine op_g ha rfl (g_extract rfl rfl) ?_; clear ha a; intro a ha); (iterate 2 refine op_g ha rfl (g_assign rfl) ?_; clear ha a; intro a ha)
              refine wpList_nil ?_; replace ha := ha.sub (σ' := [(0, va0), (4, v4503), (5, (.map (some m10))), (6, (.int .i64 i1928)), (9, (.int .i64 x5137)), (11, (.bool ((T4507 (i1928, x5137)).isSome))), (18, va0), (19, (.int .i64 (a0.length : Int))), (20, (.int .i64 i1928)), (27, v3864), (28, (.int .i64 (x3862.length : Int))), (29, (.int .i64 i4511))]) ⟨rfl, rfl, rfl, rfl, rfl, rfl, rfl, rfl, rfl, rfl, rfl, rfl, trivial⟩; refine e_then ?_; refine wp_seq ?_; refine wp_region_lit ?_; refine op_g ha rfl (g_move rfl) ?_; clear ha a; intro a ha; refine wpList_nil ?_; replace ha := ha.sub (σ' := [(0, va0), (4, v4503), (5, (.map (some m10))), (6, (.int .i64 i1928)), (9, (.int .i64 x5137)), (18, va0), (19, (.int .i64 (a0.length : Int))), (20, (.int .i64 i1928)), (27, v3864), (28, (.int .i64 (x3862.length : Int))), (29, (.int .i64 i4511)), (41, (.bool ((T4507 (i1928, x5137)).isSome)))]) ⟨rfl, rfl, rfl, rfl, rfl, rfl, rfl, rfl, rfl, rfl, rfl, rfl, trivial⟩
              refine e_then ?_; refine c_cond ((T4507 (i1928, x5137)).isSome = true) ha rfl (Iff.rfl) (fun hp5149 => ?_) (fun hp5149 => ?_)
              · replace hF := if_t hp5149 hF
                refine wp_exit ?_; refine e_then_exit ?_; refine e_blk_eq ?_; refine e_then ?_; refine wp_region_lit ?_; obtain ⟨hI5150, hF⟩ := ck_some hF; refine op_g ha rfl (g_add rfl rfl hI5150) ?_; clear ha a; intro a ha; refine op_g ha rfl (g_move rfl) ?_; clear ha a; intro a ha; refine wpList_nil ?_; replace ha := ha.sub (σ' := [(0, va0), (4, v4503), (5, (.map (some m10))), (6, (.int .i64 i1928)), (18, va0), (19, (.int .i64 (a0.length : Int))), (20, (.int .i64 i1928)), (27, v3864), (28, (.int .i64 (x3862.length : Int))), (29, (.int .i64 (i4511 + 1)))]) ⟨rfl, rfl, rfl, rfl, rfl, rfl, rfl, rfl, rfl, rfl, trivial⟩
                refine e_lq ?_; obtain rfl := Option.some.inj hF
                exact ⟨_, Nat.lt_succ_self _, l4502, T4507, i4511 + 1, fs4499, v4503, b4504, ha.sub ⟨rfl, rfl, rfl, rfl, rfl, rfl, rfl, rfl, rfl, rfl, trivial⟩, hE4519, hI5150, h4497, z4498, zf4500, nd4501, hM4505, z4506, h4509, z4510, q4513, q4514, q4515, q4516, q4517, q4518, hN5133⟩
              replace hF := if_f hp5149 hF; refine wp_skip ?_; refine e_then ?_; refine wp_seq ?_; refine wp_region_lit ?_
              refine o_lit0 Rp.int ha rfl sl66 ?_; clear ha a; intro v5152 w5153 h5154 hx5155 a ha
              obtain ⟨b5157, hb5157⟩ : ∃ b : Int, b = w4495.heap.size := ⟨_, rfl⟩; rw [← hb5157] at h5154
              have q5158 := zn_of hb5157
              have q5159 := Nq.new h4497.fpb q5158
              have q5160 := Nq.madeO q5158 h4497.blt
              have q5161 := Nq.new hM4505.fpb q5158
              have q5162 := Nq.madeO q5158 hM4505.bi
              have q5163 := Nq.new h4509.fpb q5158
              have q5164 := Nq.madeO q5158 h4509.blt
              have q5165 := Nf.old q5158 (zf_nil _) h4497.bnd
              have q5166 := Zn.upD q5158 hE4519
              replace h4497 := h4497.ext hx5155
              replace hM4505 := hM4505.ext hx5155
              replace h4509 := h4509.ext hx5155
              have hE5167 := Ext.trans hE4519 hx5155
              refine op_g ha rfl (g_assign rfl) ?_; clear ha a; intro a ha; refine wpList_nil ?_; replace ha := ha.sub (σ' := [(0, va0), (4, v4503), (5, (.map (some m10))), (6, (.int .i64 i1928)), (9, (.int .i64 x5137)), (12, v5152), (18, va0), (19, (.int .i64 (a0.length : Int))), (20, (.int .i64 i1928)), (27, v3864), (28, (.int .i64 (x3862.length : Int))), (29, (.int .i64 i4511))]) ⟨rfl, rfl, rfl, rfl, rfl, rfl, rfl, rfl, rfl, rfl, rfl, rfl, trivial⟩; refine e_then ?_; refine wp_seq ?_; refine wp_seq ?_; refine wp_region_lit ?_; (iterate 2 refine op_g ha rfl (g_move rfl) ?_; clear ha a; intro a ha)
              refine op_g ha rfl (g_build (vs := [(0, (.int .i64 i1928)), (1, (.int .i64 x5137))]) (cells := #[(.int .i64 i1928), (.int .i64 x5137)]) rfl (by rfl)) ?_; clear ha a; intro a ha
              refine o_alloc (cs := [(.int .i64 0), (.int .i64 0)]) ha rfl Tryz.zeroValue82 rfl ?_; clear ha a; intro b5168 w5169 hB5170 hx5171 hlo5172 a ha
              have q5173 := Zn.one hlo5172
              have q5174 := Nq.new h4497.fpb q5173
              have q5175 := Nq.made1 hlo5172 h4497.blt
              have q5176 := Nf.old1 q5173 h4497.bnd
              have q5177 := Nq.new hM4505.fpb q5173
              have q5178 := Nq.made1 hlo5172 hM4505.bi
              have q5179 := Nq.new h4509.fpb q5173
              have q5180 := Nq.made1 hlo5172 h4509.blt
              have q5181 := Nq.new h5154.fpb q5173
              have q5182 := Nq.made1 hlo5172 h5154.blt
              have q5183 := Zn.upD q5173 hE5167
              replace h4497 := h4497.ext hx5171
              replace hM4505 := hM4505.ext hx5171
              replace h4509 := h4509.ext hx5171
              replace h5154 := h5154.ext hx5171
              have hE5184 := Ext.trans hE5167 hx5171
              refine o_storeA (vs := [(.int .i64 i1928), (.int .i64 x5137)]) ha hB5170 Tryz.sizeOf82 rfl rfl (by intro c hc; simp only [List.mem_cons, List.not_mem_nil, or_false] at hc; rcases hc with hc | hc <;> subst hc <;> first | rfl | exact rfl | exact rfl) rfl ?_; intro w5185 hB5186 hc5187
              replace hc5187 := hc5187.bl
              replace hB5186 : Bx w5185 b5168 [(.int .i64 i1928), (.int .i64 x5137)] 82 := hB5186
              replace h4497 := h4497.nq hc5187 q5174
              replace hM4505 := hM4505.nq hc5187 q5177
              replace h4509 := h4509.nq hc5187 q5179
              replace h5154 := h5154.nq hc5187 q5181
              have hE5188 := Ext.then hE5184 hc5187 (Zn.bl q5183)
              refine wpList_nil ?_; replace ha := ha.sub (σ' := [(0, va0), (4, v4503), (5, (.map (some m10))), (6, (.int .i64 i1928)), (12, v5152), (13, (.pointer (some ⟨b5168, 0, none⟩))), (18, va0), (19, (.int .i64 (a0.length : Int))), (20, (.int .i64 i1928)), (27, v3864), (28, (.int .i64 (x3862.length : Int))), (29, (.int .i64 i4511))]) ⟨rfl, rfl, rfl, rfl, rfl, rfl, rfl, rfl, rfl, rfl, rfl, rfl, trivial⟩; refine e_then ?_; obtain ⟨o5576, ho5577, hK5578⟩ := bnd_some hF
              obtain ⟨n5579, hn5580⟩ := lp_some ho5577; clear ho5577
              refine c_loop (fun a w => ∃ (l5549 : (List (List Int))) (T5554 : Tf (Int × Int)) (l5558 : (List Int)) (fs5546 : List Nat) (v5550 : Value) (b5551 : Int) (v5559 : Value) (b5560 : Int), Fr 80 [(0, va0), (4, v5550), (5, (.map (some m10))), (6, (.int .i64 i1928)), (12, v5559), (18, va0), (19, (.int .i64 (a0.length : Int))), (20, (.int .i64 i1928)), (27, v3864), (28, (.int .i64 (x3862.length : Int))), (29, (.int .i64 i4511))] a ∧ Chg [] W w ∧ Ow (Rp.sl 3 Rp.int) 66 true w fs5546 b5551 v5550 l5549 ∧ Zn W b5551 ∧ (∀ k ∈ fs5546, W.heap.size ≤ k) ∧ (bl b5551 ++ fs5546).Nodup ∧ MtP KP82 w m10 T5554 ∧ Zn W (m10 : Int) ∧ Ow Rp.int 3 true w [] b5560 v5559 l5558 ∧ Zn W b5560 ∧ Ow Rp.int 3 true w [] b3867 v3864 x3862 ∧ Zn W b3867 ∧ Nq (bl b5551 ++ fs5546) (m10 : Int) ∧ Nq (bl b5551 ++ fs5546) b5560 ∧ Nq (bl b5551 ++ fs5546) b3867 ∧ Nq ([m10]) b5551 ∧ Nq ([m10]) b5560 ∧ Nq ([m10]) b3867 ∧ Nq (bl b5560 ++ []) b5551 ∧ Nq (bl b5560 ++ []) (m10 : Int) ∧ Nq (bl b5560 ++ []) b3867 ∧ Nq (bl b3867 ++ []) b5551 ∧ Nq (bl b3867 ++ []) (m10 : Int) ∧ Nq (bl b3867 ++ []) b5560 ∧ o5576 = .inl (l5549, T5554, l5558)) (fun n a w => ∃ (l5367 : (List (List Int))) (T5372 : Tf (Int × Int)) (l5376 : (List Int)) (i5382 : Int) (i5384 : Int) (fs5364 : List Nat) (v5368 : Value) (b5369 : Int) (v5377 : Value) (b5378 : Int) (b5379 : Nat), Fr 80 [(0, va0), (4, v5368), (5, (.map (some m10))), (6, (.int .i64 i1928)), (12, v5377), (13, (.pointer (some ⟨b5379, 0, none⟩))), (18, va0), (19, (.int .i64 (a0.length : Int))), (20, (.int .i64 i1928)), (27, v3864), (28, (.int .i64 (x3862.length : Int))), (29, (.int .i64 i4511))] a ∧ Chg [] W w ∧ InI i5382 ∧ InI i5384 ∧ Ow (Rp.sl 3 Rp.int) 66 true w fs5364 b5369 v5368 l5367 ∧ Zn W b5369 ∧ (∀ k ∈ fs5364, W.heap.size ≤ k) ∧ (bl b5369 ++ fs5364).Nodup ∧ MtP KP82 w m10 T5372 ∧ Zn W (m10 : Int) ∧ Ow Rp.int 3 true w [] b5378 v5377 l5376 ∧ Zn W b5378 ∧ Bx w b5379 [(.int .i64 i5382), (.int .i64 i5384)] 82 ∧ Zn W (b5379 : Int) ∧ Ow Rp.int 3 true w [] b3867 v3864 x3862 ∧ Zn W b3867 ∧ Nq (bl b5369 ++ fs5364) (m10 : Int) ∧ Nq (bl b5369 ++ fs5364) b5378 ∧ Nq (bl b5369 ++ fs5364) (b5379 : Int) ∧ Nq (bl b5369 ++ fs5364) b3867 ∧ Nq ([m10]) b5369 ∧ Nq ([m10]) b5378 ∧ Nq ([m10]) (b5379 : Int) ∧ Nq ([m10]) b3867 ∧ Nq (bl b5378 ++ []) b5369 ∧ Nq (bl b5378 ++ []) (m10 : Int) ∧ Nq (bl b5378 ++ []) (b5379 : Int) ∧ Nq (bl b5378 ++ []) b3867 ∧ Nq ([b5379]) b5369 ∧ Nq ([b5379]) (m10 : Int) ∧ Nq ([b5379]) b5378 ∧ Nq ([b5379]) b3867 ∧ Nq (bl b3867 ++ []) b5369 ∧ Nq (bl b3867 ++ []) (m10 : Int) ∧ Nq (bl b3867 ++ []) b5378 ∧ Nq (bl b3867 ++ []) (b5379 : Int) ∧ (∀ k ∈ ([b5379] : List Nat), k ∉ fs5364) ∧ lpN (fun s => F_impl_turns_faces_l3 a0 s.1 s.2.1 s.2.2.1 s.2.2.2.1 s.2.2.2.2) n (l5367, T5372, l5376, i5382, i5384) = some o5576) n5579 ⟨l4502, T4507, ([] : (List Int)), i1928, x5137, fs4499, v4503, b4504, v5152, b5157, b5168, ha.sub ⟨rfl, rfl, rfl, rfl, rfl, rfl, rfl, rfl, rfl, rfl, rfl, rfl, trivial⟩, hE5188, hI1929, hI5148, h4497, z4498, zf4500, nd4501, hM4505, z4506, h5154, q5166, hB5186, q5183, h4509, z4510, q4513, q5159, q5174, q4514, q4515, q5161, q5177, q4516, q5160, q5162, q5181, q5164, q5175, q5178, q5182, q5180, q4517, q4518, q5163, q5179, q5176, hn5580⟩ ?_ ?_
              · rintro m5584 a w5360 ⟨l5367, T5372, l5376, i5382, i5384, fs5364, v5368, b5369, v5377, b5378, b5379, ha, hE5410, hI5383, hI5385, h5362, z5363, zf5365, nd5366, hM5370, z5371, h5374, z5375, hB5380, z5381, h5387, z5388, q5389, q5390, q5391, q5392, q5393, q5394, q5395, q5396, q5397, q5398, q5399, q5400, q5401, q5402, q5403, q5404, q5405, q5406, q5407, q5408, q5409, hF⟩
                cases m5584 with
                | zero => exact (lpN_zero hF).elim
                | succ m5584 =>
                  obtain ⟨z5583, hF, hN5582⟩ := lpN_succ hF
                  have hF : F_impl_turns_faces_l3 a0 l5367 T5372 l5376 i5382 i5384 = some z5583 := hF; unfold F_impl_turns_faces_l3 at hF
                  refine wp_seq ?_; refine wp_block ?_; refine wp_seq ?_; refine wp_seq ?_; refine wp_region_lit ?_; refine op_g ha rfl (g_move rfl) ?_; clear ha a; intro a ha; refine op_g ha rfl (g_loadA (cs := [(.int .i64 i5382), (.int .i64 i5384)]) Tryz.isAgg82 Tryz.sizeOf82 rfl (by simp) hB5380.all) ?_; clear ha a; intro a ha; refine op_g ha rfl (g_lookup2 rfl rfl (hM5370.look2 uM84 Tryz.zeroValue3 hI5383 hI5385)) ?_; clear ha a; intro a ha; refine op_g ha rfl (g_move rfl) ?_; clear ha a; intro a ha; (iterate 2 refine op_g ha rfl (g_extract rfl rfl) ?_; clear ha a; intro a ha); (iterate 2 refine op_g ha rfl (g_assign rfl) ?_; clear ha a; intro a ha)
                  refine wpList_nil ?_; replace ha := ha.sub (σ' := [(0, va0), (4, v5368), (5, (.map (some m10))), (6, (.int .i64 i1928)), (12, v5377), (13, (.pointer (some ⟨b5379, 0, none⟩))), (15, (.bool ((T5372 (i5382, i5384)).isSome))), (18, va0), (19, (.int .i64 (a0.length : Int))), (20, (.int .i64 i1928)), (27, v3864), (28, (.int .i64 (x3862.length : Int))), (29, (.int .i64 i4511))]) ⟨rfl, rfl, rfl, rfl, rfl, rfl, rfl, rfl, rfl, rfl, rfl, rfl, rfl, trivial⟩; refine e_then ?_; refine wp_seq ?_; refine wp_region_lit ?_; refine op_g ha rfl (g_move rfl) ?_; clear ha a; intro a ha; refine wpList_nil ?_
                  replace ha := ha.sub (σ' := [(0, va0), (4, v5368), (5, (.map (some m10))), (6, (.int .i64 i1928)), (12, v5377), (13, (.pointer (some ⟨b5379, 0, none⟩))), (18, va0), (19, (.int .i64 (a0.length : Int))), (20, (.int .i64 i1928)), (27, v3864), (28, (.int .i64 (x3862.length : Int))), (29, (.int .i64 i4511)), (61, (.bool ((T5372 (i5382, i5384)).isSome)))]) ⟨rfl, rfl, rfl, rfl, rfl, rfl, rfl, rfl, rfl, rfl, rfl, rfl, rfl, trivial⟩; refine e_then ?_; refine c_cond ((T5372 (i5382, i5384)).isSome = true) ha rfl (Iff.rfl) (fun hp5585 => ?_) (fun hp5585 => ?_)
                  · replace hF := if_t hp5585 hF
                    refine wp_exit ?_; refine e_then_exit ?_; refine e_blk_ne rfl ?_; refine e_then_exit ?_; refine e_lq_eq ?_; obtain rfl := Option.some.inj hF
                    exact ⟨l5367, T5372, l5376, fs5364, v5368, b5369, v5377, b5378, ha.sub ⟨rfl, rfl, rfl, rfl, rfl, rfl, rfl, rfl, rfl, rfl, rfl, trivial⟩, hE5410, h5362, z5363, zf5365, nd5366, hM5370, z5371, h5374, z5375, h5387, z5388, q5389, q5390, q5392, q5393, q5394, q5396, q5397, q5398, q5400, q5405, q5406, q5407, (LK_inr hN5582).symm⟩
                  replace hF := if_f hp5585 hF; refine wp_skip ?_; refine e_then ?_; refine wp_seq ?_; refine wp_region_lit ?_; refine op_g ha rfl (g_move rfl) ?_; clear ha a; intro a ha; refine op_g ha rfl (g_loadA (cs := [(.int .i64 i5382), (.int .i64 i5384)]) Tryz.isAgg82 Tryz.sizeOf82 rfl (by simp) hB5380.all) ?_; clear ha a; intro a ha; refine op_g ha rfl (g_move rfl) ?_; clear ha a; intro a ha; refine op_g ha rfl (g_lenO sl48.und h5362 rfl) ?_; clear ha a; intro a ha
                  refine o_putP ha uM84 hM5370 hI5383 hI5385 h5362.len rfl rfl rfl ?_; intro w5586 hM5587 hc5588
                  replace hc5588 := hc5588.bl
                  replace h5362 := h5362.nq hc5588 q5389
                  replace h5374 := h5374.nq hc5588 q5398
                  replace hB5380 := hB5380.nq hc5588 q5402
                  replace h5387 := h5387.nq hc5588 q5406
                  have hE5589 := Ext.then hE5410 hc5588 (Zn.bl z5371)
                  refine wpList_nil ?_; replace ha := ha.sub (σ' := [(0, va0), (4, v5368), (5, (.map (some m10))), (6, (.int .i64 i1928)), (12, v5377), (13, (.pointer (some ⟨b5379, 0, none⟩))), (18, va0), (19, (.int .i64 (a0.length : Int))), (20, (.int .i64 i1928)), (27, v3864), (28, (.int .i64 (x3862.length : Int))), (29, (.int .i64 i4511))]) ⟨rfl, rfl, rfl, rfl, rfl, rfl, rfl, rfl, rfl, rfl, rfl, rfl, trivial⟩; refine e_then ?_; refine wp_region_lit ?_; refine op_g ha rfl (g_move rfl) ?_; clear ha a; intro a ha; refine op_g ha rfl (g_field0 st82_0 rfl) ?_; clear ha a; intro a ha; refine op_g ha rfl (g_load Tryz.isAgg3 rfl (hB5380.cell rfl)) ?_; clear ha a; intro a ha
                  refine o_lit1 (o := true) (y := i5382) Rp.int ha rfl sl66 rfl rfl rfl ⟨rfl, hI5383, rfl⟩ ?_; clear ha a; intro v5590 w5591 h5592 hx5593 a ha
                  obtain ⟨b5595, hb5595⟩ : ∃ b : Int, b = w5586.heap.size := ⟨_, rfl⟩; rw [← hb5595] at h5592
                  have q5596 := zn_of hb5595
                  have q5597 := Nq.new h5362.fpb q5596
                  have q5598 := Nq.madeO q5596 h5362.blt
                  have q5599 := Nq.new hM5587.fpb q5596
                  have q5600 := Nq.madeO q5596 hM5587.bi
                  have q5601 := Nq.new h5374.fpb q5596
                  have q5602 := Nq.madeO q5596 h5374.blt
                  have q5603 := Nq.new hB5380.fpb q5596
                  have q5604 := Nq.madeO q5596 hB5380.bi
                  have q5605 := Nq.new h5387.fpb q5596
                  have q5606 := Nq.madeO q5596 h5387.blt
                  have q5607 := Nf.old q5596 (zf_nil _) h5362.bnd
                  have q5608 := Zn.upD q5596 hE5589
                  replace h5362 := h5362.ext hx5593
                  replace hM5587 := hM5587.ext hx5593
                  replace h5374 := h5374.ext hx5593
                  replace hB5380 := hB5380.ext hx5593
                  replace h5387 := h5387.ext hx5593
                  have hE5609 := Ext.trans hE5589 hx5593
                  obtain ⟨hl5610, hF⟩ := app_some hF
                  refine o_append ha rfl sl66 rfl rfl rfl h5374 h5592.src (Nq.nil _) hl5610 ?_; clear ha a; intro v5611 w5612 b5613 h5614 hc5615 hb5616 a ha
                  replace h5614 : Ow Rp.int 3 true w5612 [] b5613 v5611 _ := h5614
                  have q5618 := Nq.appY q5390 h5362.fpb hb5616
                  have q5619 := Nq.appX q5397 (Nq.nil _) hb5616 h5362.blt
                  have q5620 := Nq.appY q5394 hM5587.fpb hb5616
                  have q5621 := Nq.appX q5398 (Nq.nil _) hb5616 hM5587.bi
                  have q5622 := Nq.appY q5403 hB5380.fpb hb5616
                  have q5623 := Nq.appX q5399 (Nq.nil _) hb5616 hB5380.bi
                  have q5624 := Nq.appY q5407 h5387.fpb hb5616
                  have q5625 := Nq.appX q5400 (Nq.nil _) hb5616 h5387.blt
                  have q5626 := Nq.appY q5602 h5592.fpb hb5616
                  have q5627 := Nq.appX q5601 (Nq.nil _) hb5616 h5592.blt
                  have q5628 := Zn.appD z5375 hb5616 hE5609
                  replace h5362 := h5362.nq hc5615 q5390
                  replace hM5587 := hM5587.nq hc5615 q5394
                  replace hB5380 := hB5380.nq hc5615 q5403
                  replace h5387 := h5387.nq hc5615 q5407
                  replace h5592 := h5592.nq hc5615 q5602
                  have hE5629 := Ext.then hE5609 hc5615 (Zn.bl z5375)
                  refine op_g ha rfl (g_assign rfl) ?_; clear ha a; intro a ha; refine wpList_nil ?_; replace ha := ha.sub (σ' := [(0, va0), (4, v5368), (5, (.map (some m10))), (6, (.int .i64 i1928)), (12, v5611), (13, (.pointer (some ⟨b5379, 0, none⟩))), (18, va0), (19, (.int .i64 (a0.length : Int))), (20, (.int .i64 i1928)), (27, v3864), (28, (.int .i64 (x3862.length : Int))), (29, (.int .i64 i4511))]) ⟨rfl, rfl, rfl, rfl, rfl, rfl, rfl, rfl, rfl, rfl, rfl, rfl, trivial⟩; refine e_blk ?_; refine e_then ?_; refine wp_seq ?_; refine wp_seq ?_; refine wp_region_lit ?_; refine op_g ha rfl (g_loadA (cs := [(.int .i64 i5382), (.int .i64 i5384)]) Tryz.isAgg82 Tryz.sizeOf82 rfl (by simp) hB5380.all) ?_; clear ha a; intro a ha
                  refine wpList_nil ?_; replace ha := ha.sub (σ' := [(0, va0), (4, v5368), (5, (.map (some m10))), (6, (.int .i64 i1928)), (12, v5611), (18, va0), (19, (.int .i64 (a0.length : Int))), (20, (.int .i64 i1928)), (27, v3864), (28, (.int .i64 (x3862.length : Int))), (29, (.int .i64 i4511)), (71, (.agg #[(.int .i64 i5382), (.int .i64 i5384)]))]) ⟨rfl, rfl, rfl, rfl, rfl, rfl, rfl, rfl, rfl, rfl, rfl, rfl, trivial⟩; refine e_then ?_; refine wp_region_lit ?_
                  refine o_alloc (cs := [(.int .i64 0), (.int .i64 0)]) ha rfl Tryz.zeroValue82 rfl ?_; clear ha a; intro b5630 w5631 hB5632 hx5633 hlo5634 a ha
                  have q5635 := Zn.one hlo5634
                  have q5636 := Nq.new h5362.fpb q5635
                  have q5637 := Nq.made1 hlo5634 h5362.blt
                  have q5638 := Nf.old1 q5635 h5362.bnd
                  have q5639 := Nq.new hM5587.fpb q5635
                  have q5640 := Nq.made1 hlo5634 hM5587.bi
                  have q5641 := Nq.new h5387.fpb q5635
                  have q5642 := Nq.made1 hlo5634 h5387.blt
                  have q5643 := Nq.new h5614.fpb q5635
                  have q5644 := Nq.made1 hlo5634 h5614.blt
                  have q5645 := Zn.upD q5635 hE5629
                  replace h5362 := h5362.ext hx5633
                  replace hM5587 := hM5587.ext hx5633
                  replace h5387 := h5387.ext hx5633
                  replace h5614 := h5614.ext hx5633
                  have hE5646 := Ext.trans hE5629 hx5633
                  refine o_storeA (vs := [(.int .i64 i5382), (.int .i64 i5384)]) ha hB5632 Tryz.sizeOf82 rfl rfl (by intro c hc; simp only [List.mem_cons, List.not_mem_nil, or_false] at hc; rcases hc with hc | hc <;> subst hc <;> first | rfl | exact rfl | exact rfl) rfl ?_; intro w5647 hB5648 hc5649
                  replace hc5649 := hc5649.bl
                  replace hB5648 : Bx w5647 b5630 [(.int .i64 i5382), (.int .i64 i5384)] 82 := hB5648
                  replace h5362 := h5362.nq hc5649 q5636
                  replace hM5587 := hM5587.nq hc5649 q5639
                  replace h5387 := h5387.nq hc5649 q5641
                  replace h5614 := h5614.nq hc5649 q5643
                  have hE5650 := Ext.then hE5646 hc5649 (Zn.bl q5645)
                  refine wpList_nil ?_; replace ha := ha.sub (σ' := [(0, va0), (4, v5368), (5, (.map (some m10))), (6, (.int .i64 i1928)), (12, v5611), (13, (.pointer (some ⟨b5630, 0, none⟩))), (18, va0), (19, (.int .i64 (a0.length : Int))), (20, (.int .i64 i1928)), (27, v3864), (28, (.int .i64 (x3862.length : Int))), (29, (.int .i64 i4511))]) ⟨rfl, rfl, rfl, rfl, rfl, rfl, rfl, rfl, rfl, rfl, rfl, rfl, trivial⟩; refine e_then ?_; refine d_region [0, 1, 2, 3, 4, 5, 6, 7, 8] hmix ?_; refine u_g 0 rfl (by kernel_rfl) (want0 _) ha rfl (g_field0 st82_1 rfl) ?_; clear ha a; intro a ha; refine u_g 1 rfl (by kernel_rfl) (want0 _) ha rfl (g_load Tryz.isAgg3 rfl (hB5648.cell rfl)) ?_; clear ha a; intro a ha
                  refine u_g 2 rfl (by kernel_rfl) (want0 _) ha rfl (g_move rfl) ?_; clear ha a; intro a ha; refine u_g 3 rfl (by kernel_rfl) (want0 _) ha rfl (g_field0 st82_1 rfl) ?_; clear ha a; intro a ha; refine u_g 4 rfl (by kernel_rfl) (want0 _) ha rfl (g_load Tryz.isAgg3 rfl (hB5648.cell rfl)) ?_; clear ha a; intro a ha; refine u_g 5 rfl (by kernel_rfl) (want0 _) ha rfl (g_field0 st82_0 rfl) ?_; clear ha a; intro a ha; refine u_g 6 rfl (by kernel_rfl) (want0 _) ha rfl (g_load Tryz.isAgg3 rfl (hB5648.cell rfl)) ?_; clear ha a; intro a ha; obtain ⟨x5653, hc5654, hF⟩ := cal_some hF; refine u_call (.int .i64 x5653) 7 rfl (by kernel_rfl) (want0 _) ha rfl rfl Tryz.call70 (fun w5652 hx5651 => W_impl_turns_after (ha0.ext (Ext.trans hE5650 hx5651)) hI5385 hI5383 hc5654) (fun _ _ _ h => ⟨h.1.1, h.2⟩) ?_; clear ha a; intro a ha
                  have hI5655 : InI x5653 := calls_fact (w := w5647) (W_impl_turns_after (ha0.ext (Ext.trans hE5650 (Chg.refl _ _))) hI5385 hI5383 hc5654) (fun _ _ h => h.1.2)
                  refine u_g 8 rfl (by kernel_rfl) (want0 _) ha rfl (g_build (vs := [(0, (.int .i64 i5384)), (1, (.int .i64 x5653))]) (cells := #[(.int .i64 i5384), (.int .i64 x5653)]) rfl (by rfl)) ?_; clear ha a; intro a ha
                  refine u_only 9 rfl (by kernel_rfl) ?_; intro w5656 hx5657
                  replace h5362 := h5362.ext hx5657
                  replace hM5587 := hM5587.ext hx5657
                  replace h5387 := h5387.ext hx5657
                  replace h5614 := h5614.ext hx5657
                  replace hB5648 := hB5648.ext hx5657
                  have hE5658 := Ext.trans hE5650 hx5657
                  refine o_storeA (vs := [(.int .i64 i5384), (.int .i64 x5653)]) ha hB5648 Tryz.sizeOf82 rfl rfl (by intro c hc; simp only [List.mem_cons, List.not_mem_nil, or_false] at hc; rcases hc with hc | hc <;> subst hc <;> first | rfl | exact rfl | exact rfl) rfl ?_; intro w5659 hB5660 hc5661
                  replace hc5661 := hc5661.bl
                  replace hB5660 : Bx w5659 b5630 [(.int .i64 i5384), (.int .i64 x5653)] 82 := hB5660
                  replace h5362 := h5362.nq hc5661 q5636
                  replace hM5587 := hM5587.nq hc5661 q5639
                  replace h5387 := h5387.nq hc5661 q5641
                  replace h5614 := h5614.nq hc5661 q5643
                  have hE5662 := Ext.then hE5658 hc5661 (Zn.bl q5645)
                  refine wpList_nil (e_sq ?_)
                  refine ⟨fun h => absurd h (by decide), ?_⟩
                  refine u_done (by kernel_rfl) ?_; intro w5663 hx5664
                  replace h5362 := h5362.ext hx5664
                  replace hM5587 := hM5587.ext hx5664
                  replace h5387 := h5387.ext hx5664
                  replace h5614 := h5614.ext hx5664
                  replace hB5660 := hB5660.ext hx5664
                  have hE5665 := Ext.trans hE5662 hx5664
                  replace ha := ha.sub (σ' := [(0, va0), (4, v5368), (5, (.map (some m10))), (6, (.int .i64 i1928)), (12, v5611), (13, (.pointer (some ⟨b5630, 0, none⟩))), (18, va0), (19, (.int .i64 (a0.length : Int))), (20, (.int .i64 i1928)), (27, v3864), (28, (.int .i64 (x3862.length : Int))), (29, (.int .i64 i4511))]) ⟨rfl, rfl, rfl, rfl, rfl, rfl, rfl, rfl, rfl, rfl, rfl, rfl, trivial⟩; refine e_lq ?_; obtain rfl := Option.some.inj hF
                  exact ⟨_, Nat.lt_succ_self _, l5367, (putT T5372 (i5382, i5384) (l5367.length : Int)), (l5376 ++ ([i5382])), i5384, x5653, fs5364, v5368, b5369, v5611, b5613, b5630, ha.sub ⟨rfl, rfl, rfl, rfl, rfl, rfl, rfl, rfl, rfl, rfl, rfl, rfl, trivial⟩, hE5665, hI5385, hI5655, h5362, z5363, zf5365, nd5366, hM5587, z5371, h5614, q5628, hB5660, q5645, h5387, z5388, q5389, q5618, q5636, q5392, q5393, q5620, q5639, q5396, q5619, q5621, q5643, q5625, q5637, q5640, q5644, q5642, q5405, q5406, q5624, q5641, q5638, hN5582⟩
              rintro a w5542 ⟨l5549, T5554, l5558, fs5546, v5550, b5551, v5559, b5560, ha, hE5581, h5544, z5545, zf5547, nd5548, hM5552, z5553, h5556, z5557, h5562, z5563, q5564, q5565, q5566, q5567, q5568, q5569, q5570, q5571, q5572, q5573, q5574, q5575, rfl⟩
              have hF : F_impl_turns_faces_k4 i4511 l5549 T5554 l5558 = some _ := hK5578; clear hK5578; unfold F_impl_turns_faces_k4 at hF
              refine e_then ?_; refine wp_region_lit ?_; (iterate 2 refine op_g ha rfl (g_move rfl) ?_; clear ha a; intro a ha)
              refine o_lit1 (o := true) (y := l5558) (Rp.sl 3 Rp.int) ha rfl sl48 rfl rfl h5556.cells (Rp.mkO h5556) ?_; clear ha a; intro v5666 w5667 h5668 hx5669 a ha
              obtain ⟨b5671, hb5671⟩ : ∃ b : Int, b = w5542.heap.size := ⟨_, rfl⟩; rw [← hb5671] at h5668
              have q5672 := zn_of hb5671
              have q5673 := zf_mv z5557 (zf_nil _)
              have q5674 := dj_of q5565
              have q5675 := dj_of q5575
              have q5676 := Nq.new h5544.fpb q5672
              have q5677 := Nq.append (Nq.madeL q5672 h5544.blt) q5570
              have q5678 := Nq.new hM5552.fpb q5672
              have q5679 := Nq.append (Nq.madeL q5672 hM5552.bi) q5571
              have q5680 := Nq.new h5562.fpb q5672
              have q5681 := Nq.append (Nq.madeL q5672 h5562.blt) q5572
              have q5682 := Zn.upD q5672 hE5581
              have q5683 := nd_lit (bl_nodup b5560) h5556.fpb hb5671
              replace h5544 := h5544.ext hx5669
              replace hM5552 := hM5552.ext hx5669
              replace h5562 := h5562.ext hx5669
              have hE5684 := Ext.trans hE5581 hx5669
              obtain ⟨hl5685, hF⟩ := app_some hF
              have q5686 := Nq.right q5677
              refine o_append ha rfl sl48 rfl rfl rfl h5544 h5668.src q5686 hl5685 ?_; clear ha a; intro v5687 w5688 b5689 h5690 hc5691 hb5692 a ha
              replace h5690 : Ow (Rp.sl 3 Rp.int) 66 true w5688 (fs5546 ++ (bl b5560 ++ [])) b5689 v5687 _ := h5690
              have q5694 := zf_app zf5547 q5673
              have q5695 := nd_app nd5548 (bl_nodup b5560) q5674 hb5692 h5544.fpb h5668.bnd
              have q5696 := Nq.appY q5567 hM5552.fpb hb5692
              have q5697 := Nq.appX q5564 (Nq.right q5679) hb5692 hM5552.bi
              have q5698 := Nq.appY q5573 h5562.fpb hb5692
              have q5699 := Nq.appX q5566 (Nq.right q5681) hb5692 h5562.blt
              have q5700 := Zn.appD z5545 hb5692 hE5684
              replace hM5552 := hM5552.nq hc5691 q5567
              replace h5562 := h5562.nq hc5691 q5573
              have hE5701 := Ext.then hE5684 hc5691 (Zn.bl z5545)
              refine op_g ha rfl (g_assign rfl) ?_; clear ha a; intro a ha; refine wpList_nil ?_; replace ha := ha.sub (σ' := [(0, va0), (4, v5687), (5, (.map (some m10))), (6, (.int .i64 i1928)), (18, va0), (19, (.int .i64 (a0.length : Int))), (20, (.int .i64 i1928)), (27, v3864), (28, (.int .i64 (x3862.length : Int))), (29, (.int .i64 i4511))]) ⟨rfl, rfl, rfl, rfl, rfl, rfl, rfl, rfl, rfl, rfl, trivial⟩; refine e_blk ?_; refine e_then ?_; refine wp_region_lit ?_; obtain ⟨hI5702, hF⟩ := ck_some hF; refine op_g ha rfl (g_add rfl rfl hI5702) ?_; clear ha a; intro a ha; refine op_g ha rfl (g_move rfl) ?_; clear ha a; intro a ha
              refine wpList_nil ?_; replace ha := ha.sub (σ' := [(0, va0), (4, v5687), (5, (.map (some m10))), (6, (.int .i64 i1928)), (18, va0), (19, (.int .i64 (a0.length : Int))), (20, (.int .i64 i1928)), (27, v3864), (28, (.int .i64 (x3862.length : Int))), (29, (.int .i64 (i4511 + 1)))]) ⟨rfl, rfl, rfl, rfl, rfl, rfl, rfl, rfl, rfl, rfl, trivial⟩; refine e_lq ?_; obtain rfl := Option.some.inj hF
              exact ⟨_, Nat.lt_succ_self _, (l5549 ++ ([l5558])), T5554, i4511 + 1, (fs5546 ++ (bl b5560 ++ [])), v5687, b5689, ha.sub ⟨rfl, rfl, rfl, rfl, rfl, rfl, rfl, rfl, rfl, rfl, trivial⟩, hE5701, hI5702, h5690, q5700, q5694, q5695, hM5552, z5553, h5562, z5563, q5697, q5699, q5696, q5569, q5698, q5574, hN5133⟩
            replace hF := if_f hp5136 hF; refine wp_exit ?_; refine e_then_exit ?_; refine e_lq_eq ?_; obtain rfl := Option.some.inj hF
            exact ⟨l4502, T4507, fs4499, v4503, b4504, ha.sub ⟨rfl, rfl, rfl, rfl, rfl, rfl, trivial⟩, hE4519, h4497, z4498, zf4500, nd4501, hM4505, z4506, q4513, q4515, (LK_inr hN5133).symm⟩
        rintro a w5112 ⟨l5119, T5124, fs5116, v5120, b5121, ha, hE5132, h5114, z5115, zf5117, nd5118, hM5122, z5123, q5125, q5126, rfl⟩
        have hF : F_impl_turns_faces_k5 i1928 l5119 T5124 = some _ := hK5129; clear hK5129; unfold F_impl_turns_faces_k5 at hF
        refine e_blk ?_; refine e_then ?_; refine wp_region_lit ?_; obtain ⟨hI5704, hF⟩ := ck_some hF; refine op_g ha rfl (g_add rfl rfl hI5704) ?_; clear ha a; intro a ha; refine op_g ha rfl (g_move rfl) ?_; clear ha a; intro a ha; refine wpList_nil ?_; replace ha := ha.sub (σ' := [(0, va0), (4, v5120), (5, (.map (some m10))), (18, va0), (19, (.int .i64 (a0.length : Int))), (20, (.int .i64 (i1928 + 1)))]) ⟨rfl, rfl, rfl, rfl, rfl, rfl, trivial⟩; refine e_lq ?_; obtain rfl := Option.some.inj hF
        exact ⟨_, Nat.lt_succ_self _, l5119, T5124, i1928 + 1, fs5116, v5120, b5121, ha.sub ⟨rfl, rfl, rfl, rfl, rfl, rfl, trivial⟩, hE5132, hI5704, h5114, z5115, zf5117, nd5118, hM5122, z5123, q5125, q5126, hN3837⟩
      replace hF := if_f hp3840 hF; refine wp_exit ?_; refine e_then_exit ?_; refine e_lq_eq ?_; obtain rfl := Option.some.inj hF
      exact ⟨l1922, T1927, fs1919, v1923, b1924, ha.sub ⟨rfl, rfl, trivial⟩, hE1932, h1917, z1918, zf1920, nd1921, hM1925, z1926, q1930, q1931, (LK_inr hN3837).symm⟩
  rintro a w3816 ⟨l3823, T3828, fs3820, v3824, b3825, ha, hE3836, h3818, z3819, zf3821, nd3822, hM3826, z3827, q3829, q3830, rfl⟩
  have hF : F_impl_turns_faces_k6 l3823 T3828 = some _ := hK3833; clear hK3833; unfold F_impl_turns_faces_k6 at hF
  refine e_then ?_; refine wp_seq ?_; refine wp_region_lit ?_; (iterate 2 refine op_g ha rfl (g_move rfl) ?_; clear ha a; intro a ha); (iterate 2 refine op_g ha rfl (g_assign rfl) ?_; clear ha a; intro a ha); refine wpList_nil ?_; replace ha := ha.sub (σ' := [(2, v3824), (3, (.map (some m10)))]) ⟨rfl, rfl, trivial⟩; refine e_then ?_; refine wp_ret ?_; obtain rfl := Option.some.inj hF
  exact f_ret2 ha rfl rfl rfl ⟨_, _, _, _, _, rfl, h3818, z3819, zf3821, nd3822, rfl, hM3826, z3827, hE3836⟩
set_option maxHeartbeats 2000000 in
theorem W_slices_Clone_int {W : World} {va0 : Value} {fa0 : List Nat} {a0 : (List Int)} (ha0 : Ro Rp.int W fa0 va0 a0) {r : (List Int)} (hF : F_slices_Clone_int a0 = some r) :
    Calls Tryz.prog 72 [va0].toArray W (Ret fun u w' => ∃ (b_u : Int), Ow Rp.int 3 true w' [] b_u u r ∧ Zn W b_u ∧ Ext W w') := by
  refine f_enter Tryz.func72 rfl Tryz.ntmps72 rfl ?_
  intro a ha
  replace ha : Fr 8 [(0, va0)] a := ha
  have hE : Chg [] W W := Chg.refl _ _
  unfold F_slices_Clone_int at hF
  refine wp_seq ?_; refine wp_region_lit ?_; refine op_g ha rfl (g_assign rfl) ?_; clear ha a; intro a ha; refine wpList_nil ?_; replace ha := ha.sub (σ' := [(0, va0)]) ⟨rfl, trivial⟩; refine e_then ?_; refine wp_seq ?_; refine wp_seq ?_; refine wp_region_lit ?_; refine op_g ha rfl (g_move rfl) ?_; clear ha a; intro a ha; refine op_g ha rfl (g_nil sl66.und rfl ha0.shape) ?_; clear ha a; intro a ha; refine wpList_nil ?_; replace ha := ha.sub (σ' := [(0, va0), (4, (.bool (nilB va0)))]) ⟨rfl, rfl, trivial⟩; refine e_then ?_; refine c_cond (nilB va0 = true) ha rfl (Iff.rfl) (fun hp1 => ?_) (fun hp1 => ?_)
  · replace hF := clone_nil hF (ha0.nilE hp1)
    refine wp_seq ?_; refine wp_region_lit ?_; refine op_g ha rfl (g_assign rfl) ?_; clear ha a; intro a ha; refine wpList_nil ?_; replace ha := ha.sub (σ' := [(2, (.slice none 0 0))]) ⟨rfl, trivial⟩; refine e_then ?_; refine wp_ret ?_; refine e_then_ret ?_; obtain rfl := Option.some.inj hF
    exact f_ret1 ha rfl rfl ⟨-1, (Ow.nil (by decide)), (.inl (by decide)), hE⟩
  skip
  refine wp_skip ?_; refine e_then ?_; refine wp_seq ?_; refine wp_region_lit ?_
  refine o_lit0 Rp.int ha rfl sl66 ?_; clear ha a; intro v2 w3 h4 hx5 a ha
  obtain ⟨b7, hb7⟩ : ∃ b : Int, b = W.heap.size := ⟨_, rfl⟩; rw [← hb7] at h4
  have q8 := zn_of hb7
  have q9 := Zn.upD q8 hE
  have hE10 := Ext.trans hE hx5
  refine op_g ha rfl (g_move rfl) ?_; clear ha a; intro a ha; obtain ⟨hl11, hF⟩ := app_some hF
  obtain ⟨_, hs12, _⟩ := (ha0.ext hE10).src
  refine o_append ha rfl sl66 rfl rfl rfl h4 (hs12.up scal_int) (Nq.nil _) hl11 ?_; clear ha a; intro v13 w14 b15 h16 hc17 hb18 a ha
  replace h16 : Ow Rp.int 3 true w14 [] b15 v13 _ := h16
  have q20 := Zn.appD q9 hb18 hE10
  have hE21 := Ext.then hE10 hc17 (Zn.bl q9)
  refine op_g ha rfl (g_assign rfl) ?_; clear ha a; intro a ha; refine wpList_nil ?_; replace ha := ha.sub (σ' := [(2, v13)]) ⟨rfl, trivial⟩; refine e_then ?_; refine wp_ret ?_; obtain rfl := Option.some.inj hF
  exact f_ret1 ha rfl rfl ⟨_, h16, q20, hE21⟩
set_option maxHeartbeats 2000000 in

set_option maxHeartbeats 2000000 in
theorem W_impl_wide {W : World} {va0 : Value} {fa0 : List Nat} {a0 : (List Int)} (ha0 : Ro Rp.int W fa0 va0 a0) {r : (List Int)} (hF : F_impl_wide a0 = some r) :
    Calls Tryz.prog 33 [va0].toArray W (Ret fun u w' => ∃ (b_u : Int), Ow Rp.int 2 true w' [] b_u u r ∧ Zn W b_u ∧ Ext W w') := by
  refine f_enter Tryz.func33 rfl Tryz.ntmps33 rfl ?_
  intro a ha
  replace ha : Fr 21 [(0, va0)] a := ha
  have hE : Chg [] W W := Chg.refl _ _
  unfold F_impl_wide at hF
  refine wp_seq ?_; refine wp_region_lit ?_; refine op_g ha rfl (g_assign rfl) ?_; clear ha a; intro a ha; refine wpList_nil ?_; replace ha := ha.sub (σ' := [(0, va0)]) ⟨rfl, trivial⟩; refine e_then ?_; refine wp_seq ?_; refine wp_region_lit ?_; refine op_g ha rfl (g_move rfl) ?_; clear ha a; intro a ha; refine op_g ha rfl (g_lenR sl66.und ha0 rfl) ?_; clear ha a; intro a ha; obtain ⟨g5, hF⟩ := grd_some hF
  refine o_make0 Rp.int ha rfl sl39 rfl rfl rfl g5.1 g5.2 ?_; clear ha a; intro v1 w2 h3 hx4 a ha
  obtain ⟨b7, hb7⟩ : ∃ b : Int, b = W.heap.size := ⟨_, rfl⟩; rw [← hb7] at h3
  have q8 := zn_of hb7
  have q9 := Zn.upD q8 hE
  have hE10 := Ext.trans hE hx4
  refine op_g ha rfl (g_assign rfl) ?_; clear ha a; intro a ha; refine wpList_nil ?_; replace ha := ha.sub (σ' := [(0, va0), (3, v1)]) ⟨rfl, rfl, trivial⟩; refine e_then ?_; refine wp_seq ?_; refine wp_seq ?_; refine wp_region_lit ?_; refine op_g ha rfl (g_move rfl) ?_; clear ha a; intro a ha; refine op_g ha rfl (g_lenR sl66.und ha0 rfl) ?_; clear ha a; intro a ha; refine op_g ha rfl (g_move rfl) ?_; clear ha a; intro a ha; refine wpList_nil ?_; replace ha := ha.sub (σ' := [(3, v1), (9, va0), (10, (.int .i64 (a0.length : Int))), (11, (.int .i64 0))]) ⟨rfl, rfl, rfl, rfl, trivial⟩; refine e_then ?_
  obtain ⟨o127, ho128, hK129⟩ := bnd_some hF
  obtain ⟨n130, hn131⟩ := lp_some ho128; clear ho128
  refine c_loop (fun a w => ∃ (l124 : (List Int)) (v125 : Value) (b126 : Int), Fr 21 [(3, v125)] a ∧ Chg [] W w ∧ Ow Rp.int 2 true w [] b126 v125 l124 ∧ Zn W b126 ∧ o127 = .inl l124) (fun n a w => ∃ (l67 : (List Int)) (i70 : Int) (v68 : Value) (b69 : Int), Fr 21 [(3, v68), (9, va0), (10, (.int .i64 (a0.length : Int))), (11, (.int .i64 i70))] a ∧ Chg [] W w ∧ InI i70 ∧ Ow Rp.int 2 true w [] b69 v68 l67 ∧ Zn W b69 ∧ lpN (fun s => F_impl_wide_l1 a0 s.1 s.2) n (l67, i70) = some o127) n130 ⟨([] : (List Int)), 0, v1, b7, ha.sub ⟨rfl, rfl, rfl, rfl, trivial⟩, hE10, (show InI 0 from by decide), h3, q9, hn131⟩ ?_ ?_
  · rintro m135 a w63 ⟨l67, i70, v68, b69, ha, hE72, hI71, h65, z66, hF⟩
    cases m135 with
    | zero => exact (lpN_zero hF).elim
    | succ m135 =>
      obtain ⟨z134, hF, hN133⟩ := lpN_succ hF
      have hF : F_impl_wide_l1 a0 l67 i70 = some z134 := hF; unfold F_impl_wide_l1 at hF
      refine wp_seq ?_; refine wp_region_lit ?_; refine op_g ha rfl (g_lss rfl rfl) ?_; clear ha a; intro a ha; refine wpList_nil ?_; replace ha := ha.sub (σ' := [(3, v68), (9, va0), (10, (.int .i64 (a0.length : Int))), (11, (.int .i64 i70)), (12, (.bool (decide (i70 < (a0.length : Int)))))]) ⟨rfl, rfl, rfl, rfl, rfl, trivial⟩; refine e_then ?_; refine wp_seq ?_; refine c_cond (i70 < (a0.length : Int)) ha rfl (decide_eq_true_iff) (fun hp136 => ?_) (fun hp136 => ?_)
      · replace hF := if_t hp136 hF
        refine wp_skip ?_; refine e_then ?_; refine wp_seq ?_; refine wp_block ?_; refine wp_seq ?_; refine wp_region_lit ?_; obtain ⟨x137, g138, gx139, hF⟩ := idx_some hF
        obtain ⟨p140, cs141, f142, hf143, hpb144, hat145, hr146, hi147⟩ := ha0.at g138 gx139
        obtain ⟨rfl, hI148, rfl⟩ := hr146
        refine op_g ha rfl (hi147.gives sl66 rfl rfl) ?_; clear ha a; intro a ha; refine op_g ha rfl (g_load0 hE72 Tryz.isAgg3 rfl hat145.one) ?_; clear ha a; intro a ha; refine op_g ha rfl (g_assign rfl) ?_; clear ha a; intro a ha; refine wpList_nil ?_; replace ha := ha.sub (σ' := [(3, v68), (5, (.int .i64 x137)), (9, va0), (10, (.int .i64 (a0.length : Int))), (11, (.int .i64 i70))]) ⟨rfl, rfl, rfl, rfl, rfl, trivial⟩; refine e_then ?_; refine wp_region_lit ?_; (iterate 2 refine op_g ha rfl (g_move rfl) ?_; clear ha a; intro a ha)
        refine o_lit1 (o := true) (y := x137) Rp.int ha rfl sl39 rfl rfl rfl ⟨rfl, hI148, rfl⟩ ?_; clear ha a; intro v149 w150 h151 hx152 a ha
        obtain ⟨b154, hb154⟩ : ∃ b : Int, b = w63.heap.size := ⟨_, rfl⟩; rw [← hb154] at h151
        have q155 := zn_of hb154
        have q156 := Nq.new h65.fpb q155
        have q157 := Nq.madeO q155 h65.blt
        have q158 := Zn.upD q155 hE72
        replace h65 := h65.ext hx152
        have hE159 := Ext.trans hE72 hx152
        obtain ⟨hl160, hF⟩ := app_some hF
        refine o_append ha rfl sl39 rfl rfl rfl h65 h151.src (Nq.nil _) hl160 ?_; clear ha a; intro v161 w162 b163 h164 hc165 hb166 a ha
        replace h164 : Ow Rp.int 2 true w162 [] b163 v161 _ := h164
        have q168 := Nq.appY q157 h151.fpb hb166
        have q169 := Nq.appX q156 (Nq.nil _) hb166 h151.blt
        have q170 := Zn.appD z66 hb166 hE159
        replace h151 := h151.nq hc165 q157
        have hE171 := Ext.then hE159 hc165 (Zn.bl z66)
        refine op_g ha rfl (g_assign rfl) ?_; clear ha a; intro a ha; refine wpList_nil ?_; replace ha := ha.sub (σ' := [(3, v161), (9, va0), (10, (.int .i64 (a0.length : Int))), (11, (.int .i64 i70))]) ⟨rfl, rfl, rfl, rfl, trivial⟩; refine e_blk ?_; refine e_then ?_; refine wp_region_lit ?_; obtain ⟨hI172, hF⟩ := ck_some hF; refine op_g ha rfl (g_add rfl rfl hI172) ?_; clear ha a; intro a ha; refine op_g ha rfl (g_move rfl) ?_; clear ha a; intro a ha; refine wpList_nil ?_; replace ha := ha.sub (σ' := [(3, v161), (9, va0), (10, (.int .i64 (a0.length : Int))), (11, (.int .i64 (i70 + 1)))]) ⟨rfl, rfl, rfl, rfl, trivial⟩
        refine e_lq ?_; obtain rfl := Option.some.inj hF
        exact ⟨_, Nat.lt_succ_self _, (l67 ++ ([x137])), i70 + 1, v161, b163, ha.sub ⟨rfl, rfl, rfl, rfl, trivial⟩, hE171, hI172, h164, q170, hN133⟩
      replace hF := if_f hp136 hF; refine wp_exit ?_; refine e_then_exit ?_; refine e_lq_eq ?_; obtain rfl := Option.some.inj hF
      exact ⟨l67, v68, b69, ha.sub ⟨rfl, trivial⟩, hE72, h65, z66, (LK_inr hN133).symm⟩
  rintro a w120 ⟨l124, v125, b126, ha, hE132, h122, z123, rfl⟩
  have hF : F_impl_wide_k2 l124 = some _ := hK129; clear hK129; unfold F_impl_wide_k2 at hF
  refine e_then ?_; refine wp_seq ?_; refine wp_region_lit ?_; refine op_g ha rfl (g_move rfl) ?_; clear ha a; intro a ha; refine op_g ha rfl (g_assign rfl) ?_; clear ha a; intro a ha; refine wpList_nil ?_; replace ha := ha.sub (σ' := [(2, v125)]) ⟨rfl, trivial⟩; refine e_then ?_; refine wp_ret ?_; obtain rfl := Option.some.inj hF
  exact f_ret1 ha rfl rfl ⟨_, h122, z123, hE132⟩
set_option maxHeartbeats 2000000 in
theorem W_slices_Min_int64 {W : World} {va0 : Value} {fa0 : List Nat} {a0 : (List Int)} (ha0 : Ro Rp.int W fa0 va0 a0) {r : Int} (hF : F_slices_Min_int64 a0 = some r) :
    Calls Tryz.prog 35 [va0].toArray W (Ret fun u w' => (u = .int .i64 r ∧ InI r) ∧ Ext W w') := by
  refine f_enter Tryz.func35 rfl Tryz.ntmps35 rfl ?_
  intro a ha
  replace ha : Fr 25 [(0, va0)] a := ha
  have hE : Chg [] W W := Chg.refl _ _
  unfold F_slices_Min_int64 at hF
  refine wp_seq ?_; refine wp_region_lit ?_; refine op_g ha rfl (g_assign rfl) ?_; clear ha a; intro a ha; refine wpList_nil ?_; replace ha := ha.sub (σ' := [(0, va0)]) ⟨rfl, trivial⟩; refine e_then ?_; refine wp_seq ?_; refine wp_seq ?_; refine wp_region_lit ?_; refine op_g ha rfl (g_move rfl) ?_; clear ha a; intro a ha; refine op_g ha rfl (g_lenR sl39.und ha0 rfl) ?_; clear ha a; intro a ha; refine op_g ha rfl (g_lss rfl rfl) ?_; clear ha a; intro a ha; refine wpList_nil ?_; replace ha := ha.sub (σ' := [(0, va0), (7, (.bool (decide ((a0.length : Int) < 1))))]) ⟨rfl, rfl, trivial⟩; refine e_then ?_
  refine c_cond ((a0.length : Int) < 1) ha rfl (decide_eq_true_iff) (fun hp2 => ?_) (fun hp2 => ?_)
  · replace hF := if_t hp2 hF
    cases hF
  replace hF := if_f hp2 hF; refine wp_skip ?_; refine e_then ?_; refine wp_seq ?_; refine wp_region_lit ?_; refine op_g ha rfl (g_move rfl) ?_; clear ha a; intro a ha; obtain ⟨x3, g4, gx5, hF⟩ := idx_some hF
  obtain ⟨p6, cs7, f8, hf9, hpb10, hat11, hr12, hi13⟩ := ha0.at g4 gx5
  obtain ⟨rfl, hI14, rfl⟩ := hr12
  refine op_g ha rfl (hi13.gives sl39 rfl rfl) ?_; clear ha a; intro a ha; refine op_g ha rfl (g_load0 hE Tryz.isAgg2 rfl hat11.one) ?_; clear ha a; intro a ha; refine op_g ha rfl (g_assign rfl) ?_; clear ha a; intro a ha; refine wpList_nil ?_; replace ha := ha.sub (σ' := [(0, va0), (3, (.int .i64 x3))]) ⟨rfl, rfl, trivial⟩; refine e_then ?_; refine wp_seq ?_; refine wp_seq ?_; refine wp_region_lit ?_; refine op_g ha rfl (g_assign rfl) ?_; clear ha a; intro a ha; refine wpList_nil ?_; refine e_then ?_; obtain ⟨o66, ho67, hK68⟩ := bnd_some hF
  obtain ⟨n69, hn70⟩ := lp_some ho67; clear ho67
  refine c_loop (fun a w => ∃ (i64 : Int), Fr 25 [(3, (.int .i64 i64))] a ∧ Chg [] W w ∧ InI i64 ∧ o66 = .inl i64) (fun n a w => ∃ (i38 : Int) (i40 : Int), Fr 25 [(0, va0), (3, (.int .i64 i38)), (4, (.int .i64 i40))] a ∧ Chg [] W w ∧ InI i38 ∧ InI i40 ∧ lpN (fun s => F_slices_Min_int64_l1 a0 s.1 s.2) n (i38, i40) = some o66) n69 ⟨x3, 1, ha.sub ⟨rfl, rfl, rfl, trivial⟩, hE, hI14, (show InI 1 from by decide), hn70⟩ ?_ ?_
  · rintro m74 a w37 ⟨i38, i40, ha, hE42, hI39, hI41, hF⟩
    cases m74 with
    | zero => exact (lpN_zero hF).elim
    | succ m74 =>
      obtain ⟨z73, hF, hN72⟩ := lpN_succ hF
      have hF : F_slices_Min_int64_l1 a0 i38 i40 = some z73 := hF; unfold F_slices_Min_int64_l1 at hF
      refine wp_seq ?_; refine wp_seq ?_; refine wp_region_lit ?_; (iterate 2 refine op_g ha rfl (g_move rfl) ?_; clear ha a; intro a ha); refine op_g ha rfl (g_lenR sl39.und ha0 rfl) ?_; clear ha a; intro a ha; refine op_g ha rfl (g_lss rfl rfl) ?_; clear ha a; intro a ha; refine wpList_nil ?_; replace ha := ha.sub (σ' := [(0, va0), (3, (.int .i64 i38)), (4, (.int .i64 i40)), (15, (.bool (decide (i40 < (a0.length : Int)))))]) ⟨rfl, rfl, rfl, rfl, trivial⟩; refine e_then ?_; refine c_cond (i40 < (a0.length : Int)) ha rfl (decide_eq_true_iff) (fun hp75 => ?_) (fun hp75 => ?_)
      · replace hF := if_t hp75 hF
        refine wp_skip ?_; refine e_then ?_; refine wp_seq ?_; refine wp_block ?_; refine wp_region_lit ?_; (iterate 3 refine op_g ha rfl (g_move rfl) ?_; clear ha a; intro a ha); obtain ⟨x76, g77, gx78, hF⟩ := idx_some hF
        obtain ⟨p79, cs80, f81, hf82, hpb83, hat84, hr85, hi86⟩ := ha0.at g77 gx78
        obtain ⟨rfl, hI87, rfl⟩ := hr85
        refine op_g ha rfl (hi86.gives sl39 rfl rfl) ?_; clear ha a; intro a ha; refine op_g ha rfl (g_load0 hE42 Tryz.isAgg2 rfl hat84.one) ?_; clear ha a; intro a ha; refine op_g ha rfl (g_min rfl rfl) ?_; clear ha a; intro a ha; refine op_g ha rfl (g_assign rfl) ?_; clear ha a; intro a ha; refine wpList_nil ?_; replace ha := ha.sub (σ' := [(0, va0), (3, (.int .i64 (min i38 x76))), (4, (.int .i64 i40))]) ⟨rfl, rfl, rfl, trivial⟩; refine e_blk ?_; refine e_then ?_; refine wp_region_lit ?_; refine op_g ha rfl (g_move rfl) ?_; clear ha a; intro a ha; obtain ⟨hI88, hF⟩ := ck_some hF; refine op_g ha rfl (g_add rfl rfl hI88) ?_; clear ha a; intro a ha
        refine op_g ha rfl (g_assign rfl) ?_; clear ha a; intro a ha; refine wpList_nil ?_; replace ha := ha.sub (σ' := [(0, va0), (3, (.int .i64 (min i38 x76))), (4, (.int .i64 (i40 + 1)))]) ⟨rfl, rfl, rfl, trivial⟩; refine e_lq ?_; obtain rfl := Option.some.inj hF
        exact ⟨_, Nat.lt_succ_self _, min i38 x76, i40 + 1, ha.sub ⟨rfl, rfl, rfl, trivial⟩, hE42, (in_min hI39 hI87), hI88, hN72⟩
      replace hF := if_f hp75 hF; refine wp_exit ?_; refine e_then_exit ?_; refine e_lq_eq ?_; obtain rfl := Option.some.inj hF
      exact ⟨i38, ha.sub ⟨rfl, trivial⟩, hE42, hI39, (LK_inr hN72).symm⟩
  rintro a w63 ⟨i64, ha, hE71, hI65, rfl⟩
  have hF : F_slices_Min_int64_k2 i64 = some _ := hK68; clear hK68; unfold F_slices_Min_int64_k2 at hF
  refine e_then ?_; refine wp_seq ?_; refine wp_region_lit ?_; refine op_g ha rfl (g_move rfl) ?_; clear ha a; intro a ha; refine op_g ha rfl (g_assign rfl) ?_; clear ha a; intro a ha; refine wpList_nil ?_; replace ha := ha.sub (σ' := [(2, (.int .i64 i64))]) ⟨rfl, trivial⟩; refine e_then ?_; refine wp_ret ?_; obtain rfl := Option.some.inj hF
  exact f_ret1 ha rfl rfl ⟨⟨rfl, hI65⟩, hE71⟩
set_option maxHeartbeats 2000000 in

set_option maxHeartbeats 2000000 in
theorem W_slices_Concat_int64 {W : World} {va0 : Value} {fa0 : List Nat} {a0 : (List (List Int))} (ha0 : Ro (Rp.sl 2 Rp.int) W fa0 va0 a0) {r : (List Int)} (hF : F_slices_Concat_int64 a0 = some r) :
    Calls Tryz.prog 36 [va0].toArray W (Ret fun u w' => ∃ (b_u : Int), Ow Rp.int 2 true w' [] b_u u r ∧ Zn W b_u ∧ Ext W w') := by
  refine f_enter Tryz.func36 rfl Tryz.ntmps36 rfl ?_
  intro a ha
  replace ha : Fr 36 [(0, va0)] a := ha
  have hE : Chg [] W W := Chg.refl _ _
  unfold F_slices_Concat_int64 at hF
  refine wp_seq ?_; refine wp_region_lit ?_; refine op_g ha rfl (g_assign rfl) ?_; clear ha a; intro a ha; refine wpList_nil ?_; replace ha := ha.sub (σ' := [(0, va0)]) ⟨rfl, trivial⟩; refine e_then ?_; refine wp_seq ?_; refine wp_region_lit ?_; refine op_g ha rfl (g_assign rfl) ?_; clear ha a; intro a ha; refine wpList_nil ?_; refine e_then ?_; refine wp_seq ?_; refine wp_seq ?_; refine wp_region_lit ?_; refine op_g ha rfl (g_move rfl) ?_; clear ha a; intro a ha; refine op_g ha rfl (g_lenR sl22.und ha0 rfl) ?_; clear ha a; intro a ha; refine op_g ha rfl (g_move rfl) ?_; clear ha a; intro a ha
  refine wpList_nil ?_; replace ha := ha.sub (σ' := [(0, va0), (3, (.int .i64 0)), (9, va0), (10, (.int .i64 (a0.length : Int))), (11, (.int .i64 0))]) ⟨rfl, rfl, rfl, rfl, rfl, trivial⟩; refine e_then ?_; obtain ⟨o62, ho63, hK64⟩ := bnd_some hF
  obtain ⟨n65, hn66⟩ := lp_some ho63; clear ho63
  refine c_loop (fun a w => ∃ (i60 : Int), Fr 36 [(0, va0), (3, (.int .i64 i60))] a ∧ Chg [] W w ∧ InI i60 ∧ o62 = .inl i60) (fun n a w => ∃ (i29 : Int) (i31 : Int), Fr 36 [(0, va0), (3, (.int .i64 i29)), (9, va0), (10, (.int .i64 (a0.length : Int))), (11, (.int .i64 i31))] a ∧ Chg [] W w ∧ InI i29 ∧ InI i31 ∧ lpN (fun s => F_slices_Concat_int64_l1 a0 s.1 s.2) n (i29, i31) = some o62) n65 ⟨0, 0, ha.sub ⟨rfl, rfl, rfl, rfl, rfl, trivial⟩, hE, (show InI 0 from by decide), (show InI 0 from by decide), hn66⟩ ?_ ?_
  · rintro m70 a w28 ⟨i29, i31, ha, hE33, hI30, hI32, hF⟩
    cases m70 with
    | zero => exact (lpN_zero hF).elim
    | succ m70 =>
      obtain ⟨z69, hF, hN68⟩ := lpN_succ hF
      have hF : F_slices_Concat_int64_l1 a0 i29 i31 = some z69 := hF; unfold F_slices_Concat_int64_l1 at hF
      refine wp_seq ?_; refine wp_region_lit ?_; refine op_g ha rfl (g_lss rfl rfl) ?_; clear ha a; intro a ha; refine wpList_nil ?_; replace ha := ha.sub (σ' := [(0, va0), (3, (.int .i64 i29)), (9, va0), (10, (.int .i64 (a0.length : Int))), (11, (.int .i64 i31)), (12, (.bool (decide (i31 < (a0.length : Int)))))]) ⟨rfl, rfl, rfl, rfl, rfl, rfl, trivial⟩; refine e_then ?_; refine wp_seq ?_; refine c_cond (i31 < (a0.length : Int)) ha rfl (decide_eq_true_iff) (fun hp71 => ?_) (fun hp71 => ?_)
      · replace hF := if_t hp71 hF
        refine wp_skip ?_; refine e_then ?_; refine wp_seq ?_; refine wp_block ?_; refine wp_seq ?_; refine wp_region_lit ?_; obtain ⟨x72, g73, gx74, hF⟩ := idx_some hF
        obtain ⟨p75, cs76, f77, hf78, hpb79, hat80, hr81, hi82⟩ := ha0.at g73 gx74
        obtain ⟨v83, rfl, h84⟩ := hr81
        have h84 : Ro Rp.int W f77 v83 x72 := h84
        refine op_g ha rfl (hi82.gives sl22 rfl rfl) ?_; clear ha a; intro a ha; refine op_g ha rfl (g_load0 hE33 Tryz.isAgg39 rfl hat80.one) ?_; clear ha a; intro a ha; refine op_g ha rfl (g_assign rfl) ?_; clear ha a; intro a ha; refine wpList_nil ?_; replace ha := ha.sub (σ' := [(0, va0), (3, (.int .i64 i29)), (5, v83), (9, va0), (10, (.int .i64 (a0.length : Int))), (11, (.int .i64 i31))]) ⟨rfl, rfl, rfl, rfl, rfl, rfl, trivial⟩; refine e_then ?_; refine wp_seq ?_; refine wp_region_lit ?_; (iterate 2 refine op_g ha rfl (g_move rfl) ?_; clear ha a; intro a ha); refine op_g ha rfl (g_lenR sl39.und h84 rfl) ?_; clear ha a; intro a ha
        obtain ⟨hI86, hF⟩ := ck_some hF; refine op_g ha rfl (g_add rfl rfl hI86) ?_; clear ha a; intro a ha; refine op_g ha rfl (g_assign rfl) ?_; clear ha a; intro a ha; refine wpList_nil ?_; replace ha := ha.sub (σ' := [(0, va0), (3, (.int .i64 (i29 + (x72.length : Int)))), (9, va0), (10, (.int .i64 (a0.length : Int))), (11, (.int .i64 i31))]) ⟨rfl, rfl, rfl, rfl, rfl, trivial⟩; refine e_then ?_; refine wp_seq ?_; refine wp_region_lit ?_; refine op_g ha rfl (g_move rfl) ?_; clear ha a; intro a ha; refine op_g ha rfl (g_lss rfl rfl) ?_; clear ha a; intro a ha; refine wpList_nil ?_; replace ha := ha.sub (σ' := [(0, va0), (3, (.int .i64 (i29 + (x72.length : Int)))), (9, va0), (10, (.int .i64 (a0.length : Int))), (11, (.int .i64 i31)), (20, (.bool (decide ((i29 + (x72.length : Int)) < 0))))]) ⟨rfl, rfl, rfl, rfl, rfl, rfl, trivial⟩
        refine e_then ?_; refine c_cond ((i29 + (x72.length : Int)) < 0) ha rfl (decide_eq_true_iff) (fun hp88 => ?_) (fun hp88 => ?_)
        · replace hF := if_t hp88 hF
          cases hF
        replace hF := if_f hp88 hF; refine wp_skip ?_; refine e_blk ?_; refine e_then ?_; refine wp_region_lit ?_; obtain ⟨hI89, hF⟩ := ck_some hF; refine op_g ha rfl (g_add rfl rfl hI89) ?_; clear ha a; intro a ha; refine op_g ha rfl (g_move rfl) ?_; clear ha a; intro a ha; refine wpList_nil ?_; replace ha := ha.sub (σ' := [(0, va0), (3, (.int .i64 (i29 + (x72.length : Int)))), (9, va0), (10, (.int .i64 (a0.length : Int))), (11, (.int .i64 (i31 + 1)))]) ⟨rfl, rfl, rfl, rfl, rfl, trivial⟩; refine e_lq ?_; obtain rfl := Option.some.inj hF
        exact ⟨_, Nat.lt_succ_self _, i29 + (x72.length : Int), i31 + 1, ha.sub ⟨rfl, rfl, rfl, rfl, rfl, trivial⟩, hE33, hI86, hI89, hN68⟩
      replace hF := if_f hp71 hF; refine wp_exit ?_; refine e_then_exit ?_; refine e_lq_eq ?_; obtain rfl := Option.some.inj hF
      exact ⟨i29, ha.sub ⟨rfl, rfl, trivial⟩, hE33, hI30, (LK_inr hN68).symm⟩
  rintro a w59 ⟨i60, ha, hE67, hI61, rfl⟩
  have hF : F_slices_Concat_int64_k2 a0 i60 = some _ := hK64; clear hK64; unfold F_slices_Concat_int64_k2 at hF
  refine e_then ?_; refine wp_seq ?_; refine wp_region_lit ?_; refine op_g ha rfl (g_move rfl) ?_; clear ha a; intro a ha; obtain ⟨x91, hc92, hF⟩ := cal_some hF
  refine o_call ha rfl rfl Tryz.call54 (W_slices_Grow_int64 (Ro.nil _) hI61 hc92) ?_; clear ha a; rintro v93 w94 ⟨b96, h97, z98, hx95⟩ a ha
  have hE100 := Ext.trans hE67 hx95
  have q101 := Zn.upD z98 hE67
  refine op_g ha rfl (g_assign rfl) ?_; clear ha a; intro a ha; refine wpList_nil ?_; replace ha := ha.sub (σ' := [(0, va0), (6, v93)]) ⟨rfl, rfl, trivial⟩; refine e_then ?_; refine wp_seq ?_; refine wp_seq ?_; refine wp_region_lit ?_; refine op_g ha rfl (g_move rfl) ?_; clear ha a; intro a ha; refine op_g ha rfl (g_lenR sl22.und ha0 rfl) ?_; clear ha a; intro a ha; refine op_g ha rfl (g_move rfl) ?_; clear ha a; intro a ha; refine wpList_nil ?_; replace ha := ha.sub (σ' := [(6, v93), (25, va0), (26, (.int .i64 (a0.length : Int))), (27, (.int .i64 0))]) ⟨rfl, rfl, rfl, rfl, trivial⟩; refine e_then ?_
  obtain ⟨o198, ho199, hK200⟩ := bnd_some hF
  obtain ⟨n201, hn202⟩ := lp_some ho199; clear ho199
  refine c_loop (fun a w => ∃ (l195 : (List Int)) (v196 : Value) (b197 : Int), Fr 36 [(6, v196)] a ∧ Chg [] W w ∧ Ow Rp.int 2 true w [] b197 v196 l195 ∧ Zn W b197 ∧ o198 = .inl l195) (fun n a w => ∃ (l148 : (List Int)) (i151 : Int) (v149 : Value) (b150 : Int), Fr 36 [(6, v149), (25, va0), (26, (.int .i64 (a0.length : Int))), (27, (.int .i64 i151))] a ∧ Chg [] W w ∧ InI i151 ∧ Ow Rp.int 2 true w [] b150 v149 l148 ∧ Zn W b150 ∧ lpN (fun s => F_slices_Concat_int64_l3 a0 s.1 s.2) n (l148, i151) = some o198) n201 ⟨x91, 0, v93, b96, ha.sub ⟨rfl, rfl, rfl, rfl, trivial⟩, hE100, (show InI 0 from by decide), h97, q101, hn202⟩ ?_ ?_
  · rintro m206 a w144 ⟨l148, i151, v149, b150, ha, hE153, hI152, h146, z147, hF⟩
    cases m206 with
    | zero => exact (lpN_zero hF).elim
    | succ m206 =>
      obtain ⟨z205, hF, hN204⟩ := lpN_succ hF
      have hF : F_slices_Concat_int64_l3 a0 l148 i151 = some z205 := hF; unfold F_slices_Concat_int64_l3 at hF
      refine wp_seq ?_; refine wp_region_lit ?_; refine op_g ha rfl (g_lss rfl rfl) ?_; clear ha a; intro a ha; refine wpList_nil ?_; replace ha := ha.sub (σ' := [(6, v149), (25, va0), (26, (.int .i64 (a0.length : Int))), (27, (.int .i64 i151)), (28, (.bool (decide (i151 < (a0.length : Int)))))]) ⟨rfl, rfl, rfl, rfl, rfl, trivial⟩; refine e_then ?_; refine wp_seq ?_; refine c_cond (i151 < (a0.length : Int)) ha rfl (decide_eq_true_iff) (fun hp207 => ?_) (fun hp207 => ?_)
      · replace hF := if_t hp207 hF
        refine wp_skip ?_; refine e_then ?_; refine wp_seq ?_; refine wp_block ?_; refine wp_seq ?_; refine wp_region_lit ?_; obtain ⟨x208, g209, gx210, hF⟩ := idx_some hF
        obtain ⟨p211, cs212, f213, hf214, hpb215, hat216, hr217, hi218⟩ := ha0.at g209 gx210
        obtain ⟨v219, rfl, h220⟩ := hr217
        have h220 : Ro Rp.int W f213 v219 x208 := h220
        refine op_g ha rfl (hi218.gives sl22 rfl rfl) ?_; clear ha a; intro a ha; refine op_g ha rfl (g_load0 hE153 Tryz.isAgg39 rfl hat216.one) ?_; clear ha a; intro a ha; refine op_g ha rfl (g_assign rfl) ?_; clear ha a; intro a ha; refine wpList_nil ?_; replace ha := ha.sub (σ' := [(6, v149), (8, v219), (25, va0), (26, (.int .i64 (a0.length : Int))), (27, (.int .i64 i151))]) ⟨rfl, rfl, rfl, rfl, rfl, trivial⟩; refine e_then ?_; refine wp_region_lit ?_; (iterate 2 refine op_g ha rfl (g_move rfl) ?_; clear ha a; intro a ha); obtain ⟨hl222, hF⟩ := app_some hF
        obtain ⟨_, hs223, _⟩ := (h220.ext hE153).src
        refine o_append ha rfl sl39 rfl rfl rfl h146 (hs223.up scal_int) (Nq.nil _) hl222 ?_; clear ha a; intro v224 w225 b226 h227 hc228 hb229 a ha
        replace h227 : Ow Rp.int 2 true w225 [] b226 v224 _ := h227
        have q231 := Zn.appD z147 hb229 hE153
        have hE232 := Ext.then hE153 hc228 (Zn.bl z147)
        refine op_g ha rfl (g_assign rfl) ?_; clear ha a; intro a ha; refine wpList_nil ?_; replace ha := ha.sub (σ' := [(6, v224), (25, va0), (26, (.int .i64 (a0.length : Int))), (27, (.int .i64 i151))]) ⟨rfl, rfl, rfl, rfl, trivial⟩; refine e_blk ?_; refine e_then ?_; refine wp_region_lit ?_; obtain ⟨hI233, hF⟩ := ck_some hF; refine op_g ha rfl (g_add rfl rfl hI233) ?_; clear ha a; intro a ha; refine op_g ha rfl (g_move rfl) ?_; clear ha a; intro a ha; refine wpList_nil ?_; replace ha := ha.sub (σ' := [(6, v224), (25, va0), (26, (.int .i64 (a0.length : Int))), (27, (.int .i64 (i151 + 1)))]) ⟨rfl, rfl, rfl, rfl, trivial⟩
        refine e_lq ?_; obtain rfl := Option.some.inj hF
        exact ⟨_, Nat.lt_succ_self _, (l148 ++ x208), i151 + 1, v224, b226, ha.sub ⟨rfl, rfl, rfl, rfl, trivial⟩, hE232, hI233, h227, q231, hN204⟩
      replace hF := if_f hp207 hF; refine wp_exit ?_; refine e_then_exit ?_; refine e_lq_eq ?_; obtain rfl := Option.some.inj hF
      exact ⟨l148, v149, b150, ha.sub ⟨rfl, trivial⟩, hE153, h146, z147, (LK_inr hN204).symm⟩
  rintro a w191 ⟨l195, v196, b197, ha, hE203, h193, z194, rfl⟩
  have hF : F_slices_Concat_int64_k4 l195 = some _ := hK200; clear hK200; unfold F_slices_Concat_int64_k4 at hF
  refine e_then ?_; refine wp_seq ?_; refine wp_region_lit ?_; refine op_g ha rfl (g_move rfl) ?_; clear ha a; intro a ha; refine op_g ha rfl (g_assign rfl) ?_; clear ha a; intro a ha; refine wpList_nil ?_; replace ha := ha.sub (σ' := [(2, v196)]) ⟨rfl, trivial⟩; refine e_then ?_; refine wp_ret ?_; obtain rfl := Option.some.inj hF
  exact f_ret1 ha rfl rfl ⟨_, h193, z194, hE203⟩
set_option maxHeartbeats 2000000 in
theorem W_impl_aroundOf {W : World} {va0 : Value} {fa0 : List Nat} {a0 : (List (List Int))} (ha0 : Ro (Rp.sl 3 Rp.int) W fa0 va0 a0) {r : (List (List Int))} (hF : F_impl_aroundOf a0 = some r) :
    Calls Tryz.prog 22 [va0].toArray W (Ret fun u w' => ∃ (u_0 : Value) (b_u_0 : Int) (fs_u_0 : List Nat), u = .agg #[u_0] ∧ Ow (Rp.sl 2 Rp.int) 39 true w' fs_u_0 b_u_0 u_0 r ∧ Zn W b_u_0 ∧ (∀ k ∈ fs_u_0, W.heap.size ≤ k) ∧ (bl b_u_0 ++ fs_u_0).Nodup ∧ Ext W w') := by
  refine f_enter Tryz.func22 rfl Tryz.ntmps22 rfl ?_
  intro a ha
  replace ha : Fr 40 [(0, va0)] a := ha
  have hE : Chg [] W W := Chg.refl _ _
  unfold F_impl_aroundOf at hF
  refine wp_seq ?_; refine wp_region_lit ?_
  refine o_alloc (cs := [(.slice none 0 0)]) ha rfl Tryz.zeroValue33 rfl ?_; clear ha a; intro b1 w2 hB3 hx4 hlo5 a ha
  have q6 := Zn.one hlo5
  have q7 := Zn.upD q6 hE
  have hE8 := Ext.trans hE hx4
  refine wpList_nil ?_; refine e_then ?_; refine wp_seq ?_; refine wp_region_lit ?_; refine op_g ha rfl (g_build (vs := []) (cells := #[(.slice none 0 0)]) rfl (by rfl)) ?_; clear ha a; intro a ha
  refine o_alloc (cs := [(.slice none 0 0)]) ha rfl Tryz.zeroValue33 rfl ?_; clear ha a; intro b9 w10 hB11 hx12 hlo13 a ha
  have q14 := Zn.one hlo13
  have q15 := Nq.new hB3.fpb q14
  have q16 := Nq.made1 hlo13 hB3.bi
  have q17 := Zn.upD q14 hE8
  replace hB3 := hB3.ext hx12
  have hE18 := Ext.trans hE8 hx12
  refine o_storeA (vs := [(.slice none 0 0)]) ha hB11 Tryz.sizeOf33 rfl rfl (by intro c hc; simp only [List.mem_cons, List.not_mem_nil, or_false] at hc; rcases hc with hc <;> subst hc <;> first | rfl | exact rfl) rfl ?_; intro w19 hB20 hc21
  replace hc21 := hc21.bl
  replace hB20 : Bx w19 b9 [(.slice none 0 0)] 33 := hB20
  replace hB3 := hB3.nq hc21 q15
  have hE22 := Ext.then hE18 hc21 (Zn.bl q17)
  refine wpList_nil ?_; replace ha := ha.sub (σ' := [(0, va0), (2, (.pointer (some ⟨b1, 0, none⟩))), (3, (.pointer (some ⟨b9, 0, none⟩)))]) ⟨rfl, rfl, rfl, trivial⟩; refine e_then ?_; refine wp_seq ?_; refine wp_seq ?_; refine wp_region_lit ?_; refine op_g ha rfl (g_move rfl) ?_; clear ha a; intro a ha; refine op_g ha rfl (g_lenR sl49.und ha0 rfl) ?_; clear ha a; intro a ha; refine op_g ha rfl (g_move rfl) ?_; clear ha a; intro a ha; refine wpList_nil ?_; replace ha := ha.sub (σ' := [(2, (.pointer (some ⟨b1, 0, none⟩))), (3, (.pointer (some ⟨b9, 0, none⟩))), (9, va0), (10, (.int .i64 (a0.length : Int))), (11, (.int .i64 0))]) ⟨rfl, rfl, rfl, rfl, rfl, trivial⟩
  refine e_then ?_; obtain ⟨o536, ho537, hK538⟩ := bnd_some hF
  obtain ⟨n539, hn540⟩ := lp_some ho537; clear ho537
  obtain ⟨b543, hb543⟩ : ∃ b : Int, b = -1 := ⟨_, rfl⟩
  have h542 : Ow (Rp.sl 2 Rp.int) 39 true w19 [] b543 (.slice none 0 0) [] := Ow.nil (by omega)
  have q544 := (.inl (by omega) : Zn w19 b543)
  have q545 := Nq.new hB3.fpb q544
  have q546 := Nq.madeO q544 hB3.bi
  have q547 := Nq.new hB20.fpb q544
  have q548 := Nq.madeO q544 hB20.bi
  have q549 := Zn.upD q544 hE22
  refine c_loop (fun a w => ∃ (l527 : (List (List Int))) (fs524 : List Nat) (v528 : Value) (b529 : Int), Fr 40 [(2, (.pointer (some ⟨b1, 0, none⟩))), (3, (.pointer (some ⟨b9, 0, none⟩)))] a ∧ Chg [] W w ∧ Bx w b1 [(.slice none 0 0)] 33 ∧ Zn W (b1 : Int) ∧ Bx w b9 [v528] 33 ∧ Zn W (b9 : Int) ∧ Ow (Rp.sl 2 Rp.int) 39 true w fs524 b529 v528 l527 ∧ Zn W b529 ∧ (∀ k ∈ fs524, W.heap.size ≤ k) ∧ (bl b529 ++ fs524).Nodup ∧ Nq ([b1]) (b9 : Int) ∧ Nq ([b1]) b529 ∧ Nq ([b9]) (b1 : Int) ∧ Nq ([b9]) b529 ∧ Nq (bl b529 ++ fs524) (b1 : Int) ∧ Nq (bl b529 ++ fs524) (b9 : Int) ∧ o536 = .inl l527) (fun n a w => ∃ (l278 : (List (List Int))) (i281 : Int) (fs275 : List Nat) (v279 : Value) (b280 : Int), Fr 40 [(2, (.pointer (some ⟨b1, 0, none⟩))), (3, (.pointer (some ⟨b9, 0, none⟩))), (9, va0), (10, (.int .i64 (a0.length : Int))), (11, (.int .i64 i281))] a ∧ Chg [] W w ∧ InI i281 ∧ Bx w b1 [(.slice none 0 0)] 33 ∧ Zn W (b1 : Int) ∧ Bx w b9 [v279] 33 ∧ Zn W (b9 : Int) ∧ Ow (Rp.sl 2 Rp.int) 39 true w fs275 b280 v279 l278 ∧ Zn W b280 ∧ (∀ k ∈ fs275, W.heap.size ≤ k) ∧ (bl b280 ++ fs275).Nodup ∧ Nq ([b1]) (b9 : Int) ∧ Nq ([b1]) b280 ∧ Nq ([b9]) (b1 : Int) ∧ Nq ([b9]) b280 ∧ Nq (bl b280 ++ fs275) (b1 : Int) ∧ Nq (bl b280 ++ fs275) (b9 : Int) ∧ lpN (fun s => F_impl_aroundOf_l1 a0 s.1 s.2) n (l278, i281) = some o536) n539 ⟨([] : (List (List Int))), 0, [], (.slice none 0 0), b543, ha.sub ⟨rfl, rfl, rfl, rfl, rfl, trivial⟩, hE22, (show InI 0 from by decide), hB3, q7, hB20, q17, h542, q549, (zf_nil _), (bl_nodup b543), q15, q545, q16, q547, q546, q548, hn540⟩ ?_ ?_
  · rintro m553 a w267 ⟨l278, i281, fs275, v279, b280, ha, hE289, hI282, hB268, z269, hB270, z271, h273, z274, zf276, nd277, q283, q284, q285, q286, q287, q288, hF⟩
    cases m553 with
    | zero => exact (lpN_zero hF).elim
    | succ m553 =>
      obtain ⟨z552, hF, hN551⟩ := lpN_succ hF
      have hF : F_impl_aroundOf_l1 a0 l278 i281 = some z552 := hF; unfold F_impl_aroundOf_l1 at hF
      refine wp_seq ?_; refine wp_region_lit ?_; refine op_g ha rfl (g_lss rfl rfl) ?_; clear ha a; intro a ha; refine wpList_nil ?_; replace ha := ha.sub (σ' := [(2, (.pointer (some ⟨b1, 0, none⟩))), (3, (.pointer (some ⟨b9, 0, none⟩))), (9, va0), (10, (.int .i64 (a0.length : Int))), (11, (.int .i64 i281)), (12, (.bool (decide (i281 < (a0.length : Int)))))]) ⟨rfl, rfl, rfl, rfl, rfl, rfl, trivial⟩; refine e_then ?_; refine wp_seq ?_; refine c_cond (i281 < (a0.length : Int)) ha rfl (decide_eq_true_iff) (fun hp554 => ?_) (fun hp554 => ?_)
      · replace hF := if_t hp554 hF
        refine wp_skip ?_; refine e_then ?_; refine wp_seq ?_; refine wp_block ?_; refine wp_seq ?_; refine wp_region_lit ?_; obtain ⟨x555, g556, gx557, hF⟩ := idx_some hF
        obtain ⟨p558, cs559, f560, hf561, hpb562, hat563, hr564, hi565⟩ := ha0.at g556 gx557
        obtain ⟨v566, rfl, h567⟩ := hr564
        have h567 : Ro Rp.int W f560 v566 x555 := h567
        refine op_g ha rfl (hi565.gives sl49 rfl rfl) ?_; clear ha a; intro a ha; refine op_g ha rfl (g_load0 hE289 Tryz.isAgg66 rfl hat563.one) ?_; clear ha a; intro a ha; refine op_g ha rfl (g_assign rfl) ?_; clear ha a; intro a ha; refine wpList_nil ?_; replace ha := ha.sub (σ' := [(2, (.pointer (some ⟨b1, 0, none⟩))), (3, (.pointer (some ⟨b9, 0, none⟩))), (5, v566), (9, va0), (10, (.int .i64 (a0.length : Int))), (11, (.int .i64 i281))]) ⟨rfl, rfl, rfl, rfl, rfl, rfl, trivial⟩; refine e_then ?_; refine wp_seq ?_; refine wp_region_lit ?_; refine op_g ha rfl (g_move rfl) ?_; clear ha a; intro a ha
        obtain ⟨x569, hc570, hF⟩ := cal_some hF
        refine o_call ha rfl rfl Tryz.call33 (W_impl_wide (h567.ext hE289) hc570) ?_; clear ha a; rintro v571 w572 ⟨b574, h575, z576, hx573⟩ a ha
        have q578 := Nq.new hB268.fpb z576
        have q579 := Nq.madeO z576 hB268.bi
        have q580 := Nq.new hB270.fpb z576
        have q581 := Nq.madeO z576 hB270.bi
        have q582 := Nq.new h273.fpb z576
        have q583 := Nq.madeO z576 h273.blt
        have q584 := Nf.old z576 (zf_nil _) h273.bnd
        replace hB268 := hB268.ext hx573
        replace hB270 := hB270.ext hx573
        replace h273 := h273.ext hx573
        have hE585 := Ext.trans hE289 hx573
        have q586 := Zn.upD z576 hE289
        refine op_g ha rfl (g_assign rfl) ?_; clear ha a; intro a ha; refine wpList_nil ?_; replace ha := ha.sub (σ' := [(2, (.pointer (some ⟨b1, 0, none⟩))), (3, (.pointer (some ⟨b9, 0, none⟩))), (6, v571), (9, va0), (10, (.int .i64 (a0.length : Int))), (11, (.int .i64 i281))]) ⟨rfl, rfl, rfl, rfl, rfl, rfl, trivial⟩; refine e_then ?_; refine wp_seq ?_; refine wp_seq ?_; refine wp_region_lit ?_; refine op_g ha rfl (g_move rfl) ?_; clear ha a; intro a ha; refine op_g ha rfl (g_lenO sl39.und h575 rfl) ?_; clear ha a; intro a ha; refine op_g ha rfl (g_gtr rfl rfl) ?_; clear ha a; intro a ha; refine wpList_nil ?_
        replace ha := ha.sub (σ' := [(2, (.pointer (some ⟨b1, 0, none⟩))), (3, (.pointer (some ⟨b9, 0, none⟩))), (6, v571), (9, va0), (10, (.int .i64 (a0.length : Int))), (11, (.int .i64 i281)), (19, (.bool (decide (0 < (x569.length : Int)))))]) ⟨rfl, rfl, rfl, rfl, rfl, rfl, rfl, trivial⟩; refine e_then ?_; refine c_cond (0 < (x569.length : Int)) ha rfl (decide_eq_true_iff) (fun hp587 => ?_) (fun hp587 => ?_)
        · replace hF := if_t hp587 hF
          refine wp_seq ?_; refine wp_region_lit ?_; (iterate 2 refine op_g ha rfl (g_move rfl) ?_; clear ha a; intro a ha)
          obtain ⟨fp588, hro589, hs590⟩ := h575.roF
          obtain ⟨x591, hc592, hF⟩ := cal_some hF
          refine o_call ha rfl rfl Tryz.call35 (W_slices_Min_int64 hro589 hc592) ?_; clear ha a; rintro v593 w594 ⟨⟨rfl, hI596⟩, hx595⟩ a ha
          replace hB268 := hB268.ext hx595
          replace hB270 := hB270.ext hx595
          replace h273 := h273.ext hx595
          replace h575 := h575.ext hx595
          have hE597 := Ext.trans hE585 hx595
          obtain ⟨fp598, hro599, hs600⟩ := h575.roF
          obtain ⟨x601, hc602, hF⟩ := cal_some hF
          refine o_call ha rfl rfl Tryz.call34 (W_slices_Index_int64 hro599 hI596 hc602) ?_; clear ha a; rintro v603 w604 ⟨⟨rfl, hI606⟩, hx605⟩ a ha
          replace hB268 := hB268.ext hx605
          replace hB270 := hB270.ext hx605
          replace h273 := h273.ext hx605
          replace h575 := h575.ext hx605
          have hE607 := Ext.trans hE597 hx605
          refine op_g ha rfl (g_assign rfl) ?_; clear ha a; intro a ha; refine wpList_nil ?_; replace ha := ha.sub (σ' := [(2, (.pointer (some ⟨b1, 0, none⟩))), (3, (.pointer (some ⟨b9, 0, none⟩))), (6, v571), (7, (.int .i64 x601)), (9, va0), (10, (.int .i64 (a0.length : Int))), (11, (.int .i64 i281))]) ⟨rfl, rfl, rfl, rfl, rfl, rfl, rfl, trivial⟩; refine e_then ?_; refine d_region [0, 1, 2, 3, 4, 5, 6, 7, 8] hmix ?_; refine u_g 0 rfl (by kernel_rfl) (want0 _) ha rfl (g_move rfl) ?_; clear ha a; intro a ha; refine u_g 1 rfl (by kernel_rfl) (want0 _) ha rfl (g_move rfl) ?_; clear ha a; intro a ha
          obtain ⟨hb608a, hb608b, hb608c, hF⟩ := slc_some hF
          obtain ⟨fp614, h615, hs616⟩ := h575.roF
          obtain ⟨v609, fp610, hrun611, hro612, hsub613⟩ := h615.slice (lo := (some (.int .i64 x601))) (hi := none) (i := x601) (j := (x569.length : Int)) sl39 (.inr ⟨_, rfl⟩) (.inl ⟨rfl, rfl⟩) ⟨hb608a, hb608b, hb608c⟩
          have q618 := Nq.mono q579 (fun k hk => hs616 k (hsub613 k hk))
          have q619 := Nq.mono q581 (fun k hk => hs616 k (hsub613 k hk))
          have q620 := Nq.mono q583 (fun k hk => hs616 k (hsub613 k hk))
          refine u_g 2 rfl (by kernel_rfl) (want0 _) ha rfl (g_slice sl39.und rfl rfl rfl hrun611) ?_; clear ha a; intro a ha; refine u_g 3 rfl (by kernel_rfl) (want0 _) ha rfl (g_move rfl) ?_; clear ha a; intro a ha; refine u_g 4 rfl (by kernel_rfl) (want0 _) ha rfl (g_move rfl) ?_; clear ha a; intro a ha; obtain ⟨hb621a, hb621b, hb621c, hF⟩ := slc_some hF
          obtain ⟨fp627, h628, hs629⟩ := h575.roF
          obtain ⟨v622, fp623, hrun624, hro625, hsub626⟩ := h628.slice (lo := none) (hi := (some (.int .i64 x601))) (i := 0) (j := x601) sl39 (.inl ⟨rfl, rfl⟩) (.inr ⟨_, rfl⟩) ⟨hb621a, hb621b, hb621c⟩
          have q631 := Nq.mono q579 (fun k hk => hs629 k (hsub626 k hk))
          have q632 := Nq.mono q581 (fun k hk => hs629 k (hsub626 k hk))
          have q633 := Nq.mono q583 (fun k hk => hs629 k (hsub626 k hk))
          refine u_g 5 rfl (by kernel_rfl) (want0 _) ha rfl (g_slice sl39.und rfl rfl rfl hrun624) ?_; clear ha a; intro a ha
          refine u_only 6 rfl (by kernel_rfl) ?_; intro w634 hx635
          replace hB268 := hB268.ext hx635
          replace hB270 := hB270.ext hx635
          replace h273 := h273.ext hx635
          replace h575 := h575.ext hx635
          replace hro612 := hro612.ext hx635
          replace hro625 := hro625.ext hx635
          have hE636 := Ext.trans hE607 hx635
          have hvob641 : ∀ p ∈ ([(v609, [v609]), (v622, [v622])] : List (Value × List Value)), p.1.cells = p.2.toArray ∧ p.2.length = 1 := by
            intro p hp; simp only [List.mem_cons, List.not_mem_nil, or_false] at hp; rcases hp with hp | hp <;> subst hp <;> first | exact ⟨hro612.cells, rfl⟩ | exact ⟨hro625.cells, rfl⟩
          refine o_litM (o := false) (f := (fp610 ++ (fp623 ++ []))) (ps := [(v609, [v609]), (v622, [v622])]) (ys := [((x569.drop (x601 : Int).toNat).take (((x569.length : Int) : Int).toNat - (x601 : Int).toNat)), ((x569.drop (0 : Int).toNat).take ((x601 : Int).toNat - (0 : Int).toNat))]) (Rp.sl 2 Rp.int) ha rfl sl22 rfl rfl rfl rfl hvob641 ⟨fp610, (fp623 ++ []), [v609], _, rfl, rfl, Rp.mkR hro612, ⟨fp623, [], [v622], _, rfl, rfl, Rp.mkR hro625, ⟨rfl, rfl⟩⟩⟩ ?_; clear ha a; intro v637 w638 h639 hx640 a ha
          obtain ⟨fp643, h644, hs645⟩ := h639.roF
          replace hB268 := hB268.ext hx640
          replace hB270 := hB270.ext hx640
          replace h273 := h273.ext hx640
          replace h575 := h575.ext hx640
          replace hro612 := hro612.ext hx640
          replace hro625 := hro625.ext hx640
          have hE646 := Ext.trans hE636 hx640
          refine wpList_nil (e_sq ?_)
          refine ⟨fun _ => hx640, ?_⟩
          refine u_only 7 rfl (by kernel_rfl) ?_; intro w647 hx648
          replace hB268 := hB268.ext hx648
          replace hB270 := hB270.ext hx648
          replace h273 := h273.ext hx648
          replace h575 := h575.ext hx648
          replace hro612 := hro612.ext hx648
          replace hro625 := hro625.ext hx648
          replace h644 := h644.ext hx648
          have hE649 := Ext.trans hE646 hx648
          obtain ⟨x650, hc651, hF⟩ := cal_some hF
          refine o_call ha rfl rfl Tryz.call36 (W_slices_Concat_int64 h644 hc651) ?_; clear ha a; rintro v652 w653 ⟨b655, h656, z657, hx654⟩ a ha
          have q659 := Nq.new hB268.fpb z657
          have q660 := Nq.madeO z657 hB268.bi
          have q661 := Nq.new hB270.fpb z657
          have q662 := Nq.madeO z657 hB270.bi
          have q663 := Nq.new h273.fpb z657
          have q664 := Nq.madeO z657 h273.blt
          have q665 := Nq.new h575.fpb z657
          have q666 := Nq.madeO z657 h575.blt
          have q667 := Nq.new hro612.bnd z657
          have q668 := Nq.new hro625.bnd z657
          have q669 := Nq.new h644.bnd z657
          have q670 := Nf.old z657 (zf_nil _) h273.bnd
          replace hB268 := hB268.ext hx654
          replace hB270 := hB270.ext hx654
          replace h273 := h273.ext hx654
          replace h575 := h575.ext hx654
          replace hro612 := hro612.ext hx654
          replace hro625 := hro625.ext hx654
          replace h644 := h644.ext hx654
          have hE671 := Ext.trans hE649 hx654
          have q672 := Zn.upD z657 hE649
          refine wpList_nil (e_sq ?_)
          refine ⟨fun _ => hx654, ?_⟩
          refine u_g 8 rfl (by kernel_rfl) (want0 _) ha rfl (g_assign rfl) ?_; clear ha a; intro a ha
          refine u_done (by kernel_rfl) ?_; intro w673 hx674
          replace hB268 := hB268.ext hx674
          replace hB270 := hB270.ext hx674
          replace h273 := h273.ext hx674
          replace h575 := h575.ext hx674
          replace hro612 := hro612.ext hx674
          replace hro625 := hro625.ext hx674
          replace h644 := h644.ext hx674
          replace h656 := h656.ext hx674
          have hE675 := Ext.trans hE671 hx674
          replace ha := ha.sub (σ' := [(2, (.pointer (some ⟨b1, 0, none⟩))), (3, (.pointer (some ⟨b9, 0, none⟩))), (6, v652), (9, va0), (10, (.int .i64 (a0.length : Int))), (11, (.int .i64 i281))]) ⟨rfl, rfl, rfl, rfl, rfl, rfl, trivial⟩; refine e_then ?_; refine wp_region_lit ?_; refine op_g ha rfl (g_field0 st33_0 rfl) ?_; clear ha a; intro a ha; refine op_g ha rfl (g_load Tryz.isAgg22 rfl (hB270.cell rfl)) ?_; clear ha a; intro a ha; refine op_g ha rfl (g_move rfl) ?_; clear ha a; intro a ha
          refine o_lit1 (o := true) (y := x650) (Rp.sl 2 Rp.int) ha rfl sl22 rfl rfl h656.cells (Rp.mkO h656) ?_; clear ha a; intro v676 w677 h678 hx679 a ha
          obtain ⟨b681, hb681⟩ : ∃ b : Int, b = w673.heap.size := ⟨_, rfl⟩; rw [← hb681] at h678
          have q682 := zn_of hb681
          have q683 := zf_mv q672 (zf_nil _)
          have q684 := dj_of q663
          have q685 := Nq.new hB268.fpb q682
          have q686 := Nq.append (Nq.madeL q682 hB268.bi) q660
          have q687 := Nq.new hB270.fpb q682
          have q688 := Nq.append (Nq.madeL q682 hB270.bi) q662
          have q689 := Nq.new h273.fpb q682
          have q690 := Nq.append (Nq.madeL q682 h273.blt) q664
          have q691 := Zn.upD q682 hE675
          have q692 := nd_lit (bl_nodup b655) h656.fpb hb681
          replace hB268 := hB268.ext hx679
          replace hB270 := hB270.ext hx679
          replace h273 := h273.ext hx679
          have hE693 := Ext.trans hE675 hx679
          obtain ⟨hl694, hF⟩ := app_some hF
          have q695 := Nq.right q690
          refine o_append ha rfl sl22 rfl rfl rfl h273 h678.src q695 hl694 ?_; clear ha a; intro v696 w697 b698 h699 hc700 hb701 a ha
          replace h699 : Ow (Rp.sl 2 Rp.int) 39 true w697 (fs275 ++ (bl b655 ++ [])) b698 v696 _ := h699
          have q703 := zf_app zf276 q683
          have q704 := nd_app nd277 (bl_nodup b655) q684 hb701 h273.fpb h678.bnd
          have q705 := Nq.appY q284 hB268.fpb hb701
          have q706 := Nq.appX q287 (Nq.right q686) hb701 hB268.bi
          have q707 := Nq.appY q286 hB270.fpb hb701
          have q708 := Nq.appX q288 (Nq.right q688) hb701 hB270.bi
          have q709 := Zn.appD z274 hb701 hE693
          replace hB268 := hB268.nq hc700 q284
          replace hB270 := hB270.nq hc700 q286
          have hE710 := Ext.then hE693 hc700 (Zn.bl z274)
          refine op_g ha rfl (g_field0 st33_0 rfl) ?_; clear ha a; intro a ha
          refine o_storeB ha hB270 Tryz.sizeOf22 rfl rfl h699.cells h699.oneC (Nat.le_of_ble_eq_true rfl) ?_; intro w711 hB712 hc713
          replace hc713 := hc713.bl
          replace hB712 : Bx w711 b9 [v696] 33 := hB712
          replace hB268 := hB268.nq hc713 q283
          replace h699 := h699.nq hc713 q708
          have hE714 := Ext.then hE710 hc713 (Zn.bl z271)
          refine wpList_nil ?_; replace ha := ha.sub (σ' := [(2, (.pointer (some ⟨b1, 0, none⟩))), (3, (.pointer (some ⟨b9, 0, none⟩))), (9, va0), (10, (.int .i64 (a0.length : Int))), (11, (.int .i64 i281))]) ⟨rfl, rfl, rfl, rfl, rfl, trivial⟩; refine e_blk ?_; refine e_then ?_; refine wp_region_lit ?_; obtain ⟨hI715, hF⟩ := ck_some hF; refine op_g ha rfl (g_add rfl rfl hI715) ?_; clear ha a; intro a ha; refine op_g ha rfl (g_move rfl) ?_; clear ha a; intro a ha; refine wpList_nil ?_; replace ha := ha.sub (σ' := [(2, (.pointer (some ⟨b1, 0, none⟩))), (3, (.pointer (some ⟨b9, 0, none⟩))), (9, va0), (10, (.int .i64 (a0.length : Int))), (11, (.int .i64 (i281 + 1)))]) ⟨rfl, rfl, rfl, rfl, rfl, trivial⟩
          refine e_lq ?_; obtain rfl := Option.some.inj hF
          exact ⟨_, Nat.lt_succ_self _, (l278 ++ ([x650])), i281 + 1, (fs275 ++ (bl b655 ++ [])), v696, b698, ha.sub ⟨rfl, rfl, rfl, rfl, rfl, trivial⟩, hE714, hI715, hB268, z269, hB712, z271, h699, q709, q703, q704, q283, q705, q285, q707, q706, q708, hN551⟩
        replace hF := if_f hp587 hF; refine wp_skip ?_; refine e_then ?_; refine wp_region_lit ?_; refine op_g ha rfl (g_field0 st33_0 rfl) ?_; clear ha a; intro a ha; refine op_g ha rfl (g_load Tryz.isAgg22 rfl (hB270.cell rfl)) ?_; clear ha a; intro a ha; refine op_g ha rfl (g_move rfl) ?_; clear ha a; intro a ha
        refine o_lit1 (o := true) (y := x569) (Rp.sl 2 Rp.int) ha rfl sl22 rfl rfl h575.cells (Rp.mkO h575) ?_; clear ha a; intro v717 w718 h719 hx720 a ha
        obtain ⟨b722, hb722⟩ : ∃ b : Int, b = w572.heap.size := ⟨_, rfl⟩; rw [← hb722] at h719
        have q723 := zn_of hb722
        have q724 := zf_mv q586 (zf_nil _)
        have q725 := dj_of q582
        have q726 := Nq.new hB268.fpb q723
        have q727 := Nq.append (Nq.madeL q723 hB268.bi) q579
        have q728 := Nq.new hB270.fpb q723
        have q729 := Nq.append (Nq.madeL q723 hB270.bi) q581
        have q730 := Nq.new h273.fpb q723
        have q731 := Nq.append (Nq.madeL q723 h273.blt) q583
        have q732 := Zn.upD q723 hE585
        have q733 := nd_lit (bl_nodup b574) h575.fpb hb722
        replace hB268 := hB268.ext hx720
        replace hB270 := hB270.ext hx720
        replace h273 := h273.ext hx720
        have hE734 := Ext.trans hE585 hx720
        obtain ⟨hl735, hF⟩ := app_some hF
        have q736 := Nq.right q731
        refine o_append ha rfl sl22 rfl rfl rfl h273 h719.src q736 hl735 ?_; clear ha a; intro v737 w738 b739 h740 hc741 hb742 a ha
        replace h740 : Ow (Rp.sl 2 Rp.int) 39 true w738 (fs275 ++ (bl b574 ++ [])) b739 v737 _ := h740
        have q744 := zf_app zf276 q724
        have q745 := nd_app nd277 (bl_nodup b574) q725 hb742 h273.fpb h719.bnd
        have q746 := Nq.appY q284 hB268.fpb hb742
        have q747 := Nq.appX q287 (Nq.right q727) hb742 hB268.bi
        have q748 := Nq.appY q286 hB270.fpb hb742
        have q749 := Nq.appX q288 (Nq.right q729) hb742 hB270.bi
        have q750 := Zn.appD z274 hb742 hE734
        replace hB268 := hB268.nq hc741 q284
        replace hB270 := hB270.nq hc741 q286
        have hE751 := Ext.then hE734 hc741 (Zn.bl z274)
        refine op_g ha rfl (g_field0 st33_0 rfl) ?_; clear ha a; intro a ha
        refine o_storeB ha hB270 Tryz.sizeOf22 rfl rfl h740.cells h740.oneC (Nat.le_of_ble_eq_true rfl) ?_; intro w752 hB753 hc754
        replace hc754 := hc754.bl
        replace hB753 : Bx w752 b9 [v737] 33 := hB753
        replace hB268 := hB268.nq hc754 q283
        replace h740 := h740.nq hc754 q749
        have hE755 := Ext.then hE751 hc754 (Zn.bl z271)
        refine wpList_nil ?_; replace ha := ha.sub (σ' := [(2, (.pointer (some ⟨b1, 0, none⟩))), (3, (.pointer (some ⟨b9, 0, none⟩))), (9, va0), (10, (.int .i64 (a0.length : Int))), (11, (.int .i64 i281))]) ⟨rfl, rfl, rfl, rfl, rfl, trivial⟩; refine e_blk ?_; refine e_then ?_; refine wp_region_lit ?_; obtain ⟨hI756, hF⟩ := ck_some hF; refine op_g ha rfl (g_add rfl rfl hI756) ?_; clear ha a; intro a ha; refine op_g ha rfl (g_move rfl) ?_; clear ha a; intro a ha; refine wpList_nil ?_; replace ha := ha.sub (σ' := [(2, (.pointer (some ⟨b1, 0, none⟩))), (3, (.pointer (some ⟨b9, 0, none⟩))), (9, va0), (10, (.int .i64 (a0.length : Int))), (11, (.int .i64 (i281 + 1)))]) ⟨rfl, rfl, rfl, rfl, rfl, trivial⟩
        refine e_lq ?_; obtain rfl := Option.some.inj hF
        exact ⟨_, Nat.lt_succ_self _, (l278 ++ ([x569])), i281 + 1, (fs275 ++ (bl b574 ++ [])), v737, b739, ha.sub ⟨rfl, rfl, rfl, rfl, rfl, trivial⟩, hE755, hI756, hB268, z269, hB753, z271, h740, q750, q744, q745, q283, q746, q285, q748, q747, q749, hN551⟩
      replace hF := if_f hp554 hF; refine wp_exit ?_; refine e_then_exit ?_; refine e_lq_eq ?_; obtain rfl := Option.some.inj hF
      exact ⟨l278, fs275, v279, b280, ha.sub ⟨rfl, rfl, trivial⟩, hE289, hB268, z269, hB270, z271, h273, z274, zf276, nd277, q283, q284, q285, q286, q287, q288, (LK_inr hN551).symm⟩
  rintro a w516 ⟨l527, fs524, v528, b529, ha, hE550, hB517, z518, hB519, z520, h522, z523, zf525, nd526, q530, q531, q532, q533, q534, q535, rfl⟩
  have hF : F_impl_aroundOf_k2 l527 = some _ := hK538; clear hK538; unfold F_impl_aroundOf_k2 at hF
  refine e_then ?_; refine wp_seq ?_; refine wp_region_lit ?_; refine op_g ha rfl (g_loadA (cs := [v528]) Tryz.isAgg33 Tryz.sizeOf33 rfl (by simp) hB519.all) ?_; clear ha a; intro a ha
  refine o_storeA (vs := [v528]) ha hB517 Tryz.sizeOf33 rfl rfl (by intro c hc; simp only [List.mem_cons, List.not_mem_nil, or_false] at hc; rcases hc with hc <;> subst hc <;> first | rfl | exact h522.oneC) rfl ?_; intro w758 hB759 hc760
  replace hc760 := hc760.bl
  replace hB759 : Bx w758 b1 [v528] 33 := hB759
  replace hB519 := hB519.nq hc760 q532
  replace h522 := h522.nq hc760 q534
  have hE761 := Ext.then hE550 hc760 (Zn.bl z518)
  refine wpList_nil ?_; replace ha := ha.sub (σ' := [(2, (.pointer (some ⟨b1, 0, none⟩)))]) ⟨rfl, trivial⟩; refine e_then ?_; refine wp_ret ?_; obtain rfl := Option.some.inj hF
  exact f_retC (cs := [v528]) ha rfl rfl Tryz.isAgg33 Tryz.sizeOf33 hB759 ⟨_, _, _, rfl, h522, z523, zf525, nd526, hE761⟩
set_option maxHeartbeats 2000000 in
theorem W_slices_CompareFunc_Sint64 {W : World} {va0 : Value} {fa0 : List Nat} {a0 : (List (List Int))} (ha0 : Ro (Rp.sl 2 Rp.int) W fa0 va0 a0) {va1 : Value} {fa1 : List Nat} {a1 : (List (List Int))} (ha1 : Ro (Rp.sl 2 Rp.int) W fa1 va1 a1) {ga2 : FuncId} {ga2c : List Value} {a2 : (List Int) → (List Int) → Option Int} (hga2 : ∀ w', Ext W w' → ∀ {vz0 : Value} {fz0 : List Nat} {z0 : (List Int)} (hz0 : Ro Rp.int w' fz0 vz0 z0) {vz1 : Value} {fz1 : List Nat} {z1 : (List Int)} (hz1 : Ro Rp.int w' fz1 vz1 z1) {r : Int}, a2 z0 z1 = some r → Calls Tryz.prog ga2 (([vz0, vz1] : List Value) ++ ga2c).toArray w' (Ret fun u w'' => (u = .int .i64 r ∧ InI r) ∧ Ext w' w'')) (hca2 : ∀ args w, (callFunc ga2 args).run Tryz.prog w = .ok (.enter ga2 args) w) {r : Int} (hF : F_slices_CompareFunc_Sint64 a0 a1 a2 = some r) :
    Calls Tryz.prog 23 [va0, va1, .func (.func ga2) #[] ga2c.toArray].toArray W (Ret fun u w' => (u = .int .i64 r ∧ InI r) ∧ Ext W w') := by
  refine f_enter Tryz.func23 rfl Tryz.ntmps23 rfl ?_
  intro a ha
  replace ha : Fr 39 [(0, va0), (1, va1), (2, (.func (.func ga2) #[] ga2c.toArray))] a := ha
  have hE : Chg [] W W := Chg.refl _ _
  unfold F_slices_CompareFunc_Sint64 at hF
  refine wp_seq ?_; refine wp_region_lit ?_; refine op_g ha rfl (g_assign rfl) ?_; clear ha a; intro a ha; refine wpList_nil ?_; replace ha := ha.sub (σ' := [(0, va0), (1, va1), (2, (.func (.func ga2) #[] ga2c.toArray))]) ⟨rfl, rfl, rfl, trivial⟩; refine e_then ?_; refine wp_seq ?_; refine wp_seq ?_; refine wp_region_lit ?_; refine op_g ha rfl (g_move rfl) ?_; clear ha a; intro a ha; refine op_g ha rfl (g_lenR sl22.und ha0 rfl) ?_; clear ha a; intro a ha; refine op_g ha rfl (g_move rfl) ?_; clear ha a; intro a ha; refine wpList_nil ?_; replace ha := ha.sub (σ' := [(0, va0), (1, va1), (2, (.func (.func ga2) #[] ga2c.toArray)), (11, va0), (12, (.int .i64 (a0.length : Int))), (13, (.int .i64 0))]) ⟨rfl, rfl, rfl, rfl, rfl, rfl, trivial⟩
  refine e_then ?_; obtain ⟨o94, ho95, hK96⟩ := bnd_some hF
  obtain ⟨n97, hn98⟩ := lp_some ho95; clear ho95
  refine c_loop (fun a w => Fr 39 [(0, va0), (1, va1)] a ∧ Chg [] W w ∧ o94 = .inl ()) (fun n a w => ∃ (i47 : Int), Fr 39 [(0, va0), (1, va1), (2, (.func (.func ga2) #[] ga2c.toArray)), (11, va0), (12, (.int .i64 (a0.length : Int))), (13, (.int .i64 i47))] a ∧ Chg [] W w ∧ InI i47 ∧ lpN (fun s => F_slices_CompareFunc_Sint64_l1 a0 a1 a2 s) n i47 = some o94) n97 ⟨0, ha.sub ⟨rfl, rfl, rfl, rfl, rfl, rfl, trivial⟩, hE, (show InI 0 from by decide), hn98⟩ ?_ ?_
  · rintro m102 a w46 ⟨i47, ha, hE49, hI48, hF⟩
    cases m102 with
    | zero => exact (lpN_zero hF).elim
    | succ m102 =>
      obtain ⟨z101, hF, hN100⟩ := lpN_succ hF
      have hF : F_slices_CompareFunc_Sint64_l1 a0 a1 a2 i47 = some z101 := hF; unfold F_slices_CompareFunc_Sint64_l1 at hF
      refine wp_seq ?_; refine wp_region_lit ?_; refine op_g ha rfl (g_lss rfl rfl) ?_; clear ha a; intro a ha; refine wpList_nil ?_; replace ha := ha.sub (σ' := [(0, va0), (1, va1), (2, (.func (.func ga2) #[] ga2c.toArray)), (11, va0), (12, (.int .i64 (a0.length : Int))), (13, (.int .i64 i47)), (14, (.bool (decide (i47 < (a0.length : Int)))))]) ⟨rfl, rfl, rfl, rfl, rfl, rfl, rfl, trivial⟩; refine e_then ?_; refine wp_seq ?_; refine c_cond (i47 < (a0.length : Int)) ha rfl (decide_eq_true_iff) (fun hp103 => ?_) (fun hp103 => ?_)
      · replace hF := if_t hp103 hF
        refine wp_skip ?_; refine e_then ?_; refine wp_seq ?_; refine wp_block ?_; refine wp_seq ?_; refine wp_region_lit ?_; refine op_g ha rfl (g_move rfl) ?_; clear ha a; intro a ha; obtain ⟨x104, g105, gx106, hF⟩ := idx_some hF
        obtain ⟨p107, cs108, f109, hf110, hpb111, hat112, hr113, hi114⟩ := ha0.at g105 gx106
        obtain ⟨v115, rfl, h116⟩ := hr113
        have h116 : Ro Rp.int W f109 v115 x104 := h116
        refine op_g ha rfl (hi114.gives sl22 rfl rfl) ?_; clear ha a; intro a ha; refine op_g ha rfl (g_load0 hE49 Tryz.isAgg39 rfl hat112.one) ?_; clear ha a; intro a ha; (iterate 2 refine op_g ha rfl (g_assign rfl) ?_; clear ha a; intro a ha); refine wpList_nil ?_; replace ha := ha.sub (σ' := [(0, va0), (1, va1), (2, (.func (.func ga2) #[] ga2c.toArray)), (7, (.int .i64 i47)), (8, v115), (11, va0), (12, (.int .i64 (a0.length : Int))), (13, (.int .i64 i47))]) ⟨rfl, rfl, rfl, rfl, rfl, rfl, rfl, rfl, trivial⟩; refine e_then ?_; refine wp_seq ?_; refine wp_seq ?_; refine wp_region_lit ?_; (iterate 2 refine op_g ha rfl (g_move rfl) ?_; clear ha a; intro a ha)
        refine op_g ha rfl (g_lenR sl22.und ha1 rfl) ?_; clear ha a; intro a ha; refine op_g ha rfl (g_geq rfl rfl) ?_; clear ha a; intro a ha; refine wpList_nil ?_; replace ha := ha.sub (σ' := [(0, va0), (1, va1), (2, (.func (.func ga2) #[] ga2c.toArray)), (7, (.int .i64 i47)), (8, v115), (11, va0), (12, (.int .i64 (a0.length : Int))), (13, (.int .i64 i47)), (21, (.bool (decide ((a1.length : Int) ≤ i47))))]) ⟨rfl, rfl, rfl, rfl, rfl, rfl, rfl, rfl, rfl, trivial⟩; refine e_then ?_; refine c_cond ((a1.length : Int) ≤ i47) ha rfl (decide_eq_true_iff) (fun hp118 => ?_) (fun hp118 => ?_)
        · replace hF := if_t hp118 hF
          refine wp_seq ?_; refine wp_region_lit ?_; refine op_g ha rfl (g_assign rfl) ?_; clear ha a; intro a ha; refine wpList_nil ?_; replace ha := ha.sub (σ' := [(6, (.int .i64 1))]) ⟨rfl, trivial⟩; refine e_then ?_; refine wp_ret ?_; refine e_then_ret ?_; refine e_blk_ret ?_; refine e_then_ret ?_; refine e_lq_ret ?_; refine e_then_ret ?_; obtain rfl := Option.some.inj hF
          have e119 := LK_inr hN100; subst e119
          have e120 := BK_inr hK96; subst e120
          exact f_ret1 ha rfl rfl ⟨⟨rfl, (show InI 1 from by decide)⟩, hE49⟩
        replace hF := if_f hp118 hF; refine wp_skip ?_; refine e_then ?_; refine wp_seq ?_; refine wp_region_lit ?_; (iterate 2 refine op_g ha rfl (g_move rfl) ?_; clear ha a; intro a ha); obtain ⟨x121, g122, gx123, hF⟩ := idx_some hF
        obtain ⟨p124, cs125, f126, hf127, hpb128, hat129, hr130, hi131⟩ := ha1.at g122 gx123
        obtain ⟨v132, rfl, h133⟩ := hr130
        have h133 : Ro Rp.int W f126 v132 x121 := h133
        refine op_g ha rfl (hi131.gives sl22 rfl rfl) ?_; clear ha a; intro a ha; refine op_g ha rfl (g_load0 hE49 Tryz.isAgg39 rfl hat129.one) ?_; clear ha a; intro a ha; refine op_g ha rfl (g_assign rfl) ?_; clear ha a; intro a ha; refine wpList_nil ?_; replace ha := ha.sub (σ' := [(0, va0), (1, va1), (2, (.func (.func ga2) #[] ga2c.toArray)), (8, v115), (9, v132), (11, va0), (12, (.int .i64 (a0.length : Int))), (13, (.int .i64 i47))]) ⟨rfl, rfl, rfl, rfl, rfl, rfl, rfl, rfl, trivial⟩; refine e_then ?_; refine wp_seq ?_; refine wp_region_lit ?_; (iterate 3 refine op_g ha rfl (g_move rfl) ?_; clear ha a; intro a ha)
        obtain ⟨x135, hc136, hF⟩ := cal_some hF
        refine o_callv ha rfl rfl rfl hca2 (hga2 _ hE49 (h116.ext hE49) (h133.ext hE49) hc136) ?_; clear ha a; rintro v137 w138 ⟨⟨rfl, hI140⟩, hx139⟩ a ha
        have hE141 := Ext.trans hE49 hx139
        refine op_g ha rfl (g_assign rfl) ?_; clear ha a; intro a ha; refine wpList_nil ?_; replace ha := ha.sub (σ' := [(0, va0), (1, va1), (2, (.func (.func ga2) #[] ga2c.toArray)), (10, (.int .i64 x135)), (11, va0), (12, (.int .i64 (a0.length : Int))), (13, (.int .i64 i47))]) ⟨rfl, rfl, rfl, rfl, rfl, rfl, rfl, trivial⟩; refine e_then ?_; refine wp_seq ?_; refine wp_region_lit ?_; refine op_g ha rfl (g_move rfl) ?_; clear ha a; intro a ha; refine op_g ha rfl (g_neq rfl rfl) ?_; clear ha a; intro a ha; refine wpList_nil ?_; replace ha := ha.sub (σ' := [(0, va0), (1, va1), (2, (.func (.func ga2) #[] ga2c.toArray)), (10, (.int .i64 x135)), (11, va0), (12, (.int .i64 (a0.length : Int))), (13, (.int .i64 i47)), (31, (.bool (decide (x135 ≠ 0))))]) ⟨rfl, rfl, rfl, rfl, rfl, rfl, rfl, rfl, trivial⟩
        refine e_then ?_; refine c_cond (x135 ≠ 0) ha rfl (decide_eq_true_iff) (fun hp142 => ?_) (fun hp142 => ?_)
        · replace hF := if_t hp142 hF
          refine wp_seq ?_; refine wp_region_lit ?_; refine op_g ha rfl (g_move rfl) ?_; clear ha a; intro a ha; refine op_g ha rfl (g_assign rfl) ?_; clear ha a; intro a ha; refine wpList_nil ?_; replace ha := ha.sub (σ' := [(6, (.int .i64 x135))]) ⟨rfl, trivial⟩; refine e_then ?_; refine wp_ret ?_; refine e_blk_ret ?_; refine e_then_ret ?_; refine e_lq_ret ?_; refine e_then_ret ?_; obtain rfl := Option.some.inj hF
          have e143 := LK_inr hN100; subst e143
          have e144 := BK_inr hK96; subst e144
          exact f_ret1 ha rfl rfl ⟨⟨rfl, hI140⟩, hE141⟩
        replace hF := if_f hp142 hF; refine wp_skip ?_; refine e_blk ?_; refine e_then ?_; refine wp_region_lit ?_; obtain ⟨hI145, hF⟩ := ck_some hF; refine op_g ha rfl (g_add rfl rfl hI145) ?_; clear ha a; intro a ha; refine op_g ha rfl (g_move rfl) ?_; clear ha a; intro a ha; refine wpList_nil ?_; replace ha := ha.sub (σ' := [(0, va0), (1, va1), (2, (.func (.func ga2) #[] ga2c.toArray)), (11, va0), (12, (.int .i64 (a0.length : Int))), (13, (.int .i64 (i47 + 1)))]) ⟨rfl, rfl, rfl, rfl, rfl, rfl, trivial⟩; refine e_lq ?_; obtain rfl := Option.some.inj hF
        exact ⟨_, Nat.lt_succ_self _, i47 + 1, ha.sub ⟨rfl, rfl, rfl, rfl, rfl, rfl, trivial⟩, hE141, hI145, hN100⟩
      replace hF := if_f hp103 hF; refine wp_exit ?_; refine e_then_exit ?_; refine e_lq_eq ?_; obtain rfl := Option.some.inj hF
      exact ⟨ha.sub ⟨rfl, rfl, trivial⟩, hE49, (LK_inr hN100).symm⟩
  rintro a w93 ⟨ha, hE99, rfl⟩
  have hF : F_slices_CompareFunc_Sint64_k2 a0 a1 = some _ := hK96; clear hK96; unfold F_slices_CompareFunc_Sint64_k2 at hF
  refine e_then ?_; refine wp_seq ?_; refine wp_seq ?_; refine wp_region_lit ?_; refine op_g ha rfl (g_move rfl) ?_; clear ha a; intro a ha; refine op_g ha rfl (g_lenR sl22.und ha0 rfl) ?_; clear ha a; intro a ha; refine op_g ha rfl (g_move rfl) ?_; clear ha a; intro a ha; refine op_g ha rfl (g_lenR sl22.und ha1 rfl) ?_; clear ha a; intro a ha; refine op_g ha rfl (g_lss rfl rfl) ?_; clear ha a; intro a ha; refine wpList_nil ?_; replace ha := ha.sub (σ' := [(38, (.bool (decide ((a0.length : Int) < (a1.length : Int)))))]) ⟨rfl, trivial⟩; refine e_then ?_; refine c_cond ((a0.length : Int) < (a1.length : Int)) ha rfl (decide_eq_true_iff) (fun hp147 => ?_) (fun hp147 => ?_)
  · replace hF := if_t hp147 hF
    refine wp_seq ?_; refine wp_region_lit ?_; refine op_g ha rfl (g_assign rfl) ?_; clear ha a; intro a ha; refine wpList_nil ?_; replace ha := ha.sub (σ' := [(6, (.int .i64 (-1)))]) ⟨rfl, trivial⟩; refine e_then ?_; refine wp_ret ?_; refine e_then_ret ?_; obtain rfl := Option.some.inj hF
    exact f_ret1 ha rfl rfl ⟨⟨rfl, (show InI (-1) from by decide)⟩, hE99⟩
  replace hF := if_f hp147 hF; refine wp_skip ?_; refine e_then ?_; refine wp_seq ?_; refine wp_region_lit ?_; refine op_g ha rfl (g_assign rfl) ?_; clear ha a; intro a ha; refine wpList_nil ?_; replace ha := ha.sub (σ' := [(6, (.int .i64 0))]) ⟨rfl, trivial⟩; refine e_then ?_; refine wp_ret ?_; obtain rfl := Option.some.inj hF
  exact f_ret1 ha rfl rfl ⟨⟨rfl, (show InI 0 from by decide)⟩, hE99⟩
set_option maxHeartbeats 2000000 in
theorem W_cmp_isNaN_int64 {W : World} {a0 : Int} (ha0 : InI a0) {r : Bool} (hF : F_cmp_isNaN_int64 a0 = some r) :
    Calls Tryz.prog 55 [.int .i64 a0].toArray W (Ret fun u w' => u = .bool r ∧ Ext W w') := by
  refine f_enter Tryz.func55 rfl Tryz.ntmps55 rfl ?_
  intro a ha
  replace ha : Fr 6 [(0, (.int .i64 a0))] a := ha
  have hE : Chg [] W W := Chg.refl _ _
  unfold F_cmp_isNaN_int64 at hF
  refine wp_seq ?_; refine wp_region_lit ?_; refine op_g ha rfl (g_assign rfl) ?_; clear ha a; intro a ha; refine wpList_nil ?_; replace ha := ha.sub (σ' := [(0, (.int .i64 a0))]) ⟨rfl, trivial⟩; refine e_then ?_; refine wp_seq ?_; refine wp_region_lit ?_; (iterate 2 refine op_g ha rfl (g_move rfl) ?_; clear ha a; intro a ha); refine op_g ha rfl (g_neq rfl rfl) ?_; clear ha a; intro a ha; refine op_g ha rfl (g_assign rfl) ?_; clear ha a; intro a ha; refine wpList_nil ?_; replace ha := ha.sub (σ' := [(2, (.bool (decide (a0 ≠ a0))))]) ⟨rfl, trivial⟩; refine e_then ?_; refine wp_ret ?_; obtain rfl := Option.some.inj hF
  exact f_ret1 ha rfl rfl ⟨rfl, hE⟩
set_option maxHeartbeats 2000000 in
theorem W_cmp_Compare_int64 {W : World} {a0 : Int} (ha0 : InI a0) {a1 : Int} (ha1 : InI a1) {r : Int} (hF : F_cmp_Compare_int64 a0 a1 = some r) :
    Calls Tryz.prog 37 [.int .i64 a0, .int .i64 a1].toArray W (Ret fun u w' => (u = .int .i64 r ∧ InI r) ∧ Ext W w') := by
  refine f_enter Tryz.func37 rfl Tryz.ntmps37 rfl ?_
  intro a ha
  replace ha : Fr 20 [(0, (.int .i64 a0)), (1, (.int .i64 a1))] a := ha
  have hE : Chg [] W W := Chg.refl _ _
  unfold F_cmp_Compare_int64 at hF
  refine wp_seq ?_; refine wp_region_lit ?_; refine op_g ha rfl (g_assign rfl) ?_; clear ha a; intro a ha; refine wpList_nil ?_; replace ha := ha.sub (σ' := [(0, (.int .i64 a0)), (1, (.int .i64 a1))]) ⟨rfl, rfl, trivial⟩; refine e_then ?_; refine wp_seq ?_; refine wp_region_lit ?_; refine op_g ha rfl (g_move rfl) ?_; clear ha a; intro a ha; obtain ⟨x1, hc2, hF⟩ := cal_some hF
  refine o_call ha rfl rfl Tryz.call55 (W_cmp_isNaN_int64 ha0 hc2) ?_; clear ha a; rintro v3 w4 ⟨rfl, hx5⟩ a ha
  have hE6 := Ext.trans hE hx5
  refine op_g ha rfl (g_assign rfl) ?_; clear ha a; intro a ha; refine wpList_nil ?_; replace ha := ha.sub (σ' := [(0, (.int .i64 a0)), (1, (.int .i64 a1)), (5, (.bool x1))]) ⟨rfl, rfl, rfl, trivial⟩; refine e_then ?_; refine wp_seq ?_; refine wp_region_lit ?_; refine op_g ha rfl (g_move rfl) ?_; clear ha a; intro a ha; obtain ⟨x7, hc8, hF⟩ := cal_some hF
  refine o_call ha rfl rfl Tryz.call55 (W_cmp_isNaN_int64 ha1 hc8) ?_; clear ha a; rintro v9 w10 ⟨rfl, hx11⟩ a ha
  have hE12 := Ext.trans hE6 hx11
  refine op_g ha rfl (g_assign rfl) ?_; clear ha a; intro a ha; refine wpList_nil ?_; replace ha := ha.sub (σ' := [(0, (.int .i64 a0)), (1, (.int .i64 a1)), (5, (.bool x1)), (6, (.bool x7))]) ⟨rfl, rfl, rfl, rfl, trivial⟩; refine e_then ?_; refine wp_seq ?_; refine wp_seq ?_; refine wp_region_lit ?_; refine op_g ha rfl (g_move rfl) ?_; clear ha a; intro a ha; refine wpList_nil ?_; replace ha := ha.sub (σ' := [(0, (.int .i64 a0)), (1, (.int .i64 a1)), (6, (.bool x7)), (11, (.bool x1))]) ⟨rfl, rfl, rfl, rfl, trivial⟩; refine e_then ?_; refine c_cond (x1 = true) ha rfl (Iff.rfl) (fun hp13 => ?_) (fun hp13 => ?_)
  · replace hF := if_t hp13 hF
    refine wp_seq ?_; refine wp_seq ?_; refine wp_region_lit ?_; refine op_g ha rfl (g_move rfl) ?_; clear ha a; intro a ha; refine wpList_nil ?_; replace ha := ha.sub (σ' := [(12, (.bool x7))]) ⟨rfl, trivial⟩; refine e_then ?_; refine c_cond (x7 = true) ha rfl (Iff.rfl) (fun hp14 => ?_) (fun hp14 => ?_)
    · replace hF := if_t hp14 hF
      refine wp_seq ?_; refine wp_region_lit ?_; refine op_g ha rfl (g_assign rfl) ?_; clear ha a; intro a ha; refine wpList_nil ?_; replace ha := ha.sub (σ' := [(4, (.int .i64 0))]) ⟨rfl, trivial⟩; refine e_then ?_; refine wp_ret ?_; refine e_then_ret ?_; refine e_then_ret ?_; obtain rfl := Option.some.inj hF
      exact f_ret1 ha rfl rfl ⟨⟨rfl, (show InI 0 from by decide)⟩, hE12⟩
    replace hF := if_f hp14 hF; refine wp_skip ?_; refine e_then ?_; refine wp_seq ?_; refine wp_region_lit ?_; refine op_g ha rfl (g_assign rfl) ?_; clear ha a; intro a ha; refine wpList_nil ?_; replace ha := ha.sub (σ' := [(4, (.int .i64 (-1)))]) ⟨rfl, trivial⟩; refine e_then ?_; refine wp_ret ?_; refine e_then_ret ?_; obtain rfl := Option.some.inj hF
    exact f_ret1 ha rfl rfl ⟨⟨rfl, (show InI (-1) from by decide)⟩, hE12⟩
  replace hF := if_f hp13 hF; refine wp_skip ?_; refine e_then ?_; refine wp_seq ?_; refine wp_seq ?_; refine wp_region_lit ?_; refine op_g ha rfl (g_move rfl) ?_; clear ha a; intro a ha; refine wpList_nil ?_; replace ha := ha.sub (σ' := [(0, (.int .i64 a0)), (1, (.int .i64 a1)), (13, (.bool x7))]) ⟨rfl, rfl, rfl, trivial⟩; refine e_then ?_; refine c_cond (x7 = true) ha rfl (Iff.rfl) (fun hp15 => ?_) (fun hp15 => ?_)
  · replace hF := if_t hp15 hF
    refine wp_seq ?_; refine wp_region_lit ?_; refine op_g ha rfl (g_assign rfl) ?_; clear ha a; intro a ha; refine wpList_nil ?_; replace ha := ha.sub (σ' := [(4, (.int .i64 1))]) ⟨rfl, trivial⟩; refine e_then ?_; refine wp_ret ?_; refine e_then_ret ?_; obtain rfl := Option.some.inj hF
    exact f_ret1 ha rfl rfl ⟨⟨rfl, (show InI 1 from by decide)⟩, hE12⟩
  replace hF := if_f hp15 hF; refine wp_skip ?_; refine e_then ?_; refine wp_seq ?_; refine wp_seq ?_; refine wp_region_lit ?_; (iterate 2 refine op_g ha rfl (g_move rfl) ?_; clear ha a; intro a ha); refine op_g ha rfl (g_lss rfl rfl) ?_; clear ha a; intro a ha; refine wpList_nil ?_; replace ha := ha.sub (σ' := [(0, (.int .i64 a0)), (1, (.int .i64 a1)), (16, (.bool (decide (a0 < a1))))]) ⟨rfl, rfl, rfl, trivial⟩; refine e_then ?_; refine c_cond (a0 < a1) ha rfl (decide_eq_true_iff) (fun hp16 => ?_) (fun hp16 => ?_)
  · replace hF := if_t hp16 hF
    refine wp_seq ?_; refine wp_region_lit ?_; refine op_g ha rfl (g_assign rfl) ?_; clear ha a; intro a ha; refine wpList_nil ?_; replace ha := ha.sub (σ' := [(4, (.int .i64 (-1)))]) ⟨rfl, trivial⟩; refine e_then ?_; refine wp_ret ?_; refine e_then_ret ?_; obtain rfl := Option.some.inj hF
    exact f_ret1 ha rfl rfl ⟨⟨rfl, (show InI (-1) from by decide)⟩, hE12⟩
  replace hF := if_f hp16 hF; refine wp_skip ?_; refine e_then ?_; refine wp_seq ?_; refine wp_seq ?_; refine wp_region_lit ?_; (iterate 2 refine op_g ha rfl (g_move rfl) ?_; clear ha a; intro a ha); refine op_g ha rfl (g_gtr rfl rfl) ?_; clear ha a; intro a ha; refine wpList_nil ?_; replace ha := ha.sub (σ' := [(19, (.bool (decide (a1 < a0))))]) ⟨rfl, trivial⟩; refine e_then ?_; refine c_cond (a1 < a0) ha rfl (decide_eq_true_iff) (fun hp17 => ?_) (fun hp17 => ?_)
  · replace hF := if_t hp17 hF
    refine wp_seq ?_; refine wp_region_lit ?_; refine op_g ha rfl (g_assign rfl) ?_; clear ha a; intro a ha; refine wpList_nil ?_; replace ha := ha.sub (σ' := [(4, (.int .i64 1))]) ⟨rfl, trivial⟩; refine e_then ?_; refine wp_ret ?_; refine e_then_ret ?_; obtain rfl := Option.some.inj hF
    exact f_ret1 ha rfl rfl ⟨⟨rfl, (show InI 1 from by decide)⟩, hE12⟩
  replace hF := if_f hp17 hF; refine wp_skip ?_; refine e_then ?_; refine wp_seq ?_; refine wp_region_lit ?_; refine op_g ha rfl (g_assign rfl) ?_; clear ha a; intro a ha; refine wpList_nil ?_; replace ha := ha.sub (σ' := [(4, (.int .i64 0))]) ⟨rfl, trivial⟩; refine e_then ?_; refine wp_ret ?_; obtain rfl := Option.some.inj hF
  exact f_ret1 ha rfl rfl ⟨⟨rfl, (show InI 0 from by decide)⟩, hE12⟩
set_option maxHeartbeats 2000000 in
theorem W_slices_Compare_int64 {W : World} {va0 : Value} {fa0 : List Nat} {a0 : (List Int)} (ha0 : Ro Rp.int W fa0 va0 a0) {va1 : Value} {fa1 : List Nat} {a1 : (List Int)} (ha1 : Ro Rp.int W fa1 va1 a1) {r : Int} (hF : F_slices_Compare_int64 a0 a1 = some r) :
    Calls Tryz.prog 24 [va0, va1].toArray W (Ret fun u w' => (u = .int .i64 r ∧ InI r) ∧ Ext W w') := by
  refine f_enter Tryz.func24 rfl Tryz.ntmps24 rfl ?_
  intro a ha
  replace ha : Fr 36 [(0, va0), (1, va1)] a := ha
  have hE : Chg [] W W := Chg.refl _ _
  unfold F_slices_Compare_int64 at hF
  refine wp_seq ?_; refine wp_region_lit ?_; refine op_g ha rfl (g_assign rfl) ?_; clear ha a; intro a ha; refine wpList_nil ?_; replace ha := ha.sub (σ' := [(0, va0), (1, va1)]) ⟨rfl, rfl, trivial⟩; refine e_then ?_; refine wp_seq ?_; refine wp_seq ?_; refine wp_region_lit ?_; refine op_g ha rfl (g_move rfl) ?_; clear ha a; intro a ha; refine op_g ha rfl (g_lenR sl39.und ha0 rfl) ?_; clear ha a; intro a ha; refine op_g ha rfl (g_move rfl) ?_; clear ha a; intro a ha; refine wpList_nil ?_; replace ha := ha.sub (σ' := [(0, va0), (1, va1), (9, va0), (10, (.int .i64 (a0.length : Int))), (11, (.int .i64 0))]) ⟨rfl, rfl, rfl, rfl, rfl, trivial⟩
  refine e_then ?_; obtain ⟨o86, ho87, hK88⟩ := bnd_some hF
  obtain ⟨n89, hn90⟩ := lp_some ho87; clear ho87
  refine c_loop (fun a w => Fr 36 [(0, va0), (1, va1)] a ∧ Chg [] W w ∧ o86 = .inl ()) (fun n a w => ∃ (i43 : Int), Fr 36 [(0, va0), (1, va1), (9, va0), (10, (.int .i64 (a0.length : Int))), (11, (.int .i64 i43))] a ∧ Chg [] W w ∧ InI i43 ∧ lpN (fun s => F_slices_Compare_int64_l1 a0 a1 s) n i43 = some o86) n89 ⟨0, ha.sub ⟨rfl, rfl, rfl, rfl, rfl, trivial⟩, hE, (show InI 0 from by decide), hn90⟩ ?_ ?_
  · rintro m94 a w42 ⟨i43, ha, hE45, hI44, hF⟩
    cases m94 with
    | zero => exact (lpN_zero hF).elim
    | succ m94 =>
      obtain ⟨z93, hF, hN92⟩ := lpN_succ hF
      have hF : F_slices_Compare_int64_l1 a0 a1 i43 = some z93 := hF; unfold F_slices_Compare_int64_l1 at hF
      refine wp_seq ?_; refine wp_region_lit ?_; refine op_g ha rfl (g_lss rfl rfl) ?_; clear ha a; intro a ha; refine wpList_nil ?_; replace ha := ha.sub (σ' := [(0, va0), (1, va1), (9, va0), (10, (.int .i64 (a0.length : Int))), (11, (.int .i64 i43)), (12, (.bool (decide (i43 < (a0.length : Int)))))]) ⟨rfl, rfl, rfl, rfl, rfl, rfl, trivial⟩; refine e_then ?_; refine wp_seq ?_; refine c_cond (i43 < (a0.length : Int)) ha rfl (decide_eq_true_iff) (fun hp95 => ?_) (fun hp95 => ?_)
      · replace hF := if_t hp95 hF
        refine wp_skip ?_; refine e_then ?_; refine wp_seq ?_; refine wp_block ?_; refine wp_seq ?_; refine wp_region_lit ?_; refine op_g ha rfl (g_move rfl) ?_; clear ha a; intro a ha; obtain ⟨x96, g97, gx98, hF⟩ := idx_some hF
        obtain ⟨p99, cs100, f101, hf102, hpb103, hat104, hr105, hi106⟩ := ha0.at g97 gx98
        obtain ⟨rfl, hI107, rfl⟩ := hr105
        refine op_g ha rfl (hi106.gives sl39 rfl rfl) ?_; clear ha a; intro a ha; refine op_g ha rfl (g_load0 hE45 Tryz.isAgg2 rfl hat104.one) ?_; clear ha a; intro a ha; (iterate 2 refine op_g ha rfl (g_assign rfl) ?_; clear ha a; intro a ha); refine wpList_nil ?_; replace ha := ha.sub (σ' := [(0, va0), (1, va1), (5, (.int .i64 i43)), (6, (.int .i64 x96)), (9, va0), (10, (.int .i64 (a0.length : Int))), (11, (.int .i64 i43))]) ⟨rfl, rfl, rfl, rfl, rfl, rfl, rfl, trivial⟩; refine e_then ?_; refine wp_seq ?_; refine wp_seq ?_; refine wp_region_lit ?_; (iterate 2 refine op_g ha rfl (g_move rfl) ?_; clear ha a; intro a ha)
        refine op_g ha rfl (g_lenR sl39.und ha1 rfl) ?_; clear ha a; intro a ha; refine op_g ha rfl (g_geq rfl rfl) ?_; clear ha a; intro a ha; refine wpList_nil ?_; replace ha := ha.sub (σ' := [(0, va0), (1, va1), (5, (.int .i64 i43)), (6, (.int .i64 x96)), (9, va0), (10, (.int .i64 (a0.length : Int))), (11, (.int .i64 i43)), (19, (.bool (decide ((a1.length : Int) ≤ i43))))]) ⟨rfl, rfl, rfl, rfl, rfl, rfl, rfl, rfl, trivial⟩; refine e_then ?_; refine c_cond ((a1.length : Int) ≤ i43) ha rfl (decide_eq_true_iff) (fun hp108 => ?_) (fun hp108 => ?_)
        · replace hF := if_t hp108 hF
          refine wp_seq ?_; refine wp_region_lit ?_; refine op_g ha rfl (g_assign rfl) ?_; clear ha a; intro a ha; refine wpList_nil ?_; replace ha := ha.sub (σ' := [(4, (.int .i64 1))]) ⟨rfl, trivial⟩; refine e_then ?_; refine wp_ret ?_; refine e_then_ret ?_; refine e_blk_ret ?_; refine e_then_ret ?_; refine e_lq_ret ?_; refine e_then_ret ?_; obtain rfl := Option.some.inj hF
          have e109 := LK_inr hN92; subst e109
          have e110 := BK_inr hK88; subst e110
          exact f_ret1 ha rfl rfl ⟨⟨rfl, (show InI 1 from by decide)⟩, hE45⟩
        replace hF := if_f hp108 hF; refine wp_skip ?_; refine e_then ?_; refine wp_seq ?_; refine wp_region_lit ?_; (iterate 2 refine op_g ha rfl (g_move rfl) ?_; clear ha a; intro a ha); obtain ⟨x111, g112, gx113, hF⟩ := idx_some hF
        obtain ⟨p114, cs115, f116, hf117, hpb118, hat119, hr120, hi121⟩ := ha1.at g112 gx113
        obtain ⟨rfl, hI122, rfl⟩ := hr120
        refine op_g ha rfl (hi121.gives sl39 rfl rfl) ?_; clear ha a; intro a ha; refine op_g ha rfl (g_load0 hE45 Tryz.isAgg2 rfl hat119.one) ?_; clear ha a; intro a ha; refine op_g ha rfl (g_assign rfl) ?_; clear ha a; intro a ha; refine wpList_nil ?_; replace ha := ha.sub (σ' := [(0, va0), (1, va1), (6, (.int .i64 x96)), (7, (.int .i64 x111)), (9, va0), (10, (.int .i64 (a0.length : Int))), (11, (.int .i64 i43))]) ⟨rfl, rfl, rfl, rfl, rfl, rfl, rfl, trivial⟩; refine e_then ?_; refine wp_seq ?_; refine wp_region_lit ?_; (iterate 2 refine op_g ha rfl (g_move rfl) ?_; clear ha a; intro a ha); obtain ⟨x123, hc124, hF⟩ := cal_some hF
        refine o_call ha rfl rfl Tryz.call37 (W_cmp_Compare_int64 hI107 hI122 hc124) ?_; clear ha a; rintro v125 w126 ⟨⟨rfl, hI128⟩, hx127⟩ a ha
        have hE129 := Ext.trans hE45 hx127
        refine op_g ha rfl (g_assign rfl) ?_; clear ha a; intro a ha; refine wpList_nil ?_; replace ha := ha.sub (σ' := [(0, va0), (1, va1), (8, (.int .i64 x123)), (9, va0), (10, (.int .i64 (a0.length : Int))), (11, (.int .i64 i43))]) ⟨rfl, rfl, rfl, rfl, rfl, rfl, trivial⟩; refine e_then ?_; refine wp_seq ?_; refine wp_region_lit ?_; refine op_g ha rfl (g_move rfl) ?_; clear ha a; intro a ha; refine op_g ha rfl (g_neq rfl rfl) ?_; clear ha a; intro a ha; refine wpList_nil ?_; replace ha := ha.sub (σ' := [(0, va0), (1, va1), (8, (.int .i64 x123)), (9, va0), (10, (.int .i64 (a0.length : Int))), (11, (.int .i64 i43)), (28, (.bool (decide (x123 ≠ 0))))]) ⟨rfl, rfl, rfl, rfl, rfl, rfl, rfl, trivial⟩
        refine e_then ?_; refine c_cond (x123 ≠ 0) ha rfl (decide_eq_true_iff) (fun hp130 => ?_) (fun hp130 => ?_)
        · replace hF := if_t hp130 hF
          refine wp_seq ?_; refine wp_region_lit ?_; refine op_g ha rfl (g_move rfl) ?_; clear ha a; intro a ha; refine op_g ha rfl (g_assign rfl) ?_; clear ha a; intro a ha; refine wpList_nil ?_; replace ha := ha.sub (σ' := [(4, (.int .i64 x123))]) ⟨rfl, trivial⟩; refine e_then ?_; refine wp_ret ?_; refine e_blk_ret ?_; refine e_then_ret ?_; refine e_lq_ret ?_; refine e_then_ret ?_; obtain rfl := Option.some.inj hF
          have e131 := LK_inr hN92; subst e131
          have e132 := BK_inr hK88; subst e132
          exact f_ret1 ha rfl rfl ⟨⟨rfl, hI128⟩, hE129⟩
        replace hF := if_f hp130 hF; refine wp_skip ?_; refine e_blk ?_; refine e_then ?_; refine wp_region_lit ?_; obtain ⟨hI133, hF⟩ := ck_some hF; refine op_g ha rfl (g_add rfl rfl hI133) ?_; clear ha a; intro a ha; refine op_g ha rfl (g_move rfl) ?_; clear ha a; intro a ha; refine wpList_nil ?_; replace ha := ha.sub (σ' := [(0, va0), (1, va1), (9, va0), (10, (.int .i64 (a0.length : Int))), (11, (.int .i64 (i43 + 1)))]) ⟨rfl, rfl, rfl, rfl, rfl, trivial⟩; refine e_lq ?_; obtain rfl := Option.some.inj hF
        exact ⟨_, Nat.lt_succ_self _, i43 + 1, ha.sub ⟨rfl, rfl, rfl, rfl, rfl, trivial⟩, hE129, hI133, hN92⟩
      replace hF := if_f hp95 hF; refine wp_exit ?_; refine e_then_exit ?_; refine e_lq_eq ?_; obtain rfl := Option.some.inj hF
      exact ⟨ha.sub ⟨rfl, rfl, trivial⟩, hE45, (LK_inr hN92).symm⟩
  rintro a w85 ⟨ha, hE91, rfl⟩
  have hF : F_slices_Compare_int64_k2 a0 a1 = some _ := hK88; clear hK88; unfold F_slices_Compare_int64_k2 at hF
  refine e_then ?_; refine wp_seq ?_; refine wp_seq ?_; refine wp_region_lit ?_; refine op_g ha rfl (g_move rfl) ?_; clear ha a; intro a ha; refine op_g ha rfl (g_lenR sl39.und ha0 rfl) ?_; clear ha a; intro a ha; refine op_g ha rfl (g_move rfl) ?_; clear ha a; intro a ha; refine op_g ha rfl (g_lenR sl39.und ha1 rfl) ?_; clear ha a; intro a ha; refine op_g ha rfl (g_lss rfl rfl) ?_; clear ha a; intro a ha; refine wpList_nil ?_; replace ha := ha.sub (σ' := [(35, (.bool (decide ((a0.length : Int) < (a1.length : Int)))))]) ⟨rfl, trivial⟩; refine e_then ?_; refine c_cond ((a0.length : Int) < (a1.length : Int)) ha rfl (decide_eq_true_iff) (fun hp135 => ?_) (fun hp135 => ?_)
  · replace hF := if_t hp135 hF
    refine wp_seq ?_; refine wp_region_lit ?_; refine op_g ha rfl (g_assign rfl) ?_; clear ha a; intro a ha; refine wpList_nil ?_; replace ha := ha.sub (σ' := [(4, (.int .i64 (-1)))]) ⟨rfl, trivial⟩; refine e_then ?_; refine wp_ret ?_; refine e_then_ret ?_; obtain rfl := Option.some.inj hF
    exact f_ret1 ha rfl rfl ⟨⟨rfl, (show InI (-1) from by decide)⟩, hE91⟩
  replace hF := if_f hp135 hF; refine wp_skip ?_; refine e_then ?_; refine wp_seq ?_; refine wp_region_lit ?_; refine op_g ha rfl (g_assign rfl) ?_; clear ha a; intro a ha; refine wpList_nil ?_; replace ha := ha.sub (σ' := [(4, (.int .i64 0))]) ⟨rfl, trivial⟩; refine e_then ?_; refine wp_ret ?_; obtain rfl := Option.some.inj hF
  exact f_ret1 ha rfl rfl ⟨⟨rfl, (show InI 0 from by decide)⟩, hE91⟩
end Go.Proofs.YtmaaloijdjnblaaGreatDoor
