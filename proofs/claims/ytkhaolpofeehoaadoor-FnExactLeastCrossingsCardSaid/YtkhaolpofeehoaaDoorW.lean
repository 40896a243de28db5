/- Walks, printed by gen.py. -/
import Derived.Test.YtkhaolpofeehoaaDoorF
import Derived.Test.YtkhaolpofeehoaaDoorW2
import Derived.Test.YtkhaolpofeehoaaDoorProg
import Derived.KernelRfl
set_option maxRecDepth 100000
namespace Go.Proofs.YtkhaolpofeehoaaDoor
open Go Go.RowKit

set_option maxHeartbeats 2000000 in
theorem W_laws_FnExactLeastCrossings {W : World} {va0_0 : Value} {fa0_0 : List Nat} {a0_0 : (List (List Int))} (ha0_0 : Ro (Rp.sl 2 Rp.int) W fa0_0 va0_0 a0_0) (hG : GT 0 W) {r : Bool} (hF : F_laws_FnExactLeastCrossings a0_0 = some r) :
    Calls Tryd.prog 4 [.agg #[va0_0]].toArray W (Ret fun u w' => u = .bool r ∧ Ext W w') := by
  refine f_enter Tryd.func4 rfl Tryd.ntmps4 rfl ?_
  intro a ha
  replace ha : Fr 96 [(0, (.agg #[va0_0]))] a := ha
  have hE : Chg [] W W := Chg.refl _ _
  unfold F_laws_FnExactLeastCrossings at hF
  refine wp_seq ?_; refine wp_region_lit ?_
  refine o_box ha rfl rfl rfl ?_; clear ha a; intro b1 w2 hB3 hx4 hlo5 a ha
  have q6 := Zn.one hlo5
  have q7 := Zn.upD q6 hE
  have hE8 := Ext.trans hE hx4
  refine op_g ha rfl (g_assign rfl) ?_; clear ha a; intro a ha; refine wpList_nil ?_; replace ha := ha.sub (σ' := [(1, (.pointer (some ⟨b1, 0, none⟩)))]) ⟨rfl, trivial⟩; refine e_then ?_; refine wp_seq ?_; refine wp_region_lit ?_; refine op_g ha rfl (g_assign rfl) ?_; clear ha a; intro a ha; refine wpList_nil ?_; refine e_then ?_; refine wp_seq ?_; refine wp_region_lit ?_; refine op_g ha rfl (g_loadA (cs := [va0_0]) Tryd.isAgg24 Tryd.sizeOf24 rfl (by simp) hB3.all) ?_; clear ha a; intro a ha; refine op_g ha rfl (g_move rfl) ?_; clear ha a; intro a ha; obtain ⟨x9, hc10, hF⟩ := cal_some hF
  refine o_call ha rfl rfl Tryd.call6 (W_laws_szGraph (ha0_0.ext hE8) (show InI 1048576 from by decide) hc10) ?_; clear ha a; rintro v11 w12 ⟨⟨rfl, hI14⟩, hx13⟩ a ha
  replace hB3 := hB3.ext hx13
  have hE15 := Ext.trans hE8 hx13
  refine op_g ha rfl (g_assign rfl) ?_; clear ha a; intro a ha; refine wpList_nil ?_; replace ha := ha.sub (σ' := [(1, (.pointer (some ⟨b1, 0, none⟩))), (3, (.int .i64 x9))]) ⟨rfl, rfl, trivial⟩; refine e_then ?_; refine wp_seq ?_; refine wp_seq ?_; refine wp_region_lit ?_; refine op_g ha rfl (g_move rfl) ?_; clear ha a; intro a ha; refine op_g ha rfl (g_lss rfl rfl) ?_; clear ha a; intro a ha; refine wpList_nil ?_; replace ha := ha.sub (σ' := [(1, (.pointer (some ⟨b1, 0, none⟩))), (18, (.bool (decide (x9 < 0))))]) ⟨rfl, rfl, trivial⟩; refine e_then ?_; refine c_cond (x9 < 0) ha rfl (decide_eq_true_iff) (fun hp16 => ?_) (fun hp16 => ?_)
  · replace hF := if_t hp16 hF
    refine wp_seq ?_; refine wp_region_lit ?_; refine op_g ha rfl (g_assign rfl) ?_; clear ha a; intro a ha; refine wpList_nil ?_; replace ha := ha.sub (σ' := [(2, (.bool true))]) ⟨rfl, trivial⟩; refine e_then ?_; refine wp_ret ?_; refine e_then_ret ?_; obtain rfl := Option.some.inj hF
    exact f_ret1 ha rfl rfl ⟨rfl, hE15⟩
  replace hF := if_f hp16 hF; refine wp_skip ?_; refine e_then ?_; refine wp_seq ?_; refine wp_region_lit ?_; refine op_g ha rfl (g_loadA (cs := [va0_0]) Tryd.isAgg24 Tryd.sizeOf24 rfl (by simp) hB3.all) ?_; clear ha a; intro a ha; obtain ⟨x17, hc18, hF⟩ := cal_some hF
  refine o_call ha rfl rfl Tryd.call8 (W_laws_toGraph (ha0_0.ext hE15) hc18) ?_; clear ha a; rintro v19 w20 ⟨u22, b23, fs27, rfl, h24, z25, zf28, nd29, hx21⟩ a ha
  have q30 := Nq.new hB3.fpb z25
  have q31 := Nq.madeF z25 zf28 hB3.bi
  have q32 := Nf.new hB3.fpb zf28
  replace hB3 := hB3.ext hx21
  have hE33 := Ext.trans hE15 hx21
  have q34 := Zn.upD z25 hE15
  have q35 := zf_up zf28 hE15
  obtain ⟨fp36, hro37, hs38⟩ := h24.roF
  obtain ⟨x39, hc40, hF⟩ := cal_some hF
  refine o_call ha rfl rfl Tryd.call11 (W_spec_LeastCrossings hro37 hc40) ?_; clear ha a; rintro v41 w42 ⟨u44, u45, fp46, rfl, h47, pv48, ⟨rfl, hI50⟩, hx43⟩ a ha
  have q51 := Nq.rd pv48 (Nq.mono q31 hs38) hB3.bi
  replace hB3 := hB3.ext hx43
  replace h24 := h24.ext hx43
  have hE52 := Ext.trans hE33 hx43
  refine op_g ha rfl (g_move rfl) ?_; clear ha a; intro a ha; (iterate 2 refine op_g ha rfl (g_extract rfl rfl) ?_; clear ha a; intro a ha); (iterate 2 refine op_g ha rfl (g_assign rfl) ?_; clear ha a; intro a ha); refine wpList_nil ?_; replace ha := ha.sub (σ' := [(1, (.pointer (some ⟨b1, 0, none⟩))), (4, u44), (5, (.int .i64 x39.2))]) ⟨rfl, rfl, rfl, trivial⟩; refine e_then ?_; refine wp_seq ?_; refine wp_region_lit ?_; refine op_g ha rfl (g_loadA (cs := [va0_0]) Tryd.isAgg24 Tryd.sizeOf24 rfl (by simp) hB3.all) ?_; clear ha a; intro a ha; obtain ⟨x53, hc54, hF⟩ := cal_some hF
  refine o_call ha rfl rfl Tryd.call8 (W_laws_toGraph (ha0_0.ext hE52) hc54) ?_; clear ha a; rintro v55 w56 ⟨u58, b59, fs63, rfl, h60, z61, zf64, nd65, hx57⟩ a ha
  have q66 := Nq.new hB3.fpb z61
  have q67 := Nq.madeF z61 zf64 hB3.bi
  have q68 := Nq.new h47.bnd z61
  have q69 := Nf.new hB3.fpb zf64
  have q70 := Nf.new h47.bnd zf64
  replace hB3 := hB3.ext hx57
  replace h47 := h47.ext hx57
  have hE71 := Ext.trans hE52 hx57
  have q72 := Zn.upD z61 hE52
  have q73 := zf_up zf64 hE52
  refine o_alloc (cs := [(.slice none 0 0)]) ha rfl Tryd.zeroValue27 rfl ?_; clear ha a; intro b74 w75 hB76 hx77 hlo78 a ha
  have q79 := Zn.one hlo78
  have q80 := Nq.new hB3.fpb q79
  have q81 := Nq.made1 hlo78 hB3.bi
  have q82 := Nq.new h47.bnd q79
  have q83 := Nq.new h60.fpb q79
  have q84 := Nq.made1 hlo78 h60.blt
  have q85 := Zn.upD q79 hE71
  replace hB3 := hB3.ext hx77
  replace h47 := h47.ext hx77
  replace h60 := h60.ext hx77
  have hE86 := Ext.trans hE71 hx77
  refine o_storeA (vs := [u58]) ha hB76 Tryd.sizeOf27 rfl rfl (by intro c hc; simp only [List.mem_cons, List.not_mem_nil, or_false] at hc; rcases hc with hc <;> subst hc <;> first | rfl | exact h60.oneC) rfl ?_; intro w87 hB88 hc89
  replace hc89 := hc89.bl
  replace hB88 : Bx w87 b74 [u58] 27 := hB88
  replace hB3 := hB3.nq hc89 q80
  replace h47 := h47.nq hc89 q82
  replace h60 := h60.nq hc89 q83
  have hE90 := Ext.then hE86 hc89 (Zn.bl q85)
  refine wpList_nil ?_; replace ha := ha.sub (σ' := [(1, (.pointer (some ⟨b1, 0, none⟩))), (4, u44), (5, (.int .i64 x39.2)), (6, (.pointer (some ⟨b74, 0, none⟩)))]) ⟨rfl, rfl, rfl, rfl, trivial⟩; refine e_then ?_; refine wp_seq ?_; refine wp_region_lit ?_; refine op_g ha rfl (g_loadA (cs := [u58]) Tryd.isAgg27 Tryd.sizeOf27 rfl (by simp) hB88.all) ?_; clear ha a; intro a ha
  obtain ⟨fp91, hro92, hs93⟩ := h60.roF
  obtain ⟨x94, hc95, hF⟩ := cal_some hF
  refine o_call ha rfl rfl Tryd.call12 (W_impl_LeastCrossings hro92 (hG.ext hE90) hc95) ?_; clear ha a; rintro v96 w97 ⟨u99, u100, b101, rfl, h102, z103, ⟨rfl, hI105⟩, hx98⟩ a ha
  have q106 := Nq.new hB3.fpb z103
  have q107 := Nq.madeO z103 hB3.bi
  have q108 := Nq.new h47.bnd z103
  have q109 := Nq.new h60.fpb z103
  have q110 := Nq.madeO z103 h60.blt
  have q111 := Nq.new hB88.fpb z103
  have q112 := Nq.madeO z103 hB88.bi
  have q113 := Nf.old z103 (zf_nil _) h60.bnd
  replace hB3 := hB3.ext hx98
  replace h47 := h47.ext hx98
  replace h60 := h60.ext hx98
  replace hB88 := hB88.ext hx98
  have hE114 := Ext.trans hE90 hx98
  have q115 := Zn.upD z103 hE90
  refine op_g ha rfl (g_move rfl) ?_; clear ha a; intro a ha; (iterate 2 refine op_g ha rfl (g_extract rfl rfl) ?_; clear ha a; intro a ha); (iterate 2 refine op_g ha rfl (g_assign rfl) ?_; clear ha a; intro a ha); refine wpList_nil ?_; replace ha := ha.sub (σ' := [(1, (.pointer (some ⟨b1, 0, none⟩))), (4, u44), (5, (.int .i64 x39.2)), (6, (.pointer (some ⟨b74, 0, none⟩))), (7, u99), (8, (.int .i64 x94.2))]) ⟨rfl, rfl, rfl, rfl, rfl, rfl, trivial⟩; refine e_then ?_; refine wp_seq ?_; refine wp_seq ?_; refine wp_region_lit ?_; (iterate 2 refine op_g ha rfl (g_move rfl) ?_; clear ha a; intro a ha)
  obtain ⟨fp127, hro128, hs129⟩ := h102.roF
  obtain ⟨x130, hc131, hF⟩ := cal_some hF
  refine o_call ha rfl rfl Tryd.call13 (W_laws_eqInt64S hro128 h47 hc131) ?_; clear ha a; rintro v132 w133 ⟨rfl, hx134⟩ a ha
  replace hB3 := hB3.ext hx134
  replace h47 := h47.ext hx134
  replace h60 := h60.ext hx134
  replace hB88 := hB88.ext hx134
  replace h102 := h102.ext hx134
  have hE135 := Ext.trans hE114 hx134
  refine op_g ha rfl (g_not rfl) ?_; clear ha a; intro a ha; refine op_g ha rfl (g_move rfl) ?_; clear ha a; intro a ha
  by_cases hp136 : ¬ (x130 = true)
  · replace hF := if_t hp136 hF
    rw [show (!x130) = true from (n_iff (Iff.rfl)).2 hp136] at ha
    (iterate 3 refine op_unwant ha rfl (yields ha rfl rfl) rfl ?_; clear ha a; intro a ha); refine op_g ha rfl (g_pick rfl rfl) ?_; clear ha a; intro a ha; refine wpList_nil ?_; replace ha := ha.sub (σ' := [(1, (.pointer (some ⟨b1, 0, none⟩))), (4, u44), (5, (.int .i64 x39.2)), (6, (.pointer (some ⟨b74, 0, none⟩))), (7, u99), (8, (.int .i64 x94.2)), (40, (.bool true))]) ⟨rfl, rfl, rfl, rfl, rfl, rfl, rfl, trivial⟩; refine e_then ?_; refine c_true ha rfl ?_; refine wp_seq ?_; refine wp_region_lit ?_; refine op_g ha rfl (g_assign rfl) ?_; clear ha a; intro a ha; refine wpList_nil ?_; replace ha := ha.sub (σ' := [(2, (.bool false))]) ⟨rfl, trivial⟩
    refine e_then ?_; refine wp_ret ?_; refine e_then_ret ?_; obtain rfl := Option.some.inj hF
    exact f_ret1 ha rfl rfl ⟨rfl, hE135⟩
  replace hF := if_f hp136 hF
  rw [show (!x130) = false from b_false (n_iff (Iff.rfl)) hp136] at ha
  refine op_want (yields ha rfl rfl) ?_; refine op_g ha rfl (g_move rfl) ?_; clear ha a; intro a ha; refine op_want (yields ha rfl rfl) ?_; refine op_g ha rfl (g_move rfl) ?_; clear ha a; intro a ha; refine op_want (yields ha rfl rfl) ?_; refine op_g ha rfl (g_neq rfl rfl) ?_; clear ha a; intro a ha; refine op_g ha rfl (g_pick rfl rfl) ?_; clear ha a; intro a ha; refine wpList_nil ?_; replace ha := ha.sub (σ' := [(1, (.pointer (some ⟨b1, 0, none⟩))), (4, u44), (5, (.int .i64 x39.2)), (6, (.pointer (some ⟨b74, 0, none⟩))), (7, u99), (8, (.int .i64 x94.2)), (40, (.bool (decide (x94.2 ≠ x39.2))))]) ⟨rfl, rfl, rfl, rfl, rfl, rfl, rfl, trivial⟩
  refine e_then ?_; refine c_cond (x94.2 ≠ x39.2) ha rfl (decide_eq_true_iff) (fun hp137 => ?_) (fun hp137 => ?_)
  · replace hF := if_t hp137 hF
    refine wp_seq ?_; refine wp_region_lit ?_; refine op_g ha rfl (g_assign rfl) ?_; clear ha a; intro a ha; refine wpList_nil ?_; replace ha := ha.sub (σ' := [(2, (.bool false))]) ⟨rfl, trivial⟩; refine e_then ?_; refine wp_ret ?_; refine e_then_ret ?_; obtain rfl := Option.some.inj hF
    exact f_ret1 ha rfl rfl ⟨rfl, hE135⟩
  replace hF := if_f hp137 hF; refine wp_skip ?_; refine e_then ?_; refine wp_seq ?_; refine wp_seq ?_; refine d_region [0, 1, 2, 3, 4] hmix ?_; refine u_g 0 rfl (by kernel_rfl) (want0 _) ha rfl (g_loadA (cs := [u58]) Tryd.isAgg27 Tryd.sizeOf27 rfl (by simp) hB88.all) ?_; clear ha a; intro a ha; refine u_g 1 rfl (by kernel_rfl) (want0 _) ha rfl (g_loadA (cs := [va0_0]) Tryd.isAgg24 Tryd.sizeOf24 rfl (by simp) hB3.all) ?_; clear ha a; intro a ha
  refine u_only 2 rfl (by kernel_rfl) ?_; intro w138 hx139
  replace hB3 := hB3.ext hx139
  replace h47 := h47.ext hx139
  replace h60 := h60.ext hx139
  replace hB88 := hB88.ext hx139
  replace h102 := h102.ext hx139
  have hE140 := Ext.trans hE135 hx139
  obtain ⟨x141, hc142, hF⟩ := cal_some hF
  refine o_call ha rfl rfl Tryd.call8 (W_laws_toGraph (ha0_0.ext hE140) hc142) ?_; clear ha a; rintro v143 w144 ⟨u146, b147, fs151, rfl, h148, z149, zf152, nd153, hx145⟩ a ha
  have q154 := Nq.new hB3.fpb z149
  have q155 := Nq.madeF z149 zf152 hB3.bi
  have q156 := Nq.new h47.bnd z149
  have q157 := Nq.new h60.fpb z149
  have q158 := Nq.madeF z149 zf152 h60.blt
  have q159 := Nq.new hB88.fpb z149
  have q160 := Nq.madeF z149 zf152 hB88.bi
  have q161 := Nq.new h102.fpb z149
  have q162 := Nq.madeF z149 zf152 h102.blt
  have q163 := Nf.new hB3.fpb zf152
  have q164 := Nf.new h47.bnd zf152
  have q165 := Nf.new h60.fpb zf152
  have q166 := Nf.old z149 zf152 h60.bnd
  have q167 := Nf.new hB88.fpb zf152
  have q168 := Nf.new h102.fpb zf152
  replace hB3 := hB3.ext hx145
  replace h47 := h47.ext hx145
  replace h60 := h60.ext hx145
  replace hB88 := hB88.ext hx145
  replace h102 := h102.ext hx145
  have hE169 := Ext.trans hE140 hx145
  have q170 := Zn.upD z149 hE140
  have q171 := zf_up zf152 hE140
  refine wpList_nil (e_sq ?_)
  refine ⟨fun _ => hx145, ?_⟩
  obtain ⟨fp174, hro175, hs176⟩ := h60.roF
  obtain ⟨fp177, hro178, hs179⟩ := h148.roF
  obtain ⟨x180, hc181, hF⟩ := cal_some hF; refine u_call (.bool x180) 3 rfl (by kernel_rfl) (want0 _) ha rfl rfl Tryd.call10 (fun w173 hx172 => W_laws_eqGraph (hro175.ext hx172) (hro178.ext hx172) hc181) (fun _ _ _ h => ⟨h.1, h.2⟩) ?_; clear ha a; intro a ha; refine u_g 4 rfl (by kernel_rfl) (want0 _) ha rfl (g_not rfl) ?_; clear ha a; intro a ha
  refine u_done (by kernel_rfl) ?_; intro w182 hx183
  replace hB3 := hB3.ext hx183
  replace h47 := h47.ext hx183
  replace h60 := h60.ext hx183
  replace hB88 := hB88.ext hx183
  replace h102 := h102.ext hx183
  replace h148 := h148.ext hx183
  have hE184 := Ext.trans hE169 hx183
  replace ha := ha.sub (σ' := [(1, (.pointer (some ⟨b1, 0, none⟩))), (4, u44), (5, (.int .i64 x39.2)), (6, (.pointer (some ⟨b74, 0, none⟩))), (7, u99), (8, (.int .i64 x94.2)), (45, (.bool (!x180)))]) ⟨rfl, rfl, rfl, rfl, rfl, rfl, rfl, trivial⟩; refine e_then ?_; refine c_cond (¬ (x180 = true)) ha rfl (n_iff (Iff.rfl)) (fun hp185 => ?_) (fun hp185 => ?_)
  · replace hF := if_t hp185 hF
    refine wp_seq ?_; refine wp_region_lit ?_; refine op_g ha rfl (g_assign rfl) ?_; clear ha a; intro a ha; refine wpList_nil ?_; replace ha := ha.sub (σ' := [(2, (.bool false))]) ⟨rfl, trivial⟩; refine e_then ?_; refine wp_ret ?_; refine e_then_ret ?_; obtain rfl := Option.some.inj hF
    exact f_ret1 ha rfl rfl ⟨rfl, hE184⟩
  replace hF := if_f hp185 hF; refine wp_skip ?_; refine e_then ?_; refine wp_seq ?_; refine wp_region_lit ?_; refine op_g ha rfl (g_assign rfl) ?_; clear ha a; intro a ha; refine wpList_nil ?_; replace ha := ha.sub (σ' := [(1, (.pointer (some ⟨b1, 0, none⟩))), (4, u44), (5, (.int .i64 x39.2)), (6, (.pointer (some ⟨b74, 0, none⟩))), (7, u99), (8, (.int .i64 x94.2)), (9, (.int .i64 1))]) ⟨rfl, rfl, rfl, rfl, rfl, rfl, rfl, trivial⟩; refine e_then ?_; refine wp_seq ?_; refine wp_region_lit ?_; refine op_g ha rfl (g_loadA (cs := [u58]) Tryd.isAgg27 Tryd.sizeOf27 rfl (by simp) hB88.all) ?_; clear ha a; intro a ha
  refine op_g ha rfl (g_move rfl) ?_; clear ha a; intro a ha; obtain ⟨x186, hc187, hF⟩ := cal_some hF
  refine o_call ha rfl rfl Tryd.call14 (W_laws_markGraph h60 nd65 (show InI 1 from by decide) hc187) ?_; clear ha a; rintro v188 w189 ⟨⟨rfl, hI191⟩, h192, hx190⟩ a ha
  replace hB3 := hB3.off hx190 (Off.nest q66 q69); replace h47 := h47.off hx190 (Off.nest q68 q70); replace h102 := h102.off hx190 (Off.nest q110 q113)
  have hE193 := Chg.join hE184 hx190 (S2.nest q72 q73)
  refine op_g ha rfl (g_assign rfl) ?_; clear ha a; intro a ha; refine wpList_nil ?_; replace ha := ha.sub (σ' := [(1, (.pointer (some ⟨b1, 0, none⟩))), (4, u44), (5, (.int .i64 x39.2)), (7, u99), (8, (.int .i64 x94.2)), (9, (.int .i64 x186.1))]) ⟨rfl, rfl, rfl, rfl, rfl, rfl, trivial⟩; refine e_then ?_; refine wp_seq ?_; refine wp_seq ?_; refine wp_region_lit ?_; refine op_g ha rfl (g_move rfl) ?_; clear ha a; intro a ha; refine op_g ha rfl (g_lss rfl rfl) ?_; clear ha a; intro a ha; refine op_g ha rfl (g_move rfl) ?_; clear ha a; intro a ha
  by_cases hp206 : x186.1 < 0
  · replace hF := if_t hp206 hF
    rw [show (decide (x186.1 < 0)) = true from (decide_eq_true_iff).2 hp206] at ha
    (iterate 4 refine op_unwant ha rfl (yields ha rfl rfl) rfl ?_; clear ha a; intro a ha); refine op_g ha rfl (g_pick rfl rfl) ?_; clear ha a; intro a ha; refine op_g ha rfl (g_move rfl) ?_; clear ha a; intro a ha; (iterate 3 refine op_unwant ha rfl (yields ha rfl rfl) rfl ?_; clear ha a; intro a ha); refine op_g ha rfl (g_pick rfl rfl) ?_; clear ha a; intro a ha; refine wpList_nil ?_; replace ha := ha.sub (σ' := [(1, (.pointer (some ⟨b1, 0, none⟩))), (4, u44), (5, (.int .i64 x39.2)), (7, u99), (61, (.bool true))]) ⟨rfl, rfl, rfl, rfl, rfl, trivial⟩; refine e_then ?_; refine c_true ha rfl ?_; refine wp_seq ?_
    refine wp_region_lit ?_; refine op_g ha rfl (g_assign rfl) ?_; clear ha a; intro a ha; refine wpList_nil ?_; replace ha := ha.sub (σ' := [(2, (.bool false))]) ⟨rfl, trivial⟩; refine e_then ?_; refine wp_ret ?_; refine e_then_ret ?_; obtain rfl := Option.some.inj hF
    exact f_ret1 ha rfl rfl ⟨rfl, hE193⟩
  replace hF := if_f hp206 hF
  rw [show (decide (x186.1 < 0)) = false from b_false (decide_eq_true_iff) hp206] at ha
  refine op_want (yields ha rfl rfl) ?_; refine op_g ha rfl (g_move rfl) ?_; clear ha a; intro a ha; refine op_want (yields ha rfl rfl) ?_; refine op_g ha rfl (g_move rfl) ?_; clear ha a; intro a ha; refine op_want (yields ha rfl rfl) ?_
  obtain ⟨fp207, hro208, hs209⟩ := h102.roF
  obtain ⟨x210, hc211, hF⟩ := cal_some hF
  refine o_call ha rfl rfl Tryd.call13 (W_laws_eqInt64S hro208 h47 hc211) ?_; clear ha a; rintro v212 w213 ⟨rfl, hx214⟩ a ha
  replace hB3 := hB3.ext hx214
  replace h47 := h47.ext hx214
  replace h102 := h102.ext hx214
  have hE215 := Ext.trans hE193 hx214
  refine op_want (yields ha rfl rfl) ?_; refine op_g ha rfl (g_not rfl) ?_; clear ha a; intro a ha; refine op_g ha rfl (g_pick rfl rfl) ?_; clear ha a; intro a ha; refine op_g ha rfl (g_move rfl) ?_; clear ha a; intro a ha
  by_cases hp216 : ¬ (x210 = true)
  · replace hF := if_t hp216 hF
    rw [show (!x210) = true from (n_iff (Iff.rfl)).2 hp216] at ha
    (iterate 3 refine op_unwant ha rfl (yields ha rfl rfl) rfl ?_; clear ha a; intro a ha); refine op_g ha rfl (g_pick rfl rfl) ?_; clear ha a; intro a ha; refine wpList_nil ?_; replace ha := ha.sub (σ' := [(1, (.pointer (some ⟨b1, 0, none⟩))), (4, u44), (5, (.int .i64 x39.2)), (7, u99), (61, (.bool true))]) ⟨rfl, rfl, rfl, rfl, rfl, trivial⟩; refine e_then ?_; refine c_true ha rfl ?_; refine wp_seq ?_; refine wp_region_lit ?_; refine op_g ha rfl (g_assign rfl) ?_; clear ha a; intro a ha; refine wpList_nil ?_; replace ha := ha.sub (σ' := [(2, (.bool false))]) ⟨rfl, trivial⟩; refine e_then ?_; refine wp_ret ?_
    refine e_then_ret ?_; obtain rfl := Option.some.inj hF
    exact f_ret1 ha rfl rfl ⟨rfl, hE215⟩
  replace hF := if_f hp216 hF
  rw [show (!x210) = false from b_false (n_iff (Iff.rfl)) hp216] at ha
  refine op_want (yields ha rfl rfl) ?_; refine op_g ha rfl (g_move rfl) ?_; clear ha a; intro a ha; refine op_want (yields ha rfl rfl) ?_; refine op_g ha rfl (g_move rfl) ?_; clear ha a; intro a ha; refine op_want (yields ha rfl rfl) ?_; refine op_g ha rfl (g_neq rfl rfl) ?_; clear ha a; intro a ha; refine op_g ha rfl (g_pick rfl rfl) ?_; clear ha a; intro a ha; refine wpList_nil ?_; replace ha := ha.sub (σ' := [(1, (.pointer (some ⟨b1, 0, none⟩))), (4, u44), (5, (.int .i64 x39.2)), (7, u99), (61, (.bool (decide (x94.2 ≠ x39.2))))]) ⟨rfl, rfl, rfl, rfl, rfl, trivial⟩; refine e_then ?_; refine c_cond (x94.2 ≠ x39.2) ha rfl (decide_eq_true_iff) (fun hp217 => ?_) (fun hp217 => ?_)
  · replace hF := if_t hp217 hF
    refine wp_seq ?_; refine wp_region_lit ?_; refine op_g ha rfl (g_assign rfl) ?_; clear ha a; intro a ha; refine wpList_nil ?_; replace ha := ha.sub (σ' := [(2, (.bool false))]) ⟨rfl, trivial⟩; refine e_then ?_; refine wp_ret ?_; refine e_then_ret ?_; obtain rfl := Option.some.inj hF
    exact f_ret1 ha rfl rfl ⟨rfl, hE215⟩
  replace hF := if_f hp217 hF; refine wp_skip ?_; refine e_then ?_; refine wp_seq ?_; refine wp_region_lit ?_; refine op_g ha rfl (g_assign rfl) ?_; clear ha a; intro a ha; refine wpList_nil ?_; replace ha := ha.sub (σ' := [(1, (.pointer (some ⟨b1, 0, none⟩))), (4, u44), (5, (.int .i64 x39.2)), (7, u99), (10, (.int .i64 1))]) ⟨rfl, rfl, rfl, rfl, rfl, trivial⟩; refine e_then ?_; refine wp_seq ?_; refine wp_region_lit ?_; (iterate 2 refine op_g ha rfl (g_move rfl) ?_; clear ha a; intro a ha); obtain ⟨x218, hc219, hF⟩ := cal_some hF
  refine o_call ha rfl rfl Tryd.call15 (W_laws_markInt64S h102 (show InI 1 from by decide) hc219) ?_; clear ha a; rintro v220 w221 ⟨⟨rfl, hI223⟩, h224, hx222⟩ a ha
  replace hB3 := hB3.nq hx222 q106
  replace h47 := h47.nq hx222 q108
  have hE225 := Ext.then hE215 hx222 (Zn.bl q115)
  refine op_g ha rfl (g_assign rfl) ?_; clear ha a; intro a ha; refine wpList_nil ?_; replace ha := ha.sub (σ' := [(1, (.pointer (some ⟨b1, 0, none⟩))), (4, u44), (5, (.int .i64 x39.2)), (7, u99), (10, (.int .i64 x218.1))]) ⟨rfl, rfl, rfl, rfl, rfl, trivial⟩; refine e_then ?_; refine wp_seq ?_; refine wp_region_lit ?_; refine op_g ha rfl (g_assign rfl) ?_; clear ha a; intro a ha; refine wpList_nil ?_; replace ha := ha.sub (σ' := [(1, (.pointer (some ⟨b1, 0, none⟩))), (4, u44), (5, (.int .i64 x39.2)), (7, u99), (10, (.int .i64 x218.1)), (11, (.int .i64 1))]) ⟨rfl, rfl, rfl, rfl, rfl, rfl, trivial⟩
  refine e_then ?_; refine wp_seq ?_; refine wp_region_lit ?_; (iterate 2 refine op_g ha rfl (g_move rfl) ?_; clear ha a; intro a ha)
  obtain ⟨fp226, hro227, hs228⟩ := h224.roF
  obtain ⟨x229, hc230, hF⟩ := cal_some hF
  refine o_call ha rfl rfl Tryd.call16 (W_laws_heldInt64S hro227 (show InI 1 from by decide) hc230) ?_; clear ha a; rintro v231 w232 ⟨⟨rfl, hI234⟩, hx233⟩ a ha
  replace hB3 := hB3.ext hx233
  replace h47 := h47.ext hx233
  replace h224 := h224.ext hx233
  have hE235 := Ext.trans hE225 hx233
  refine op_g ha rfl (g_assign rfl) ?_; clear ha a; intro a ha; refine wpList_nil ?_; replace ha := ha.sub (σ' := [(1, (.pointer (some ⟨b1, 0, none⟩))), (4, u44), (5, (.int .i64 x39.2)), (7, u99), (10, (.int .i64 x218.1)), (11, (.int .i64 x229))]) ⟨rfl, rfl, rfl, rfl, rfl, rfl, trivial⟩; refine e_then ?_; refine wp_seq ?_; refine wp_seq ?_; refine wp_region_lit ?_; refine op_g ha rfl (g_move rfl) ?_; clear ha a; intro a ha; refine op_g ha rfl (g_lss rfl rfl) ?_; clear ha a; intro a ha; refine wpList_nil ?_; replace ha := ha.sub (σ' := [(1, (.pointer (some ⟨b1, 0, none⟩))), (4, u44), (5, (.int .i64 x39.2)), (7, u99), (10, (.int .i64 x218.1)), (11, (.int .i64 x229)), (69, (.bool (decide (x229 < 0))))]) ⟨rfl, rfl, rfl, rfl, rfl, rfl, rfl, trivial⟩
  refine e_then ?_; refine c_cond (x229 < 0) ha rfl (decide_eq_true_iff) (fun hp236 => ?_) (fun hp236 => ?_)
  · replace hF := if_t hp236 hF
    refine wp_seq ?_; refine wp_region_lit ?_; refine op_g ha rfl (g_assign rfl) ?_; clear ha a; intro a ha; refine wpList_nil ?_; replace ha := ha.sub (σ' := [(2, (.bool false))]) ⟨rfl, trivial⟩; refine e_then ?_; refine wp_ret ?_; refine e_then_ret ?_; obtain rfl := Option.some.inj hF
    exact f_ret1 ha rfl rfl ⟨rfl, hE235⟩
  replace hF := if_f hp236 hF; refine wp_skip ?_; refine e_then ?_; refine wp_seq ?_; refine wp_seq ?_; refine wp_region_lit ?_; (iterate 2 refine op_g ha rfl (g_move rfl) ?_; clear ha a; intro a ha); refine op_g ha rfl (g_neq rfl rfl) ?_; clear ha a; intro a ha; refine wpList_nil ?_; replace ha := ha.sub (σ' := [(1, (.pointer (some ⟨b1, 0, none⟩))), (4, u44), (5, (.int .i64 x39.2)), (7, u99), (10, (.int .i64 x218.1)), (72, (.bool (decide (x229 ≠ x218.1))))]) ⟨rfl, rfl, rfl, rfl, rfl, rfl, trivial⟩; refine e_then ?_; refine c_cond (x229 ≠ x218.1) ha rfl (decide_eq_true_iff) (fun hp237 => ?_) (fun hp237 => ?_)
  · replace hF := if_t hp237 hF
    refine wp_seq ?_; refine wp_region_lit ?_; refine op_g ha rfl (g_assign rfl) ?_; clear ha a; intro a ha; refine wpList_nil ?_; replace ha := ha.sub (σ' := [(2, (.bool false))]) ⟨rfl, trivial⟩; refine e_then ?_; refine wp_ret ?_; refine e_then_ret ?_; obtain rfl := Option.some.inj hF
    exact f_ret1 ha rfl rfl ⟨rfl, hE235⟩
  replace hF := if_f hp237 hF; refine wp_skip ?_; refine e_then ?_; refine wp_seq ?_; refine wp_region_lit ?_; refine op_g ha rfl (g_loadA (cs := [va0_0]) Tryd.isAgg24 Tryd.sizeOf24 rfl (by simp) hB3.all) ?_; clear ha a; intro a ha; obtain ⟨x238, hc239, hF⟩ := cal_some hF
  refine o_call ha rfl rfl Tryd.call8 (W_laws_toGraph (ha0_0.ext hE235) hc239) ?_; clear ha a; rintro v240 w241 ⟨u243, b244, fs248, rfl, h245, z246, zf249, nd250, hx242⟩ a ha
  have q251 := Nq.new hB3.fpb z246
  have q252 := Nq.madeF z246 zf249 hB3.bi
  have q253 := Nq.new h47.bnd z246
  have q254 := Nq.new h224.fpb z246
  have q255 := Nq.madeF z246 zf249 h224.blt
  have q256 := Nf.new hB3.fpb zf249
  have q257 := Nf.new h47.bnd zf249
  have q258 := Nf.new h224.fpb zf249
  replace hB3 := hB3.ext hx242
  replace h47 := h47.ext hx242
  replace h224 := h224.ext hx242
  have hE259 := Ext.trans hE235 hx242
  have q260 := Zn.upD z246 hE235
  have q261 := zf_up zf249 hE235
  obtain ⟨fp262, hro263, hs264⟩ := h245.roF
  obtain ⟨x265, hc266, hF⟩ := cal_some hF
  refine o_call ha rfl rfl Tryd.call12 (W_impl_LeastCrossings hro263 (hG.ext hE259) hc266) ?_; clear ha a; rintro v267 w268 ⟨u270, u271, b272, rfl, h273, z274, ⟨rfl, hI276⟩, hx269⟩ a ha
  have q277 := Nq.new hB3.fpb z274
  have q278 := Nq.madeO z274 hB3.bi
  have q279 := Nq.new h47.bnd z274
  have q280 := Nq.new h224.fpb z274
  have q281 := Nq.madeO z274 h224.blt
  have q282 := Nq.new h245.fpb z274
  have q283 := Nq.madeO z274 h245.blt
  have q284 := Nf.old z274 (zf_nil _) h245.bnd
  replace hB3 := hB3.ext hx269
  replace h47 := h47.ext hx269
  replace h224 := h224.ext hx269
  replace h245 := h245.ext hx269
  have hE285 := Ext.trans hE259 hx269
  have q286 := Zn.upD z274 hE259
  refine op_g ha rfl (g_move rfl) ?_; clear ha a; intro a ha; (iterate 2 refine op_g ha rfl (g_extract rfl rfl) ?_; clear ha a; intro a ha); (iterate 2 refine op_g ha rfl (g_assign rfl) ?_; clear ha a; intro a ha); refine wpList_nil ?_; replace ha := ha.sub (σ' := [(4, u44), (5, (.int .i64 x39.2)), (7, u99), (10, (.int .i64 x218.1)), (12, u270), (13, (.int .i64 x265.2))]) ⟨rfl, rfl, rfl, rfl, rfl, rfl, trivial⟩; refine e_then ?_; refine wp_seq ?_; refine wp_seq ?_; refine wp_region_lit ?_; (iterate 2 refine op_g ha rfl (g_move rfl) ?_; clear ha a; intro a ha)
  obtain ⟨fp298, hro299, hs300⟩ := h273.roF
  obtain ⟨x301, hc302, hF⟩ := cal_some hF
  refine o_call ha rfl rfl Tryd.call13 (W_laws_eqInt64S hro299 h47 hc302) ?_; clear ha a; rintro v303 w304 ⟨rfl, hx305⟩ a ha
  replace h47 := h47.ext hx305
  replace h224 := h224.ext hx305
  replace h273 := h273.ext hx305
  have hE306 := Ext.trans hE285 hx305
  refine op_g ha rfl (g_not rfl) ?_; clear ha a; intro a ha; refine op_g ha rfl (g_move rfl) ?_; clear ha a; intro a ha
  by_cases hp307 : ¬ (x301 = true)
  · replace hF := if_t hp307 hF
    rw [show (!x301) = true from (n_iff (Iff.rfl)).2 hp307] at ha
    (iterate 3 refine op_unwant ha rfl (yields ha rfl rfl) rfl ?_; clear ha a; intro a ha); refine op_g ha rfl (g_pick rfl rfl) ?_; clear ha a; intro a ha; refine wpList_nil ?_; replace ha := ha.sub (σ' := [(7, u99), (10, (.int .i64 x218.1)), (87, (.bool true))]) ⟨rfl, rfl, rfl, trivial⟩; refine e_then ?_; refine c_true ha rfl ?_; refine wp_seq ?_; refine wp_region_lit ?_; refine op_g ha rfl (g_assign rfl) ?_; clear ha a; intro a ha; refine wpList_nil ?_; replace ha := ha.sub (σ' := [(2, (.bool false))]) ⟨rfl, trivial⟩; refine e_then ?_; refine wp_ret ?_; refine e_then_ret ?_; obtain rfl := Option.some.inj hF
    exact f_ret1 ha rfl rfl ⟨rfl, hE306⟩
  replace hF := if_f hp307 hF
  rw [show (!x301) = false from b_false (n_iff (Iff.rfl)) hp307] at ha
  refine op_want (yields ha rfl rfl) ?_; refine op_g ha rfl (g_move rfl) ?_; clear ha a; intro a ha; refine op_want (yields ha rfl rfl) ?_; refine op_g ha rfl (g_move rfl) ?_; clear ha a; intro a ha; refine op_want (yields ha rfl rfl) ?_; refine op_g ha rfl (g_neq rfl rfl) ?_; clear ha a; intro a ha; refine op_g ha rfl (g_pick rfl rfl) ?_; clear ha a; intro a ha; refine wpList_nil ?_; replace ha := ha.sub (σ' := [(7, u99), (10, (.int .i64 x218.1)), (87, (.bool (decide (x265.2 ≠ x39.2))))]) ⟨rfl, rfl, rfl, trivial⟩; refine e_then ?_; refine c_cond (x265.2 ≠ x39.2) ha rfl (decide_eq_true_iff) (fun hp308 => ?_) (fun hp308 => ?_)
  · replace hF := if_t hp308 hF
    refine wp_seq ?_; refine wp_region_lit ?_; refine op_g ha rfl (g_assign rfl) ?_; clear ha a; intro a ha; refine wpList_nil ?_; replace ha := ha.sub (σ' := [(2, (.bool false))]) ⟨rfl, trivial⟩; refine e_then ?_; refine wp_ret ?_; refine e_then_ret ?_; obtain rfl := Option.some.inj hF
    exact f_ret1 ha rfl rfl ⟨rfl, hE306⟩
  replace hF := if_f hp308 hF; refine wp_skip ?_; refine e_then ?_; refine wp_seq ?_; refine wp_region_lit ?_; refine op_g ha rfl (g_assign rfl) ?_; clear ha a; intro a ha; refine wpList_nil ?_; replace ha := ha.sub (σ' := [(7, u99), (10, (.int .i64 x218.1)), (11, (.int .i64 1))]) ⟨rfl, rfl, rfl, trivial⟩; refine e_then ?_; refine wp_seq ?_; refine wp_region_lit ?_; (iterate 2 refine op_g ha rfl (g_move rfl) ?_; clear ha a; intro a ha)
  obtain ⟨fp309, hro310, hs311⟩ := h224.roF
  obtain ⟨x312, hc313, hF⟩ := cal_some hF
  refine o_call ha rfl rfl Tryd.call16 (W_laws_heldInt64S hro310 (show InI 1 from by decide) hc313) ?_; clear ha a; rintro v314 w315 ⟨⟨rfl, hI317⟩, hx316⟩ a ha
  replace h224 := h224.ext hx316
  have hE318 := Ext.trans hE306 hx316
  refine op_g ha rfl (g_assign rfl) ?_; clear ha a; intro a ha; refine wpList_nil ?_; replace ha := ha.sub (σ' := [(10, (.int .i64 x218.1)), (11, (.int .i64 x312))]) ⟨rfl, rfl, trivial⟩; refine e_then ?_; refine wp_seq ?_; refine wp_seq ?_; refine wp_region_lit ?_; refine op_g ha rfl (g_move rfl) ?_; clear ha a; intro a ha; refine op_g ha rfl (g_lss rfl rfl) ?_; clear ha a; intro a ha; refine wpList_nil ?_; replace ha := ha.sub (σ' := [(10, (.int .i64 x218.1)), (11, (.int .i64 x312)), (92, (.bool (decide (x312 < 0))))]) ⟨rfl, rfl, rfl, trivial⟩; refine e_then ?_; refine c_cond (x312 < 0) ha rfl (decide_eq_true_iff) (fun hp319 => ?_) (fun hp319 => ?_)
  · replace hF := if_t hp319 hF
    refine wp_seq ?_; refine wp_region_lit ?_; refine op_g ha rfl (g_assign rfl) ?_; clear ha a; intro a ha; refine wpList_nil ?_; replace ha := ha.sub (σ' := [(2, (.bool false))]) ⟨rfl, trivial⟩; refine e_then ?_; refine wp_ret ?_; refine e_then_ret ?_; obtain rfl := Option.some.inj hF
    exact f_ret1 ha rfl rfl ⟨rfl, hE318⟩
  replace hF := if_f hp319 hF; refine wp_skip ?_; refine e_then ?_; refine wp_seq ?_; refine wp_seq ?_; refine wp_region_lit ?_; (iterate 2 refine op_g ha rfl (g_move rfl) ?_; clear ha a; intro a ha); refine op_g ha rfl (g_neq rfl rfl) ?_; clear ha a; intro a ha; refine wpList_nil ?_; replace ha := ha.sub (σ' := [(95, (.bool (decide (x312 ≠ x218.1))))]) ⟨rfl, trivial⟩; refine e_then ?_; refine c_cond (x312 ≠ x218.1) ha rfl (decide_eq_true_iff) (fun hp320 => ?_) (fun hp320 => ?_)
  · replace hF := if_t hp320 hF
    refine wp_seq ?_; refine wp_region_lit ?_; refine op_g ha rfl (g_assign rfl) ?_; clear ha a; intro a ha; refine wpList_nil ?_; replace ha := ha.sub (σ' := [(2, (.bool false))]) ⟨rfl, trivial⟩; refine e_then ?_; refine wp_ret ?_; refine e_then_ret ?_; obtain rfl := Option.some.inj hF
    exact f_ret1 ha rfl rfl ⟨rfl, hE318⟩
  replace hF := if_f hp320 hF; refine wp_skip ?_; refine e_then ?_; refine wp_seq ?_; refine wp_region_lit ?_; refine op_g ha rfl (g_assign rfl) ?_; clear ha a; intro a ha; refine wpList_nil ?_; replace ha := ha.sub (σ' := [(2, (.bool true))]) ⟨rfl, trivial⟩; refine e_then ?_; refine wp_ret ?_; obtain rfl := Option.some.inj hF
  exact f_ret1 ha rfl rfl ⟨rfl, hE318⟩
end Go.Proofs.YtkhaolpofeehoaaDoor
