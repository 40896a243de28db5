/- Walks, printed by gen.py. -/
import Derived.Test.YtkhaolpofeehoaaDoorF
import Derived.Test.YtkhaolpofeehoaaDoorW2
import Derived.Test.YtkhaolpofeehoaaDoorProg
import Derived.KernelRfl
set_option maxRecDepth 100000
namespace Go.Proofs.YtkhaolpofeehoaaDoor
open Go Go.RowKit

set_option maxHeartbeats 2000000 in
theorem W_laws_FnExactOuterRing {W : World} {va0_0 : Value} {fa0_0 : List Nat} {a0_0 : (List (List Int))} (ha0_0 : Ro (Rp.sl 2 Rp.int) W fa0_0 va0_0 a0_0) (hG : GT 0 W) {r : Bool} (hF : F_laws_FnExactOuterRing a0_0 = some r) :
    Calls Tryd.prog 5 [.agg #[va0_0]].toArray W (Ret fun u w' => u = .bool r ∧ Ext W w') := by
  refine f_enter Tryd.func5 rfl Tryd.ntmps5 rfl ?_
  intro a ha
  replace ha : Fr 96 [(0, (.agg #[va0_0]))] a := ha
  have hE : Chg [] W W := Chg.refl _ _
  unfold F_laws_FnExactOuterRing at hF
  refine wp_seq ?_; refine wp_region_lit ?_
  refine o_box ha rfl rfl rfl ?_; clear ha a; intro b1 w2 hB3 hx4 hlo5 a ha
  have q6 := Zn.one hlo5
  have q7 := Zn.upD q6 hE
  have hE8 := Ext.trans hE hx4
  refine op_g ha rfl (g_assign rfl) ?_; clear ha a; intro a ha; refine wpList_nil ?_; replace ha := ha.sub (σ' := [(1, (.pointer (some ⟨b1, 0, none⟩)))]) ⟨rfl, trivial⟩; refine e_then ?_; refine wp_seq ?_; refine wp_region_lit ?_; refine op_g ha rfl (g_assign rfl) ?_; clear ha a; intro a ha; refine wpList_nil ?_; refine e_then ?_; refine wp_seq ?_; refine wp_region_lit ?_; refine op_g ha rfl (g_loadA (cs := [va0_0]) Tryd.isAgg24 Tryd.sizeOf24 rfl (by simp) hB3.all) ?_; clear ha a; intro a ha; refine op_g ha rfl (g_move rfl) ?_; clear ha a; intro a ha; obtain ⟨x9, hc10, hF⟩ := cal_some hF
  refine o_call ha rfl rfl Tryd.call6 (W_laws_szGraph (ha0_0.ext hE8) (show InI 1048576 from by decide) hc10) ?_; clear ha a; rintro v11 w12 ⟨⟨rfl, hI14⟩, hx13⟩ a ha
  replace hB3 := hB3.ext hx13
  have hE15 := Ext.trans hE8 hx13
  refine op_g ha rfl (g_assign rfl) ?_; clear ha a; intro a ha; refine wpList_nil ?_; replace ha := ha.sub (σ' := [(1, (.pointer (some ⟨b1, 0, none⟩))), (3, (.int .i64 x9))]) ⟨rfl, rfl, trivial⟩; refine e_then ?_; refine wp_seq ?_; refine wp_seq ?_; refine wp_region_lit ?_; refine op_g ha rfl (g_move rfl) ?_; clear ha a; intro a ha; refine op_g ha rfl (g_lss rfl rfl) ?_; clear ha a; intro a ha; refine wpList_nil ?_; replace ha := ha.sub (σ' := [(1, (.pointer (some ⟨b1, 0, none⟩))), (18, (.bool (decide (x9 < 0))))]) ⟨rfl, rfl, trivial⟩; refine e_then ?_; refine c_cond (x9 < 0) ha rfl (decide_eq_true_iff) (fun hp16 => ?_) (fun hp16 => ?_)
  · replace hF := if_t hp16 hF
    refine wp_seq ?_; refine wp_region_lit ?_; refine op_g ha rfl (g_assign rfl) ?_; clear ha a; intro a ha; refine wpList_nil ?_; replace ha := ha.sub (σ' := [(2, (.bool true))]) ⟨rfl, trivial⟩; refine e_then ?_; refine wp_ret ?_; refine e_then_ret ?_; obtain rfl := Option.some.inj hF
    exact f_ret1 ha rfl rfl ⟨rfl, hE15⟩
  replace hF := if_f hp16 hF; refine wp_skip ?_; refine e_then ?_; refine wp_seq ?_; refine wp_region_lit ?_; refine op_g ha rfl (g_loadA (cs := [va0_0]) Tryd.isAgg24 Tryd.sizeOf24 rfl (by simp) hB3.all) ?_; clear ha a; intro a ha; obtain ⟨x17, hc18, hF⟩ := cal_some hF
  refine o_call ha rfl rfl Tryd.call8 (W_laws_toGraph (ha0_0.ext hE15) hc18) ?_; clear ha a; rintro v19 w20 ⟨u22, b23, fs27, rfl, h24, z25, zf28, nd29, hx21⟩ a ha
  have q30 := Nq.new hB3.fpb z25
  have q31 := Nq.madeF z25 zf28 hB3.bi
  have q32 := Nf.new hB3.fpb zf28
  replace hB3 := hB3.ext hx21
  have hE33 := Ext.trans hE15 hx21
  have q34 := Zn.upD z25 hE15
  have q35 := zf_up zf28 hE15
  obtain ⟨fp36, hro37, hs38⟩ := h24.roF
  obtain ⟨x39, hc40, hF⟩ := cal_some hF
  refine o_call ha rfl rfl Tryd.call17 (W_spec_OuterRing hro37 hc40) ?_; clear ha a; rintro v41 w42 ⟨u44, u45, fp46, rfl, h47, pv48, rfl, hx43⟩ a ha
  have q50 := Nq.rd pv48 (Nq.mono q31 hs38) hB3.bi
  replace hB3 := hB3.ext hx43
  replace h24 := h24.ext hx43
  have hE51 := Ext.trans hE33 hx43
  refine op_g ha rfl (g_move rfl) ?_; clear ha a; intro a ha; (iterate 2 refine op_g ha rfl (g_extract rfl rfl) ?_; clear ha a; intro a ha); (iterate 2 refine op_g ha rfl (g_assign rfl) ?_; clear ha a; intro a ha); refine wpList_nil ?_; replace ha := ha.sub (σ' := [(1, (.pointer (some ⟨b1, 0, none⟩))), (4, u44), (5, (.bool x39.2))]) ⟨rfl, rfl, rfl, trivial⟩; refine e_then ?_; refine wp_seq ?_; refine wp_region_lit ?_; refine op_g ha rfl (g_loadA (cs := [va0_0]) Tryd.isAgg24 Tryd.sizeOf24 rfl (by simp) hB3.all) ?_; clear ha a; intro a ha; obtain ⟨x52, hc53, hF⟩ := cal_some hF
  refine o_call ha rfl rfl Tryd.call8 (W_laws_toGraph (ha0_0.ext hE51) hc53) ?_; clear ha a; rintro v54 w55 ⟨u57, b58, fs62, rfl, h59, z60, zf63, nd64, hx56⟩ a ha
  have q65 := Nq.new hB3.fpb z60
  have q66 := Nq.madeF z60 zf63 hB3.bi
  have q67 := Nq.new h47.bnd z60
  have q68 := Nf.new hB3.fpb zf63
  have q69 := Nf.new h47.bnd zf63
  replace hB3 := hB3.ext hx56
  replace h47 := h47.ext hx56
  have hE70 := Ext.trans hE51 hx56
  have q71 := Zn.upD z60 hE51
  have q72 := zf_up zf63 hE51
  refine o_alloc (cs := [(.slice none 0 0)]) ha rfl Tryd.zeroValue27 rfl ?_; clear ha a; intro b73 w74 hB75 hx76 hlo77 a ha
  have q78 := Zn.one hlo77
  have q79 := Nq.new hB3.fpb q78
  have q80 := Nq.made1 hlo77 hB3.bi
  have q81 := Nq.new h47.bnd q78
  have q82 := Nq.new h59.fpb q78
  have q83 := Nq.made1 hlo77 h59.blt
  have q84 := Zn.upD q78 hE70
  replace hB3 := hB3.ext hx76
  replace h47 := h47.ext hx76
  replace h59 := h59.ext hx76
  have hE85 := Ext.trans hE70 hx76
  refine o_storeA (vs := [u57]) ha hB75 Tryd.sizeOf27 rfl rfl (by intro c hc; simp only [List.mem_cons, List.not_mem_nil, or_false] at hc; rcases hc with hc <;> subst hc <;> first | rfl | exact h59.oneC) rfl ?_; intro w86 hB87 hc88
  replace hc88 := hc88.bl
  replace hB87 : Bx w86 b73 [u57] 27 := hB87
  replace hB3 := hB3.nq hc88 q79
  replace h47 := h47.nq hc88 q81
  replace h59 := h59.nq hc88 q82
  have hE89 := Ext.then hE85 hc88 (Zn.bl q84)
  refine wpList_nil ?_; replace ha := ha.sub (σ' := [(1, (.pointer (some ⟨b1, 0, none⟩))), (4, u44), (5, (.bool x39.2)), (6, (.pointer (some ⟨b73, 0, none⟩)))]) ⟨rfl, rfl, rfl, rfl, trivial⟩; refine e_then ?_; refine wp_seq ?_; refine wp_region_lit ?_; refine op_g ha rfl (g_loadA (cs := [u57]) Tryd.isAgg27 Tryd.sizeOf27 rfl (by simp) hB87.all) ?_; clear ha a; intro a ha
  obtain ⟨fp90, hro91, hs92⟩ := h59.roF
  obtain ⟨x93, hc94, hF⟩ := cal_some hF
  refine o_call ha rfl rfl Tryd.call18 (W_impl_OuterRing hro91 (hG.ext hE89) hc94) ?_; clear ha a; rintro v95 w96 ⟨u98, u99, b100, rfl, h101, z102, rfl, hx97⟩ a ha
  have q104 := Nq.new hB3.fpb z102
  have q105 := Nq.madeO z102 hB3.bi
  have q106 := Nq.new h47.bnd z102
  have q107 := Nq.new h59.fpb z102
  have q108 := Nq.madeO z102 h59.blt
  have q109 := Nq.new hB87.fpb z102
  have q110 := Nq.madeO z102 hB87.bi
  have q111 := Nf.old z102 (zf_nil _) h59.bnd
  replace hB3 := hB3.ext hx97
  replace h47 := h47.ext hx97
  replace h59 := h59.ext hx97
  replace hB87 := hB87.ext hx97
  have hE112 := Ext.trans hE89 hx97
  have q113 := Zn.upD z102 hE89
  refine op_g ha rfl (g_move rfl) ?_; clear ha a; intro a ha; (iterate 2 refine op_g ha rfl (g_extract rfl rfl) ?_; clear ha a; intro a ha); (iterate 2 refine op_g ha rfl (g_assign rfl) ?_; clear ha a; intro a ha); refine wpList_nil ?_; replace ha := ha.sub (σ' := [(1, (.pointer (some ⟨b1, 0, none⟩))), (4, u44), (5, (.bool x39.2)), (6, (.pointer (some ⟨b73, 0, none⟩))), (7, u98), (8, (.bool x93.2))]) ⟨rfl, rfl, rfl, rfl, rfl, rfl, trivial⟩; refine e_then ?_; refine wp_seq ?_; refine wp_seq ?_; refine wp_region_lit ?_; (iterate 2 refine op_g ha rfl (g_move rfl) ?_; clear ha a; intro a ha)
  obtain ⟨fp125, hro126, hs127⟩ := h101.roF
  obtain ⟨x128, hc129, hF⟩ := cal_some hF
  refine o_call ha rfl rfl Tryd.call13 (W_laws_eqInt64S hro126 h47 hc129) ?_; clear ha a; rintro v130 w131 ⟨rfl, hx132⟩ a ha
  replace hB3 := hB3.ext hx132
  replace h47 := h47.ext hx132
  replace h59 := h59.ext hx132
  replace hB87 := hB87.ext hx132
  replace h101 := h101.ext hx132
  have hE133 := Ext.trans hE112 hx132
  refine op_g ha rfl (g_not rfl) ?_; clear ha a; intro a ha; refine op_g ha rfl (g_move rfl) ?_; clear ha a; intro a ha
  by_cases hp134 : ¬ (x128 = true)
  · replace hF := if_t hp134 hF
    rw [show (!x128) = true from (n_iff (Iff.rfl)).2 hp134] at ha
    (iterate 3 refine op_unwant ha rfl (yields ha rfl rfl) rfl ?_; clear ha a; intro a ha); refine op_g ha rfl (g_pick rfl rfl) ?_; clear ha a; intro a ha; refine wpList_nil ?_; replace ha := ha.sub (σ' := [(1, (.pointer (some ⟨b1, 0, none⟩))), (4, u44), (5, (.bool x39.2)), (6, (.pointer (some ⟨b73, 0, none⟩))), (7, u98), (8, (.bool x93.2)), (40, (.bool true))]) ⟨rfl, rfl, rfl, rfl, rfl, rfl, rfl, trivial⟩; refine e_then ?_; refine c_true ha rfl ?_; refine wp_seq ?_; refine wp_region_lit ?_; refine op_g ha rfl (g_assign rfl) ?_; clear ha a; intro a ha; refine wpList_nil ?_; replace ha := ha.sub (σ' := [(2, (.bool false))]) ⟨rfl, trivial⟩
    refine e_then ?_; refine wp_ret ?_; refine e_then_ret ?_; obtain rfl := Option.some.inj hF
    exact f_ret1 ha rfl rfl ⟨rfl, hE133⟩
  replace hF := if_f hp134 hF
  rw [show (!x128) = false from b_false (n_iff (Iff.rfl)) hp134] at ha
  refine op_want (yields ha rfl rfl) ?_; refine op_g ha rfl (g_move rfl) ?_; clear ha a; intro a ha; refine op_want (yields ha rfl rfl) ?_; refine op_g ha rfl (g_move rfl) ?_; clear ha a; intro a ha; refine op_want (yields ha rfl rfl) ?_; refine op_g ha rfl (gB_neq un4 rfl rfl) ?_; clear ha a; intro a ha; refine op_g ha rfl (g_pick rfl rfl) ?_; clear ha a; intro a ha; refine wpList_nil ?_; replace ha := ha.sub (σ' := [(1, (.pointer (some ⟨b1, 0, none⟩))), (4, u44), (5, (.bool x39.2)), (6, (.pointer (some ⟨b73, 0, none⟩))), (7, u98), (8, (.bool x93.2)), (40, (.bool (x93.2 != x39.2)))]) ⟨rfl, rfl, rfl, rfl, rfl, rfl, rfl, trivial⟩
  refine e_then ?_; refine c_cond ((x93.2 != x39.2) = true) ha rfl (Iff.rfl) (fun hp135 => ?_) (fun hp135 => ?_)
  · replace hF := if_t hp135 hF
    refine wp_seq ?_; refine wp_region_lit ?_; refine op_g ha rfl (g_assign rfl) ?_; clear ha a; intro a ha; refine wpList_nil ?_; replace ha := ha.sub (σ' := [(2, (.bool false))]) ⟨rfl, trivial⟩; refine e_then ?_; refine wp_ret ?_; refine e_then_ret ?_; obtain rfl := Option.some.inj hF
    exact f_ret1 ha rfl rfl ⟨rfl, hE133⟩
  replace hF := if_f hp135 hF; refine wp_skip ?_; refine e_then ?_; refine wp_seq ?_; refine wp_seq ?_; refine d_region [0, 1, 2, 3, 4] hmix ?_; refine u_g 0 rfl (by kernel_rfl) (want0 _) ha rfl (g_loadA (cs := [u57]) Tryd.isAgg27 Tryd.sizeOf27 rfl (by simp) hB87.all) ?_; clear ha a; intro a ha; refine u_g 1 rfl (by kernel_rfl) (want0 _) ha rfl (g_loadA (cs := [va0_0]) Tryd.isAgg24 Tryd.sizeOf24 rfl (by simp) hB3.all) ?_; clear ha a; intro a ha
  refine u_only 2 rfl (by kernel_rfl) ?_; intro w136 hx137
  replace hB3 := hB3.ext hx137
  replace h47 := h47.ext hx137
  replace h59 := h59.ext hx137
  replace hB87 := hB87.ext hx137
  replace h101 := h101.ext hx137
  have hE138 := Ext.trans hE133 hx137
  obtain ⟨x139, hc140, hF⟩ := cal_some hF
  refine o_call ha rfl rfl Tryd.call8 (W_laws_toGraph (ha0_0.ext hE138) hc140) ?_; clear ha a; rintro v141 w142 ⟨u144, b145, fs149, rfl, h146, z147, zf150, nd151, hx143⟩ a ha
  have q152 := Nq.new hB3.fpb z147
  have q153 := Nq.madeF z147 zf150 hB3.bi
  have q154 := Nq.new h47.bnd z147
  have q155 := Nq.new h59.fpb z147
  have q156 := Nq.madeF z147 zf150 h59.blt
  have q157 := Nq.new hB87.fpb z147
  have q158 := Nq.madeF z147 zf150 hB87.bi
  have q159 := Nq.new h101.fpb z147
  have q160 := Nq.madeF z147 zf150 h101.blt
  have q161 := Nf.new hB3.fpb zf150
  have q162 := Nf.new h47.bnd zf150
  have q163 := Nf.new h59.fpb zf150
  have q164 := Nf.old z147 zf150 h59.bnd
  have q165 := Nf.new hB87.fpb zf150
  have q166 := Nf.new h101.fpb zf150
  replace hB3 := hB3.ext hx143
  replace h47 := h47.ext hx143
  replace h59 := h59.ext hx143
  replace hB87 := hB87.ext hx143
  replace h101 := h101.ext hx143
  have hE167 := Ext.trans hE138 hx143
  have q168 := Zn.upD z147 hE138
  have q169 := zf_up zf150 hE138
  refine wpList_nil (e_sq ?_)
  refine ⟨fun _ => hx143, ?_⟩
  obtain ⟨fp172, hro173, hs174⟩ := h59.roF
  obtain ⟨fp175, hro176, hs177⟩ := h146.roF
  obtain ⟨x178, hc179, hF⟩ := cal_some hF; refine u_call (.bool x178) 3 rfl (by kernel_rfl) (want0 _) ha rfl rfl Tryd.call10 (fun w171 hx170 => W_laws_eqGraph (hro173.ext hx170) (hro176.ext hx170) hc179) (fun _ _ _ h => ⟨h.1, h.2⟩) ?_; clear ha a; intro a ha; refine u_g 4 rfl (by kernel_rfl) (want0 _) ha rfl (g_not rfl) ?_; clear ha a; intro a ha
  refine u_done (by kernel_rfl) ?_; intro w180 hx181
  replace hB3 := hB3.ext hx181
  replace h47 := h47.ext hx181
  replace h59 := h59.ext hx181
  replace hB87 := hB87.ext hx181
  replace h101 := h101.ext hx181
  replace h146 := h146.ext hx181
  have hE182 := Ext.trans hE167 hx181
  replace ha := ha.sub (σ' := [(1, (.pointer (some ⟨b1, 0, none⟩))), (4, u44), (5, (.bool x39.2)), (6, (.pointer (some ⟨b73, 0, none⟩))), (7, u98), (8, (.bool x93.2)), (45, (.bool (!x178)))]) ⟨rfl, rfl, rfl, rfl, rfl, rfl, rfl, trivial⟩; refine e_then ?_; refine c_cond (¬ (x178 = true)) ha rfl (n_iff (Iff.rfl)) (fun hp183 => ?_) (fun hp183 => ?_)
  · replace hF := if_t hp183 hF
    refine wp_seq ?_; refine wp_region_lit ?_; refine op_g ha rfl (g_assign rfl) ?_; clear ha a; intro a ha; refine wpList_nil ?_; replace ha := ha.sub (σ' := [(2, (.bool false))]) ⟨rfl, trivial⟩; refine e_then ?_; refine wp_ret ?_; refine e_then_ret ?_; obtain rfl := Option.some.inj hF
    exact f_ret1 ha rfl rfl ⟨rfl, hE182⟩
  replace hF := if_f hp183 hF; refine wp_skip ?_; refine e_then ?_; refine wp_seq ?_; refine wp_region_lit ?_; refine op_g ha rfl (g_assign rfl) ?_; clear ha a; intro a ha; refine wpList_nil ?_; replace ha := ha.sub (σ' := [(1, (.pointer (some ⟨b1, 0, none⟩))), (4, u44), (5, (.bool x39.2)), (6, (.pointer (some ⟨b73, 0, none⟩))), (7, u98), (8, (.bool x93.2)), (9, (.int .i64 1))]) ⟨rfl, rfl, rfl, rfl, rfl, rfl, rfl, trivial⟩; refine e_then ?_; refine wp_seq ?_; refine wp_region_lit ?_; refine op_g ha rfl (g_loadA (cs := [u57]) Tryd.isAgg27 Tryd.sizeOf27 rfl (by simp) hB87.all) ?_; clear ha a; intro a ha
  refine op_g ha rfl (g_move rfl) ?_; clear ha a; intro a ha; obtain ⟨x184, hc185, hF⟩ := cal_some hF
  refine o_call ha rfl rfl Tryd.call14 (W_laws_markGraph h59 nd64 (show InI 1 from by decide) hc185) ?_; clear ha a; rintro v186 w187 ⟨⟨rfl, hI189⟩, h190, hx188⟩ a ha
  replace hB3 := hB3.off hx188 (Off.nest q65 q68); replace h47 := h47.off hx188 (Off.nest q67 q69); replace h101 := h101.off hx188 (Off.nest q108 q111)
  have hE191 := Chg.join hE182 hx188 (S2.nest q71 q72)
  refine op_g ha rfl (g_assign rfl) ?_; clear ha a; intro a ha; refine wpList_nil ?_; replace ha := ha.sub (σ' := [(1, (.pointer (some ⟨b1, 0, none⟩))), (4, u44), (5, (.bool x39.2)), (7, u98), (8, (.bool x93.2)), (9, (.int .i64 x184.1))]) ⟨rfl, rfl, rfl, rfl, rfl, rfl, trivial⟩; refine e_then ?_; refine wp_seq ?_; refine wp_seq ?_; refine wp_region_lit ?_; refine op_g ha rfl (g_move rfl) ?_; clear ha a; intro a ha; refine op_g ha rfl (g_lss rfl rfl) ?_; clear ha a; intro a ha; refine op_g ha rfl (g_move rfl) ?_; clear ha a; intro a ha
  by_cases hp204 : x184.1 < 0
  · replace hF := if_t hp204 hF
    rw [show (decide (x184.1 < 0)) = true from (decide_eq_true_iff).2 hp204] at ha
    (iterate 4 refine op_unwant ha rfl (yields ha rfl rfl) rfl ?_; clear ha a; intro a ha); refine op_g ha rfl (g_pick rfl rfl) ?_; clear ha a; intro a ha; refine op_g ha rfl (g_move rfl) ?_; clear ha a; intro a ha; (iterate 3 refine op_unwant ha rfl (yields ha rfl rfl) rfl ?_; clear ha a; intro a ha); refine op_g ha rfl (g_pick rfl rfl) ?_; clear ha a; intro a ha; refine wpList_nil ?_; replace ha := ha.sub (σ' := [(1, (.pointer (some ⟨b1, 0, none⟩))), (4, u44), (5, (.bool x39.2)), (7, u98), (61, (.bool true))]) ⟨rfl, rfl, rfl, rfl, rfl, trivial⟩; refine e_then ?_; refine c_true ha rfl ?_; refine wp_seq ?_
    refine wp_region_lit ?_; refine op_g ha rfl (g_assign rfl) ?_; clear ha a; intro a ha; refine wpList_nil ?_; replace ha := ha.sub (σ' := [(2, (.bool false))]) ⟨rfl, trivial⟩; refine e_then ?_; refine wp_ret ?_; refine e_then_ret ?_; obtain rfl := Option.some.inj hF
    exact f_ret1 ha rfl rfl ⟨rfl, hE191⟩
  replace hF := if_f hp204 hF
  rw [show (decide (x184.1 < 0)) = false from b_false (decide_eq_true_iff) hp204] at ha
  refine op_want (yields ha rfl rfl) ?_; refine op_g ha rfl (g_move rfl) ?_; clear ha a; intro a ha; refine op_want (yields ha rfl rfl) ?_; refine op_g ha rfl (g_move rfl) ?_; clear ha a; intro a ha; refine op_want (yields ha rfl rfl) ?_
  obtain ⟨fp205, hro206, hs207⟩ := h101.roF
  obtain ⟨x208, hc209, hF⟩ := cal_some hF
  refine o_call ha rfl rfl Tryd.call13 (W_laws_eqInt64S hro206 h47 hc209) ?_; clear ha a; rintro v210 w211 ⟨rfl, hx212⟩ a ha
  replace hB3 := hB3.ext hx212
  replace h47 := h47.ext hx212
  replace h101 := h101.ext hx212
  have hE213 := Ext.trans hE191 hx212
  refine op_want (yields ha rfl rfl) ?_; refine op_g ha rfl (g_not rfl) ?_; clear ha a; intro a ha; refine op_g ha rfl (g_pick rfl rfl) ?_; clear ha a; intro a ha; refine op_g ha rfl (g_move rfl) ?_; clear ha a; intro a ha
  by_cases hp214 : ¬ (x208 = true)
  · replace hF := if_t hp214 hF
    rw [show (!x208) = true from (n_iff (Iff.rfl)).2 hp214] at ha
    (iterate 3 refine op_unwant ha rfl (yields ha rfl rfl) rfl ?_; clear ha a; intro a ha); refine op_g ha rfl (g_pick rfl rfl) ?_; clear ha a; intro a ha; refine wpList_nil ?_; replace ha := ha.sub (σ' := [(1, (.pointer (some ⟨b1, 0, none⟩))), (4, u44), (5, (.bool x39.2)), (7, u98), (61, (.bool true))]) ⟨rfl, rfl, rfl, rfl, rfl, trivial⟩; refine e_then ?_; refine c_true ha rfl ?_; refine wp_seq ?_; refine wp_region_lit ?_; refine op_g ha rfl (g_assign rfl) ?_; clear ha a; intro a ha; refine wpList_nil ?_; replace ha := ha.sub (σ' := [(2, (.bool false))]) ⟨rfl, trivial⟩; refine e_then ?_; refine wp_ret ?_
    refine e_then_ret ?_; obtain rfl := Option.some.inj hF
    exact f_ret1 ha rfl rfl ⟨rfl, hE213⟩
  replace hF := if_f hp214 hF
  rw [show (!x208) = false from b_false (n_iff (Iff.rfl)) hp214] at ha
  refine op_want (yields ha rfl rfl) ?_; refine op_g ha rfl (g_move rfl) ?_; clear ha a; intro a ha; refine op_want (yields ha rfl rfl) ?_; refine op_g ha rfl (g_move rfl) ?_; clear ha a; intro a ha; refine op_want (yields ha rfl rfl) ?_; refine op_g ha rfl (gB_neq un4 rfl rfl) ?_; clear ha a; intro a ha; refine op_g ha rfl (g_pick rfl rfl) ?_; clear ha a; intro a ha; refine wpList_nil ?_; replace ha := ha.sub (σ' := [(1, (.pointer (some ⟨b1, 0, none⟩))), (4, u44), (5, (.bool x39.2)), (7, u98), (61, (.bool (x93.2 != x39.2)))]) ⟨rfl, rfl, rfl, rfl, rfl, trivial⟩; refine e_then ?_; refine c_cond ((x93.2 != x39.2) = true) ha rfl (Iff.rfl) (fun hp215 => ?_) (fun hp215 => ?_)
  · replace hF := if_t hp215 hF
    refine wp_seq ?_; refine wp_region_lit ?_; refine op_g ha rfl (g_assign rfl) ?_; clear ha a; intro a ha; refine wpList_nil ?_; replace ha := ha.sub (σ' := [(2, (.bool false))]) ⟨rfl, trivial⟩; refine e_then ?_; refine wp_ret ?_; refine e_then_ret ?_; obtain rfl := Option.some.inj hF
    exact f_ret1 ha rfl rfl ⟨rfl, hE213⟩
  replace hF := if_f hp215 hF; refine wp_skip ?_; refine e_then ?_; refine wp_seq ?_; refine wp_region_lit ?_; refine op_g ha rfl (g_assign rfl) ?_; clear ha a; intro a ha; refine wpList_nil ?_; replace ha := ha.sub (σ' := [(1, (.pointer (some ⟨b1, 0, none⟩))), (4, u44), (5, (.bool x39.2)), (7, u98), (10, (.int .i64 1))]) ⟨rfl, rfl, rfl, rfl, rfl, trivial⟩; refine e_then ?_; refine wp_seq ?_; refine wp_region_lit ?_; (iterate 2 refine op_g ha rfl (g_move rfl) ?_; clear ha a; intro a ha); obtain ⟨x216, hc217, hF⟩ := cal_some hF
  refine o_call ha rfl rfl Tryd.call15 (W_laws_markInt64S h101 (show InI 1 from by decide) hc217) ?_; clear ha a; rintro v218 w219 ⟨⟨rfl, hI221⟩, h222, hx220⟩ a ha
  replace hB3 := hB3.nq hx220 q104
  replace h47 := h47.nq hx220 q106
  have hE223 := Ext.then hE213 hx220 (Zn.bl q113)
  refine op_g ha rfl (g_assign rfl) ?_; clear ha a; intro a ha; refine wpList_nil ?_; replace ha := ha.sub (σ' := [(1, (.pointer (some ⟨b1, 0, none⟩))), (4, u44), (5, (.bool x39.2)), (7, u98), (10, (.int .i64 x216.1))]) ⟨rfl, rfl, rfl, rfl, rfl, trivial⟩; refine e_then ?_; refine wp_seq ?_; refine wp_region_lit ?_; refine op_g ha rfl (g_assign rfl) ?_; clear ha a; intro a ha; refine wpList_nil ?_; replace ha := ha.sub (σ' := [(1, (.pointer (some ⟨b1, 0, none⟩))), (4, u44), (5, (.bool x39.2)), (7, u98), (10, (.int .i64 x216.1)), (11, (.int .i64 1))]) ⟨rfl, rfl, rfl, rfl, rfl, rfl, trivial⟩; refine e_then ?_
  refine wp_seq ?_; refine wp_region_lit ?_; (iterate 2 refine op_g ha rfl (g_move rfl) ?_; clear ha a; intro a ha)
  obtain ⟨fp224, hro225, hs226⟩ := h222.roF
  obtain ⟨x227, hc228, hF⟩ := cal_some hF
  refine o_call ha rfl rfl Tryd.call16 (W_laws_heldInt64S hro225 (show InI 1 from by decide) hc228) ?_; clear ha a; rintro v229 w230 ⟨⟨rfl, hI232⟩, hx231⟩ a ha
  replace hB3 := hB3.ext hx231
  replace h47 := h47.ext hx231
  replace h222 := h222.ext hx231
  have hE233 := Ext.trans hE223 hx231
  refine op_g ha rfl (g_assign rfl) ?_; clear ha a; intro a ha; refine wpList_nil ?_; replace ha := ha.sub (σ' := [(1, (.pointer (some ⟨b1, 0, none⟩))), (4, u44), (5, (.bool x39.2)), (7, u98), (10, (.int .i64 x216.1)), (11, (.int .i64 x227))]) ⟨rfl, rfl, rfl, rfl, rfl, rfl, trivial⟩; refine e_then ?_; refine wp_seq ?_; refine wp_seq ?_; refine wp_region_lit ?_; refine op_g ha rfl (g_move rfl) ?_; clear ha a; intro a ha; refine op_g ha rfl (g_lss rfl rfl) ?_; clear ha a; intro a ha; refine wpList_nil ?_; replace ha := ha.sub (σ' := [(1, (.pointer (some ⟨b1, 0, none⟩))), (4, u44), (5, (.bool x39.2)), (7, u98), (10, (.int .i64 x216.1)), (11, (.int .i64 x227)), (69, (.bool (decide (x227 < 0))))]) ⟨rfl, rfl, rfl, rfl, rfl, rfl, rfl, trivial⟩
  refine e_then ?_; refine c_cond (x227 < 0) ha rfl (decide_eq_true_iff) (fun hp234 => ?_) (fun hp234 => ?_)
  · replace hF := if_t hp234 hF
    refine wp_seq ?_; refine wp_region_lit ?_; refine op_g ha rfl (g_assign rfl) ?_; clear ha a; intro a ha; refine wpList_nil ?_; replace ha := ha.sub (σ' := [(2, (.bool false))]) ⟨rfl, trivial⟩; refine e_then ?_; refine wp_ret ?_; refine e_then_ret ?_; obtain rfl := Option.some.inj hF
    exact f_ret1 ha rfl rfl ⟨rfl, hE233⟩
  replace hF := if_f hp234 hF; refine wp_skip ?_; refine e_then ?_; refine wp_seq ?_; refine wp_seq ?_; refine wp_region_lit ?_; (iterate 2 refine op_g ha rfl (g_move rfl) ?_; clear ha a; intro a ha); refine op_g ha rfl (g_neq rfl rfl) ?_; clear ha a; intro a ha; refine wpList_nil ?_; replace ha := ha.sub (σ' := [(1, (.pointer (some ⟨b1, 0, none⟩))), (4, u44), (5, (.bool x39.2)), (7, u98), (10, (.int .i64 x216.1)), (72, (.bool (decide (x227 ≠ x216.1))))]) ⟨rfl, rfl, rfl, rfl, rfl, rfl, trivial⟩; refine e_then ?_; refine c_cond (x227 ≠ x216.1) ha rfl (decide_eq_true_iff) (fun hp235 => ?_) (fun hp235 => ?_)
  · replace hF := if_t hp235 hF
    refine wp_seq ?_; refine wp_region_lit ?_; refine op_g ha rfl (g_assign rfl) ?_; clear ha a; intro a ha; refine wpList_nil ?_; replace ha := ha.sub (σ' := [(2, (.bool false))]) ⟨rfl, trivial⟩; refine e_then ?_; refine wp_ret ?_; refine e_then_ret ?_; obtain rfl := Option.some.inj hF
    exact f_ret1 ha rfl rfl ⟨rfl, hE233⟩
  replace hF := if_f hp235 hF; refine wp_skip ?_; refine e_then ?_; refine wp_seq ?_; refine wp_region_lit ?_; refine op_g ha rfl (g_loadA (cs := [va0_0]) Tryd.isAgg24 Tryd.sizeOf24 rfl (by simp) hB3.all) ?_; clear ha a; intro a ha; obtain ⟨x236, hc237, hF⟩ := cal_some hF
  refine o_call ha rfl rfl Tryd.call8 (W_laws_toGraph (ha0_0.ext hE233) hc237) ?_; clear ha a; rintro v238 w239 ⟨u241, b242, fs246, rfl, h243, z244, zf247, nd248, hx240⟩ a ha
  have q249 := Nq.new hB3.fpb z244
  have q250 := Nq.madeF z244 zf247 hB3.bi
  have q251 := Nq.new h47.bnd z244
  have q252 := Nq.new h222.fpb z244
  have q253 := Nq.madeF z244 zf247 h222.blt
  have q254 := Nf.new hB3.fpb zf247
  have q255 := Nf.new h47.bnd zf247
  have q256 := Nf.new h222.fpb zf247
  replace hB3 := hB3.ext hx240
  replace h47 := h47.ext hx240
  replace h222 := h222.ext hx240
  have hE257 := Ext.trans hE233 hx240
  have q258 := Zn.upD z244 hE233
  have q259 := zf_up zf247 hE233
  obtain ⟨fp260, hro261, hs262⟩ := h243.roF
  obtain ⟨x263, hc264, hF⟩ := cal_some hF
  refine o_call ha rfl rfl Tryd.call18 (W_impl_OuterRing hro261 (hG.ext hE257) hc264) ?_; clear ha a; rintro v265 w266 ⟨u268, u269, b270, rfl, h271, z272, rfl, hx267⟩ a ha
  have q274 := Nq.new hB3.fpb z272
  have q275 := Nq.madeO z272 hB3.bi
  have q276 := Nq.new h47.bnd z272
  have q277 := Nq.new h222.fpb z272
  have q278 := Nq.madeO z272 h222.blt
  have q279 := Nq.new h243.fpb z272
  have q280 := Nq.madeO z272 h243.blt
  have q281 := Nf.old z272 (zf_nil _) h243.bnd
  replace hB3 := hB3.ext hx267
  replace h47 := h47.ext hx267
  replace h222 := h222.ext hx267
  replace h243 := h243.ext hx267
  have hE282 := Ext.trans hE257 hx267
  have q283 := Zn.upD z272 hE257
  refine op_g ha rfl (g_move rfl) ?_; clear ha a; intro a ha; (iterate 2 refine op_g ha rfl (g_extract rfl rfl) ?_; clear ha a; intro a ha); (iterate 2 refine op_g ha rfl (g_assign rfl) ?_; clear ha a; intro a ha); refine wpList_nil ?_; replace ha := ha.sub (σ' := [(4, u44), (5, (.bool x39.2)), (7, u98), (10, (.int .i64 x216.1)), (12, u268), (13, (.bool x263.2))]) ⟨rfl, rfl, rfl, rfl, rfl, rfl, trivial⟩; refine e_then ?_; refine wp_seq ?_; refine wp_seq ?_; refine wp_region_lit ?_; (iterate 2 refine op_g ha rfl (g_move rfl) ?_; clear ha a; intro a ha)
  obtain ⟨fp295, hro296, hs297⟩ := h271.roF
  obtain ⟨x298, hc299, hF⟩ := cal_some hF
  refine o_call ha rfl rfl Tryd.call13 (W_laws_eqInt64S hro296 h47 hc299) ?_; clear ha a; rintro v300 w301 ⟨rfl, hx302⟩ a ha
  replace h47 := h47.ext hx302
  replace h222 := h222.ext hx302
  replace h271 := h271.ext hx302
  have hE303 := Ext.trans hE282 hx302
  refine op_g ha rfl (g_not rfl) ?_; clear ha a; intro a ha; refine op_g ha rfl (g_move rfl) ?_; clear ha a; intro a ha
  by_cases hp304 : ¬ (x298 = true)
  · replace hF := if_t hp304 hF
    rw [show (!x298) = true from (n_iff (Iff.rfl)).2 hp304] at ha
    (iterate 3 refine op_unwant ha rfl (yields ha rfl rfl) rfl ?_; clear ha a; intro a ha); refine op_g ha rfl (g_pick rfl rfl) ?_; clear ha a; intro a ha; refine wpList_nil ?_; replace ha := ha.sub (σ' := [(7, u98), (10, (.int .i64 x216.1)), (87, (.bool true))]) ⟨rfl, rfl, rfl, trivial⟩; refine e_then ?_; refine c_true ha rfl ?_; refine wp_seq ?_; refine wp_region_lit ?_; refine op_g ha rfl (g_assign rfl) ?_; clear ha a; intro a ha; refine wpList_nil ?_; replace ha := ha.sub (σ' := [(2, (.bool false))]) ⟨rfl, trivial⟩; refine e_then ?_; refine wp_ret ?_; refine e_then_ret ?_; obtain rfl := Option.some.inj hF
    exact f_ret1 ha rfl rfl ⟨rfl, hE303⟩
  replace hF := if_f hp304 hF
  rw [show (!x298) = false from b_false (n_iff (Iff.rfl)) hp304] at ha
  refine op_want (yields ha rfl rfl) ?_; refine op_g ha rfl (g_move rfl) ?_; clear ha a; intro a ha; refine op_want (yields ha rfl rfl) ?_; refine op_g ha rfl (g_move rfl) ?_; clear ha a; intro a ha; refine op_want (yields ha rfl rfl) ?_; refine op_g ha rfl (gB_neq un4 rfl rfl) ?_; clear ha a; intro a ha; refine op_g ha rfl (g_pick rfl rfl) ?_; clear ha a; intro a ha; refine wpList_nil ?_; replace ha := ha.sub (σ' := [(7, u98), (10, (.int .i64 x216.1)), (87, (.bool (x263.2 != x39.2)))]) ⟨rfl, rfl, rfl, trivial⟩; refine e_then ?_; refine c_cond ((x263.2 != x39.2) = true) ha rfl (Iff.rfl) (fun hp305 => ?_) (fun hp305 => ?_)
  · replace hF := if_t hp305 hF
    refine wp_seq ?_; refine wp_region_lit ?_; refine op_g ha rfl (g_assign rfl) ?_; clear ha a; intro a ha; refine wpList_nil ?_; replace ha := ha.sub (σ' := [(2, (.bool false))]) ⟨rfl, trivial⟩; refine e_then ?_; refine wp_ret ?_; refine e_then_ret ?_; obtain rfl := Option.some.inj hF
    exact f_ret1 ha rfl rfl ⟨rfl, hE303⟩
  replace hF := if_f hp305 hF; refine wp_skip ?_; refine e_then ?_; refine wp_seq ?_; refine wp_region_lit ?_; refine op_g ha rfl (g_assign rfl) ?_; clear ha a; intro a ha; refine wpList_nil ?_; replace ha := ha.sub (σ' := [(7, u98), (10, (.int .i64 x216.1)), (11, (.int .i64 1))]) ⟨rfl, rfl, rfl, trivial⟩; refine e_then ?_; refine wp_seq ?_; refine wp_region_lit ?_; (iterate 2 refine op_g ha rfl (g_move rfl) ?_; clear ha a; intro a ha)
  obtain ⟨fp306, hro307, hs308⟩ := h222.roF
  obtain ⟨x309, hc310, hF⟩ := cal_some hF
  refine o_call ha rfl rfl Tryd.call16 (W_laws_heldInt64S hro307 (show InI 1 from by decide) hc310) ?_; clear ha a; rintro v311 w312 ⟨⟨rfl, hI314⟩, hx313⟩ a ha
  replace h222 := h222.ext hx313
  have hE315 := Ext.trans hE303 hx313
  refine op_g ha rfl (g_assign rfl) ?_; clear ha a; intro a ha; refine wpList_nil ?_; replace ha := ha.sub (σ' := [(10, (.int .i64 x216.1)), (11, (.int .i64 x309))]) ⟨rfl, rfl, trivial⟩; refine e_then ?_; refine wp_seq ?_; refine wp_seq ?_; refine wp_region_lit ?_; refine op_g ha rfl (g_move rfl) ?_; clear ha a; intro a ha; refine op_g ha rfl (g_lss rfl rfl) ?_; clear ha a; intro a ha; refine wpList_nil ?_; replace ha := ha.sub (σ' := [(10, (.int .i64 x216.1)), (11, (.int .i64 x309)), (92, (.bool (decide (x309 < 0))))]) ⟨rfl, rfl, rfl, trivial⟩; refine e_then ?_; refine c_cond (x309 < 0) ha rfl (decide_eq_true_iff) (fun hp316 => ?_) (fun hp316 => ?_)
  · replace hF := if_t hp316 hF
    refine wp_seq ?_; refine wp_region_lit ?_; refine op_g ha rfl (g_assign rfl) ?_; clear ha a; intro a ha; refine wpList_nil ?_; replace ha := ha.sub (σ' := [(2, (.bool false))]) ⟨rfl, trivial⟩; refine e_then ?_; refine wp_ret ?_; refine e_then_ret ?_; obtain rfl := Option.some.inj hF
    exact f_ret1 ha rfl rfl ⟨rfl, hE315⟩
  replace hF := if_f hp316 hF; refine wp_skip ?_; refine e_then ?_; refine wp_seq ?_; refine wp_seq ?_; refine wp_region_lit ?_; (iterate 2 refine op_g ha rfl (g_move rfl) ?_; clear ha a; intro a ha); refine op_g ha rfl (g_neq rfl rfl) ?_; clear ha a; intro a ha; refine wpList_nil ?_; replace ha := ha.sub (σ' := [(95, (.bool (decide (x309 ≠ x216.1))))]) ⟨rfl, trivial⟩; refine e_then ?_; refine c_cond (x309 ≠ x216.1) ha rfl (decide_eq_true_iff) (fun hp317 => ?_) (fun hp317 => ?_)
  · replace hF := if_t hp317 hF
    refine wp_seq ?_; refine wp_region_lit ?_; refine op_g ha rfl (g_assign rfl) ?_; clear ha a; intro a ha; refine wpList_nil ?_; replace ha := ha.sub (σ' := [(2, (.bool false))]) ⟨rfl, trivial⟩; refine e_then ?_; refine wp_ret ?_; refine e_then_ret ?_; obtain rfl := Option.some.inj hF
    exact f_ret1 ha rfl rfl ⟨rfl, hE315⟩
  replace hF := if_f hp317 hF; refine wp_skip ?_; refine e_then ?_; refine wp_seq ?_; refine wp_region_lit ?_; refine op_g ha rfl (g_assign rfl) ?_; clear ha a; intro a ha; refine wpList_nil ?_; replace ha := ha.sub (σ' := [(2, (.bool true))]) ⟨rfl, trivial⟩; refine e_then ?_; refine wp_ret ?_; obtain rfl := Option.some.inj hF
  exact f_ret1 ha rfl rfl ⟨rfl, hE315⟩
end Go.Proofs.YtkhaolpofeehoaaDoor
