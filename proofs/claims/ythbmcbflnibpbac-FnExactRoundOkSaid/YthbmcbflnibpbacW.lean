/- Walks, printed by gen.py. -/
import Derived.Test.YthbmcbflnibpbacF
import Derived.Test.YthbmcbflnibpbacW1
import Derived.Test.YthbmcbflnibpbacProg
import Derived.KernelRfl
set_option maxRecDepth 100000
namespace Go.Proofs.Ythbmcbflnibpbac
open Go Go.RowKit

set_option maxHeartbeats 2000000 in
theorem W_laws_FnExactRoundOk {W : World} {va0_0 : Value} {fa0_0 : List Nat} {a0_0 : (List (List Int))} (ha0_0 : Ro (Rp.sl 2 Rp.int) W fa0_0 va0_0 a0_0) {va1 : Value} {fa1 : List Nat} {a1 : (List Int)} (ha1 : Ro Rp.int W fa1 va1 a1) {r : Bool} (hF : F_laws_FnExactRoundOk a0_0 a1 = some r) :
    Calls Try.prog 4 [.agg #[va0_0], va1].toArray W (Ret fun u w' => u = .bool r ∧ Ext W w') := by
  refine f_enter Try.func4 rfl Try.ntmps4 rfl ?_
  intro a ha
  replace ha : Fr 43 [(0, (.agg #[va0_0])), (1, va1)] a := ha
  have hE : Chg [] W W := Chg.refl _ _
  unfold F_laws_FnExactRoundOk at hF
  refine wp_seq ?_; refine wp_region_lit ?_
  refine o_box ha rfl rfl rfl ?_; clear ha a; intro b1 w2 hB3 hx4 hlo5 a ha
  have q6 := Zn.one hlo5
  have q7 := Zn.upD q6 hE
  have hE8 := Ext.trans hE hx4
  refine op_g ha rfl (g_assign rfl) ?_; clear ha a; intro a ha; refine wpList_nil ?_; replace ha := ha.sub (σ' := [(1, va1), (2, (.pointer (some ⟨b1, 0, none⟩)))]) ⟨rfl, rfl, trivial⟩; refine e_then ?_; refine wp_seq ?_; refine wp_seq ?_; refine wp_region_lit ?_; refine op_g ha rfl (g_move rfl) ?_; clear ha a; intro a ha; refine op_g ha rfl (g_lenR sl25.und ha1 rfl) ?_; clear ha a; intro a ha; refine op_g ha rfl (g_gtr rfl rfl) ?_; clear ha a; intro a ha; refine wpList_nil ?_; replace ha := ha.sub (σ' := [(1, va1), (2, (.pointer (some ⟨b1, 0, none⟩))), (12, (.bool (decide (1048576 < (a1.length : Int)))))]) ⟨rfl, rfl, rfl, trivial⟩
  refine e_then ?_; refine c_cond (1048576 < (a1.length : Int)) ha rfl (decide_eq_true_iff) (fun hp9 => ?_) (fun hp9 => ?_)
  · replace hF := if_t hp9 hF
    refine wp_seq ?_; refine wp_region_lit ?_; refine op_g ha rfl (g_assign rfl) ?_; clear ha a; intro a ha; refine wpList_nil ?_; replace ha := ha.sub (σ' := [(4, (.bool true))]) ⟨rfl, trivial⟩; refine e_then ?_; refine wp_ret ?_; refine e_then_ret ?_; obtain rfl := Option.some.inj hF
    exact f_ret1 ha rfl rfl ⟨rfl, hE8⟩
  replace hF := if_f hp9 hF; refine wp_skip ?_; refine e_then ?_; refine wp_seq ?_; refine wp_region_lit ?_; refine op_g ha rfl (g_assign rfl) ?_; clear ha a; intro a ha; refine wpList_nil ?_; replace ha := ha.sub (σ' := [(1, va1), (2, (.pointer (some ⟨b1, 0, none⟩))), (5, (.int .i64 1048576))]) ⟨rfl, rfl, rfl, trivial⟩; refine e_then ?_; refine wp_seq ?_; refine wp_region_lit ?_; refine op_g ha rfl (g_loadA (cs := [va0_0]) Try.isAgg24 Try.sizeOf24 rfl (by simp) hB3.all) ?_; clear ha a; intro a ha; refine op_g ha rfl (g_move rfl) ?_; clear ha a; intro a ha; obtain ⟨x10, hc11, hF⟩ := cal_some hF
  refine o_call ha rfl rfl Try.call6 (W_laws_szGraph (ha0_0.ext hE8) (show InI 1048576 from by decide) hc11) ?_; clear ha a; rintro v12 w13 ⟨⟨rfl, hI15⟩, hx14⟩ a ha
  replace hB3 := hB3.ext hx14
  have hE16 := Ext.trans hE8 hx14
  refine op_g ha rfl (g_assign rfl) ?_; clear ha a; intro a ha; refine wpList_nil ?_; replace ha := ha.sub (σ' := [(1, va1), (2, (.pointer (some ⟨b1, 0, none⟩))), (5, (.int .i64 x10))]) ⟨rfl, rfl, rfl, trivial⟩; refine e_then ?_; refine wp_seq ?_; refine wp_seq ?_; refine wp_region_lit ?_; refine op_g ha rfl (g_move rfl) ?_; clear ha a; intro a ha; refine op_g ha rfl (g_lss rfl rfl) ?_; clear ha a; intro a ha; refine wpList_nil ?_; replace ha := ha.sub (σ' := [(1, va1), (2, (.pointer (some ⟨b1, 0, none⟩))), (17, (.bool (decide (x10 < 0))))]) ⟨rfl, rfl, rfl, trivial⟩; refine e_then ?_; refine c_cond (x10 < 0) ha rfl (decide_eq_true_iff) (fun hp17 => ?_) (fun hp17 => ?_)
  · replace hF := if_t hp17 hF
    refine wp_seq ?_; refine wp_region_lit ?_; refine op_g ha rfl (g_assign rfl) ?_; clear ha a; intro a ha; refine wpList_nil ?_; replace ha := ha.sub (σ' := [(4, (.bool true))]) ⟨rfl, trivial⟩; refine e_then ?_; refine wp_ret ?_; refine e_then_ret ?_; obtain rfl := Option.some.inj hF
    exact f_ret1 ha rfl rfl ⟨rfl, hE16⟩
  replace hF := if_f hp17 hF; refine wp_skip ?_; refine e_then ?_; refine wp_seq ?_; refine wp_region_lit ?_; refine op_g ha rfl (g_loadA (cs := [va0_0]) Try.isAgg24 Try.sizeOf24 rfl (by simp) hB3.all) ?_; clear ha a; intro a ha; obtain ⟨x18, hc19, hF⟩ := cal_some hF
  refine o_call ha rfl rfl Try.call8 (W_laws_toGraph (ha0_0.ext hE16) hc19) ?_; clear ha a; rintro v20 w21 ⟨u23, b24, fs28, rfl, h25, z26, zf29, nd30, hx22⟩ a ha
  have q31 := Nq.new hB3.fpb z26
  have q32 := Nq.madeF z26 zf29 hB3.bi
  have q33 := Nf.new hB3.fpb zf29
  replace hB3 := hB3.ext hx22
  have hE34 := Ext.trans hE16 hx22
  have q35 := Zn.upD z26 hE16
  have q36 := zf_up zf29 hE16
  refine op_g ha rfl (g_move rfl) ?_; clear ha a; intro a ha; obtain ⟨x37, hc38, hF⟩ := cal_some hF
  refine o_call ha rfl rfl Try.call9 (W_laws_toInt64S (ha1.ext hE34) hc38) ?_; clear ha a; rintro v39 w40 ⟨b42, h43, z44, hx41⟩ a ha
  have q46 := Nq.new hB3.fpb z44
  have q47 := Nq.madeO z44 hB3.bi
  have q48 := Nq.new h25.fpb z44
  have q49 := Nq.madeO z44 h25.blt
  have q50 := Nf.old z44 (zf_nil _) h25.bnd
  replace hB3 := hB3.ext hx41
  replace h25 := h25.ext hx41
  have hE51 := Ext.trans hE34 hx41
  have q52 := Zn.upD z44 hE34
  obtain ⟨fp53, hro54, hs55⟩ := h25.roF
  obtain ⟨fp56, hro57, hs58⟩ := h43.roF
  obtain ⟨x59, hc60, hF⟩ := cal_some hF
  refine o_call ha rfl rfl Try.call13 (W_spec_RoundOk hro54 hro57 hc60) ?_; clear ha a; rintro v61 w62 ⟨rfl, hx63⟩ a ha
  replace hB3 := hB3.ext hx63
  replace h25 := h25.ext hx63
  replace h43 := h43.ext hx63
  have hE64 := Ext.trans hE51 hx63
  refine op_g ha rfl (g_assign rfl) ?_; clear ha a; intro a ha; refine wpList_nil ?_; replace ha := ha.sub (σ' := [(1, va1), (2, (.pointer (some ⟨b1, 0, none⟩))), (6, (.bool x59))]) ⟨rfl, rfl, rfl, trivial⟩; refine e_then ?_; refine wp_seq ?_; refine wp_region_lit ?_; refine op_g ha rfl (g_loadA (cs := [va0_0]) Try.isAgg24 Try.sizeOf24 rfl (by simp) hB3.all) ?_; clear ha a; intro a ha; obtain ⟨x65, hc66, hF⟩ := cal_some hF
  refine o_call ha rfl rfl Try.call8 (W_laws_toGraph (ha0_0.ext hE64) hc66) ?_; clear ha a; rintro v67 w68 ⟨u70, b71, fs75, rfl, h72, z73, zf76, nd77, hx69⟩ a ha
  have q78 := Nq.new hB3.fpb z73
  have q79 := Nq.madeF z73 zf76 hB3.bi
  have q80 := Nf.new hB3.fpb zf76
  replace hB3 := hB3.ext hx69
  have hE81 := Ext.trans hE64 hx69
  have q82 := Zn.upD z73 hE64
  have q83 := zf_up zf76 hE64
  refine o_alloc (cs := [(.slice none 0 0)]) ha rfl Try.zeroValue28 rfl ?_; clear ha a; intro b84 w85 hB86 hx87 hlo88 a ha
  have q89 := Zn.one hlo88
  have q90 := Nq.new hB3.fpb q89
  have q91 := Nq.made1 hlo88 hB3.bi
  have q92 := Nq.new h72.fpb q89
  have q93 := Nq.made1 hlo88 h72.blt
  have q94 := Zn.upD q89 hE81
  replace hB3 := hB3.ext hx87
  replace h72 := h72.ext hx87
  have hE95 := Ext.trans hE81 hx87
  refine o_storeA (vs := [u70]) ha hB86 Try.sizeOf28 rfl rfl (by intro c hc; simp only [List.mem_cons, List.not_mem_nil, or_false] at hc; rcases hc with hc <;> subst hc <;> first | rfl | exact h72.oneC) rfl ?_; intro w96 hB97 hc98
  replace hc98 := hc98.bl
  replace hB97 : Bx w96 b84 [u70] 28 := hB97
  replace hB3 := hB3.nq hc98 q90
  replace h72 := h72.nq hc98 q92
  have hE99 := Ext.then hE95 hc98 (Zn.bl q94)
  refine wpList_nil ?_; replace ha := ha.sub (σ' := [(1, va1), (2, (.pointer (some ⟨b1, 0, none⟩))), (6, (.bool x59)), (7, (.pointer (some ⟨b84, 0, none⟩)))]) ⟨rfl, rfl, rfl, rfl, trivial⟩; refine e_then ?_; refine wp_seq ?_; refine wp_region_lit ?_; refine op_g ha rfl (g_move rfl) ?_; clear ha a; intro a ha; obtain ⟨x100, hc101, hF⟩ := cal_some hF
  refine o_call ha rfl rfl Try.call9 (W_laws_toInt64S (ha1.ext hE99) hc101) ?_; clear ha a; rintro v102 w103 ⟨b105, h106, z107, hx104⟩ a ha
  have q109 := Nq.new hB3.fpb z107
  have q110 := Nq.madeO z107 hB3.bi
  have q111 := Nq.new h72.fpb z107
  have q112 := Nq.madeO z107 h72.blt
  have q113 := Nq.new hB97.fpb z107
  have q114 := Nq.madeO z107 hB97.bi
  have q115 := Nf.old z107 (zf_nil _) h72.bnd
  replace hB3 := hB3.ext hx104
  replace h72 := h72.ext hx104
  replace hB97 := hB97.ext hx104
  have hE116 := Ext.trans hE99 hx104
  have q117 := Zn.upD z107 hE99
  refine op_g ha rfl (g_assign rfl) ?_; clear ha a; intro a ha; refine wpList_nil ?_; replace ha := ha.sub (σ' := [(1, va1), (2, (.pointer (some ⟨b1, 0, none⟩))), (6, (.bool x59)), (7, (.pointer (some ⟨b84, 0, none⟩))), (8, v102)]) ⟨rfl, rfl, rfl, rfl, rfl, trivial⟩; refine e_then ?_; refine wp_seq ?_; refine wp_region_lit ?_; refine op_g ha rfl (g_loadA (cs := [u70]) Try.isAgg28 Try.sizeOf28 rfl (by simp) hB97.all) ?_; clear ha a; intro a ha; refine op_g ha rfl (g_move rfl) ?_; clear ha a; intro a ha
  obtain ⟨fp118, hro119, hs120⟩ := h72.roF
  obtain ⟨fp121, hro122, hs123⟩ := h106.roF
  obtain ⟨x124, hc125, hF⟩ := cal_some hF
  refine o_call ha rfl rfl Try.call14 (W_impl_RoundOk hro119 hro122 hc125) ?_; clear ha a; rintro v126 w127 ⟨rfl, hx128⟩ a ha
  replace hB3 := hB3.ext hx128
  replace h72 := h72.ext hx128
  replace hB97 := hB97.ext hx128
  replace h106 := h106.ext hx128
  have hE129 := Ext.trans hE116 hx128
  refine op_g ha rfl (g_assign rfl) ?_; clear ha a; intro a ha; refine wpList_nil ?_; replace ha := ha.sub (σ' := [(1, va1), (2, (.pointer (some ⟨b1, 0, none⟩))), (6, (.bool x59)), (7, (.pointer (some ⟨b84, 0, none⟩))), (8, v102), (9, (.bool x124))]) ⟨rfl, rfl, rfl, rfl, rfl, rfl, trivial⟩; refine e_then ?_; refine wp_seq ?_; refine wp_seq ?_; refine wp_region_lit ?_; (iterate 2 refine op_g ha rfl (g_move rfl) ?_; clear ha a; intro a ha); refine op_g ha rfl (gB_neq un4 rfl rfl) ?_; clear ha a; intro a ha; refine wpList_nil ?_; replace ha := ha.sub (σ' := [(1, va1), (2, (.pointer (some ⟨b1, 0, none⟩))), (7, (.pointer (some ⟨b84, 0, none⟩))), (8, v102), (32, (.bool (x124 != x59)))]) ⟨rfl, rfl, rfl, rfl, rfl, trivial⟩
  refine e_then ?_; refine c_cond ((x124 != x59) = true) ha rfl (Iff.rfl) (fun hp130 => ?_) (fun hp130 => ?_)
  · replace hF := if_t hp130 hF
    refine wp_seq ?_; refine wp_region_lit ?_; refine op_g ha rfl (g_assign rfl) ?_; clear ha a; intro a ha; refine wpList_nil ?_; replace ha := ha.sub (σ' := [(4, (.bool false))]) ⟨rfl, trivial⟩; refine e_then ?_; refine wp_ret ?_; refine e_then_ret ?_; obtain rfl := Option.some.inj hF
    exact f_ret1 ha rfl rfl ⟨rfl, hE129⟩
  replace hF := if_f hp130 hF; refine wp_skip ?_; refine e_then ?_; refine wp_seq ?_; refine wp_seq ?_; refine d_region [0, 1, 2, 3, 4] hmix ?_; refine u_g 0 rfl (by kernel_rfl) (want0 _) ha rfl (g_loadA (cs := [u70]) Try.isAgg28 Try.sizeOf28 rfl (by simp) hB97.all) ?_; clear ha a; intro a ha; refine u_g 1 rfl (by kernel_rfl) (want0 _) ha rfl (g_loadA (cs := [va0_0]) Try.isAgg24 Try.sizeOf24 rfl (by simp) hB3.all) ?_; clear ha a; intro a ha
  refine u_only 2 rfl (by kernel_rfl) ?_; intro w131 hx132
  replace hB3 := hB3.ext hx132
  replace h72 := h72.ext hx132
  replace hB97 := hB97.ext hx132
  replace h106 := h106.ext hx132
  have hE133 := Ext.trans hE129 hx132
  obtain ⟨x134, hc135, hF⟩ := cal_some hF
  refine o_call ha rfl rfl Try.call8 (W_laws_toGraph (ha0_0.ext hE133) hc135) ?_; clear ha a; rintro v136 w137 ⟨u139, b140, fs144, rfl, h141, z142, zf145, nd146, hx138⟩ a ha
  have q147 := Nq.new hB3.fpb z142
  have q148 := Nq.madeF z142 zf145 hB3.bi
  have q149 := Nq.new h72.fpb z142
  have q150 := Nq.madeF z142 zf145 h72.blt
  have q151 := Nq.new hB97.fpb z142
  have q152 := Nq.madeF z142 zf145 hB97.bi
  have q153 := Nq.new h106.fpb z142
  have q154 := Nq.madeF z142 zf145 h106.blt
  have q155 := Nf.new hB3.fpb zf145
  have q156 := Nf.new h72.fpb zf145
  have q157 := Nf.old z142 zf145 h72.bnd
  have q158 := Nf.new hB97.fpb zf145
  have q159 := Nf.new h106.fpb zf145
  replace hB3 := hB3.ext hx138
  replace h72 := h72.ext hx138
  replace hB97 := hB97.ext hx138
  replace h106 := h106.ext hx138
  have hE160 := Ext.trans hE133 hx138
  have q161 := Zn.upD z142 hE133
  have q162 := zf_up zf145 hE133
  refine wpList_nil (e_sq ?_)
  refine ⟨fun _ => hx138, ?_⟩
  obtain ⟨fp165, hro166, hs167⟩ := h72.roF
  obtain ⟨fp168, hro169, hs170⟩ := h141.roF
  obtain ⟨x171, hc172, hF⟩ := cal_some hF; refine u_call (.bool x171) 3 rfl (by kernel_rfl) (want0 _) ha rfl rfl Try.call11 (fun w164 hx163 => W_laws_eqGraph (hro166.ext hx163) (hro169.ext hx163) hc172) (fun _ _ _ h => ⟨h.1, h.2⟩) ?_; clear ha a; intro a ha; refine u_g 4 rfl (by kernel_rfl) (want0 _) ha rfl (g_not rfl) ?_; clear ha a; intro a ha
  refine u_done (by kernel_rfl) ?_; intro w173 hx174
  replace hB3 := hB3.ext hx174
  replace h72 := h72.ext hx174
  replace hB97 := hB97.ext hx174
  replace h106 := h106.ext hx174
  replace h141 := h141.ext hx174
  have hE175 := Ext.trans hE160 hx174
  replace ha := ha.sub (σ' := [(1, va1), (8, v102), (37, (.bool (!x171)))]) ⟨rfl, rfl, rfl, trivial⟩; refine e_then ?_; refine c_cond (¬ (x171 = true)) ha rfl (n_iff (Iff.rfl)) (fun hp176 => ?_) (fun hp176 => ?_)
  · replace hF := if_t hp176 hF
    refine wp_seq ?_; refine wp_region_lit ?_; refine op_g ha rfl (g_assign rfl) ?_; clear ha a; intro a ha; refine wpList_nil ?_; replace ha := ha.sub (σ' := [(4, (.bool false))]) ⟨rfl, trivial⟩; refine e_then ?_; refine wp_ret ?_; refine e_then_ret ?_; obtain rfl := Option.some.inj hF
    exact f_ret1 ha rfl rfl ⟨rfl, hE175⟩
  replace hF := if_f hp176 hF; refine wp_skip ?_; refine e_then ?_; refine wp_seq ?_; refine wp_seq ?_; refine wp_region_lit ?_; (iterate 2 refine op_g ha rfl (g_move rfl) ?_; clear ha a; intro a ha); obtain ⟨x177, hc178, hF⟩ := cal_some hF
  refine o_call ha rfl rfl Try.call9 (W_laws_toInt64S (ha1.ext hE175) hc178) ?_; clear ha a; rintro v179 w180 ⟨b182, h183, z184, hx181⟩ a ha
  have q186 := Nq.new h106.fpb z184
  have q187 := Nq.madeO z184 h106.blt
  replace h106 := h106.ext hx181
  have hE188 := Ext.trans hE175 hx181
  have q189 := Zn.upD z184 hE175
  obtain ⟨fp190, hro191, hs192⟩ := h106.roF
  obtain ⟨fp193, hro194, hs195⟩ := h183.roF
  obtain ⟨x196, hc197, hF⟩ := cal_some hF
  refine o_call ha rfl rfl Try.call12 (W_laws_eqInt64S hro191 hro194 hc197) ?_; clear ha a; rintro v198 w199 ⟨rfl, hx200⟩ a ha
  replace h106 := h106.ext hx200
  replace h183 := h183.ext hx200
  have hE201 := Ext.trans hE188 hx200
  refine op_g ha rfl (g_not rfl) ?_; clear ha a; intro a ha; refine wpList_nil ?_; replace ha := ha.sub (σ' := [(42, (.bool (!x196)))]) ⟨rfl, trivial⟩; refine e_then ?_; refine c_cond (¬ (x196 = true)) ha rfl (n_iff (Iff.rfl)) (fun hp202 => ?_) (fun hp202 => ?_)
  · replace hF := if_t hp202 hF
    refine wp_seq ?_; refine wp_region_lit ?_; refine op_g ha rfl (g_assign rfl) ?_; clear ha a; intro a ha; refine wpList_nil ?_; replace ha := ha.sub (σ' := [(4, (.bool false))]) ⟨rfl, trivial⟩; refine e_then ?_; refine wp_ret ?_; refine e_then_ret ?_; obtain rfl := Option.some.inj hF
    exact f_ret1 ha rfl rfl ⟨rfl, hE201⟩
  replace hF := if_f hp202 hF; refine wp_skip ?_; refine e_then ?_; refine wp_seq ?_; refine wp_region_lit ?_; refine op_g ha rfl (g_assign rfl) ?_; clear ha a; intro a ha; refine wpList_nil ?_; replace ha := ha.sub (σ' := [(4, (.bool true))]) ⟨rfl, trivial⟩; refine e_then ?_; refine wp_ret ?_; obtain rfl := Option.some.inj hF
  exact f_ret1 ha rfl rfl ⟨rfl, hE201⟩
end Go.Proofs.Ythbmcbflnibpbac
