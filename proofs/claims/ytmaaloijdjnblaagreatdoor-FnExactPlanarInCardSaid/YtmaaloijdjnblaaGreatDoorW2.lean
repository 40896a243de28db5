/- Walks, printed by gen.py. -/
import Derived.Test.YtmaaloijdjnblaaGreatDoorF
import Derived.Test.YtmaaloijdjnblaaGreatDoorW1
import Derived.Test.YtmaaloijdjnblaaGreatDoorProg
import Derived.KernelRfl
set_option maxRecDepth 100000
namespace Go.Proofs.YtmaaloijdjnblaaGreatDoor
open Go Go.RowKit

set_option maxHeartbeats 2000000 in
theorem W_spec_l22Put {W : World} {va0 : Value} {fa0 : List Nat} {a0 : (List (List Int))} (ha0 : Ro (Rp.sl 2 Rp.int) W fa0 va0 a0) {a1 : Int} (ha1 : InI a1) {a2 : Int} (ha2 : InI a2) {a3 : Int} (ha3 : InI a3) {r : (List (List Int))} (hF : F_spec_l22Put a0 a1 a2 a3 = some r) :
    Calls Tryz.prog 45 [va0, .int .i64 a1, .int .i64 a2, .int .i64 a3].toArray W (Ret fun u w' => ∃ (fp_u : List Nat), Ro (Rp.sl 2 Rp.int) w' fp_u u r ∧ Pv (fa0) W.heap.size fp_u ∧ Ext W w') := by
  refine f_enter Tryz.func45 rfl Tryz.ntmps45 rfl ?_
  intro a ha
  replace ha : Fr 46 [(0, va0), (1, (.int .i64 a1)), (2, (.int .i64 a2)), (3, (.int .i64 a3))] a := ha
  have hE : Chg [] W W := Chg.refl _ _
  unfold F_spec_l22Put at hF
  refine wp_seq ?_; refine wp_region_lit ?_; refine op_g ha rfl (g_assign rfl) ?_; clear ha a; intro a ha; refine wpList_nil ?_; replace ha := ha.sub (σ' := [(0, va0), (1, (.int .i64 a1)), (2, (.int .i64 a2)), (3, (.int .i64 a3))]) ⟨rfl, rfl, rfl, rfl, trivial⟩; refine e_then ?_; refine wp_seq ?_; refine wp_region_lit ?_
  refine o_lit0 (Rp.sl 2 Rp.int) ha rfl sl22 ?_; clear ha a; intro v1 w2 h3 hx4 a ha
  obtain ⟨b6, hb6⟩ : ∃ b : Int, b = W.heap.size := ⟨_, rfl⟩; rw [← hb6] at h3
  have q7 := zn_of hb6
  have q8 := Zn.upD q7 hE
  have hE9 := Ext.trans hE hx4
  refine op_g ha rfl (g_move rfl) ?_; clear ha a; intro a ha; obtain ⟨hl10, hF⟩ := app_some hF
  obtain ⟨f11, hs12, hb13⟩ := (ha0.ext hE9).src
  refine o_append ha rfl sl22 rfl rfl rfl (Ow.weak h3) hs12 (Nq.mono (Nq.new ha0.bnd q8) hb13) hl10 ?_; clear ha a; intro v14 w15 b16 h17 hc18 hb19 a ha
  replace h17 : Ow (Rp.sl 2 Rp.int) 39 false w15 f11 b16 v14 _ := h17
  have q21 := (Pv.mono (Pv.par (fun _ h => h)) hb13 : Pv (fa0) W.heap.size f11)
  have q22 := Zn.appD q8 hb19 hE9
  have hE23 := Ext.then hE9 hc18 (Zn.bl q8)
  refine op_g ha rfl (g_assign rfl) ?_; clear ha a; intro a ha; refine wpList_nil ?_; replace ha := ha.sub (σ' := [(0, va0), (1, (.int .i64 a1)), (2, (.int .i64 a2)), (3, (.int .i64 a3)), (9, v14)]) ⟨rfl, rfl, rfl, rfl, rfl, trivial⟩; refine e_then ?_; refine wp_seq ?_; refine wp_region_lit ?_; refine op_g ha rfl (g_move rfl) ?_; clear ha a; intro a ha
  refine o_lit1 (o := true) (y := a3) Rp.int ha rfl sl39 rfl rfl rfl ⟨rfl, ha3, rfl⟩ ?_; clear ha a; intro v24 w25 h26 hx27 a ha
  obtain ⟨b29, hb29⟩ : ∃ b : Int, b = w15.heap.size := ⟨_, rfl⟩; rw [← hb29] at h26
  have q30 := zn_of hb29
  have q31 := Nq.new h17.fpb q30
  have q32 := Nq.madeO q30 h17.blt
  have q33 := Nf.old q30 (zf_nil _) h17.bnd
  have q34 := Zn.upD q30 hE23
  replace h17 := h17.ext hx27
  have hE35 := Ext.trans hE23 hx27
  refine op_g ha rfl (g_assign rfl) ?_; clear ha a; intro a ha; refine wpList_nil ?_; replace ha := ha.sub (σ' := [(0, va0), (1, (.int .i64 a1)), (2, (.int .i64 a2)), (3, (.int .i64 a3)), (9, v14), (10, v24)]) ⟨rfl, rfl, rfl, rfl, rfl, rfl, trivial⟩; refine e_then ?_; refine wp_seq ?_; refine wp_seq ?_; refine wp_region_lit ?_; (iterate 2 refine op_g ha rfl (g_move rfl) ?_; clear ha a; intro a ha); obtain ⟨x36, g37, gx38, hF⟩ := idx_some hF
  obtain ⟨p39, cs40, f41, hf42, hpb43, hat44, hr45, hi46⟩ := ha0.at g37 gx38
  obtain ⟨v47, rfl, h48⟩ := hr45
  have h48 : Ro Rp.int W f41 v47 x36 := h48
  have q50 := (Pv.mono (Pv.par (fun _ h => h)) hf42 : Pv (fa0) W.heap.size f41)
  refine op_g ha rfl (hi46.gives sl22 rfl rfl) ?_; clear ha a; intro a ha; refine op_g ha rfl (g_load0 hE35 Tryz.isAgg39 rfl hat44.one) ?_; clear ha a; intro a ha; refine op_g ha rfl (g_lenR sl39.und h48 rfl) ?_; clear ha a; intro a ha; refine op_g ha rfl (g_gtr rfl rfl) ?_; clear ha a; intro a ha; refine wpList_nil ?_; replace ha := ha.sub (σ' := [(0, va0), (1, (.int .i64 a1)), (2, (.int .i64 a2)), (3, (.int .i64 a3)), (9, v14), (10, v24), (21, (.bool (decide (0 < (x36.length : Int)))))]) ⟨rfl, rfl, rfl, rfl, rfl, rfl, rfl, trivial⟩; refine e_then ?_; refine c_cond (0 < (x36.length : Int)) ha rfl (decide_eq_true_iff) (fun hp51 => ?_) (fun hp51 => ?_)
  · replace hF := if_t hp51 hF
    refine x_region [0, 1, 2, 3, 4, 5, 6, 7, 8, 9, 10, 11, 12, 13, 14, 15, 16, 17, 18, 19] hmix ?_
    have hS52 := RowKit.Below.refl w25.heap.size w25
    refine x_g 0 rfl (by kernel_rfl) (want0 _) ha rfl hS52 (g_move rfl) ?_; clear ha a; intro a ha; refine x_g 1 rfl (by kernel_rfl) (want0 _) ha rfl hS52 (g_move rfl) ?_; clear ha a; intro a ha; obtain ⟨x53, g54, gx55, hF⟩ := idx_some hF
    obtain ⟨p56, cs57, f58, hf59, hpb60, hat61, hr62, hi63⟩ := ha0.at g54 gx55
    obtain ⟨v64, rfl, h65⟩ := hr62
    have h65 : Ro Rp.int W f58 v64 x53 := h65
    have q67 := (Pv.mono (Pv.par (fun _ h => h)) hf59 : Pv (fa0) W.heap.size f58)
    refine x_g 2 rfl (by kernel_rfl) (want0 _) ha rfl hS52 (hi63.gives sl22 rfl rfl) ?_; clear ha a; intro a ha; refine x_g 3 rfl (by kernel_rfl) (want0 _) ha rfl hS52 (g_load0 hE35 Tryz.isAgg39 rfl hat61.one) ?_; clear ha a; intro a ha; refine x_g 4 rfl (by kernel_rfl) (want0 _) ha rfl hS52 (g_move rfl) ?_; clear ha a; intro a ha; obtain ⟨hI68, hF⟩ := ck_some hF; refine x_g 5 rfl (by kernel_rfl) (want0 _) ha rfl hS52 (g_add rfl rfl hI68) ?_; clear ha a; intro a ha; obtain ⟨hb70a, hb70b, hb70c, hF⟩ := slc_some hF
    obtain ⟨v71, fp72, hrun73, hro74, hsub75⟩ := h65.slice (lo := none) (hi := (some (.int .i64 (a2 + 1)))) (i := 0) (j := a2 + 1) sl39 (.inl ⟨rfl, rfl⟩) (.inr ⟨_, rfl⟩) ⟨hb70a, hb70b, hb70c⟩
    have q77 := (Pv.mono (q67) hsub75 : Pv (fa0) W.heap.size fp72)
    refine x_g 6 rfl (by kernel_rfl) (want0 _) ha rfl hS52 (g_slice sl39.und rfl rfl rfl hrun73) ?_; clear ha a; intro a ha; refine x_g 8 rfl (by kernel_rfl) (want0 _) ha rfl hS52 (g_move rfl) ?_; clear ha a; intro a ha; refine x_g 11 rfl (by kernel_rfl) (want0 _) ha rfl hS52 (g_move rfl) ?_; clear ha a; intro a ha; refine x_g 12 rfl (by kernel_rfl) (want0 _) ha rfl hS52 (g_move rfl) ?_; clear ha a; intro a ha; obtain ⟨x78, g79, gx80, hF⟩ := idx_some hF
    obtain ⟨p81, cs82, f83, hf84, hpb85, hat86, hr87, hi88⟩ := ha0.at g79 gx80
    obtain ⟨v89, rfl, h90⟩ := hr87
    have h90 : Ro Rp.int W f83 v89 x78 := h90
    have q92 := (Pv.mono (Pv.par (fun _ h => h)) hf84 : Pv (fa0) W.heap.size f83)
    refine x_g 13 rfl (by kernel_rfl) (want0 _) ha rfl hS52 (hi88.gives sl22 rfl rfl) ?_; clear ha a; intro a ha; refine x_g 14 rfl (by kernel_rfl) (want0 _) ha rfl hS52 (g_load0 hE35 Tryz.isAgg39 rfl hat86.one) ?_; clear ha a; intro a ha; refine x_g 15 rfl (by kernel_rfl) (want0 _) ha rfl hS52 (g_move rfl) ?_; clear ha a; intro a ha; obtain ⟨hI93, hF⟩ := ck_some hF; refine x_g 16 rfl (by kernel_rfl) (want0 _) ha rfl hS52 (g_add rfl rfl hI93) ?_; clear ha a; intro a ha; obtain ⟨hb95a, hb95b, hb95c, hF⟩ := slc_some hF
    obtain ⟨v96, fp97, hrun98, hro99, hsub100⟩ := h90.slice (lo := (some (.int .i64 (a2 + 1)))) (hi := none) (i := a2 + 1) (j := (x78.length : Int)) sl39 (.inr ⟨_, rfl⟩) (.inl ⟨rfl, rfl⟩) ⟨hb95a, hb95b, hb95c⟩
    have q102 := (Pv.mono (q92) hsub100 : Pv (fa0) W.heap.size fp97)
    refine x_g 17 rfl (by kernel_rfl) (want0 _) ha rfl hS52 (g_slice sl39.und rfl rfl rfl hrun98) ?_; clear ha a; intro a ha; obtain ⟨xqr1o7_1, hcqr1o7_1, hF⟩ := cal_some hF; obtain ⟨hlqr1o10_1, hF⟩ := app_some hF; obtain ⟨hlqr1o18_1, hF⟩ := app_some hF; refine x_many [7, 9] (by kernel_rfl) rfl fun wqr1_1 hxqr1_1 => ⟨⟨_, rfl, ?_⟩, ⟨_, rfl, ?_⟩, trivial⟩
    · skip
      replace h17 := h17.ext hxqr1_1
      replace h26 := h26.ext hxqr1_1
      have hEqr1o7_1 := Ext.trans hE35 hxqr1_1
      have qqr1o7_1 := bel_step hS52 hxqr1_1
      refine o_call ha rfl rfl Tryz.call61 (W_spec_l1Copy (hro74.ext hEqr1o7_1) hcqr1o7_1) ?_; clear ha a; rintro vqr1o7_1 wqr1o7_1 ⟨bqr1o7_1, hqr1o7_1, zqr1o7_1, hxqr1o7_1⟩ a ha
      have qqr1o7_2 := Zn.upB zqr1o7_1 qqr1o7_1
      have qqr1o7_3 := Nq.new h17.fpb zqr1o7_1
      have qqr1o7_4 := Nq.madeO zqr1o7_1 h17.blt
      have qqr1o7_5 := Nq.new h26.fpb zqr1o7_1
      have qqr1o7_6 := Nq.madeO zqr1o7_1 h26.blt
      have qqr1o7_7 := Nf.old zqr1o7_1 (zf_nil _) h17.bnd
      replace h17 := h17.ext hxqr1o7_1
      replace h26 := h26.ext hxqr1o7_1
      have hEqr1o7_2 := Ext.trans hEqr1o7_1 hxqr1o7_1
      have qqr1o7_8 := Zn.upD zqr1o7_1 hEqr1o7_1
      refine wpList_nil (e_sq ?_)
      have hStqr1o7_1 : RowKit.Below w25.heap.size wqr1_1 wqr1o7_1 := ext_bel qqr1o7_1.size hxqr1o7_1
      refine ⟨fun _ => hStqr1o7_1, ?_⟩
      have qqr1o7_9 := RowKit.Below.trans qqr1o7_1 hStqr1o7_1
      refine x_only 9 rfl (by kernel_rfl) ?_; intro wqr1o9_1 hxqr1o9_1
      replace h17 := h17.ext hxqr1o9_1
      replace h26 := h26.ext hxqr1o9_1
      replace hqr1o7_1 := hqr1o7_1.ext hxqr1o9_1
      have hEqr1o9_1 := Ext.trans hEqr1o7_2 hxqr1o9_1
      have qqr1o9_1 := bel_step qqr1o7_9 hxqr1o9_1
      refine o_lit1 (o := true) (y := a3) Rp.int ha rfl sl39 rfl rfl rfl ⟨rfl, ha3, rfl⟩ ?_; clear ha a; intro vqr1o9_1 wqr1o9_2 hqr1o9_1 hxqr1o9_2 a ha
      obtain ⟨bqr1o9_1, hbqr1o9_1⟩ : ∃ b : Int, b = wqr1o9_1.heap.size := ⟨_, rfl⟩; rw [← hbqr1o9_1] at hqr1o9_1
      have qqr1o9_2 := zn_of hbqr1o9_1
      have qqr1o9_3 := Nq.new h17.fpb qqr1o9_2
      have qqr1o9_4 := Nq.madeO qqr1o9_2 h17.blt
      have qqr1o9_5 := Nq.new h26.fpb qqr1o9_2
      have qqr1o9_6 := Nq.madeO qqr1o9_2 h26.blt
      have qqr1o9_7 := Nq.new hqr1o7_1.fpb qqr1o9_2
      have qqr1o9_8 := Nq.madeO qqr1o9_2 hqr1o7_1.blt
      have qqr1o9_9 := Nf.old qqr1o9_2 (zf_nil _) h17.bnd
      have qqr1o9_10 := Zn.upD qqr1o9_2 hEqr1o9_1
      have qqr1o9_11 := Zn.upB qqr1o9_2 qqr1o9_1
      replace h17 := h17.ext hxqr1o9_2
      replace h26 := h26.ext hxqr1o9_2
      replace hqr1o7_1 := hqr1o7_1.ext hxqr1o9_2
      have hEqr1o9_2 := Ext.trans hEqr1o9_1 hxqr1o9_2
      refine wpList_nil (e_sq ?_)
      have hStqr1o9_1 : RowKit.Below w25.heap.size wqr1o9_1 wqr1o9_2 := ext_bel qqr1o9_1.size hxqr1o9_2
      refine ⟨fun _ => hStqr1o9_1, ?_⟩
      have qqr1o9_12 := RowKit.Below.trans qqr1o9_1 hStqr1o9_1
      refine x_only 10 rfl (by kernel_rfl) ?_; intro wqr1o10_1 hxqr1o10_1
      replace h17 := h17.ext hxqr1o10_1
      replace h26 := h26.ext hxqr1o10_1
      replace hqr1o7_1 := hqr1o7_1.ext hxqr1o10_1
      replace hqr1o9_1 := hqr1o9_1.ext hxqr1o10_1
      have hEqr1o10_1 := Ext.trans hEqr1o9_2 hxqr1o10_1
      have qqr1o10_1 := bel_step qqr1o9_12 hxqr1o10_1
      refine o_append ha rfl sl39 rfl rfl rfl hqr1o7_1 hqr1o9_1.src (Nq.nil _) hlqr1o10_1 ?_; clear ha a; intro vqr1o10_1 wqr1o10_2 bqr1o10_1 hqr1o10_1 hcqr1o10_1 hbqr1o10_1 a ha
      replace hqr1o10_1 : Ow Rp.int 2 true wqr1o10_2 [] bqr1o10_1 vqr1o10_1 _ := hqr1o10_1
      have qqr1o10_2 := Nq.appY qqr1o7_3 h17.fpb hbqr1o10_1
      have qqr1o10_3 := Nq.appX qqr1o7_4 (Nq.nil _) hbqr1o10_1 h17.blt
      have qqr1o10_4 := Nq.appY qqr1o7_5 h26.fpb hbqr1o10_1
      have qqr1o10_5 := Nq.appX qqr1o7_6 (Nq.nil _) hbqr1o10_1 h26.blt
      have qqr1o10_6 := Nq.appY qqr1o9_8 hqr1o9_1.fpb hbqr1o10_1
      have qqr1o10_7 := Nq.appX qqr1o9_7 (Nq.nil _) hbqr1o10_1 hqr1o9_1.blt
      have qqr1o10_8 := Zn.appD qqr1o7_8 hbqr1o10_1 hEqr1o10_1
      have qqr1o10_9 := Zn.appB qqr1o7_2 hbqr1o10_1 qqr1o10_1
      replace h17 := h17.nq hcqr1o10_1 qqr1o7_3
      replace h26 := h26.nq hcqr1o10_1 qqr1o7_5
      replace hqr1o9_1 := hqr1o9_1.nq hcqr1o10_1 qqr1o9_8
      have hEqr1o10_2 := Ext.then hEqr1o10_1 hcqr1o10_1 (Zn.bl qqr1o7_8)
      refine wpList_nil (e_sq ?_)
      have hStqr1o10_1 : RowKit.Below w25.heap.size wqr1o10_1 wqr1o10_2 := chg_bel hcqr1o10_1 qqr1o10_1.size (Zn.bl qqr1o7_2)
      refine ⟨fun _ => hStqr1o10_1, ?_⟩
      have qqr1o10_10 := RowKit.Below.trans qqr1o10_1 hStqr1o10_1
      refine x_only 18 rfl (by kernel_rfl) ?_; intro wqr1o18_1 hxqr1o18_1
      replace h17 := h17.ext hxqr1o18_1
      replace h26 := h26.ext hxqr1o18_1
      replace hqr1o9_1 := hqr1o9_1.ext hxqr1o18_1
      replace hqr1o10_1 := hqr1o10_1.ext hxqr1o18_1
      have hEqr1o18_1 := Ext.trans hEqr1o10_2 hxqr1o18_1
      have qqr1o18_1 := bel_step qqr1o10_10 hxqr1o18_1
      obtain ⟨_, hsqr1o18_1, _⟩ := (hro99.ext hEqr1o18_1).src
      refine o_append ha rfl sl39 rfl rfl rfl hqr1o10_1 (hsqr1o18_1.up scal_int) (Nq.nil _) hlqr1o18_1 ?_; clear ha a; intro vqr1o18_1 wqr1o18_2 bqr1o18_1 hqr1o18_1 hcqr1o18_1 hbqr1o18_1 a ha
      replace hqr1o18_1 : Ow Rp.int 2 true wqr1o18_2 [] bqr1o18_1 vqr1o18_1 _ := hqr1o18_1
      have qqr1o18_2 := Nq.appY qqr1o10_2 h17.fpb hbqr1o18_1
      have qqr1o18_3 := Nq.appX qqr1o10_3 (Nq.nil _) hbqr1o18_1 h17.blt
      have qqr1o18_4 := Nq.appY qqr1o10_4 h26.fpb hbqr1o18_1
      have qqr1o18_5 := Nq.appX qqr1o10_5 (Nq.nil _) hbqr1o18_1 h26.blt
      have qqr1o18_6 := Nq.appY qqr1o10_6 hqr1o9_1.fpb hbqr1o18_1
      have qqr1o18_7 := Nq.appX qqr1o10_7 (Nq.nil _) hbqr1o18_1 hqr1o9_1.blt
      have qqr1o18_8 := Zn.appD qqr1o10_8 hbqr1o18_1 hEqr1o18_1
      have qqr1o18_9 := Zn.appB qqr1o10_9 hbqr1o18_1 qqr1o18_1
      replace h17 := h17.nq hcqr1o18_1 qqr1o10_2
      replace h26 := h26.nq hcqr1o18_1 qqr1o10_4
      replace hqr1o9_1 := hqr1o9_1.nq hcqr1o18_1 qqr1o10_6
      have hEqr1o18_2 := Ext.then hEqr1o18_1 hcqr1o18_1 (Zn.bl qqr1o10_8)
      refine wpList_nil (e_sq ?_)
      have hStqr1o18_1 : RowKit.Below w25.heap.size wqr1o18_1 wqr1o18_2 := chg_bel hcqr1o18_1 qqr1o18_1.size (Zn.bl qqr1o10_9)
      refine ⟨fun _ => hStqr1o18_1, ?_⟩
      have qqr1o18_10 := RowKit.Below.trans qqr1o18_1 hStqr1o18_1
      refine x_g 19 rfl (by kernel_rfl) (want0 _) ha rfl qqr1o18_10 (g_assign rfl) ?_; clear ha a; intro a ha
      refine x_done (by kernel_rfl) ?_; intro w103 hx104
      replace h17 := h17.ext hx104
      replace h26 := h26.ext hx104
      replace hqr1o9_1 := hqr1o9_1.ext hx104
      replace hqr1o18_1 := hqr1o18_1.ext hx104
      have hE105 := Ext.trans hEqr1o18_2 hx104
      replace ha := ha.sub (σ' := [(1, (.int .i64 a1)), (9, v14), (10, vqr1o18_1)]) ⟨rfl, rfl, rfl, trivial⟩; refine e_then ?_; refine wp_seq ?_; refine wp_region_lit ?_; (iterate 3 refine op_g ha rfl (g_move rfl) ?_; clear ha a; intro a ha); obtain ⟨x106, g107, gx108, hF⟩ := idx_some hF
      obtain ⟨p109, cs110, f111, hf112, hpb113, hat114, hr115, hi116⟩ := h17.at g107 gx108
      obtain ⟨v117, rfl, h118⟩ := hr115
      have h118 : Ro Rp.int w103 f111 v117 x106 := h118
      have q120 := (Pv.mono (Pv.ow q22 (q21)) (fun k hk => List.mem_append_right (bl b16) (hf112 k hk)) : Pv (fa0) W.heap.size f111)
      have q121 := Nq.mono qqr1o18_2 (fun k hk => List.mem_append_right (bl b16) (hf112 k hk))
      have q122 := Nq.mono (Ow.ne h17) hf112
      refine op_g ha rfl (hi116.gives sl22 rfl rfl) ?_; clear ha a; intro a ha
      obtain ⟨fp123, h124, hs125⟩ := hqr1o18_1.roF
      have q126 := (Pv.mono (Pv.own qqr1o18_8 (zf_nil _)) hs125 : Pv (fa0) W.heap.size fp123)
      have q127 := Nq.mono qqr1o18_3 hs125
      refine o_storeE (f := fp123) (q := ((xqr1o7_1 ++ ([a3])) ++ ((x78.drop (a2 + 1 : Int).toNat).take (((x78.length : Int) : Int).toNat - (a2 + 1 : Int).toNat)))) ha Tryz.sizeOf39 rfl rfl h124.cells h17 hi116 (Rp.mkR h124) q127 ?_; intro w128 fs129 h130 hc131 hs132
      have q133 := (Pv.set hs132 (q21) (q126) : Pv (fa0) W.heap.size fs129)
      replace h124 := h124.nq hc131 q127
      replace h118 := h118.nq hc131 q122
      have hE134 := Ext.then hE105 hc131 (Zn.bl q22)
      refine wpList_nil ?_; replace ha := ha.sub (σ' := [(9, v14)]) ⟨rfl, trivial⟩; refine e_then ?_; refine wp_seq ?_; refine wp_region_lit ?_; refine op_g ha rfl (g_move rfl) ?_; clear ha a; intro a ha; refine op_g ha rfl (g_assign rfl) ?_; clear ha a; intro a ha; refine wpList_nil ?_; replace ha := ha.sub (σ' := [(8, v14)]) ⟨rfl, trivial⟩; refine e_then ?_; refine wp_ret ?_
      obtain ⟨fp135, h136, hs137⟩ := h130.roF
      obtain rfl := Option.some.inj hF
      exact f_ret1 ha rfl rfl ⟨_, h136, (Pv.mono (Pv.ow q22 (q133)) hs137), hE134⟩
    skip
    replace h17 := h17.ext hxqr1_1
    replace h26 := h26.ext hxqr1_1
    have hEqr1o9_1 := Ext.trans hE35 hxqr1_1
    have qqr1o9_1 := bel_step hS52 hxqr1_1
    refine o_lit1 (o := true) (y := a3) Rp.int ha rfl sl39 rfl rfl rfl ⟨rfl, ha3, rfl⟩ ?_; clear ha a; intro vqr1o9_1 wqr1o9_1 hqr1o9_1 hxqr1o9_1 a ha
    obtain ⟨bqr1o9_1, hbqr1o9_1⟩ : ∃ b : Int, b = wqr1_1.heap.size := ⟨_, rfl⟩; rw [← hbqr1o9_1] at hqr1o9_1
    have qqr1o9_2 := zn_of hbqr1o9_1
    have qqr1o9_3 := Nq.new h17.fpb qqr1o9_2
    have qqr1o9_4 := Nq.madeO qqr1o9_2 h17.blt
    have qqr1o9_5 := Nq.new h26.fpb qqr1o9_2
    have qqr1o9_6 := Nq.madeO qqr1o9_2 h26.blt
    have qqr1o9_7 := Nf.old qqr1o9_2 (zf_nil _) h17.bnd
    have qqr1o9_8 := Zn.upD qqr1o9_2 hEqr1o9_1
    have qqr1o9_9 := Zn.upB qqr1o9_2 qqr1o9_1
    replace h17 := h17.ext hxqr1o9_1
    replace h26 := h26.ext hxqr1o9_1
    have hEqr1o9_2 := Ext.trans hEqr1o9_1 hxqr1o9_1
    refine wpList_nil (e_sq ?_)
    have hStqr1o9_1 : RowKit.Below w25.heap.size wqr1_1 wqr1o9_1 := ext_bel qqr1o9_1.size hxqr1o9_1
    refine ⟨fun _ => hStqr1o9_1, ?_⟩
    have qqr1o9_10 := RowKit.Below.trans qqr1o9_1 hStqr1o9_1
    refine x_only 7 rfl (by kernel_rfl) ?_; intro wqr1o7_1 hxqr1o7_1
    replace h17 := h17.ext hxqr1o7_1
    replace h26 := h26.ext hxqr1o7_1
    replace hqr1o9_1 := hqr1o9_1.ext hxqr1o7_1
    have hEqr1o7_1 := Ext.trans hEqr1o9_2 hxqr1o7_1
    have qqr1o7_1 := bel_step qqr1o9_10 hxqr1o7_1
    refine o_call ha rfl rfl Tryz.call61 (W_spec_l1Copy (hro74.ext hEqr1o7_1) hcqr1o7_1) ?_; clear ha a; rintro vqr1o7_1 wqr1o7_2 ⟨bqr1o7_1, hqr1o7_1, zqr1o7_1, hxqr1o7_2⟩ a ha
    have qqr1o7_2 := Zn.upB zqr1o7_1 qqr1o7_1
    have qqr1o7_3 := Nq.new h17.fpb zqr1o7_1
    have qqr1o7_4 := Nq.madeO zqr1o7_1 h17.blt
    have qqr1o7_5 := Nq.new h26.fpb zqr1o7_1
    have qqr1o7_6 := Nq.madeO zqr1o7_1 h26.blt
    have qqr1o7_7 := Nq.new hqr1o9_1.fpb zqr1o7_1
    have qqr1o7_8 := Nq.madeO zqr1o7_1 hqr1o9_1.blt
    have qqr1o7_9 := Nf.old zqr1o7_1 (zf_nil _) h17.bnd
    replace h17 := h17.ext hxqr1o7_2
    replace h26 := h26.ext hxqr1o7_2
    replace hqr1o9_1 := hqr1o9_1.ext hxqr1o7_2
    have hEqr1o7_2 := Ext.trans hEqr1o7_1 hxqr1o7_2
    have qqr1o7_10 := Zn.upD zqr1o7_1 hEqr1o7_1
    refine wpList_nil (e_sq ?_)
    have hStqr1o7_1 : RowKit.Below w25.heap.size wqr1o7_1 wqr1o7_2 := ext_bel qqr1o7_1.size hxqr1o7_2
    refine ⟨fun _ => hStqr1o7_1, ?_⟩
    have qqr1o7_11 := RowKit.Below.trans qqr1o7_1 hStqr1o7_1
    refine x_only 10 rfl (by kernel_rfl) ?_; intro wqr1o10_1 hxqr1o10_1
    replace h17 := h17.ext hxqr1o10_1
    replace h26 := h26.ext hxqr1o10_1
    replace hqr1o9_1 := hqr1o9_1.ext hxqr1o10_1
    replace hqr1o7_1 := hqr1o7_1.ext hxqr1o10_1
    have hEqr1o10_1 := Ext.trans hEqr1o7_2 hxqr1o10_1
    have qqr1o10_1 := bel_step qqr1o7_11 hxqr1o10_1
    refine o_append ha rfl sl39 rfl rfl rfl hqr1o7_1 hqr1o9_1.src (Nq.nil _) hlqr1o10_1 ?_; clear ha a; intro vqr1o10_1 wqr1o10_2 bqr1o10_1 hqr1o10_1 hcqr1o10_1 hbqr1o10_1 a ha
    replace hqr1o10_1 : Ow Rp.int 2 true wqr1o10_2 [] bqr1o10_1 vqr1o10_1 _ := hqr1o10_1
    have qqr1o10_2 := Nq.appY qqr1o7_3 h17.fpb hbqr1o10_1
    have qqr1o10_3 := Nq.appX qqr1o7_4 (Nq.nil _) hbqr1o10_1 h17.blt
    have qqr1o10_4 := Nq.appY qqr1o7_5 h26.fpb hbqr1o10_1
    have qqr1o10_5 := Nq.appX qqr1o7_6 (Nq.nil _) hbqr1o10_1 h26.blt
    have qqr1o10_6 := Nq.appY qqr1o7_7 hqr1o9_1.fpb hbqr1o10_1
    have qqr1o10_7 := Nq.appX qqr1o7_8 (Nq.nil _) hbqr1o10_1 hqr1o9_1.blt
    have qqr1o10_8 := Zn.appD qqr1o7_10 hbqr1o10_1 hEqr1o10_1
    have qqr1o10_9 := Zn.appB qqr1o7_2 hbqr1o10_1 qqr1o10_1
    replace h17 := h17.nq hcqr1o10_1 qqr1o7_3
    replace h26 := h26.nq hcqr1o10_1 qqr1o7_5
    replace hqr1o9_1 := hqr1o9_1.nq hcqr1o10_1 qqr1o7_7
    have hEqr1o10_2 := Ext.then hEqr1o10_1 hcqr1o10_1 (Zn.bl qqr1o7_10)
    refine wpList_nil (e_sq ?_)
    have hStqr1o10_1 : RowKit.Below w25.heap.size wqr1o10_1 wqr1o10_2 := chg_bel hcqr1o10_1 qqr1o10_1.size (Zn.bl qqr1o7_2)
    refine ⟨fun _ => hStqr1o10_1, ?_⟩
    have qqr1o10_10 := RowKit.Below.trans qqr1o10_1 hStqr1o10_1
    refine x_only 18 rfl (by kernel_rfl) ?_; intro wqr1o18_1 hxqr1o18_1
    replace h17 := h17.ext hxqr1o18_1
    replace h26 := h26.ext hxqr1o18_1
    replace hqr1o9_1 := hqr1o9_1.ext hxqr1o18_1
    replace hqr1o10_1 := hqr1o10_1.ext hxqr1o18_1
    have hEqr1o18_1 := Ext.trans hEqr1o10_2 hxqr1o18_1
    have qqr1o18_1 := bel_step qqr1o10_10 hxqr1o18_1
    obtain ⟨_, hsqr1o18_1, _⟩ := (hro99.ext hEqr1o18_1).src
    refine o_append ha rfl sl39 rfl rfl rfl hqr1o10_1 (hsqr1o18_1.up scal_int) (Nq.nil _) hlqr1o18_1 ?_; clear ha a; intro vqr1o18_1 wqr1o18_2 bqr1o18_1 hqr1o18_1 hcqr1o18_1 hbqr1o18_1 a ha
    replace hqr1o18_1 : Ow Rp.int 2 true wqr1o18_2 [] bqr1o18_1 vqr1o18_1 _ := hqr1o18_1
    have qqr1o18_2 := Nq.appY qqr1o10_2 h17.fpb hbqr1o18_1
    have qqr1o18_3 := Nq.appX qqr1o10_3 (Nq.nil _) hbqr1o18_1 h17.blt
    have qqr1o18_4 := Nq.appY qqr1o10_4 h26.fpb hbqr1o18_1
    have qqr1o18_5 := Nq.appX qqr1o10_5 (Nq.nil _) hbqr1o18_1 h26.blt
    have qqr1o18_6 := Nq.appY qqr1o10_6 hqr1o9_1.fpb hbqr1o18_1
    have qqr1o18_7 := Nq.appX qqr1o10_7 (Nq.nil _) hbqr1o18_1 hqr1o9_1.blt
    have qqr1o18_8 := Zn.appD qqr1o10_8 hbqr1o18_1 hEqr1o18_1
    have qqr1o18_9 := Zn.appB qqr1o10_9 hbqr1o18_1 qqr1o18_1
    replace h17 := h17.nq hcqr1o18_1 qqr1o10_2
    replace h26 := h26.nq hcqr1o18_1 qqr1o10_4
    replace hqr1o9_1 := hqr1o9_1.nq hcqr1o18_1 qqr1o10_6
    have hEqr1o18_2 := Ext.then hEqr1o18_1 hcqr1o18_1 (Zn.bl qqr1o10_8)
    refine wpList_nil (e_sq ?_)
    have hStqr1o18_1 : RowKit.Below w25.heap.size wqr1o18_1 wqr1o18_2 := chg_bel hcqr1o18_1 qqr1o18_1.size (Zn.bl qqr1o10_9)
    refine ⟨fun _ => hStqr1o18_1, ?_⟩
    have qqr1o18_10 := RowKit.Below.trans qqr1o18_1 hStqr1o18_1
    refine x_g 19 rfl (by kernel_rfl) (want0 _) ha rfl qqr1o18_10 (g_assign rfl) ?_; clear ha a; intro a ha
    refine x_done (by kernel_rfl) ?_; intro w103 hx104
    replace h17 := h17.ext hx104
    replace h26 := h26.ext hx104
    replace hqr1o9_1 := hqr1o9_1.ext hx104
    replace hqr1o18_1 := hqr1o18_1.ext hx104
    have hE105 := Ext.trans hEqr1o18_2 hx104
    replace ha := ha.sub (σ' := [(1, (.int .i64 a1)), (9, v14), (10, vqr1o18_1)]) ⟨rfl, rfl, rfl, trivial⟩; refine e_then ?_; refine wp_seq ?_; refine wp_region_lit ?_; (iterate 3 refine op_g ha rfl (g_move rfl) ?_; clear ha a; intro a ha); obtain ⟨x106, g107, gx108, hF⟩ := idx_some hF
    obtain ⟨p109, cs110, f111, hf112, hpb113, hat114, hr115, hi116⟩ := h17.at g107 gx108
    obtain ⟨v117, rfl, h118⟩ := hr115
    have h118 : Ro Rp.int w103 f111 v117 x106 := h118
    have q120 := (Pv.mono (Pv.ow q22 (q21)) (fun k hk => List.mem_append_right (bl b16) (hf112 k hk)) : Pv (fa0) W.heap.size f111)
    have q121 := Nq.mono qqr1o18_2 (fun k hk => List.mem_append_right (bl b16) (hf112 k hk))
    have q122 := Nq.mono (Ow.ne h17) hf112
    refine op_g ha rfl (hi116.gives sl22 rfl rfl) ?_; clear ha a; intro a ha
    obtain ⟨fp123, h124, hs125⟩ := hqr1o18_1.roF
    have q126 := (Pv.mono (Pv.own qqr1o18_8 (zf_nil _)) hs125 : Pv (fa0) W.heap.size fp123)
    have q127 := Nq.mono qqr1o18_3 hs125
    refine o_storeE (f := fp123) (q := ((xqr1o7_1 ++ ([a3])) ++ ((x78.drop (a2 + 1 : Int).toNat).take (((x78.length : Int) : Int).toNat - (a2 + 1 : Int).toNat)))) ha Tryz.sizeOf39 rfl rfl h124.cells h17 hi116 (Rp.mkR h124) q127 ?_; intro w128 fs129 h130 hc131 hs132
    have q133 := (Pv.set hs132 (q21) (q126) : Pv (fa0) W.heap.size fs129)
    replace h124 := h124.nq hc131 q127
    replace h118 := h118.nq hc131 q122
    have hE134 := Ext.then hE105 hc131 (Zn.bl q22)
    refine wpList_nil ?_; replace ha := ha.sub (σ' := [(9, v14)]) ⟨rfl, trivial⟩; refine e_then ?_; refine wp_seq ?_; refine wp_region_lit ?_; refine op_g ha rfl (g_move rfl) ?_; clear ha a; intro a ha; refine op_g ha rfl (g_assign rfl) ?_; clear ha a; intro a ha; refine wpList_nil ?_; replace ha := ha.sub (σ' := [(8, v14)]) ⟨rfl, trivial⟩; refine e_then ?_; refine wp_ret ?_
    obtain ⟨fp135, h136, hs137⟩ := h130.roF
    obtain rfl := Option.some.inj hF
    exact f_ret1 ha rfl rfl ⟨_, h136, (Pv.mono (Pv.ow q22 (q133)) hs137), hE134⟩
  replace hF := if_f hp51 hF; refine wp_skip ?_; refine e_then ?_; refine wp_seq ?_; refine wp_region_lit ?_; (iterate 3 refine op_g ha rfl (g_move rfl) ?_; clear ha a; intro a ha); obtain ⟨x138, g139, gx140, hF⟩ := idx_some hF
  obtain ⟨p141, cs142, f143, hf144, hpb145, hat146, hr147, hi148⟩ := h17.at g139 gx140
  obtain ⟨v149, rfl, h150⟩ := hr147
  have h150 : Ro Rp.int w25 f143 v149 x138 := h150
  have q152 := (Pv.mono (Pv.ow q22 (q21)) (fun k hk => List.mem_append_right (bl b16) (hf144 k hk)) : Pv (fa0) W.heap.size f143)
  have q153 := Nq.mono q31 (fun k hk => List.mem_append_right (bl b16) (hf144 k hk))
  have q154 := Nq.mono (Ow.ne h17) hf144
  refine op_g ha rfl (hi148.gives sl22 rfl rfl) ?_; clear ha a; intro a ha
  obtain ⟨fp155, h156, hs157⟩ := h26.roF
  have q158 := (Pv.mono (Pv.own q34 (zf_nil _)) hs157 : Pv (fa0) W.heap.size fp155)
  have q159 := Nq.mono q32 hs157
  refine o_storeE (f := fp155) (q := [a3]) ha Tryz.sizeOf39 rfl rfl h156.cells h17 hi148 (Rp.mkR h156) q159 ?_; intro w160 fs161 h162 hc163 hs164
  have q165 := (Pv.set hs164 (q21) (q158) : Pv (fa0) W.heap.size fs161)
  replace h156 := h156.nq hc163 q159
  replace h150 := h150.nq hc163 q154
  have hE166 := Ext.then hE35 hc163 (Zn.bl q22)
  refine wpList_nil ?_; replace ha := ha.sub (σ' := [(9, v14)]) ⟨rfl, trivial⟩; refine e_then ?_; refine wp_seq ?_; refine wp_region_lit ?_; refine op_g ha rfl (g_move rfl) ?_; clear ha a; intro a ha; refine op_g ha rfl (g_assign rfl) ?_; clear ha a; intro a ha; refine wpList_nil ?_; replace ha := ha.sub (σ' := [(8, v14)]) ⟨rfl, trivial⟩; refine e_then ?_; refine wp_ret ?_
  obtain ⟨fp167, h168, hs169⟩ := h162.roF
  obtain rfl := Option.some.inj hF
  exact f_ret1 ha rfl rfl ⟨_, h168, (Pv.mono (Pv.ow q22 (q165)) hs169), hE166⟩
set_option maxHeartbeats 2000000 in
theorem W_spec_l22Search_step {rc : (List (List Int)) → (List (List Int)) → Int → (List (List Int)) → Option (Int × (List (List Int)))} (ih : ∀ {W : World} {va0 : Value} {fa0 : List Nat} {a0 : (List (List Int))} (ha0 : Ro (Rp.sl 2 Rp.int) W fa0 va0 a0) {va1 : Value} {fa1 : List Nat} {a1 : (List (List Int))} (ha1 : Ro (Rp.sl 2 Rp.int) W fa1 va1 a1) {a2_0 : Int} (ha2_0 : InI a2_0) {va2_1 : Value} {fa2_1 : List Nat} {a2_1 : (List (List Int))} (ha2_1 : Ro (Rp.sl 2 Rp.int) W fa2_1 va2_1 a2_1) {r : (Int × (List (List Int)))} (hF : rc a0 a1 a2_0 a2_1 = some r),
    Calls Tryz.prog 28 [va0, va1, .agg #[.int .i64 a2_0, va2_1]].toArray W (Ret fun u w' => ∃ (u_0 : Value) (u_1 : Value) (fp_u_1 : List Nat), u = .agg #[u_0, u_1] ∧ (u_0 = .int .i64 r.1 ∧ InI r.1) ∧ Ro (Rp.sl 2 Rp.int) w' fp_u_1 u_1 r.2 ∧ Pv (fa0 ++ fa1 ++ fa2_1) W.heap.size fp_u_1 ∧ Ext W w')) {W : World} {va0 : Value} {fa0 : List Nat} {a0 : (List (List Int))} (ha0 : Ro (Rp.sl 2 Rp.int) W fa0 va0 a0) {va1 : Value} {fa1 : List Nat} {a1 : (List (List Int))} (ha1 : Ro (Rp.sl 2 Rp.int) W fa1 va1 a1) {a2_0 : Int} (ha2_0 : InI a2_0) {va2_1 : Value} {fa2_1 : List Nat} {a2_1 : (List (List Int))} (ha2_1 : Ro (Rp.sl 2 Rp.int) W fa2_1 va2_1 a2_1) {r : (Int × (List (List Int)))} (hF : F_spec_l22Search_body rc a0 a1 a2_0 a2_1 = some r) :
    Calls Tryz.prog 28 [va0, va1, .agg #[.int .i64 a2_0, va2_1]].toArray W (Ret fun u w' => ∃ (u_0 : Value) (u_1 : Value) (fp_u_1 : List Nat), u = .agg #[u_0, u_1] ∧ (u_0 = .int .i64 r.1 ∧ InI r.1) ∧ Ro (Rp.sl 2 Rp.int) w' fp_u_1 u_1 r.2 ∧ Pv (fa0 ++ fa1 ++ fa2_1) W.heap.size fp_u_1 ∧ Ext W w') := by
  refine f_enter Tryz.func28 rfl Tryz.ntmps28 rfl ?_
  intro a ha
  replace ha : Fr 102 [(0, va0), (1, va1), (2, (.agg #[(.int .i64 a2_0), va2_1]))] a := ha
  have hE : Chg [] W W := Chg.refl _ _
  unfold F_spec_l22Search_body at hF
  refine wp_seq ?_; refine wp_region_lit ?_
  refine o_box ha rfl rfl rfl ?_; clear ha a; intro b1 w2 hB3 hx4 hlo5 a ha
  have q6 := Zn.one hlo5
  have q7 := Zn.upD q6 hE
  have hE8 := Ext.trans hE hx4
  refine o_alloc (cs := [(.int .i64 0), (.slice none 0 0)]) ha rfl Tryz.zeroValue41 rfl ?_; clear ha a; intro b9 w10 hB11 hx12 hlo13 a ha
  have q14 := Zn.one hlo13
  have q15 := Nq.new hB3.fpb q14
  have q16 := Nq.made1 hlo13 hB3.bi
  have q17 := Zn.upD q14 hE8
  replace hB3 := hB3.ext hx12
  have hE18 := Ext.trans hE8 hx12
  refine wpList_nil ?_; replace ha := ha.sub (σ' := [(0, va0), (1, va1), (5, (.pointer (some ⟨b1, 0, none⟩))), (6, (.pointer (some ⟨b9, 0, none⟩)))]) ⟨rfl, rfl, rfl, rfl, trivial⟩; refine e_then ?_; refine wp_seq ?_; refine wp_seq ?_; refine wp_region_lit ?_; refine op_g ha rfl (g_move rfl) ?_; clear ha a; intro a ha; obtain ⟨x19, hc20, hF⟩ := cal_some hF
  refine o_call ha rfl rfl Tryz.call42 (W_spec_l22Twice (ha1.ext hE18) hc20) ?_; clear ha a; rintro v21 w22 ⟨⟨rfl, hI24⟩, hx23⟩ a ha
  replace hB3 := hB3.ext hx23
  replace hB11 := hB11.ext hx23
  have hE25 := Ext.trans hE18 hx23
  refine op_g ha rfl (g_neq rfl rfl) ?_; clear ha a; intro a ha; refine wpList_nil ?_; replace ha := ha.sub (σ' := [(0, va0), (1, va1), (5, (.pointer (some ⟨b1, 0, none⟩))), (6, (.pointer (some ⟨b9, 0, none⟩))), (15, (.bool (decide (x19 ≠ 0))))]) ⟨rfl, rfl, rfl, rfl, rfl, trivial⟩; refine e_then ?_; refine c_cond (x19 ≠ 0) ha rfl (decide_eq_true_iff) (fun hp26 => ?_) (fun hp26 => ?_)
  · replace hF := if_t hp26 hF
    refine wp_seq ?_; refine wp_region_lit ?_; refine op_g ha rfl (g_loadA (cs := [(.int .i64 a2_0), va2_1]) Tryz.isAgg41 Tryz.sizeOf41 rfl (by simp) hB3.all) ?_; clear ha a; intro a ha
    refine o_storeA (vs := [(.int .i64 a2_0), va2_1]) ha hB11 Tryz.sizeOf41 rfl rfl (by intro c hc; simp only [List.mem_cons, List.not_mem_nil, or_false] at hc; rcases hc with hc | hc <;> subst hc <;> first | rfl | exact rfl | exact ha2_1.oneC) rfl ?_; intro w27 hB28 hc29
    replace hc29 := hc29.bl
    replace hB28 : Bx w27 b9 [(.int .i64 a2_0), va2_1] 41 := hB28
    replace hB3 := hB3.nq hc29 q15
    have hE30 := Ext.then hE25 hc29 (Zn.bl q17)
    refine wpList_nil ?_; replace ha := ha.sub (σ' := [(6, (.pointer (some ⟨b9, 0, none⟩)))]) ⟨rfl, trivial⟩; refine e_then ?_; refine wp_ret ?_; refine e_then_ret ?_; obtain rfl := Option.some.inj hF
    exact f_retC (cs := [(.int .i64 a2_0), va2_1]) ha rfl rfl Tryz.isAgg41 Tryz.sizeOf41 hB28 ⟨_, _, _, rfl, ⟨rfl, ha2_0⟩, (ha2_1.ext hE30), (Pv.par (fun _ h => List.mem_append_right _ h)), hE30⟩
  replace hF := if_f hp26 hF; refine wp_skip ?_; refine e_then ?_; refine wp_seq ?_; refine wp_seq ?_; refine wp_region_lit ?_; refine op_g ha rfl (g_move rfl) ?_; clear ha a; intro a ha; refine op_g ha rfl (g_lenR sl22.und ha0 rfl) ?_; clear ha a; intro a ha; refine op_g ha rfl (g_eql rfl rfl) ?_; clear ha a; intro a ha; refine wpList_nil ?_; replace ha := ha.sub (σ' := [(0, va0), (1, va1), (5, (.pointer (some ⟨b1, 0, none⟩))), (6, (.pointer (some ⟨b9, 0, none⟩))), (19, (.bool (decide ((a0.length : Int) = 0))))]) ⟨rfl, rfl, rfl, rfl, rfl, trivial⟩; refine e_then ?_; refine c_cond ((a0.length : Int) = 0) ha rfl (decide_eq_true_iff) (fun hp31 => ?_) (fun hp31 => ?_)
  · replace hF := if_t hp31 hF
    refine wp_seq ?_; refine wp_region_lit ?_
    refine o_lit0 (Rp.sl 2 Rp.int) ha rfl sl22 ?_; clear ha a; intro v32 w33 h34 hx35 a ha
    obtain ⟨b37, hb37⟩ : ∃ b : Int, b = w22.heap.size := ⟨_, rfl⟩; rw [← hb37] at h34
    have q38 := zn_of hb37
    have q39 := Nq.new hB3.fpb q38
    have q40 := Nq.madeO q38 hB3.bi
    have q41 := Nq.new hB11.fpb q38
    have q42 := Nq.madeO q38 hB11.bi
    have q43 := Zn.upD q38 hE25
    replace hB3 := hB3.ext hx35
    replace hB11 := hB11.ext hx35
    have hE44 := Ext.trans hE25 hx35
    refine op_g ha rfl (g_assign rfl) ?_; clear ha a; intro a ha; refine wpList_nil ?_; replace ha := ha.sub (σ' := [(1, va1), (5, (.pointer (some ⟨b1, 0, none⟩))), (6, (.pointer (some ⟨b9, 0, none⟩))), (7, v32)]) ⟨rfl, rfl, rfl, rfl, trivial⟩; refine e_then ?_; refine wp_seq ?_; refine wp_seq ?_; refine wp_region_lit ?_; refine op_g ha rfl (g_assign rfl) ?_; clear ha a; intro a ha; refine wpList_nil ?_; replace ha := ha.sub (σ' := [(1, va1), (5, (.pointer (some ⟨b1, 0, none⟩))), (6, (.pointer (some ⟨b9, 0, none⟩))), (7, v32), (8, (.int .i64 0))]) ⟨rfl, rfl, rfl, rfl, rfl, trivial⟩; refine e_then ?_
    obtain ⟨o292, ho293, hK294⟩ := bnd_some hF
    obtain ⟨n295, hn296⟩ := lp_some ho293; clear ho293
    refine c_loop (fun a w => ∃ (l283 : (List (List Int))) (fs280 : List Nat) (v284 : Value) (b285 : Int), Fr 102 [(5, (.pointer (some ⟨b1, 0, none⟩))), (6, (.pointer (some ⟨b9, 0, none⟩))), (7, v284)] a ∧ Chg [] W w ∧ Bx w b1 [(.int .i64 a2_0), va2_1] 41 ∧ Zn W (b1 : Int) ∧ Bx w b9 [(.int .i64 0), (.slice none 0 0)] 41 ∧ Zn W (b9 : Int) ∧ Ow (Rp.sl 2 Rp.int) 39 true w fs280 b285 v284 l283 ∧ Zn W b285 ∧ (∀ k ∈ fs280, W.heap.size ≤ k) ∧ (bl b285 ++ fs280).Nodup ∧ Nq ([b1]) (b9 : Int) ∧ Nq ([b1]) b285 ∧ Nq ([b9]) (b1 : Int) ∧ Nq ([b9]) b285 ∧ Nq (bl b285 ++ fs280) (b1 : Int) ∧ Nq (bl b285 ++ fs280) (b9 : Int) ∧ o292 = .inl l283) (fun n a w => ∃ (l167 : (List (List Int))) (i170 : Int) (fs164 : List Nat) (v168 : Value) (b169 : Int), Fr 102 [(1, va1), (5, (.pointer (some ⟨b1, 0, none⟩))), (6, (.pointer (some ⟨b9, 0, none⟩))), (7, v168), (8, (.int .i64 i170))] a ∧ Chg [] W w ∧ InI i170 ∧ Bx w b1 [(.int .i64 a2_0), va2_1] 41 ∧ Zn W (b1 : Int) ∧ Bx w b9 [(.int .i64 0), (.slice none 0 0)] 41 ∧ Zn W (b9 : Int) ∧ Ow (Rp.sl 2 Rp.int) 39 true w fs164 b169 v168 l167 ∧ Zn W b169 ∧ (∀ k ∈ fs164, W.heap.size ≤ k) ∧ (bl b169 ++ fs164).Nodup ∧ Nq ([b1]) (b9 : Int) ∧ Nq ([b1]) b169 ∧ Nq ([b9]) (b1 : Int) ∧ Nq ([b9]) b169 ∧ Nq (bl b169 ++ fs164) (b1 : Int) ∧ Nq (bl b169 ++ fs164) (b9 : Int) ∧ lpN (fun s => F_spec_l22Search_l1 a1 s.1 s.2) n (l167, i170) = some o292) n295 ⟨([] : (List (List Int))), 0, [], v32, b37, ha.sub ⟨rfl, rfl, rfl, rfl, rfl, trivial⟩, hE44, (show InI 0 from by decide), hB3, q7, hB11, q17, h34, q43, (zf_nil _), (bl_nodup b37), q15, q39, q16, q41, q40, q42, hn296⟩ ?_ ?_
    · rintro m300 a w156 ⟨l167, i170, fs164, v168, b169, ha, hE178, hI171, hB157, z158, hB159, z160, h162, z163, zf165, nd166, q172, q173, q174, q175, q176, q177, hF⟩
      cases m300 with
      | zero => exact (lpN_zero hF).elim
      | succ m300 =>
        obtain ⟨z299, hF, hN298⟩ := lpN_succ hF
        have hF : F_spec_l22Search_l1 a1 l167 i170 = some z299 := hF; unfold F_spec_l22Search_l1 at hF
        refine wp_seq ?_; refine wp_seq ?_; refine wp_region_lit ?_; (iterate 2 refine op_g ha rfl (g_move rfl) ?_; clear ha a; intro a ha); refine op_g ha rfl (g_lenR sl22.und ha1 rfl) ?_; clear ha a; intro a ha; refine op_g ha rfl (g_lss rfl rfl) ?_; clear ha a; intro a ha; refine wpList_nil ?_; replace ha := ha.sub (σ' := [(1, va1), (5, (.pointer (some ⟨b1, 0, none⟩))), (6, (.pointer (some ⟨b9, 0, none⟩))), (7, v168), (8, (.int .i64 i170)), (24, (.bool (decide (i170 < (a1.length : Int)))))]) ⟨rfl, rfl, rfl, rfl, rfl, rfl, trivial⟩; refine e_then ?_; refine c_cond (i170 < (a1.length : Int)) ha rfl (decide_eq_true_iff) (fun hp301 => ?_) (fun hp301 => ?_)
        · replace hF := if_t hp301 hF
          refine wp_skip ?_; refine e_then ?_; refine wp_seq ?_; refine wp_block ?_; refine wp_region_lit ?_; (iterate 3 refine op_g ha rfl (g_move rfl) ?_; clear ha a; intro a ha); obtain ⟨x302, g303, gx304, hF⟩ := idx_some hF
          obtain ⟨p305, cs306, f307, hf308, hpb309, hat310, hr311, hi312⟩ := ha1.at g303 gx304
          obtain ⟨v313, rfl, h314⟩ := hr311
          have h314 : Ro Rp.int W f307 v313 x302 := h314
          have q316 := (Pv.mono (Pv.par (fun _ h => List.mem_append_left _ (List.mem_append_right _ h))) hf308 : Pv (fa0 ++ fa1 ++ fa2_1) W.heap.size f307)
          refine op_g ha rfl (hi312.gives sl22 rfl rfl) ?_; clear ha a; intro a ha; refine op_g ha rfl (g_load0 hE178 Tryz.isAgg39 rfl hat310.one) ?_; clear ha a; intro a ha; obtain ⟨x317, hc318, hF⟩ := cal_some hF
          refine o_call ha rfl rfl Tryz.call43 (W_spec_l22First (h314.ext hE178) hc318) ?_; clear ha a; rintro v319 w320 ⟨b322, h323, z324, hx321⟩ a ha
          have q326 := Nq.new hB157.fpb z324
          have q327 := Nq.madeO z324 hB157.bi
          have q328 := Nq.new hB159.fpb z324
          have q329 := Nq.madeO z324 hB159.bi
          have q330 := Nq.new h162.fpb z324
          have q331 := Nq.madeO z324 h162.blt
          have q332 := Nf.old z324 (zf_nil _) h162.bnd
          replace hB157 := hB157.ext hx321
          replace hB159 := hB159.ext hx321
          replace h162 := h162.ext hx321
          have hE333 := Ext.trans hE178 hx321
          have q334 := Zn.upD z324 hE178
          refine o_lit1 (o := true) (y := x317) (Rp.sl 2 Rp.int) ha rfl sl22 rfl rfl h323.cells (Rp.mkO h323) ?_; clear ha a; intro v335 w336 h337 hx338 a ha
          obtain ⟨b340, hb340⟩ : ∃ b : Int, b = w320.heap.size := ⟨_, rfl⟩; rw [← hb340] at h337
          have q341 := zn_of hb340
          have q342 := zf_mv q334 (zf_nil _)
          have q343 := dj_of q330
          have q344 := Nq.new hB157.fpb q341
          have q345 := Nq.append (Nq.madeL q341 hB157.bi) q327
          have q346 := Nq.new hB159.fpb q341
          have q347 := Nq.append (Nq.madeL q341 hB159.bi) q329
          have q348 := Nq.new h162.fpb q341
          have q349 := Nq.append (Nq.madeL q341 h162.blt) q331
          have q350 := Zn.upD q341 hE333
          have q351 := nd_lit (bl_nodup b322) h323.fpb hb340
          replace hB157 := hB157.ext hx338
          replace hB159 := hB159.ext hx338
          replace h162 := h162.ext hx338
          have hE352 := Ext.trans hE333 hx338
          obtain ⟨hl353, hF⟩ := app_some hF
          have q354 := Nq.right q349
          refine o_append ha rfl sl22 rfl rfl rfl h162 h337.src q354 hl353 ?_; clear ha a; intro v355 w356 b357 h358 hc359 hb360 a ha
          replace h358 : Ow (Rp.sl 2 Rp.int) 39 true w356 (fs164 ++ (bl b322 ++ [])) b357 v355 _ := h358
          have q362 := zf_app zf165 q342
          have q363 := nd_app nd166 (bl_nodup b322) q343 hb360 h162.fpb h337.bnd
          have q364 := Nq.appY q173 hB157.fpb hb360
          have q365 := Nq.appX q176 (Nq.right q345) hb360 hB157.bi
          have q366 := Nq.appY q175 hB159.fpb hb360
          have q367 := Nq.appX q177 (Nq.right q347) hb360 hB159.bi
          have q368 := Zn.appD z163 hb360 hE352
          replace hB157 := hB157.nq hc359 q173
          replace hB159 := hB159.nq hc359 q175
          have hE369 := Ext.then hE352 hc359 (Zn.bl z163)
          refine op_g ha rfl (g_assign rfl) ?_; clear ha a; intro a ha; refine wpList_nil ?_; replace ha := ha.sub (σ' := [(1, va1), (5, (.pointer (some ⟨b1, 0, none⟩))), (6, (.pointer (some ⟨b9, 0, none⟩))), (7, v355), (8, (.int .i64 i170))]) ⟨rfl, rfl, rfl, rfl, rfl, trivial⟩; refine e_blk ?_; refine e_then ?_; refine wp_region_lit ?_; refine op_g ha rfl (g_move rfl) ?_; clear ha a; intro a ha; obtain ⟨hI370, hF⟩ := ck_some hF; refine op_g ha rfl (g_add rfl rfl hI370) ?_; clear ha a; intro a ha; refine op_g ha rfl (g_assign rfl) ?_; clear ha a; intro a ha; refine wpList_nil ?_; replace ha := ha.sub (σ' := [(1, va1), (5, (.pointer (some ⟨b1, 0, none⟩))), (6, (.pointer (some ⟨b9, 0, none⟩))), (7, v355), (8, (.int .i64 (i170 + 1)))]) ⟨rfl, rfl, rfl, rfl, rfl, trivial⟩
          refine e_lq ?_; obtain rfl := Option.some.inj hF
          exact ⟨_, Nat.lt_succ_self _, (l167 ++ ([x317])), i170 + 1, (fs164 ++ (bl b322 ++ [])), v355, b357, ha.sub ⟨rfl, rfl, rfl, rfl, rfl, trivial⟩, hE369, hI370, hB157, z158, hB159, z160, h358, q368, q362, q363, q172, q364, q174, q366, q365, q367, hN298⟩
        replace hF := if_f hp301 hF; refine wp_exit ?_; refine e_then_exit ?_; refine e_lq_eq ?_; obtain rfl := Option.some.inj hF
        exact ⟨l167, fs164, v168, b169, ha.sub ⟨rfl, rfl, rfl, trivial⟩, hE178, hB157, z158, hB159, z160, h162, z163, zf165, nd166, q172, q173, q174, q175, q176, q177, (LK_inr hN298).symm⟩
    rintro a w272 ⟨l283, fs280, v284, b285, ha, hE297, hB273, z274, hB275, z276, h278, z279, zf281, nd282, q286, q287, q288, q289, q290, q291, rfl⟩
    have hF : F_spec_l22Search_k2 a2_0 a2_1 l283 = some _ := hK294; clear hK294; unfold F_spec_l22Search_k2 at hF
    refine e_then ?_; refine wp_seq ?_; refine wp_region_lit ?_; refine op_g ha rfl (g_field0 st41_0 rfl) ?_; clear ha a; intro a ha; refine op_g ha rfl (g_load Tryz.isAgg2 rfl (hB273.cell rfl)) ?_; clear ha a; intro a ha; obtain ⟨hI372, hF⟩ := ck_some hF; refine op_g ha rfl (g_add rfl rfl hI372) ?_; clear ha a; intro a ha; refine op_g ha rfl (g_field0 st41_0 rfl) ?_; clear ha a; intro a ha
    refine o_storeB ha hB273 Tryz.sizeOf2 rfl rfl rfl rfl (Nat.le_of_ble_eq_true rfl) ?_; intro w374 hB375 hc376
    replace hc376 := hc376.bl
    replace hB375 : Bx w374 b1 [(.int .i64 (a2_0 + 1)), va2_1] 41 := hB375
    replace hB275 := hB275.nq hc376 q288
    replace h278 := h278.nq hc376 q290
    have hE377 := Ext.then hE297 hc376 (Zn.bl z274)
    refine wpList_nil ?_; replace ha := ha.sub (σ' := [(5, (.pointer (some ⟨b1, 0, none⟩))), (6, (.pointer (some ⟨b9, 0, none⟩))), (7, v284)]) ⟨rfl, rfl, rfl, trivial⟩; refine e_then ?_; refine wp_seq ?_; refine wp_seq ?_; refine wp_region_lit ?_; refine op_g ha rfl (g_field0 st41_1 rfl) ?_; clear ha a; intro a ha; refine op_g ha rfl (g_load Tryz.isAgg22 rfl (hB375.cell rfl)) ?_; clear ha a; intro a ha; refine op_g ha rfl (g_lenR sl22.und ha2_1 rfl) ?_; clear ha a; intro a ha; refine op_g ha rfl (g_eql rfl rfl) ?_; clear ha a; intro a ha; refine op_g ha rfl (g_move rfl) ?_; clear ha a; intro a ha
    by_cases hp378 : (a2_1.length : Int) = 0
    · replace hF := if_t hp378 hF
      rw [show (decide ((a2_1.length : Int) = 0)) = true from (decide_eq_true_iff).2 hp378] at ha
      (iterate 4 refine op_unwant ha rfl (yields ha rfl rfl) rfl ?_; clear ha a; intro a ha); refine op_g ha rfl (g_pick rfl rfl) ?_; clear ha a; intro a ha; refine wpList_nil ?_; replace ha := ha.sub (σ' := [(5, (.pointer (some ⟨b1, 0, none⟩))), (6, (.pointer (some ⟨b9, 0, none⟩))), (7, v284), (48, (.bool true))]) ⟨rfl, rfl, rfl, rfl, trivial⟩; refine e_then ?_; refine c_true ha rfl ?_; refine wp_region_lit ?_; refine op_g ha rfl (g_move rfl) ?_; clear ha a; intro a ha; refine op_g ha rfl (g_field0 st41_1 rfl) ?_; clear ha a; intro a ha
      refine o_storeB ha hB375 Tryz.sizeOf22 rfl rfl h278.cells h278.oneC (Nat.le_of_ble_eq_true rfl) ?_; intro w379 hB380 hc381
      replace hc381 := hc381.bl
      replace hB380 : Bx w379 b1 [(.int .i64 (a2_0 + 1)), v284] 41 := hB380
      replace hB275 := hB275.nq hc381 q288
      replace h278 := h278.nq hc381 q290
      have hE382 := Ext.then hE377 hc381 (Zn.bl z274)
      refine wpList_nil ?_; replace ha := ha.sub (σ' := [(5, (.pointer (some ⟨b1, 0, none⟩))), (6, (.pointer (some ⟨b9, 0, none⟩)))]) ⟨rfl, rfl, trivial⟩; refine e_then ?_; refine wp_seq ?_; refine wp_region_lit ?_; refine op_g ha rfl (g_loadA (cs := [(.int .i64 (a2_0 + 1)), v284]) Tryz.isAgg41 Tryz.sizeOf41 rfl (by simp) hB380.all) ?_; clear ha a; intro a ha
      refine o_storeA (vs := [(.int .i64 (a2_0 + 1)), v284]) ha hB275 Tryz.sizeOf41 rfl rfl (by intro c hc; simp only [List.mem_cons, List.not_mem_nil, or_false] at hc; rcases hc with hc | hc <;> subst hc <;> first | rfl | exact rfl | exact h278.oneC) rfl ?_; intro w383 hB384 hc385
      replace hc385 := hc385.bl
      replace hB384 : Bx w383 b9 [(.int .i64 (a2_0 + 1)), v284] 41 := hB384
      replace hB380 := hB380.nq hc385 q286
      replace h278 := h278.nq hc385 q291
      have hE386 := Ext.then hE382 hc385 (Zn.bl z276)
      refine wpList_nil ?_; replace ha := ha.sub (σ' := [(6, (.pointer (some ⟨b9, 0, none⟩)))]) ⟨rfl, trivial⟩; refine e_then ?_; refine wp_ret ?_; refine e_then_ret ?_
      obtain ⟨fp387, h388, hs389⟩ := h278.roF
      obtain rfl := Option.some.inj hF
      exact f_retC (cs := [(.int .i64 (a2_0 + 1)), v284]) ha rfl rfl Tryz.isAgg41 Tryz.sizeOf41 hB384 ⟨_, _, _, rfl, ⟨rfl, hI372⟩, h388, (Pv.mono (Pv.own z279 zf281) hs389), hE386⟩
    replace hF := if_f hp378 hF
    rw [show (decide ((a2_1.length : Int) = 0)) = false from b_false (decide_eq_true_iff) hp378] at ha
    refine op_want (yields ha rfl rfl) ?_; refine op_g ha rfl (g_move rfl) ?_; clear ha a; intro a ha; refine op_want (yields ha rfl rfl) ?_; refine op_g ha rfl (g_field0 st41_1 rfl) ?_; clear ha a; intro a ha; refine op_want (yields ha rfl rfl) ?_; refine op_g ha rfl (g_load Tryz.isAgg22 rfl (hB375.cell rfl)) ?_; clear ha a; intro a ha; refine op_want (yields ha rfl rfl) ?_
    obtain ⟨fp390, hro391, hs392⟩ := h278.roF
    obtain ⟨x393, hc394, hF⟩ := cal_some hF
    refine o_call ha rfl rfl Tryz.call44 (W_spec_l22Less hro391 (ha2_1.ext hE377) hc394) ?_; clear ha a; rintro v395 w396 ⟨rfl, hx397⟩ a ha
    replace hB375 := hB375.ext hx397
    replace hB275 := hB275.ext hx397
    replace h278 := h278.ext hx397
    have hE398 := Ext.trans hE377 hx397
    refine op_g ha rfl (g_pick rfl rfl) ?_; clear ha a; intro a ha; refine wpList_nil ?_; replace ha := ha.sub (σ' := [(5, (.pointer (some ⟨b1, 0, none⟩))), (6, (.pointer (some ⟨b9, 0, none⟩))), (7, v284), (48, (.bool x393))]) ⟨rfl, rfl, rfl, rfl, trivial⟩; refine e_then ?_; refine c_cond (x393 = true) ha rfl (Iff.rfl) (fun hp399 => ?_) (fun hp399 => ?_)
    · replace hF := if_t hp399 hF
      refine wp_region_lit ?_; refine op_g ha rfl (g_move rfl) ?_; clear ha a; intro a ha; refine op_g ha rfl (g_field0 st41_1 rfl) ?_; clear ha a; intro a ha
      refine o_storeB ha hB375 Tryz.sizeOf22 rfl rfl h278.cells h278.oneC (Nat.le_of_ble_eq_true rfl) ?_; intro w400 hB401 hc402
      replace hc402 := hc402.bl
      replace hB401 : Bx w400 b1 [(.int .i64 (a2_0 + 1)), v284] 41 := hB401
      replace hB275 := hB275.nq hc402 q288
      replace h278 := h278.nq hc402 q290
      have hE403 := Ext.then hE398 hc402 (Zn.bl z274)
      refine wpList_nil ?_; replace ha := ha.sub (σ' := [(5, (.pointer (some ⟨b1, 0, none⟩))), (6, (.pointer (some ⟨b9, 0, none⟩)))]) ⟨rfl, rfl, trivial⟩; refine e_then ?_; refine wp_seq ?_; refine wp_region_lit ?_; refine op_g ha rfl (g_loadA (cs := [(.int .i64 (a2_0 + 1)), v284]) Tryz.isAgg41 Tryz.sizeOf41 rfl (by simp) hB401.all) ?_; clear ha a; intro a ha
      refine o_storeA (vs := [(.int .i64 (a2_0 + 1)), v284]) ha hB275 Tryz.sizeOf41 rfl rfl (by intro c hc; simp only [List.mem_cons, List.not_mem_nil, or_false] at hc; rcases hc with hc | hc <;> subst hc <;> first | rfl | exact rfl | exact h278.oneC) rfl ?_; intro w404 hB405 hc406
      replace hc406 := hc406.bl
      replace hB405 : Bx w404 b9 [(.int .i64 (a2_0 + 1)), v284] 41 := hB405
      replace hB401 := hB401.nq hc406 q286
      replace h278 := h278.nq hc406 q291
      have hE407 := Ext.then hE403 hc406 (Zn.bl z276)
      refine wpList_nil ?_; replace ha := ha.sub (σ' := [(6, (.pointer (some ⟨b9, 0, none⟩)))]) ⟨rfl, trivial⟩; refine e_then ?_; refine wp_ret ?_; refine e_then_ret ?_
      obtain ⟨fp408, h409, hs410⟩ := h278.roF
      obtain rfl := Option.some.inj hF
      exact f_retC (cs := [(.int .i64 (a2_0 + 1)), v284]) ha rfl rfl Tryz.isAgg41 Tryz.sizeOf41 hB405 ⟨_, _, _, rfl, ⟨rfl, hI372⟩, h409, (Pv.mono (Pv.own z279 zf281) hs410), hE407⟩
    replace hF := if_f hp399 hF; refine wp_skip ?_; refine e_then ?_; refine wp_seq ?_; refine wp_region_lit ?_; refine op_g ha rfl (g_loadA (cs := [(.int .i64 (a2_0 + 1)), va2_1]) Tryz.isAgg41 Tryz.sizeOf41 rfl (by simp) hB375.all) ?_; clear ha a; intro a ha
    refine o_storeA (vs := [(.int .i64 (a2_0 + 1)), va2_1]) ha hB275 Tryz.sizeOf41 rfl rfl (by intro c hc; simp only [List.mem_cons, List.not_mem_nil, or_false] at hc; rcases hc with hc | hc <;> subst hc <;> first | rfl | exact rfl | exact ha2_1.oneC) rfl ?_; intro w411 hB412 hc413
    replace hc413 := hc413.bl
    replace hB412 : Bx w411 b9 [(.int .i64 (a2_0 + 1)), va2_1] 41 := hB412
    replace hB375 := hB375.nq hc413 q286
    replace h278 := h278.nq hc413 q291
    have hE414 := Ext.then hE398 hc413 (Zn.bl z276)
    refine wpList_nil ?_; replace ha := ha.sub (σ' := [(6, (.pointer (some ⟨b9, 0, none⟩)))]) ⟨rfl, trivial⟩; refine e_then ?_; refine wp_ret ?_; refine e_then_ret ?_; obtain rfl := Option.some.inj hF
    exact f_retC (cs := [(.int .i64 (a2_0 + 1)), va2_1]) ha rfl rfl Tryz.isAgg41 Tryz.sizeOf41 hB412 ⟨_, _, _, rfl, ⟨rfl, hI372⟩, (ha2_1.ext hE414), (Pv.par (fun _ h => List.mem_append_right _ h)), hE414⟩
  replace hF := if_f hp31 hF; refine wp_skip ?_; refine e_then ?_; refine wp_seq ?_; refine wp_region_lit ?_; refine op_g ha rfl (g_move rfl) ?_; clear ha a; intro a ha; obtain ⟨x415, g416, gx417, hF⟩ := idx_some hF
  obtain ⟨p418, cs419, f420, hf421, hpb422, hat423, hr424, hi425⟩ := ha0.at g416 gx417
  obtain ⟨v426, rfl, h427⟩ := hr424
  have h427 : Ro Rp.int W f420 v426 x415 := h427
  have q429 := (Pv.mono (Pv.par (fun _ h => List.mem_append_left _ (List.mem_append_left _ h))) hf421 : Pv (fa0 ++ fa1 ++ fa2_1) W.heap.size f420)
  refine op_g ha rfl (hi425.gives sl22 rfl rfl) ?_; clear ha a; intro a ha; refine op_g ha rfl (g_load0 hE25 Tryz.isAgg39 rfl hat423.one) ?_; clear ha a; intro a ha; obtain ⟨x430, g431, gx432, hF⟩ := idx_some hF
  obtain ⟨p433, cs434, f435, hf436, hpb437, hat438, hr439, hi440⟩ := h427.at g431 gx432
  obtain ⟨rfl, hI441, rfl⟩ := hr439
  refine op_g ha rfl (hi440.gives sl39 rfl rfl) ?_; clear ha a; intro a ha; refine op_g ha rfl (g_load0 hE25 Tryz.isAgg2 rfl hat438.one) ?_; clear ha a; intro a ha; refine op_g ha rfl (g_assign rfl) ?_; clear ha a; intro a ha; refine wpList_nil ?_; replace ha := ha.sub (σ' := [(0, va0), (1, va1), (5, (.pointer (some ⟨b1, 0, none⟩))), (6, (.pointer (some ⟨b9, 0, none⟩))), (9, (.int .i64 x430))]) ⟨rfl, rfl, rfl, rfl, rfl, trivial⟩; refine e_then ?_; refine wp_seq ?_; refine wp_region_lit ?_; refine op_g ha rfl (g_move rfl) ?_; clear ha a; intro a ha; obtain ⟨x442, g443, gx444, hF⟩ := idx_some hF
  obtain ⟨p445, cs446, f447, hf448, hpb449, hat450, hr451, hi452⟩ := ha0.at g443 gx444
  obtain ⟨v453, rfl, h454⟩ := hr451
  have h454 : Ro Rp.int W f447 v453 x442 := h454
  have q456 := (Pv.mono (Pv.par (fun _ h => List.mem_append_left _ (List.mem_append_left _ h))) hf448 : Pv (fa0 ++ fa1 ++ fa2_1) W.heap.size f447)
  refine op_g ha rfl (hi452.gives sl22 rfl rfl) ?_; clear ha a; intro a ha; refine op_g ha rfl (g_load0 hE25 Tryz.isAgg39 rfl hat450.one) ?_; clear ha a; intro a ha; obtain ⟨x457, g458, gx459, hF⟩ := idx_some hF
  obtain ⟨p460, cs461, f462, hf463, hpb464, hat465, hr466, hi467⟩ := h454.at g458 gx459
  obtain ⟨rfl, hI468, rfl⟩ := hr466
  refine op_g ha rfl (hi467.gives sl39 rfl rfl) ?_; clear ha a; intro a ha; refine op_g ha rfl (g_load0 hE25 Tryz.isAgg2 rfl hat465.one) ?_; clear ha a; intro a ha; refine op_g ha rfl (g_assign rfl) ?_; clear ha a; intro a ha; refine wpList_nil ?_; replace ha := ha.sub (σ' := [(0, va0), (1, va1), (5, (.pointer (some ⟨b1, 0, none⟩))), (6, (.pointer (some ⟨b9, 0, none⟩))), (9, (.int .i64 x430)), (10, (.int .i64 x457))]) ⟨rfl, rfl, rfl, rfl, rfl, rfl, trivial⟩; refine e_then ?_; refine wp_seq ?_; refine wp_seq ?_; refine wp_region_lit ?_; refine op_g ha rfl (g_assign rfl) ?_; clear ha a; intro a ha
  refine wpList_nil ?_; replace ha := ha.sub (σ' := [(0, va0), (1, va1), (5, (.pointer (some ⟨b1, 0, none⟩))), (6, (.pointer (some ⟨b9, 0, none⟩))), (9, (.int .i64 x430)), (10, (.int .i64 x457)), (11, (.int .i64 0))]) ⟨rfl, rfl, rfl, rfl, rfl, rfl, rfl, trivial⟩; refine e_then ?_; obtain ⟨o2888, ho2889, hK2890⟩ := bnd_some hF
  obtain ⟨n2891, hn2892⟩ := lp_some ho2889; clear ho2889
  have h2893 := ha2_1.ext hE25
  have q2895 := Nq.new ha2_1.bnd q7
  have q2896 := Nq.new ha2_1.bnd q17
  refine c_loop (fun a w => ∃ (i2874 : Int) (l2878 : (List (List Int))) (v2879 : Value) (f2880 : List Nat), Fr 102 [(5, (.pointer (some ⟨b1, 0, none⟩))), (6, (.pointer (some ⟨b9, 0, none⟩)))] a ∧ Chg [] W w ∧ InI i2874 ∧ Bx w b1 [(.int .i64 i2874), v2879] 41 ∧ Zn W (b1 : Int) ∧ Ro (Rp.sl 2 Rp.int) w f2880 v2879 l2878 ∧ Pv (fa0 ++ fa1 ++ fa2_1) W.heap.size f2880 ∧ Bx w b9 [(.int .i64 0), (.slice none 0 0)] 41 ∧ Zn W (b9 : Int) ∧ Nq ([b1]) (b9 : Int) ∧ Nq (f2880) (b1 : Int) ∧ Nq (f2880) (b9 : Int) ∧ Nq ([b9]) (b1 : Int) ∧ o2888 = .inl (i2874, l2878)) (fun n a w => ∃ (i1666 : Int) (l1670 : (List (List Int))) (i1676 : Int) (v1671 : Value) (f1672 : List Nat), Fr 102 [(0, va0), (1, va1), (5, (.pointer (some ⟨b1, 0, none⟩))), (6, (.pointer (some ⟨b9, 0, none⟩))), (9, (.int .i64 x430)), (10, (.int .i64 x457)), (11, (.int .i64 i1676))] a ∧ Chg [] W w ∧ InI i1666 ∧ InI i1676 ∧ Bx w b1 [(.int .i64 i1666), v1671] 41 ∧ Zn W (b1 : Int) ∧ Ro (Rp.sl 2 Rp.int) w f1672 v1671 l1670 ∧ Pv (fa0 ++ fa1 ++ fa2_1) W.heap.size f1672 ∧ Bx w b9 [(.int .i64 0), (.slice none 0 0)] 41 ∧ Zn W (b9 : Int) ∧ Nq ([b1]) (b9 : Int) ∧ Nq (f1672) (b1 : Int) ∧ Nq (f1672) (b9 : Int) ∧ Nq ([b9]) (b1 : Int) ∧ lpN (fun s => F_spec_l22Search_l3 a0 a1 rc x430 x457 s.1 s.2.1 s.2.2) n (i1666, l1670, i1676) = some o2888) n2891 ⟨a2_0, a2_1, 0, va2_1, fa2_1, ha.sub ⟨rfl, rfl, rfl, rfl, rfl, rfl, rfl, trivial⟩, hE25, ha2_0, (show InI 0 from by decide), hB3, q7, h2893, (Pv.par (fun _ h => List.mem_append_right _ h)), hB11, q17, q15, q2895, q2896, q16, hn2892⟩ ?_ ?_
  · rintro m2900 a w1663 ⟨i1666, l1670, i1676, v1671, f1672, ha, hE1682, hI1667, hI1677, hB1664, z1665, h1669, pv1673, hB1674, z1675, q1678, q1679, q1680, q1681, hF⟩
    cases m2900 with
    | zero => exact (lpN_zero hF).elim
    | succ m2900 =>
      obtain ⟨z2899, hF, hN2898⟩ := lpN_succ hF
      have hF : F_spec_l22Search_l3 a0 a1 rc x430 x457 i1666 l1670 i1676 = some z2899 := hF; unfold F_spec_l22Search_l3 at hF
      refine wp_seq ?_; refine wp_seq ?_; refine wp_region_lit ?_; refine op_g ha rfl (g_move rfl) ?_; clear ha a; intro a ha; refine op_g ha rfl (g_eql rfl rfl) ?_; clear ha a; intro a ha; refine op_g ha rfl (g_move rfl) ?_; clear ha a; intro a ha
      by_cases hp2901 : i1676 = 0
      · replace hF := if_t hp2901 hF
        rw [show (decide (i1676 = 0)) = true from (decide_eq_true_iff).2 hp2901] at ha
        (iterate 7 refine op_unwant ha rfl (yields ha rfl rfl) rfl ?_; clear ha a; intro a ha); refine op_g ha rfl (g_pick rfl rfl) ?_; clear ha a; intro a ha; refine wpList_nil ?_; replace ha := ha.sub (σ' := [(0, va0), (1, va1), (5, (.pointer (some ⟨b1, 0, none⟩))), (6, (.pointer (some ⟨b9, 0, none⟩))), (9, (.int .i64 x430)), (10, (.int .i64 x457)), (11, (.int .i64 i1676)), (72, (.bool true))]) ⟨rfl, rfl, rfl, rfl, rfl, rfl, rfl, rfl, trivial⟩; refine e_then ?_; refine c_true ha rfl ?_; refine wp_skip ?_; refine e_then ?_; refine wp_seq ?_; refine wp_block ?_; refine wp_seq ?_; refine wp_region_lit ?_
        refine op_g ha rfl (g_assign rfl) ?_; clear ha a; intro a ha; refine wpList_nil ?_; replace ha := ha.sub (σ' := [(0, va0), (1, va1), (5, (.pointer (some ⟨b1, 0, none⟩))), (6, (.pointer (some ⟨b9, 0, none⟩))), (9, (.int .i64 x430)), (10, (.int .i64 x457)), (11, (.int .i64 i1676)), (12, (.int .i64 0))]) ⟨rfl, rfl, rfl, rfl, rfl, rfl, rfl, rfl, trivial⟩; refine e_then ?_; obtain ⟨o3308, ho3309, hK3310⟩ := bnd_some hF
        obtain ⟨n3311, hn3312⟩ := lp_some ho3309; clear ho3309
        refine c_loop (fun a w => ∃ (i3294 : Int) (l3298 : (List (List Int))) (v3299 : Value) (f3300 : List Nat), Fr 102 [(0, va0), (1, va1), (5, (.pointer (some ⟨b1, 0, none⟩))), (6, (.pointer (some ⟨b9, 0, none⟩))), (9, (.int .i64 x430)), (10, (.int .i64 x457)), (11, (.int .i64 i1676))] a ∧ Chg [] W w ∧ InI i3294 ∧ Bx w b1 [(.int .i64 i3294), v3299] 41 ∧ Zn W (b1 : Int) ∧ Ro (Rp.sl 2 Rp.int) w f3300 v3299 l3298 ∧ Pv (fa0 ++ fa1 ++ fa2_1) W.heap.size f3300 ∧ Bx w b9 [(.int .i64 0), (.slice none 0 0)] 41 ∧ Zn W (b9 : Int) ∧ Nq ([b1]) (b9 : Int) ∧ Nq (f3300) (b1 : Int) ∧ Nq (f3300) (b9 : Int) ∧ Nq ([b9]) (b1 : Int) ∧ o3308 = .inl (i3294, l3298)) (fun n a w => ∃ (i3096 : Int) (l3100 : (List (List Int))) (i3106 : Int) (v3101 : Value) (f3102 : List Nat), Fr 102 [(0, va0), (1, va1), (5, (.pointer (some ⟨b1, 0, none⟩))), (6, (.pointer (some ⟨b9, 0, none⟩))), (9, (.int .i64 x430)), (10, (.int .i64 x457)), (11, (.int .i64 i1676)), (12, (.int .i64 i3106))] a ∧ Chg [] W w ∧ InI i3096 ∧ InI i3106 ∧ Bx w b1 [(.int .i64 i3096), v3101] 41 ∧ Zn W (b1 : Int) ∧ Ro (Rp.sl 2 Rp.int) w f3102 v3101 l3100 ∧ Pv (fa0 ++ fa1 ++ fa2_1) W.heap.size f3102 ∧ Bx w b9 [(.int .i64 0), (.slice none 0 0)] 41 ∧ Zn W (b9 : Int) ∧ Nq ([b1]) (b9 : Int) ∧ Nq (f3102) (b1 : Int) ∧ Nq (f3102) (b9 : Int) ∧ Nq ([b9]) (b1 : Int) ∧ lpN (fun s => F_spec_l22Search_l4 a0 a1 rc x430 x457 i1676 s.1 s.2.1 s.2.2) n (i3096, l3100, i3106) = some o3308) n3311 ⟨i1666, l1670, 0, v1671, f1672, ha.sub ⟨rfl, rfl, rfl, rfl, rfl, rfl, rfl, rfl, trivial⟩, hE1682, hI1667, (show InI 0 from by decide), hB1664, z1665, h1669, (pv1673), hB1674, z1675, q1678, q1679, q1680, q1681, hn3312⟩ ?_ ?_
        · rintro m3316 a w3093 ⟨i3096, l3100, i3106, v3101, f3102, ha, hE3112, hI3097, hI3107, hB3094, z3095, h3099, pv3103, hB3104, z3105, q3108, q3109, q3110, q3111, hF⟩
          cases m3316 with
          | zero => exact (lpN_zero hF).elim
          | succ m3316 =>
            obtain ⟨z3315, hF, hN3314⟩ := lpN_succ hF
            have hF : F_spec_l22Search_l4 a0 a1 rc x430 x457 i1676 i3096 l3100 i3106 = some z3315 := hF; unfold F_spec_l22Search_l4 at hF
            refine wp_seq ?_; refine wp_seq ?_; refine wp_region_lit ?_; refine op_g ha rfl (g_move rfl) ?_; clear ha a; intro a ha; refine op_g ha rfl (g_eql rfl rfl) ?_; clear ha a; intro a ha; refine op_g ha rfl (g_move rfl) ?_; clear ha a; intro a ha
            by_cases hp3317 : i3106 = 0
            · replace hF := if_t hp3317 hF
              rw [show (decide (i3106 = 0)) = true from (decide_eq_true_iff).2 hp3317] at ha
              (iterate 7 refine op_unwant ha rfl (yields ha rfl rfl) rfl ?_; clear ha a; intro a ha); refine op_g ha rfl (g_pick rfl rfl) ?_; clear ha a; intro a ha; refine wpList_nil ?_; replace ha := ha.sub (σ' := [(0, va0), (1, va1), (5, (.pointer (some ⟨b1, 0, none⟩))), (6, (.pointer (some ⟨b9, 0, none⟩))), (9, (.int .i64 x430)), (10, (.int .i64 x457)), (11, (.int .i64 i1676)), (12, (.int .i64 i3106)), (85, (.bool true))]) ⟨rfl, rfl, rfl, rfl, rfl, rfl, rfl, rfl, rfl, trivial⟩; refine e_then ?_; refine c_true ha rfl ?_; refine wp_skip ?_; refine e_then ?_; refine wp_seq ?_; refine wp_block ?_
              refine d_region [0, 1, 2, 3, 4, 5, 6, 7, 8, 9, 10, 11, 12] hmix ?_; refine u_g 0 rfl (by kernel_rfl) (want0 _) ha rfl (g_move rfl) ?_; clear ha a; intro a ha; obtain ⟨hb3318a, hb3318b, hb3318c, hF⟩ := slc_some hF
              obtain ⟨v3319, fp3320, hrun3321, hro3322, hsub3323⟩ := ha0.slice (lo := (some (.int .i64 1))) (hi := none) (i := 1) (j := (a0.length : Int)) sl22 (.inr ⟨_, rfl⟩) (.inl ⟨rfl, rfl⟩) ⟨hb3318a, hb3318b, hb3318c⟩
              have q3325 := (Pv.mono (Pv.par (fun _ h => List.mem_append_left _ (List.mem_append_left _ h))) hsub3323 : Pv (fa0 ++ fa1 ++ fa2_1) W.heap.size fp3320)
              refine u_g 1 rfl (by kernel_rfl) (want0 _) ha rfl (g_slice sl22.und rfl rfl rfl hrun3321) ?_; clear ha a; intro a ha; refine u_g 2 rfl (by kernel_rfl) (want0 _) ha rfl (g_move rfl) ?_; clear ha a; intro a ha; refine u_g 3 rfl (by kernel_rfl) (want0 _) ha rfl (g_move rfl) ?_; clear ha a; intro a ha; refine u_g 4 rfl (by kernel_rfl) (want0 _) ha rfl (g_move rfl) ?_; clear ha a; intro a ha; refine u_g 5 rfl (by kernel_rfl) (want0 _) ha rfl (g_move rfl) ?_; clear ha a; intro a ha; refine u_g 7 rfl (by kernel_rfl) (want0 _) ha rfl (g_move rfl) ?_; clear ha a; intro a ha; refine u_g 8 rfl (by kernel_rfl) (want0 _) ha rfl (g_move rfl) ?_; clear ha a; intro a ha
              refine u_g 9 rfl (by kernel_rfl) (want0 _) ha rfl (g_move rfl) ?_; clear ha a; intro a ha; refine u_g 11 rfl (by kernel_rfl) (want0 _) ha rfl (g_loadA (cs := [(.int .i64 i3096), v3101]) Tryz.isAgg41 Tryz.sizeOf41 rfl (by simp) hB3094.all) ?_; clear ha a; intro a ha
              refine u_only 6 rfl (by kernel_rfl) ?_; intro w3326 hx3327
              replace hB3094 := hB3094.ext hx3327
              replace h3099 := h3099.ext hx3327
              replace hB3104 := hB3104.ext hx3327
              have hE3328 := Ext.trans hE3112 hx3327
              obtain ⟨x3329, hc3330, hF⟩ := cal_some hF
              refine o_call ha rfl rfl Tryz.call45 (W_spec_l22Put (ha1.ext hE3328) hI441 hI1677 hI468 hc3330) ?_; clear ha a; rintro v3331 w3332 ⟨fp3334, h3335, pv3336, hx3333⟩ a ha
              have q3338 := Nq.rd pv3336 (Nq.new ha1.bnd z3095) hB3094.bi
              have q3339 := Nq.rd pv3336 (Nq.new ha1.bnd z3105) hB3104.bi
              have q3340 := (Pv.call pv3336 (Pv.par (fun _ h => List.mem_append_left _ (List.mem_append_right _ h))) hE3328.size : Pv (fa0 ++ fa1 ++ fa2_1) W.heap.size fp3334)
              replace hB3094 := hB3094.ext hx3333
              replace h3099 := h3099.ext hx3333
              replace hB3104 := hB3104.ext hx3333
              have hE3341 := Ext.trans hE3328 hx3333
              refine wpList_nil (e_sq ?_)
              refine ⟨fun _ => hx3333, ?_⟩
              refine u_only 10 rfl (by kernel_rfl) ?_; intro w3342 hx3343
              replace hB3094 := hB3094.ext hx3343
              replace h3099 := h3099.ext hx3343
              replace hB3104 := hB3104.ext hx3343
              replace h3335 := h3335.ext hx3343
              have hE3344 := Ext.trans hE3341 hx3343
              obtain ⟨x3345, hc3346, hF⟩ := cal_some hF
              refine o_call ha rfl rfl Tryz.call45 (W_spec_l22Put h3335 hI468 hI3107 hI441 hc3346) ?_; clear ha a; rintro v3347 w3348 ⟨fp3350, h3351, pv3352, hx3349⟩ a ha
              have q3354 := Nq.rd pv3352 q3338 hB3094.bi
              have q3355 := Nq.rd pv3352 q3339 hB3104.bi
              have q3356 := (Pv.call pv3352 (q3340) hE3344.size : Pv (fa0 ++ fa1 ++ fa2_1) W.heap.size fp3350)
              replace hB3094 := hB3094.ext hx3349
              replace h3099 := h3099.ext hx3349
              replace hB3104 := hB3104.ext hx3349
              replace h3335 := h3335.ext hx3349
              have hE3357 := Ext.trans hE3344 hx3349
              refine wpList_nil (e_sq ?_)
              refine ⟨fun _ => hx3349, ?_⟩
              refine u_only 12 rfl (by kernel_rfl) ?_; intro w3358 hx3359
              replace hB3094 := hB3094.ext hx3359
              replace h3099 := h3099.ext hx3359
              replace hB3104 := hB3104.ext hx3359
              replace h3335 := h3335.ext hx3359
              replace h3351 := h3351.ext hx3359
              have hE3360 := Ext.trans hE3357 hx3359
              obtain ⟨x3361, hc3362, hF⟩ := cal_some hF
              refine o_call ha rfl rfl Tryz.call28 (ih (hro3322.ext hE3360) h3351 hI3097 h3099 hc3362) ?_; clear ha a; rintro v3363 w3364 ⟨u3366, u3367, fp3369, rfl, ⟨rfl, hI3368⟩, h3370, pv3371, hx3365⟩ a ha
              have q3373 := Nq.rd pv3371 (Nq.append (Nq.append (Nq.new hro3322.bnd z3095) q3354) q3109) hB3094.bi
              have q3374 := Nq.rd pv3371 (Nq.append (Nq.append (Nq.new hro3322.bnd z3105) q3355) q3110) hB3104.bi
              have q3375 := (Pv.call pv3371 (Pv.app (Pv.app (q3325) (q3356)) (pv3103)) hE3360.size : Pv (fa0 ++ fa1 ++ fa2_1) W.heap.size fp3369)
              replace hB3094 := hB3094.ext hx3365
              replace h3099 := h3099.ext hx3365
              replace hB3104 := hB3104.ext hx3365
              replace h3335 := h3335.ext hx3365
              replace h3351 := h3351.ext hx3365
              have hE3376 := Ext.trans hE3360 hx3365
              refine wpList_nil (e_sq ?_)
              refine ⟨fun _ => hx3365, ?_⟩
              refine u_only 13 rfl (by kernel_rfl) ?_; intro w3377 hx3378
              replace hB3094 := hB3094.ext hx3378
              replace h3099 := h3099.ext hx3378
              replace hB3104 := hB3104.ext hx3378
              replace h3335 := h3335.ext hx3378
              replace h3351 := h3351.ext hx3378
              replace h3370 := h3370.ext hx3378
              have hE3379 := Ext.trans hE3376 hx3378
              refine o_storeA (vs := [(.int .i64 x3361.1), u3367]) ha hB3094 Tryz.sizeOf41 rfl rfl (by intro c hc; simp only [List.mem_cons, List.not_mem_nil, or_false] at hc; rcases hc with hc | hc <;> subst hc <;> first | rfl | exact rfl | exact h3370.oneC) rfl ?_; intro w3380 hB3381 hc3382
              replace hc3382 := hc3382.bl
              replace hB3381 : Bx w3380 b1 [(.int .i64 x3361.1), u3367] 41 := hB3381
              replace h3099 := h3099.nq hc3382 q3109
              replace hB3104 := hB3104.nq hc3382 q3111
              replace h3335 := h3335.nq hc3382 q3338
              replace h3351 := h3351.nq hc3382 q3354
              replace h3370 := h3370.nq hc3382 q3373
              have hE3383 := Ext.then hE3379 hc3382 (Zn.bl z3095)
              refine wpList_nil (e_sq ?_)
              refine ⟨fun h => absurd h (by decide), ?_⟩
              refine u_done (by kernel_rfl) ?_; intro w3384 hx3385
              replace hB3381 := hB3381.ext hx3385
              replace h3099 := h3099.ext hx3385
              replace hB3104 := hB3104.ext hx3385
              replace h3335 := h3335.ext hx3385
              replace h3351 := h3351.ext hx3385
              replace h3370 := h3370.ext hx3385
              have hE3386 := Ext.trans hE3383 hx3385
              replace ha := ha.sub (σ' := [(0, va0), (1, va1), (5, (.pointer (some ⟨b1, 0, none⟩))), (6, (.pointer (some ⟨b9, 0, none⟩))), (9, (.int .i64 x430)), (10, (.int .i64 x457)), (11, (.int .i64 i1676)), (12, (.int .i64 i3106))]) ⟨rfl, rfl, rfl, rfl, rfl, rfl, rfl, rfl, trivial⟩; refine e_blk ?_; refine e_then ?_; refine wp_region_lit ?_; refine op_g ha rfl (g_move rfl) ?_; clear ha a; intro a ha; obtain ⟨hI3387, hF⟩ := ck_some hF; refine op_g ha rfl (g_add rfl rfl hI3387) ?_; clear ha a; intro a ha; refine op_g ha rfl (g_assign rfl) ?_; clear ha a; intro a ha; refine wpList_nil ?_; replace ha := ha.sub (σ' := [(0, va0), (1, va1), (5, (.pointer (some ⟨b1, 0, none⟩))), (6, (.pointer (some ⟨b9, 0, none⟩))), (9, (.int .i64 x430)), (10, (.int .i64 x457)), (11, (.int .i64 i1676)), (12, (.int .i64 (i3106 + 1)))]) ⟨rfl, rfl, rfl, rfl, rfl, rfl, rfl, rfl, trivial⟩
              refine e_lq ?_; obtain rfl := Option.some.inj hF
              exact ⟨_, Nat.lt_succ_self _, x3361.1, x3361.2, i3106 + 1, u3367, fp3369, ha.sub ⟨rfl, rfl, rfl, rfl, rfl, rfl, rfl, rfl, trivial⟩, hE3386, hI3368, hI3387, hB3381, z3095, h3370, (q3375), hB3104, z3105, q3108, q3373, q3374, q3111, hN3314⟩
            replace hF := if_f hp3317 hF
            rw [show (decide (i3106 = 0)) = false from b_false (decide_eq_true_iff) hp3317] at ha
            refine op_want (yields ha rfl rfl) ?_; refine op_g ha rfl (g_move rfl) ?_; clear ha a; intro a ha; refine op_want (yields ha rfl rfl) ?_; refine op_g ha rfl (g_move rfl) ?_; clear ha a; intro a ha; refine op_want (yields ha rfl rfl) ?_; refine op_g ha rfl (g_move rfl) ?_; clear ha a; intro a ha; refine op_want (yields ha rfl rfl) ?_; obtain ⟨x3389, g3390, gx3391, hF⟩ := idx_some hF
            obtain ⟨p3392, cs3393, f3394, hf3395, hpb3396, hat3397, hr3398, hi3399⟩ := ha1.at g3390 gx3391
            obtain ⟨v3400, rfl, h3401⟩ := hr3398
            have h3401 : Ro Rp.int W f3394 v3400 x3389 := h3401
            have q3403 := (Pv.mono (Pv.par (fun _ h => List.mem_append_left _ (List.mem_append_right _ h))) hf3395 : Pv (fa0 ++ fa1 ++ fa2_1) W.heap.size f3394)
            refine op_g ha rfl (hi3399.gives sl22 rfl rfl) ?_; clear ha a; intro a ha; refine op_want (yields ha rfl rfl) ?_; refine op_g ha rfl (g_load0 hE3112 Tryz.isAgg39 rfl hat3397.one) ?_; clear ha a; intro a ha; refine op_want (yields ha rfl rfl) ?_; refine op_g ha rfl (g_lenR sl39.und h3401 rfl) ?_; clear ha a; intro a ha; refine op_want (yields ha rfl rfl) ?_; refine op_g ha rfl (g_lss rfl rfl) ?_; clear ha a; intro a ha; refine op_g ha rfl (g_pick rfl rfl) ?_; clear ha a; intro a ha; refine wpList_nil ?_; replace ha := ha.sub (σ' := [(0, va0), (1, va1), (5, (.pointer (some ⟨b1, 0, none⟩))), (6, (.pointer (some ⟨b9, 0, none⟩))), (9, (.int .i64 x430)), (10, (.int .i64 x457)), (11, (.int .i64 i1676)), (12, (.int .i64 i3106)), (78, (.int .i64 i3106)), (79, va1), (80, (.int .i64 x457)), (81, (.pointer (some p3392))), (82, v3400), (83, (.int .i64 (x3389.length : Int))), (84, (.bool (decide (i3106 < (x3389.length : Int))))), (85, (.bool (decide (i3106 < (x3389.length : Int)))))]) ⟨rfl, rfl, rfl, rfl, rfl, rfl, rfl, rfl, rfl, rfl, rfl, rfl, rfl, rfl, rfl, rfl, trivial⟩
            refine e_then ?_; refine c_cond (i3106 < (x3389.length : Int)) ha rfl (decide_eq_true_iff) (fun hp3404 => ?_) (fun hp3404 => ?_)
            · replace hF := if_t hp3404 hF
              refine wp_skip ?_; refine e_then ?_; refine wp_seq ?_; refine wp_block ?_; refine d_region [0, 1, 2, 3, 4, 5, 6, 7, 8, 9, 10, 11, 12] hmix ?_; refine u_g 0 rfl (by kernel_rfl) (want0 _) ha rfl (g_move rfl) ?_; clear ha a; intro a ha; obtain ⟨hb3405a, hb3405b, hb3405c, hF⟩ := slc_some hF
              obtain ⟨v3406, fp3407, hrun3408, hro3409, hsub3410⟩ := ha0.slice (lo := (some (.int .i64 1))) (hi := none) (i := 1) (j := (a0.length : Int)) sl22 (.inr ⟨_, rfl⟩) (.inl ⟨rfl, rfl⟩) ⟨hb3405a, hb3405b, hb3405c⟩
              have q3412 := (Pv.mono (Pv.par (fun _ h => List.mem_append_left _ (List.mem_append_left _ h))) hsub3410 : Pv (fa0 ++ fa1 ++ fa2_1) W.heap.size fp3407)
              refine u_g 1 rfl (by kernel_rfl) (want0 _) ha rfl (g_slice sl22.und rfl rfl rfl hrun3408) ?_; clear ha a; intro a ha; refine u_g 2 rfl (by kernel_rfl) (want0 _) ha rfl (g_move rfl) ?_; clear ha a; intro a ha; refine u_g 3 rfl (by kernel_rfl) (want0 _) ha rfl (g_move rfl) ?_; clear ha a; intro a ha; refine u_g 4 rfl (by kernel_rfl) (want0 _) ha rfl (g_move rfl) ?_; clear ha a; intro a ha; refine u_g 5 rfl (by kernel_rfl) (want0 _) ha rfl (g_move rfl) ?_; clear ha a; intro a ha; refine u_g 7 rfl (by kernel_rfl) (want0 _) ha rfl (g_move rfl) ?_; clear ha a; intro a ha; refine u_g 8 rfl (by kernel_rfl) (want0 _) ha rfl (g_move rfl) ?_; clear ha a; intro a ha
              refine u_g 9 rfl (by kernel_rfl) (want0 _) ha rfl (g_move rfl) ?_; clear ha a; intro a ha; refine u_g 11 rfl (by kernel_rfl) (want0 _) ha rfl (g_loadA (cs := [(.int .i64 i3096), v3101]) Tryz.isAgg41 Tryz.sizeOf41 rfl (by simp) hB3094.all) ?_; clear ha a; intro a ha
              refine u_only 6 rfl (by kernel_rfl) ?_; intro w3413 hx3414
              replace hB3094 := hB3094.ext hx3414
              replace h3099 := h3099.ext hx3414
              replace hB3104 := hB3104.ext hx3414
              have hE3415 := Ext.trans hE3112 hx3414
              obtain ⟨x3416, hc3417, hF⟩ := cal_some hF
              refine o_call ha rfl rfl Tryz.call45 (W_spec_l22Put (ha1.ext hE3415) hI441 hI1677 hI468 hc3417) ?_; clear ha a; rintro v3418 w3419 ⟨fp3421, h3422, pv3423, hx3420⟩ a ha
              have q3425 := Nq.rd pv3423 (Nq.new ha1.bnd z3095) hB3094.bi
              have q3426 := Nq.rd pv3423 (Nq.new ha1.bnd z3105) hB3104.bi
              have q3427 := (Pv.call pv3423 (Pv.par (fun _ h => List.mem_append_left _ (List.mem_append_right _ h))) hE3415.size : Pv (fa0 ++ fa1 ++ fa2_1) W.heap.size fp3421)
              replace hB3094 := hB3094.ext hx3420
              replace h3099 := h3099.ext hx3420
              replace hB3104 := hB3104.ext hx3420
              have hE3428 := Ext.trans hE3415 hx3420
              refine wpList_nil (e_sq ?_)
              refine ⟨fun _ => hx3420, ?_⟩
              refine u_only 10 rfl (by kernel_rfl) ?_; intro w3429 hx3430
              replace hB3094 := hB3094.ext hx3430
              replace h3099 := h3099.ext hx3430
              replace hB3104 := hB3104.ext hx3430
              replace h3422 := h3422.ext hx3430
              have hE3431 := Ext.trans hE3428 hx3430
              obtain ⟨x3432, hc3433, hF⟩ := cal_some hF
              refine o_call ha rfl rfl Tryz.call45 (W_spec_l22Put h3422 hI468 hI3107 hI441 hc3433) ?_; clear ha a; rintro v3434 w3435 ⟨fp3437, h3438, pv3439, hx3436⟩ a ha
              have q3441 := Nq.rd pv3439 q3425 hB3094.bi
              have q3442 := Nq.rd pv3439 q3426 hB3104.bi
              have q3443 := (Pv.call pv3439 (q3427) hE3431.size : Pv (fa0 ++ fa1 ++ fa2_1) W.heap.size fp3437)
              replace hB3094 := hB3094.ext hx3436
              replace h3099 := h3099.ext hx3436
              replace hB3104 := hB3104.ext hx3436
              replace h3422 := h3422.ext hx3436
              have hE3444 := Ext.trans hE3431 hx3436
              refine wpList_nil (e_sq ?_)
              refine ⟨fun _ => hx3436, ?_⟩
              refine u_only 12 rfl (by kernel_rfl) ?_; intro w3445 hx3446
              replace hB3094 := hB3094.ext hx3446
              replace h3099 := h3099.ext hx3446
              replace hB3104 := hB3104.ext hx3446
              replace h3422 := h3422.ext hx3446
              replace h3438 := h3438.ext hx3446
              have hE3447 := Ext.trans hE3444 hx3446
              obtain ⟨x3448, hc3449, hF⟩ := cal_some hF
              refine o_call ha rfl rfl Tryz.call28 (ih (hro3409.ext hE3447) h3438 hI3097 h3099 hc3449) ?_; clear ha a; rintro v3450 w3451 ⟨u3453, u3454, fp3456, rfl, ⟨rfl, hI3455⟩, h3457, pv3458, hx3452⟩ a ha
              have q3460 := Nq.rd pv3458 (Nq.append (Nq.append (Nq.new hro3409.bnd z3095) q3441) q3109) hB3094.bi
              have q3461 := Nq.rd pv3458 (Nq.append (Nq.append (Nq.new hro3409.bnd z3105) q3442) q3110) hB3104.bi
              have q3462 := (Pv.call pv3458 (Pv.app (Pv.app (q3412) (q3443)) (pv3103)) hE3447.size : Pv (fa0 ++ fa1 ++ fa2_1) W.heap.size fp3456)
              replace hB3094 := hB3094.ext hx3452
              replace h3099 := h3099.ext hx3452
              replace hB3104 := hB3104.ext hx3452
              replace h3422 := h3422.ext hx3452
              replace h3438 := h3438.ext hx3452
              have hE3463 := Ext.trans hE3447 hx3452
              refine wpList_nil (e_sq ?_)
              refine ⟨fun _ => hx3452, ?_⟩
              refine u_only 13 rfl (by kernel_rfl) ?_; intro w3464 hx3465
              replace hB3094 := hB3094.ext hx3465
              replace h3099 := h3099.ext hx3465
              replace hB3104 := hB3104.ext hx3465
              replace h3422 := h3422.ext hx3465
              replace h3438 := h3438.ext hx3465
              replace h3457 := h3457.ext hx3465
              have hE3466 := Ext.trans hE3463 hx3465
              refine o_storeA (vs := [(.int .i64 x3448.1), u3454]) ha hB3094 Tryz.sizeOf41 rfl rfl (by intro c hc; simp only [List.mem_cons, List.not_mem_nil, or_false] at hc; rcases hc with hc | hc <;> subst hc <;> first | rfl | exact rfl | exact h3457.oneC) rfl ?_; intro w3467 hB3468 hc3469
              replace hc3469 := hc3469.bl
              replace hB3468 : Bx w3467 b1 [(.int .i64 x3448.1), u3454] 41 := hB3468
              replace h3099 := h3099.nq hc3469 q3109
              replace hB3104 := hB3104.nq hc3469 q3111
              replace h3422 := h3422.nq hc3469 q3425
              replace h3438 := h3438.nq hc3469 q3441
              replace h3457 := h3457.nq hc3469 q3460
              have hE3470 := Ext.then hE3466 hc3469 (Zn.bl z3095)
              refine wpList_nil (e_sq ?_)
              refine ⟨fun h => absurd h (by decide), ?_⟩
              refine u_done (by kernel_rfl) ?_; intro w3471 hx3472
              replace hB3468 := hB3468.ext hx3472
              replace h3099 := h3099.ext hx3472
              replace hB3104 := hB3104.ext hx3472
              replace h3422 := h3422.ext hx3472
              replace h3438 := h3438.ext hx3472
              replace h3457 := h3457.ext hx3472
              have hE3473 := Ext.trans hE3470 hx3472
              replace ha := ha.sub (σ' := [(0, va0), (1, va1), (5, (.pointer (some ⟨b1, 0, none⟩))), (6, (.pointer (some ⟨b9, 0, none⟩))), (9, (.int .i64 x430)), (10, (.int .i64 x457)), (11, (.int .i64 i1676)), (12, (.int .i64 i3106)), (78, (.int .i64 i3106)), (79, va1), (80, (.int .i64 x457)), (81, (.pointer (some p3392))), (82, v3400), (83, (.int .i64 (x3389.length : Int))), (84, (.bool (decide (i3106 < (x3389.length : Int)))))]) ⟨rfl, rfl, rfl, rfl, rfl, rfl, rfl, rfl, rfl, rfl, rfl, rfl, rfl, rfl, rfl, trivial⟩; refine e_blk ?_; refine e_then ?_; refine wp_region_lit ?_; refine op_g ha rfl (g_move rfl) ?_; clear ha a; intro a ha
              obtain ⟨hI3474, hF⟩ := ck_some hF; refine op_g ha rfl (g_add rfl rfl hI3474) ?_; clear ha a; intro a ha; refine op_g ha rfl (g_assign rfl) ?_; clear ha a; intro a ha; refine wpList_nil ?_; replace ha := ha.sub (σ' := [(0, va0), (1, va1), (5, (.pointer (some ⟨b1, 0, none⟩))), (6, (.pointer (some ⟨b9, 0, none⟩))), (9, (.int .i64 x430)), (10, (.int .i64 x457)), (11, (.int .i64 i1676)), (12, (.int .i64 (i3106 + 1))), (78, (.int .i64 i3106)), (79, va1), (80, (.int .i64 x457)), (81, (.pointer (some p3392))), (82, v3400), (83, (.int .i64 (x3389.length : Int))), (84, (.bool (decide (i3106 < (x3389.length : Int)))))]) ⟨rfl, rfl, rfl, rfl, rfl, rfl, rfl, rfl, rfl, rfl, rfl, rfl, rfl, rfl, rfl, trivial⟩
              refine e_lq ?_; obtain rfl := Option.some.inj hF
              exact ⟨_, Nat.lt_succ_self _, x3448.1, x3448.2, i3106 + 1, u3454, fp3456, ha.sub ⟨rfl, rfl, rfl, rfl, rfl, rfl, rfl, rfl, trivial⟩, hE3473, hI3455, hI3474, hB3468, z3095, h3457, (q3462), hB3104, z3105, q3108, q3460, q3461, q3111, hN3314⟩
            replace hF := if_f hp3404 hF; refine wp_exit ?_; refine e_then_exit ?_; refine e_lq_eq ?_; obtain rfl := Option.some.inj hF
            exact ⟨i3096, l3100, v3101, f3102, ha.sub ⟨rfl, rfl, rfl, rfl, rfl, rfl, rfl, trivial⟩, hE3112, hI3097, hB3094, z3095, h3099, (pv3103), hB3104, z3105, q3108, q3109, q3110, q3111, (LK_inr hN3314).symm⟩
        rintro a w3291 ⟨i3294, l3298, v3299, f3300, ha, hE3313, hI3295, hB3292, z3293, h3297, pv3301, hB3302, z3303, q3304, q3305, q3306, q3307, rfl⟩
        have hF : F_spec_l22Search_k5 i1676 i3294 l3298 = some _ := hK3310; clear hK3310; unfold F_spec_l22Search_k5 at hF
        refine e_blk ?_; refine e_then ?_; refine wp_region_lit ?_; refine op_g ha rfl (g_move rfl) ?_; clear ha a; intro a ha; obtain ⟨hI3476, hF⟩ := ck_some hF; refine op_g ha rfl (g_add rfl rfl hI3476) ?_; clear ha a; intro a ha; refine op_g ha rfl (g_assign rfl) ?_; clear ha a; intro a ha; refine wpList_nil ?_; replace ha := ha.sub (σ' := [(0, va0), (1, va1), (5, (.pointer (some ⟨b1, 0, none⟩))), (6, (.pointer (some ⟨b9, 0, none⟩))), (9, (.int .i64 x430)), (10, (.int .i64 x457)), (11, (.int .i64 (i1676 + 1)))]) ⟨rfl, rfl, rfl, rfl, rfl, rfl, rfl, trivial⟩; refine e_lq ?_; obtain rfl := Option.some.inj hF
        exact ⟨_, Nat.lt_succ_self _, i3294, l3298, i1676 + 1, v3299, f3300, ha.sub ⟨rfl, rfl, rfl, rfl, rfl, rfl, rfl, trivial⟩, hE3313, hI3295, hI3476, hB3292, z3293, h3297, (pv3301), hB3302, z3303, q3304, q3305, q3306, q3307, hN2898⟩
      replace hF := if_f hp2901 hF
      rw [show (decide (i1676 = 0)) = false from b_false (decide_eq_true_iff) hp2901] at ha
      refine op_want (yields ha rfl rfl) ?_; refine op_g ha rfl (g_move rfl) ?_; clear ha a; intro a ha; refine op_want (yields ha rfl rfl) ?_; refine op_g ha rfl (g_move rfl) ?_; clear ha a; intro a ha; refine op_want (yields ha rfl rfl) ?_; refine op_g ha rfl (g_move rfl) ?_; clear ha a; intro a ha; refine op_want (yields ha rfl rfl) ?_; obtain ⟨x3478, g3479, gx3480, hF⟩ := idx_some hF
      obtain ⟨p3481, cs3482, f3483, hf3484, hpb3485, hat3486, hr3487, hi3488⟩ := ha1.at g3479 gx3480
      obtain ⟨v3489, rfl, h3490⟩ := hr3487
      have h3490 : Ro Rp.int W f3483 v3489 x3478 := h3490
      have q3492 := (Pv.mono (Pv.par (fun _ h => List.mem_append_left _ (List.mem_append_right _ h))) hf3484 : Pv (fa0 ++ fa1 ++ fa2_1) W.heap.size f3483)
      refine op_g ha rfl (hi3488.gives sl22 rfl rfl) ?_; clear ha a; intro a ha; refine op_want (yields ha rfl rfl) ?_; refine op_g ha rfl (g_load0 hE1682 Tryz.isAgg39 rfl hat3486.one) ?_; clear ha a; intro a ha; refine op_want (yields ha rfl rfl) ?_; refine op_g ha rfl (g_lenR sl39.und h3490 rfl) ?_; clear ha a; intro a ha; refine op_want (yields ha rfl rfl) ?_; refine op_g ha rfl (g_lss rfl rfl) ?_; clear ha a; intro a ha; refine op_g ha rfl (g_pick rfl rfl) ?_; clear ha a; intro a ha; refine wpList_nil ?_; replace ha := ha.sub (σ' := [(0, va0), (1, va1), (5, (.pointer (some ⟨b1, 0, none⟩))), (6, (.pointer (some ⟨b9, 0, none⟩))), (9, (.int .i64 x430)), (10, (.int .i64 x457)), (11, (.int .i64 i1676)), (65, (.int .i64 i1676)), (66, va1), (67, (.int .i64 x430)), (68, (.pointer (some p3481))), (69, v3489), (70, (.int .i64 (x3478.length : Int))), (71, (.bool (decide (i1676 < (x3478.length : Int))))), (72, (.bool (decide (i1676 < (x3478.length : Int)))))]) ⟨rfl, rfl, rfl, rfl, rfl, rfl, rfl, rfl, rfl, rfl, rfl, rfl, rfl, rfl, rfl, trivial⟩
      refine e_then ?_; refine c_cond (i1676 < (x3478.length : Int)) ha rfl (decide_eq_true_iff) (fun hp3493 => ?_) (fun hp3493 => ?_)
      · replace hF := if_t hp3493 hF
        refine wp_skip ?_; refine e_then ?_; refine wp_seq ?_; refine wp_block ?_; refine wp_seq ?_; refine wp_region_lit ?_; refine op_g ha rfl (g_assign rfl) ?_; clear ha a; intro a ha; refine wpList_nil ?_; replace ha := ha.sub (σ' := [(0, va0), (1, va1), (5, (.pointer (some ⟨b1, 0, none⟩))), (6, (.pointer (some ⟨b9, 0, none⟩))), (9, (.int .i64 x430)), (10, (.int .i64 x457)), (11, (.int .i64 i1676)), (12, (.int .i64 0)), (65, (.int .i64 i1676)), (66, va1), (67, (.int .i64 x430)), (68, (.pointer (some p3481))), (69, v3489), (70, (.int .i64 (x3478.length : Int))), (71, (.bool (decide (i1676 < (x3478.length : Int)))))]) ⟨rfl, rfl, rfl, rfl, rfl, rfl, rfl, rfl, rfl, rfl, rfl, rfl, rfl, rfl, rfl, trivial⟩
        refine e_then ?_; obtain ⟨o3900, ho3901, hK3902⟩ := bnd_some hF
        obtain ⟨n3903, hn3904⟩ := lp_some ho3901; clear ho3901
        refine c_loop (fun a w => ∃ (i3886 : Int) (l3890 : (List (List Int))) (v3891 : Value) (f3892 : List Nat), Fr 102 [(0, va0), (1, va1), (5, (.pointer (some ⟨b1, 0, none⟩))), (6, (.pointer (some ⟨b9, 0, none⟩))), (9, (.int .i64 x430)), (10, (.int .i64 x457)), (11, (.int .i64 i1676)), (65, (.int .i64 i1676)), (66, va1), (67, (.int .i64 x430)), (69, v3489), (70, (.int .i64 (x3478.length : Int))), (71, (.bool (decide (i1676 < (x3478.length : Int)))))] a ∧ Chg [] W w ∧ InI i3886 ∧ Bx w b1 [(.int .i64 i3886), v3891] 41 ∧ Zn W (b1 : Int) ∧ Ro (Rp.sl 2 Rp.int) w f3892 v3891 l3890 ∧ Pv (fa0 ++ fa1 ++ fa2_1) W.heap.size f3892 ∧ Bx w b9 [(.int .i64 0), (.slice none 0 0)] 41 ∧ Zn W (b9 : Int) ∧ Nq ([b1]) (b9 : Int) ∧ Nq (f3892) (b1 : Int) ∧ Nq (f3892) (b9 : Int) ∧ Nq ([b9]) (b1 : Int) ∧ o3900 = .inl (i3886, l3890)) (fun n a w => ∃ (i3688 : Int) (l3692 : (List (List Int))) (i3698 : Int) (v3693 : Value) (f3694 : List Nat), Fr 102 [(0, va0), (1, va1), (5, (.pointer (some ⟨b1, 0, none⟩))), (6, (.pointer (some ⟨b9, 0, none⟩))), (9, (.int .i64 x430)), (10, (.int .i64 x457)), (11, (.int .i64 i1676)), (12, (.int .i64 i3698)), (65, (.int .i64 i1676)), (66, va1), (67, (.int .i64 x430)), (69, v3489), (70, (.int .i64 (x3478.length : Int))), (71, (.bool (decide (i1676 < (x3478.length : Int)))))] a ∧ Chg [] W w ∧ InI i3688 ∧ InI i3698 ∧ Bx w b1 [(.int .i64 i3688), v3693] 41 ∧ Zn W (b1 : Int) ∧ Ro (Rp.sl 2 Rp.int) w f3694 v3693 l3692 ∧ Pv (fa0 ++ fa1 ++ fa2_1) W.heap.size f3694 ∧ Bx w b9 [(.int .i64 0), (.slice none 0 0)] 41 ∧ Zn W (b9 : Int) ∧ Nq ([b1]) (b9 : Int) ∧ Nq (f3694) (b1 : Int) ∧ Nq (f3694) (b9 : Int) ∧ Nq ([b9]) (b1 : Int) ∧ lpN (fun s => F_spec_l22Search_l6 a0 a1 rc x430 x457 i1676 s.1 s.2.1 s.2.2) n (i3688, l3692, i3698) = some o3900) n3903 ⟨i1666, l1670, 0, v1671, f1672, ha.sub ⟨rfl, rfl, rfl, rfl, rfl, rfl, rfl, rfl, rfl, rfl, rfl, rfl, rfl, rfl, trivial⟩, hE1682, hI1667, (show InI 0 from by decide), hB1664, z1665, h1669, (pv1673), hB1674, z1675, q1678, q1679, q1680, q1681, hn3904⟩ ?_ ?_
        · rintro m3908 a w3685 ⟨i3688, l3692, i3698, v3693, f3694, ha, hE3704, hI3689, hI3699, hB3686, z3687, h3691, pv3695, hB3696, z3697, q3700, q3701, q3702, q3703, hF⟩
          cases m3908 with
          | zero => exact (lpN_zero hF).elim
          | succ m3908 =>
            obtain ⟨z3907, hF, hN3906⟩ := lpN_succ hF
            have hF : F_spec_l22Search_l6 a0 a1 rc x430 x457 i1676 i3688 l3692 i3698 = some z3907 := hF; unfold F_spec_l22Search_l6 at hF
            refine wp_seq ?_; refine wp_seq ?_; refine wp_region_lit ?_; refine op_g ha rfl (g_move rfl) ?_; clear ha a; intro a ha; refine op_g ha rfl (g_eql rfl rfl) ?_; clear ha a; intro a ha; refine op_g ha rfl (g_move rfl) ?_; clear ha a; intro a ha
            by_cases hp3909 : i3698 = 0
            · replace hF := if_t hp3909 hF
              rw [show (decide (i3698 = 0)) = true from (decide_eq_true_iff).2 hp3909] at ha
              (iterate 7 refine op_unwant ha rfl (yields ha rfl rfl) rfl ?_; clear ha a; intro a ha); refine op_g ha rfl (g_pick rfl rfl) ?_; clear ha a; intro a ha; refine wpList_nil ?_; replace ha := ha.sub (σ' := [(0, va0), (1, va1), (5, (.pointer (some ⟨b1, 0, none⟩))), (6, (.pointer (some ⟨b9, 0, none⟩))), (9, (.int .i64 x430)), (10, (.int .i64 x457)), (11, (.int .i64 i1676)), (12, (.int .i64 i3698)), (65, (.int .i64 i1676)), (66, va1), (67, (.int .i64 x430)), (69, v3489), (70, (.int .i64 (x3478.length : Int))), (71, (.bool (decide (i1676 < (x3478.length : Int))))), (85, (.bool true))]) ⟨rfl, rfl, rfl, rfl, rfl, rfl, rfl, rfl, rfl, rfl, rfl, rfl, rfl, rfl, rfl, trivial⟩
              refine e_then ?_; refine c_true ha rfl ?_; refine wp_skip ?_; refine e_then ?_; refine wp_seq ?_; refine wp_block ?_; refine d_region [0, 1, 2, 3, 4, 5, 6, 7, 8, 9, 10, 11, 12] hmix ?_; refine u_g 0 rfl (by kernel_rfl) (want0 _) ha rfl (g_move rfl) ?_; clear ha a; intro a ha; obtain ⟨hb3910a, hb3910b, hb3910c, hF⟩ := slc_some hF
              obtain ⟨v3911, fp3912, hrun3913, hro3914, hsub3915⟩ := ha0.slice (lo := (some (.int .i64 1))) (hi := none) (i := 1) (j := (a0.length : Int)) sl22 (.inr ⟨_, rfl⟩) (.inl ⟨rfl, rfl⟩) ⟨hb3910a, hb3910b, hb3910c⟩
              have q3917 := (Pv.mono (Pv.par (fun _ h => List.mem_append_left _ (List.mem_append_left _ h))) hsub3915 : Pv (fa0 ++ fa1 ++ fa2_1) W.heap.size fp3912)
              refine u_g 1 rfl (by kernel_rfl) (want0 _) ha rfl (g_slice sl22.und rfl rfl rfl hrun3913) ?_; clear ha a; intro a ha; refine u_g 2 rfl (by kernel_rfl) (want0 _) ha rfl (g_move rfl) ?_; clear ha a; intro a ha; refine u_g 3 rfl (by kernel_rfl) (want0 _) ha rfl (g_move rfl) ?_; clear ha a; intro a ha; refine u_g 4 rfl (by kernel_rfl) (want0 _) ha rfl (g_move rfl) ?_; clear ha a; intro a ha; refine u_g 5 rfl (by kernel_rfl) (want0 _) ha rfl (g_move rfl) ?_; clear ha a; intro a ha; refine u_g 7 rfl (by kernel_rfl) (want0 _) ha rfl (g_move rfl) ?_; clear ha a; intro a ha; refine u_g 8 rfl (by kernel_rfl) (want0 _) ha rfl (g_move rfl) ?_; clear ha a; intro a ha
              refine u_g 9 rfl (by kernel_rfl) (want0 _) ha rfl (g_move rfl) ?_; clear ha a; intro a ha; refine u_g 11 rfl (by kernel_rfl) (want0 _) ha rfl (g_loadA (cs := [(.int .i64 i3688), v3693]) Tryz.isAgg41 Tryz.sizeOf41 rfl (by simp) hB3686.all) ?_; clear ha a; intro a ha
              refine u_only 6 rfl (by kernel_rfl) ?_; intro w3918 hx3919
              replace hB3686 := hB3686.ext hx3919
              replace h3691 := h3691.ext hx3919
              replace hB3696 := hB3696.ext hx3919
              have hE3920 := Ext.trans hE3704 hx3919
              obtain ⟨x3921, hc3922, hF⟩ := cal_some hF
              refine o_call ha rfl rfl Tryz.call45 (W_spec_l22Put (ha1.ext hE3920) hI441 hI1677 hI468 hc3922) ?_; clear ha a; rintro v3923 w3924 ⟨fp3926, h3927, pv3928, hx3925⟩ a ha
              have q3930 := Nq.rd pv3928 (Nq.new ha1.bnd z3687) hB3686.bi
              have q3931 := Nq.rd pv3928 (Nq.new ha1.bnd z3697) hB3696.bi
              have q3932 := (Pv.call pv3928 (Pv.par (fun _ h => List.mem_append_left _ (List.mem_append_right _ h))) hE3920.size : Pv (fa0 ++ fa1 ++ fa2_1) W.heap.size fp3926)
              replace hB3686 := hB3686.ext hx3925
              replace h3691 := h3691.ext hx3925
              replace hB3696 := hB3696.ext hx3925
              have hE3933 := Ext.trans hE3920 hx3925
              refine wpList_nil (e_sq ?_)
              refine ⟨fun _ => hx3925, ?_⟩
              refine u_only 10 rfl (by kernel_rfl) ?_; intro w3934 hx3935
              replace hB3686 := hB3686.ext hx3935
              replace h3691 := h3691.ext hx3935
              replace hB3696 := hB3696.ext hx3935
              replace h3927 := h3927.ext hx3935
              have hE3936 := Ext.trans hE3933 hx3935
              obtain ⟨x3937, hc3938, hF⟩ := cal_some hF
              refine o_call ha rfl rfl Tryz.call45 (W_spec_l22Put h3927 hI468 hI3699 hI441 hc3938) ?_; clear ha a; rintro v3939 w3940 ⟨fp3942, h3943, pv3944, hx3941⟩ a ha
              have q3946 := Nq.rd pv3944 q3930 hB3686.bi
              have q3947 := Nq.rd pv3944 q3931 hB3696.bi
              have q3948 := (Pv.call pv3944 (q3932) hE3936.size : Pv (fa0 ++ fa1 ++ fa2_1) W.heap.size fp3942)
              replace hB3686 := hB3686.ext hx3941
              replace h3691 := h3691.ext hx3941
              replace hB3696 := hB3696.ext hx3941
              replace h3927 := h3927.ext hx3941
              have hE3949 := Ext.trans hE3936 hx3941
              refine wpList_nil (e_sq ?_)
              refine ⟨fun _ => hx3941, ?_⟩
              refine u_only 12 rfl (by kernel_rfl) ?_; intro w3950 hx3951
              replace hB3686 := hB3686.ext hx3951
              replace h3691 := h3691.ext hx3951
              replace hB3696 := hB3696.ext hx3951
              replace h3927 := h3927.ext hx3951
              replace h3943 := h3943.ext hx3951
              have hE3952 := Ext.trans hE3949 hx3951
              obtain ⟨x3953, hc3954, hF⟩ := cal_some hF
              refine o_call ha rfl rfl Tryz.call28 (ih (hro3914.ext hE3952) h3943 hI3689 h3691 hc3954) ?_; clear ha a; rintro v3955 w3956 ⟨u3958, u3959, fp3961, rfl, ⟨rfl, hI3960⟩, h3962, pv3963, hx3957⟩ a ha
              have q3965 := Nq.rd pv3963 (Nq.append (Nq.append (Nq.new hro3914.bnd z3687) q3946) q3701) hB3686.bi
              have q3966 := Nq.rd pv3963 (Nq.append (Nq.append (Nq.new hro3914.bnd z3697) q3947) q3702) hB3696.bi
              have q3967 := (Pv.call pv3963 (Pv.app (Pv.app (q3917) (q3948)) (pv3695)) hE3952.size : Pv (fa0 ++ fa1 ++ fa2_1) W.heap.size fp3961)
              replace hB3686 := hB3686.ext hx3957
              replace h3691 := h3691.ext hx3957
              replace hB3696 := hB3696.ext hx3957
              replace h3927 := h3927.ext hx3957
              replace h3943 := h3943.ext hx3957
              have hE3968 := Ext.trans hE3952 hx3957
              refine wpList_nil (e_sq ?_)
              refine ⟨fun _ => hx3957, ?_⟩
              refine u_only 13 rfl (by kernel_rfl) ?_; intro w3969 hx3970
              replace hB3686 := hB3686.ext hx3970
              replace h3691 := h3691.ext hx3970
              replace hB3696 := hB3696.ext hx3970
              replace h3927 := h3927.ext hx3970
              replace h3943 := h3943.ext hx3970
              replace h3962 := h3962.ext hx3970
              have hE3971 := Ext.trans hE3968 hx3970
              refine o_storeA (vs := [(.int .i64 x3953.1), u3959]) ha hB3686 Tryz.sizeOf41 rfl rfl (by intro c hc; simp only [List.mem_cons, List.not_mem_nil, or_false] at hc; rcases hc with hc | hc <;> subst hc <;> first | rfl | exact rfl | exact h3962.oneC) rfl ?_; intro w3972 hB3973 hc3974
              replace hc3974 := hc3974.bl
              replace hB3973 : Bx w3972 b1 [(.int .i64 x3953.1), u3959] 41 := hB3973
              replace h3691 := h3691.nq hc3974 q3701
              replace hB3696 := hB3696.nq hc3974 q3703
              replace h3927 := h3927.nq hc3974 q3930
              replace h3943 := h3943.nq hc3974 q3946
              replace h3962 := h3962.nq hc3974 q3965
              have hE3975 := Ext.then hE3971 hc3974 (Zn.bl z3687)
              refine wpList_nil (e_sq ?_)
              refine ⟨fun h => absurd h (by decide), ?_⟩
              refine u_done (by kernel_rfl) ?_; intro w3976 hx3977
              replace hB3973 := hB3973.ext hx3977
              replace h3691 := h3691.ext hx3977
              replace hB3696 := hB3696.ext hx3977
              replace h3927 := h3927.ext hx3977
              replace h3943 := h3943.ext hx3977
              replace h3962 := h3962.ext hx3977
              have hE3978 := Ext.trans hE3975 hx3977
              replace ha := ha.sub (σ' := [(0, va0), (1, va1), (5, (.pointer (some ⟨b1, 0, none⟩))), (6, (.pointer (some ⟨b9, 0, none⟩))), (9, (.int .i64 x430)), (10, (.int .i64 x457)), (11, (.int .i64 i1676)), (12, (.int .i64 i3698)), (65, (.int .i64 i1676)), (66, va1), (67, (.int .i64 x430)), (69, v3489), (70, (.int .i64 (x3478.length : Int))), (71, (.bool (decide (i1676 < (x3478.length : Int)))))]) ⟨rfl, rfl, rfl, rfl, rfl, rfl, rfl, rfl, rfl, rfl, rfl, rfl, rfl, rfl, trivial⟩; refine e_blk ?_; refine e_then ?_; refine wp_region_lit ?_; refine op_g ha rfl (g_move rfl) ?_; clear ha a; intro a ha
              obtain ⟨hI3979, hF⟩ := ck_some hF; refine op_g ha rfl (g_add rfl rfl hI3979) ?_; clear ha a; intro a ha; refine op_g ha rfl (g_assign rfl) ?_; clear ha a; intro a ha; refine wpList_nil ?_; replace ha := ha.sub (σ' := [(0, va0), (1, va1), (5, (.pointer (some ⟨b1, 0, none⟩))), (6, (.pointer (some ⟨b9, 0, none⟩))), (9, (.int .i64 x430)), (10, (.int .i64 x457)), (11, (.int .i64 i1676)), (12, (.int .i64 (i3698 + 1))), (65, (.int .i64 i1676)), (66, va1), (67, (.int .i64 x430)), (69, v3489), (70, (.int .i64 (x3478.length : Int))), (71, (.bool (decide (i1676 < (x3478.length : Int)))))]) ⟨rfl, rfl, rfl, rfl, rfl, rfl, rfl, rfl, rfl, rfl, rfl, rfl, rfl, rfl, trivial⟩
              refine e_lq ?_; obtain rfl := Option.some.inj hF
              exact ⟨_, Nat.lt_succ_self _, x3953.1, x3953.2, i3698 + 1, u3959, fp3961, ha.sub ⟨rfl, rfl, rfl, rfl, rfl, rfl, rfl, rfl, rfl, rfl, rfl, rfl, rfl, rfl, trivial⟩, hE3978, hI3960, hI3979, hB3973, z3687, h3962, (q3967), hB3696, z3697, q3700, q3965, q3966, q3703, hN3906⟩
            replace hF := if_f hp3909 hF
            rw [show (decide (i3698 = 0)) = false from b_false (decide_eq_true_iff) hp3909] at ha
            refine op_want (yields ha rfl rfl) ?_; refine op_g ha rfl (g_move rfl) ?_; clear ha a; intro a ha; refine op_want (yields ha rfl rfl) ?_; refine op_g ha rfl (g_move rfl) ?_; clear ha a; intro a ha; refine op_want (yields ha rfl rfl) ?_; refine op_g ha rfl (g_move rfl) ?_; clear ha a; intro a ha; refine op_want (yields ha rfl rfl) ?_; obtain ⟨x3981, g3982, gx3983, hF⟩ := idx_some hF
            obtain ⟨p3984, cs3985, f3986, hf3987, hpb3988, hat3989, hr3990, hi3991⟩ := ha1.at g3982 gx3983
            obtain ⟨v3992, rfl, h3993⟩ := hr3990
            have h3993 : Ro Rp.int W f3986 v3992 x3981 := h3993
            have q3995 := (Pv.mono (Pv.par (fun _ h => List.mem_append_left _ (List.mem_append_right _ h))) hf3987 : Pv (fa0 ++ fa1 ++ fa2_1) W.heap.size f3986)
            refine op_g ha rfl (hi3991.gives sl22 rfl rfl) ?_; clear ha a; intro a ha; refine op_want (yields ha rfl rfl) ?_; refine op_g ha rfl (g_load0 hE3704 Tryz.isAgg39 rfl hat3989.one) ?_; clear ha a; intro a ha; refine op_want (yields ha rfl rfl) ?_; refine op_g ha rfl (g_lenR sl39.und h3993 rfl) ?_; clear ha a; intro a ha; refine op_want (yields ha rfl rfl) ?_; refine op_g ha rfl (g_lss rfl rfl) ?_; clear ha a; intro a ha; refine op_g ha rfl (g_pick rfl rfl) ?_; clear ha a; intro a ha; refine wpList_nil ?_; replace ha := ha.sub (σ' := [(0, va0), (1, va1), (5, (.pointer (some ⟨b1, 0, none⟩))), (6, (.pointer (some ⟨b9, 0, none⟩))), (9, (.int .i64 x430)), (10, (.int .i64 x457)), (11, (.int .i64 i1676)), (12, (.int .i64 i3698)), (65, (.int .i64 i1676)), (66, va1), (67, (.int .i64 x430)), (69, v3489), (70, (.int .i64 (x3478.length : Int))), (71, (.bool (decide (i1676 < (x3478.length : Int))))), (78, (.int .i64 i3698)), (79, va1), (80, (.int .i64 x457)), (81, (.pointer (some p3984))), (82, v3992), (83, (.int .i64 (x3981.length : Int))), (84, (.bool (decide (i3698 < (x3981.length : Int))))), (85, (.bool (decide (i3698 < (x3981.length : Int)))))]) ⟨rfl, rfl, rfl, rfl, rfl, rfl, rfl, rfl, rfl, rfl, rfl, rfl, rfl, rfl, rfl, rfl, rfl, rfl, rfl, rfl, rfl, rfl, trivial⟩
            refine e_then ?_; refine c_cond (i3698 < (x3981.length : Int)) ha rfl (decide_eq_true_iff) (fun hp3996 => ?_) (fun hp3996 => ?_)
            · replace hF := if_t hp3996 hF
              refine wp_skip ?_; refine e_then ?_; refine wp_seq ?_; refine wp_block ?_; refine d_region [0, 1, 2, 3, 4, 5, 6, 7, 8, 9, 10, 11, 12] hmix ?_; refine u_g 0 rfl (by kernel_rfl) (want0 _) ha rfl (g_move rfl) ?_; clear ha a; intro a ha; obtain ⟨hb3997a, hb3997b, hb3997c, hF⟩ := slc_some hF
              obtain ⟨v3998, fp3999, hrun4000, hro4001, hsub4002⟩ := ha0.slice (lo := (some (.int .i64 1))) (hi := none) (i := 1) (j := (a0.length : Int)) sl22 (.inr ⟨_, rfl⟩) (.inl ⟨rfl, rfl⟩) ⟨hb3997a, hb3997b, hb3997c⟩
              have q4004 := (Pv.mono (Pv.par (fun _ h => List.mem_append_left _ (List.mem_append_left _ h))) hsub4002 : Pv (fa0 ++ fa1 ++ fa2_1) W.heap.size fp3999)
              refine u_g 1 rfl (by kernel_rfl) (want0 _) ha rfl (g_slice sl22.und rfl rfl rfl hrun4000) ?_; clear ha a; intro a ha; refine u_g 2 rfl (by kernel_rfl) (want0 _) ha rfl (g_move rfl) ?_; clear ha a; intro a ha; refine u_g 3 rfl (by kernel_rfl) (want0 _) ha rfl (g_move rfl) ?_; clear ha a; intro a ha; refine u_g 4 rfl (by kernel_rfl) (want0 _) ha rfl (g_move rfl) ?_; clear ha a; intro a ha; refine u_g 5 rfl (by kernel_rfl) (want0 _) ha rfl (g_move rfl) ?_; clear ha a; intro a ha; refine u_g 7 rfl (by kernel_rfl) (want0 _) ha rfl (g_move rfl) ?_; clear ha a; intro a ha; refine u_g 8 rfl (by kernel_rfl) (want0 _) ha rfl (g_move rfl) ?_; clear ha a; intro a ha
              refine u_g 9 rfl (by kernel_rfl) (want0 _) ha rfl (g_move rfl) ?_; clear ha a; intro a ha; refine u_g 11 rfl (by kernel_rfl) (want0 _) ha rfl (g_loadA (cs := [(.int .i64 i3688), v3693]) Tryz.isAgg41 Tryz.sizeOf41 rfl (by simp) hB3686.all) ?_; clear ha a; intro a ha
              refine u_only 6 rfl (by kernel_rfl) ?_; intro w4005 hx4006
              replace hB3686 := hB3686.ext hx4006
              replace h3691 := h3691.ext hx4006
              replace hB3696 := hB3696.ext hx4006
              have hE4007 := Ext.trans hE3704 hx4006
              obtain ⟨x4008, hc4009, hF⟩ := cal_some hF
              refine o_call ha rfl rfl Tryz.call45 (W_spec_l22Put (ha1.ext hE4007) hI441 hI1677 hI468 hc4009) ?_; clear ha a; rintro v4010 w4011 ⟨fp4013, h4014, pv4015, hx4012⟩ a ha
              have q4017 := Nq.rd pv4015 (Nq.new ha1.bnd z3687) hB3686.bi
              have q4018 := Nq.rd pv4015 (Nq.new ha1.bnd z3697) hB3696.bi
              have q4019 := (Pv.call pv4015 (Pv.par (fun _ h => List.mem_append_left _ (List.mem_append_right _ h))) hE4007.size : Pv (fa0 ++ fa1 ++ fa2_1) W.heap.size fp4013)
              replace hB3686 := hB3686.ext hx4012
              replace h3691 := h3691.ext hx4012
              replace hB3696 := hB3696.ext hx4012
              have hE4020 := Ext.trans hE4007 hx4012
              refine wpList_nil (e_sq ?_)
              refine ⟨fun _ => hx4012, ?_⟩
              refine u_only 10 rfl (by kernel_rfl) ?_; intro w4021 hx4022
              replace hB3686 := hB3686.ext hx4022
              replace h3691 := h3691.ext hx4022
              replace hB3696 := hB3696.ext hx4022
              replace h4014 := h4014.ext hx4022
              have hE4023 := Ext.trans hE4020 hx4022
              obtain ⟨x4024, hc4025, hF⟩ := cal_some hF
              refine o_call ha rfl rfl Tryz.call45 (W_spec_l22Put h4014 hI468 hI3699 hI441 hc4025) ?_; clear ha a; rintro v4026 w4027 ⟨fp4029, h4030, pv4031, hx4028⟩ a ha
              have q4033 := Nq.rd pv4031 q4017 hB3686.bi
              have q4034 := Nq.rd pv4031 q4018 hB3696.bi
              have q4035 := (Pv.call pv4031 (q4019) hE4023.size : Pv (fa0 ++ fa1 ++ fa2_1) W.heap.size fp4029)
              replace hB3686 := hB3686.ext hx4028
              replace h3691 := h3691.ext hx4028
              replace hB3696 := hB3696.ext hx4028
              replace h4014 := h4014.ext hx4028
              have hE4036 := Ext.trans hE4023 hx4028
              refine wpList_nil (e_sq ?_)
              refine ⟨fun _ => hx4028, ?_⟩
              refine u_only 12 rfl (by kernel_rfl) ?_; intro w4037 hx4038
              replace hB3686 := hB3686.ext hx4038
              replace h3691 := h3691.ext hx4038
              replace hB3696 := hB3696.ext hx4038
              replace h4014 := h4014.ext hx4038
              replace h4030 := h4030.ext hx4038
              have hE4039 := Ext.trans hE4036 hx4038
              obtain ⟨x4040, hc4041, hF⟩ := cal_some hF
              refine o_call ha rfl rfl Tryz.call28 (ih (hro4001.ext hE4039) h4030 hI3689 h3691 hc4041) ?_; clear ha a; rintro v4042 w4043 ⟨u4045, u4046, fp4048, rfl, ⟨rfl, hI4047⟩, h4049, pv4050, hx4044⟩ a ha
              have q4052 := Nq.rd pv4050 (Nq.append (Nq.append (Nq.new hro4001.bnd z3687) q4033) q3701) hB3686.bi
              have q4053 := Nq.rd pv4050 (Nq.append (Nq.append (Nq.new hro4001.bnd z3697) q4034) q3702) hB3696.bi
              have q4054 := (Pv.call pv4050 (Pv.app (Pv.app (q4004) (q4035)) (pv3695)) hE4039.size : Pv (fa0 ++ fa1 ++ fa2_1) W.heap.size fp4048)
              replace hB3686 := hB3686.ext hx4044
              replace h3691 := h3691.ext hx4044
              replace hB3696 := hB3696.ext hx4044
              replace h4014 := h4014.ext hx4044
              replace h4030 := h4030.ext hx4044
              have hE4055 := Ext.trans hE4039 hx4044
              refine wpList_nil (e_sq ?_)
              refine ⟨fun _ => hx4044, ?_⟩
              refine u_only 13 rfl (by kernel_rfl) ?_; intro w4056 hx4057
              replace hB3686 := hB3686.ext hx4057
              replace h3691 := h3691.ext hx4057
              replace hB3696 := hB3696.ext hx4057
              replace h4014 := h4014.ext hx4057
              replace h4030 := h4030.ext hx4057
              replace h4049 := h4049.ext hx4057
              have hE4058 := Ext.trans hE4055 hx4057
              refine o_storeA (vs := [(.int .i64 x4040.1), u4046]) ha hB3686 Tryz.sizeOf41 rfl rfl (by intro c hc; simp only [List.mem_cons, List.not_mem_nil, or_false] at hc; rcases hc with hc | hc <;> subst hc <;> first | rfl | exact rfl | exact h4049.oneC) rfl ?_; intro w4059 hB4060 hc4061
              replace hc4061 := hc4061.bl
              replace hB4060 : Bx w4059 b1 [(.int .i64 x4040.1), u4046] 41 := hB4060
              replace h3691 := h3691.nq hc4061 q3701
              replace hB3696 := hB3696.nq hc4061 q3703
              replace h4014 := h4014.nq hc4061 q4017
              replace h4030 := h4030.nq hc4061 q4033
              replace h4049 := h4049.nq hc4061 q4052
              have hE4062 := Ext.then hE4058 hc4061 (Zn.bl z3687)
              refine wpList_nil (e_sq ?_)
              refine ⟨fun h => absurd h (by decide), ?_⟩
              refine u_done (by kernel_rfl) ?_; intro w4063 hx4064
              replace hB4060 := hB4060.ext hx4064
              replace h3691 := h3691.ext hx4064
              replace hB3696 := hB3696.ext hx4064
              replace h4014 := h4014.ext hx4064
              replace h4030 := h4030.ext hx4064
              replace h4049 := h4049.ext hx4064
              have hE4065 := Ext.trans hE4062 hx4064
              replace ha := ha.sub (σ' := [(0, va0), (1, va1), (5, (.pointer (some ⟨b1, 0, none⟩))), (6, (.pointer (some ⟨b9, 0, none⟩))), (9, (.int .i64 x430)), (10, (.int .i64 x457)), (11, (.int .i64 i1676)), (12, (.int .i64 i3698)), (65, (.int .i64 i1676)), (66, va1), (67, (.int .i64 x430)), (69, v3489), (70, (.int .i64 (x3478.length : Int))), (71, (.bool (decide (i1676 < (x3478.length : Int))))), (78, (.int .i64 i3698)), (79, va1), (80, (.int .i64 x457)), (81, (.pointer (some p3984))), (82, v3992), (83, (.int .i64 (x3981.length : Int))), (84, (.bool (decide (i3698 < (x3981.length : Int)))))]) ⟨rfl, rfl, rfl, rfl, rfl, rfl, rfl, rfl, rfl, rfl, rfl, rfl, rfl, rfl, rfl, rfl, rfl, rfl, rfl, rfl, rfl, trivial⟩
              refine e_blk ?_; refine e_then ?_; refine wp_region_lit ?_; refine op_g ha rfl (g_move rfl) ?_; clear ha a; intro a ha; obtain ⟨hI4066, hF⟩ := ck_some hF; refine op_g ha rfl (g_add rfl rfl hI4066) ?_; clear ha a; intro a ha; refine op_g ha rfl (g_assign rfl) ?_; clear ha a; intro a ha; refine wpList_nil ?_; replace ha := ha.sub (σ' := [(0, va0), (1, va1), (5, (.pointer (some ⟨b1, 0, none⟩))), (6, (.pointer (some ⟨b9, 0, none⟩))), (9, (.int .i64 x430)), (10, (.int .i64 x457)), (11, (.int .i64 i1676)), (12, (.int .i64 (i3698 + 1))), (65, (.int .i64 i1676)), (66, va1), (67, (.int .i64 x430)), (69, v3489), (70, (.int .i64 (x3478.length : Int))), (71, (.bool (decide (i1676 < (x3478.length : Int))))), (78, (.int .i64 i3698)), (79, va1), (80, (.int .i64 x457)), (81, (.pointer (some p3984))), (82, v3992), (83, (.int .i64 (x3981.length : Int))), (84, (.bool (decide (i3698 < (x3981.length : Int)))))]) ⟨rfl, rfl, rfl, rfl, rfl, rfl, rfl, rfl, rfl, rfl, rfl, rfl, rfl, rfl, rfl, rfl, rfl, rfl, rfl, rfl, rfl, trivial⟩
              refine e_lq ?_; obtain rfl := Option.some.inj hF
              exact ⟨_, Nat.lt_succ_self _, x4040.1, x4040.2, i3698 + 1, u4046, fp4048, ha.sub ⟨rfl, rfl, rfl, rfl, rfl, rfl, rfl, rfl, rfl, rfl, rfl, rfl, rfl, rfl, trivial⟩, hE4065, hI4047, hI4066, hB4060, z3687, h4049, (q4054), hB3696, z3697, q3700, q4052, q4053, q3703, hN3906⟩
            replace hF := if_f hp3996 hF; refine wp_exit ?_; refine e_then_exit ?_; refine e_lq_eq ?_; obtain rfl := Option.some.inj hF
            exact ⟨i3688, l3692, v3693, f3694, ha.sub ⟨rfl, rfl, rfl, rfl, rfl, rfl, rfl, rfl, rfl, rfl, rfl, rfl, rfl, trivial⟩, hE3704, hI3689, hB3686, z3687, h3691, (pv3695), hB3696, z3697, q3700, q3701, q3702, q3703, (LK_inr hN3906).symm⟩
        rintro a w3883 ⟨i3886, l3890, v3891, f3892, ha, hE3905, hI3887, hB3884, z3885, h3889, pv3893, hB3894, z3895, q3896, q3897, q3898, q3899, rfl⟩
        have hF : F_spec_l22Search_k7 i1676 i3886 l3890 = some _ := hK3902; clear hK3902; unfold F_spec_l22Search_k7 at hF
        refine e_blk ?_; refine e_then ?_; refine wp_region_lit ?_; refine op_g ha rfl (g_move rfl) ?_; clear ha a; intro a ha; obtain ⟨hI4068, hF⟩ := ck_some hF; refine op_g ha rfl (g_add rfl rfl hI4068) ?_; clear ha a; intro a ha; refine op_g ha rfl (g_assign rfl) ?_; clear ha a; intro a ha; refine wpList_nil ?_; replace ha := ha.sub (σ' := [(0, va0), (1, va1), (5, (.pointer (some ⟨b1, 0, none⟩))), (6, (.pointer (some ⟨b9, 0, none⟩))), (9, (.int .i64 x430)), (10, (.int .i64 x457)), (11, (.int .i64 (i1676 + 1))), (65, (.int .i64 i1676)), (66, va1), (67, (.int .i64 x430)), (69, v3489), (70, (.int .i64 (x3478.length : Int))), (71, (.bool (decide (i1676 < (x3478.length : Int)))))]) ⟨rfl, rfl, rfl, rfl, rfl, rfl, rfl, rfl, rfl, rfl, rfl, rfl, rfl, trivial⟩
        refine e_lq ?_; obtain rfl := Option.some.inj hF
        exact ⟨_, Nat.lt_succ_self _, i3886, l3890, i1676 + 1, v3891, f3892, ha.sub ⟨rfl, rfl, rfl, rfl, rfl, rfl, rfl, trivial⟩, hE3905, hI3887, hI4068, hB3884, z3885, h3889, (pv3893), hB3894, z3895, q3896, q3897, q3898, q3899, hN2898⟩
      replace hF := if_f hp3493 hF; refine wp_exit ?_; refine e_then_exit ?_; refine e_lq_eq ?_; obtain rfl := Option.some.inj hF
      exact ⟨i1666, l1670, v1671, f1672, ha.sub ⟨rfl, rfl, trivial⟩, hE1682, hI1667, hB1664, z1665, h1669, (pv1673), hB1674, z1675, q1678, q1679, q1680, q1681, (LK_inr hN2898).symm⟩
  rintro a w2871 ⟨i2874, l2878, v2879, f2880, ha, hE2897, hI2875, hB2872, z2873, h2877, pv2881, hB2882, z2883, q2884, q2885, q2886, q2887, rfl⟩
  have hF : F_spec_l22Search_k8 i2874 l2878 = some _ := hK2890; clear hK2890; unfold F_spec_l22Search_k8 at hF
  refine e_then ?_; refine wp_seq ?_; refine wp_region_lit ?_; refine op_g ha rfl (g_loadA (cs := [(.int .i64 i2874), v2879]) Tryz.isAgg41 Tryz.sizeOf41 rfl (by simp) hB2872.all) ?_; clear ha a; intro a ha
  refine o_storeA (vs := [(.int .i64 i2874), v2879]) ha hB2882 Tryz.sizeOf41 rfl rfl (by intro c hc; simp only [List.mem_cons, List.not_mem_nil, or_false] at hc; rcases hc with hc | hc <;> subst hc <;> first | rfl | exact rfl | exact h2877.oneC) rfl ?_; intro w4070 hB4071 hc4072
  replace hc4072 := hc4072.bl
  replace hB4071 : Bx w4070 b9 [(.int .i64 i2874), v2879] 41 := hB4071
  replace hB2872 := hB2872.nq hc4072 q2884
  replace h2877 := h2877.nq hc4072 q2886
  have hE4073 := Ext.then hE2897 hc4072 (Zn.bl z2883)
  refine wpList_nil ?_; replace ha := ha.sub (σ' := [(6, (.pointer (some ⟨b9, 0, none⟩)))]) ⟨rfl, trivial⟩; refine e_then ?_; refine wp_ret ?_; obtain rfl := Option.some.inj hF
  exact f_retC (cs := [(.int .i64 i2874), v2879]) ha rfl rfl Tryz.isAgg41 Tryz.sizeOf41 hB4071 ⟨_, _, _, rfl, ⟨rfl, hI2875⟩, h2877, (pv2881), hE4073⟩
theorem W_spec_l22Search_n (n : Nat) : ∀ {W : World} {va0 : Value} {fa0 : List Nat} {a0 : (List (List Int))} (ha0 : Ro (Rp.sl 2 Rp.int) W fa0 va0 a0) {va1 : Value} {fa1 : List Nat} {a1 : (List (List Int))} (ha1 : Ro (Rp.sl 2 Rp.int) W fa1 va1 a1) {a2_0 : Int} (ha2_0 : InI a2_0) {va2_1 : Value} {fa2_1 : List Nat} {a2_1 : (List (List Int))} (ha2_1 : Ro (Rp.sl 2 Rp.int) W fa2_1 va2_1 a2_1) {r : (Int × (List (List Int)))} (hF : itN (fun (rc : ((List (List Int)) × (List (List Int)) × Int × (List (List Int))) → Option (Int × (List (List Int)))) a => F_spec_l22Search_body (fun z0 z1 z2 z3 => rc (z0, z1, z2, z3)) a.1 a.2.1 a.2.2.1 a.2.2.2) n (a0, a1, a2_0, a2_1) = some r),
    Calls Tryz.prog 28 [va0, va1, .agg #[.int .i64 a2_0, va2_1]].toArray W (Ret fun u w' => ∃ (u_0 : Value) (u_1 : Value) (fp_u_1 : List Nat), u = .agg #[u_0, u_1] ∧ (u_0 = .int .i64 r.1 ∧ InI r.1) ∧ Ro (Rp.sl 2 Rp.int) w' fp_u_1 u_1 r.2 ∧ Pv (fa0 ++ fa1 ++ fa2_1) W.heap.size fp_u_1 ∧ Ext W w') := by
  induction n with
  | zero => intro W va0 fa0 a0 ha0 va1 fa1 a1 ha1 a2_0 ha2_0 va2_1 fa2_1 a2_1 ha2_1 r hF; cases hF
  | succ n ih => intro W va0 fa0 a0 ha0 va1 fa1 a1 ha1 a2_0 ha2_0 va2_1 fa2_1 a2_1 ha2_1 r hF; exact W_spec_l22Search_step (rc := fun z0 z1 z2 z3 => itN (fun (rc : ((List (List Int)) × (List (List Int)) × Int × (List (List Int))) → Option (Int × (List (List Int)))) a => F_spec_l22Search_body (fun z0 z1 z2 z3 => rc (z0, z1, z2, z3)) a.1 a.2.1 a.2.2.1 a.2.2.2) n (z0, z1, z2, z3)) @ih ha0 ha1 ha2_0 ha2_1 hF
theorem W_spec_l22Search {W : World} {va0 : Value} {fa0 : List Nat} {a0 : (List (List Int))} (ha0 : Ro (Rp.sl 2 Rp.int) W fa0 va0 a0) {va1 : Value} {fa1 : List Nat} {a1 : (List (List Int))} (ha1 : Ro (Rp.sl 2 Rp.int) W fa1 va1 a1) {a2_0 : Int} (ha2_0 : InI a2_0) {va2_1 : Value} {fa2_1 : List Nat} {a2_1 : (List (List Int))} (ha2_1 : Ro (Rp.sl 2 Rp.int) W fa2_1 va2_1 a2_1) {r : (Int × (List (List Int)))} (hF : F_spec_l22Search a0 a1 a2_0 a2_1 = some r) :
    Calls Tryz.prog 28 [va0, va1, .agg #[.int .i64 a2_0, va2_1]].toArray W (Ret fun u w' => ∃ (u_0 : Value) (u_1 : Value) (fp_u_1 : List Nat), u = .agg #[u_0, u_1] ∧ (u_0 = .int .i64 r.1 ∧ InI r.1) ∧ Ro (Rp.sl 2 Rp.int) w' fp_u_1 u_1 r.2 ∧ Pv (fa0 ++ fa1 ++ fa2_1) W.heap.size fp_u_1 ∧ Ext W w') := by
  obtain ⟨n, hn⟩ := fixO_some hF
  exact W_spec_l22Search_n n ha0 ha1 ha2_0 ha2_1 hn
set_option maxHeartbeats 2000000 in
theorem W_spec_l22All {W : World} {va0_0 : Value} {fa0_0 : List Nat} {a0_0 : (List (List Int))} (ha0_0 : Ro (Rp.sl 2 Rp.int) W fa0_0 va0_0 a0_0) {r : (Int × (List (List Int)))} (hF : F_spec_l22All a0_0 = some r) :
    Calls Tryz.prog 16 [.agg #[va0_0]].toArray W (Ret fun u w' => ∃ (u_0 : Value) (u_1 : Value) (fp_u_1 : List Nat), u = .agg #[u_0, u_1] ∧ (u_0 = .int .i64 r.1 ∧ InI r.1) ∧ Ro (Rp.sl 2 Rp.int) w' fp_u_1 u_1 r.2 ∧ Pv (fa0_0) W.heap.size fp_u_1 ∧ Ext W w') := by
  refine f_enter Tryz.func16 rfl Tryz.ntmps16 rfl ?_
  intro a ha
  replace ha : Fr 26 [(0, (.agg #[va0_0]))] a := ha
  have hE : Chg [] W W := Chg.refl _ _
  unfold F_spec_l22All at hF
  refine wp_seq ?_; refine wp_region_lit ?_
  refine o_box ha rfl rfl rfl ?_; clear ha a; intro b1 w2 hB3 hx4 hlo5 a ha
  have q6 := Zn.one hlo5
  have q7 := Zn.upD q6 hE
  have hE8 := Ext.trans hE hx4
  refine o_alloc (cs := [(.int .i64 0), (.slice none 0 0)]) ha rfl Tryz.zeroValue41 rfl ?_; clear ha a; intro b9 w10 hB11 hx12 hlo13 a ha
  have q14 := Zn.one hlo13
  have q15 := Nq.new hB3.fpb q14
  have q16 := Nq.made1 hlo13 hB3.bi
  have q17 := Zn.upD q14 hE8
  replace hB3 := hB3.ext hx12
  have hE18 := Ext.trans hE8 hx12
  refine wpList_nil ?_; replace ha := ha.sub (σ' := [(1, (.pointer (some ⟨b1, 0, none⟩))), (2, (.pointer (some ⟨b9, 0, none⟩)))]) ⟨rfl, rfl, trivial⟩; refine e_then ?_; refine wp_seq ?_; refine wp_region_lit ?_; refine op_g ha rfl (g_field0 st27_0 rfl) ?_; clear ha a; intro a ha; refine op_g ha rfl (g_load Tryz.isAgg22 rfl (hB3.cell rfl)) ?_; clear ha a; intro a ha; refine op_g ha rfl (g_lenR sl22.und ha0_0 rfl) ?_; clear ha a; intro a ha; refine op_g ha rfl (g_assign rfl) ?_; clear ha a; intro a ha; refine wpList_nil ?_; replace ha := ha.sub (σ' := [(1, (.pointer (some ⟨b1, 0, none⟩))), (2, (.pointer (some ⟨b9, 0, none⟩))), (3, (.int .i64 (a0_0.length : Int)))]) ⟨rfl, rfl, rfl, trivial⟩
  refine e_then ?_; refine wp_seq ?_; refine wp_region_lit ?_; refine op_g ha rfl (g_loadA (cs := [va0_0]) Tryz.isAgg27 Tryz.sizeOf27 rfl (by simp) hB3.all) ?_; clear ha a; intro a ha; obtain ⟨x19, hc20, hF⟩ := cal_some hF
  refine o_call ha rfl rfl Tryz.call27 (W_spec_l1Edges (ha0_0.ext hE18) hc20) ?_; clear ha a; rintro v21 w22 ⟨b24, fs28, h25, z26, zf29, nd30, hx23⟩ a ha
  have q31 := Nq.new hB3.fpb z26
  have q32 := Nq.madeF z26 zf29 hB3.bi
  have q33 := Nq.new hB11.fpb z26
  have q34 := Nq.madeF z26 zf29 hB11.bi
  have q35 := Nf.new hB3.fpb zf29
  have q36 := Nf.new hB11.fpb zf29
  replace hB3 := hB3.ext hx23
  replace hB11 := hB11.ext hx23
  have hE37 := Ext.trans hE18 hx23
  have q38 := Zn.upD z26 hE18
  have q39 := zf_up zf29 hE18
  refine op_g ha rfl (g_assign rfl) ?_; clear ha a; intro a ha; refine wpList_nil ?_; replace ha := ha.sub (σ' := [(2, (.pointer (some ⟨b9, 0, none⟩))), (3, (.int .i64 (a0_0.length : Int))), (4, v21)]) ⟨rfl, rfl, rfl, trivial⟩; refine e_then ?_; refine wp_seq ?_; refine wp_seq ?_; refine wp_region_lit ?_; refine op_g ha rfl (g_move rfl) ?_; clear ha a; intro a ha; refine op_g ha rfl (g_geq rfl rfl) ?_; clear ha a; intro a ha; refine op_g ha rfl (g_move rfl) ?_; clear ha a; intro a ha
  by_cases hp40 : 3 ≤ (a0_0.length : Int)
  · replace hF := if_t hp40 hF
    rw [show (decide (3 ≤ (a0_0.length : Int))) = true from (decide_eq_true_iff).2 hp40] at ha
    refine op_want (yields ha rfl rfl) ?_; refine op_g ha rfl (g_move rfl) ?_; clear ha a; intro a ha; refine op_want (yields ha rfl rfl) ?_; refine op_g ha rfl (g_lenO sl22.und h25 rfl) ?_; clear ha a; intro a ha; refine op_want (yields ha rfl rfl) ?_; refine op_g ha rfl (g_move rfl) ?_; clear ha a; intro a ha; refine op_want (yields ha rfl rfl) ?_; obtain ⟨hI41, hF⟩ := ck_some hF; refine op_g ha rfl (g_mul rfl rfl hI41) ?_; clear ha a; intro a ha; refine op_want (yields ha rfl rfl) ?_; obtain ⟨hI43, hF⟩ := ck_some hF; refine op_g ha rfl (g_sub rfl rfl hI43) ?_; clear ha a; intro a ha; refine op_want (yields ha rfl rfl) ?_
    refine op_g ha rfl (g_gtr rfl rfl) ?_; clear ha a; intro a ha; refine op_g ha rfl (g_pick rfl rfl) ?_; clear ha a; intro a ha; refine wpList_nil ?_; replace ha := ha.sub (σ' := [(2, (.pointer (some ⟨b9, 0, none⟩))), (3, (.int .i64 (a0_0.length : Int))), (4, v21), (19, (.bool (decide (((3 * (a0_0.length : Int)) - 6) < (x19.length : Int)))))]) ⟨rfl, rfl, rfl, rfl, trivial⟩; refine e_then ?_; refine c_cond (((3 * (a0_0.length : Int)) - 6) < (x19.length : Int)) ha rfl (decide_eq_true_iff) (fun hp45 => ?_) (fun hp45 => ?_)
    · replace hF := if_t hp45 hF
      refine wp_seq ?_; refine wp_region_lit ?_; refine op_g ha rfl (g_build (vs := []) (cells := #[(.int .i64 0), (.slice none 0 0)]) rfl (by rfl)) ?_; clear ha a; intro a ha
      refine o_storeA (vs := [(.int .i64 0), (.slice none 0 0)]) ha hB11 Tryz.sizeOf41 rfl rfl (by intro c hc; simp only [List.mem_cons, List.not_mem_nil, or_false] at hc; rcases hc with hc | hc <;> subst hc <;> first | rfl | exact rfl | exact rfl) rfl ?_; intro w46 hB47 hc48
      replace hc48 := hc48.bl
      replace hB47 : Bx w46 b9 [(.int .i64 0), (.slice none 0 0)] 41 := hB47
      replace h25 := h25.nq hc48 q34
      have hE49 := Ext.then hE37 hc48 (Zn.bl q17)
      refine wpList_nil ?_; replace ha := ha.sub (σ' := [(2, (.pointer (some ⟨b9, 0, none⟩)))]) ⟨rfl, trivial⟩; refine e_then ?_; refine wp_ret ?_; refine e_then_ret ?_; obtain rfl := Option.some.inj hF
      exact f_retC (cs := [(.int .i64 0), (.slice none 0 0)]) ha rfl rfl Tryz.isAgg41 Tryz.sizeOf41 hB47 ⟨_, _, [], rfl, ⟨rfl, (show InI 0 from by decide)⟩, (Ro.nil _), (Pv.nil), hE49⟩
    replace hF := if_f hp45 hF; refine wp_skip ?_; refine e_then ?_; refine wp_seq ?_; refine wp_region_lit ?_; (iterate 2 refine op_g ha rfl (g_move rfl) ?_; clear ha a; intro a ha); obtain ⟨g54, g54b, hF⟩ := mkS_some hF
    refine o_make (z0 := ([] : (List Int))) (Rp.sl 2 Rp.int) ha rfl sl22 rfl (fun w => nil_rep w) rfl g54 g54b ?_; clear ha a; intro v50 w51 h52 hx53 a ha
    obtain ⟨b57, hb57⟩ : ∃ b : Int, b = w22.heap.size := ⟨_, rfl⟩; rw [← hb57] at h52
    have q58 := zn_of hb57
    have q59 := Nq.new hB11.fpb q58
    have q60 := Nq.madeO q58 hB11.bi
    have q61 := Nq.new h25.fpb q58
    have q62 := Nq.madeO q58 h25.blt
    have q63 := Nf.old q58 (zf_nil _) h25.bnd
    have q64 := Zn.upD q58 hE37
    replace hB11 := hB11.ext hx53
    replace h25 := h25.ext hx53
    have hE65 := Ext.trans hE37 hx53
    refine op_g ha rfl (g_build (vs := []) (cells := #[(.int .i64 0), (.slice none 0 0)]) rfl (by rfl)) ?_; clear ha a; intro a ha
    obtain ⟨fp66, hro67, hs68⟩ := h25.roF
    obtain ⟨fp69, hro70, hs71⟩ := h52.roF
    obtain ⟨x72, hc73, hF⟩ := cal_some hF
    refine o_call ha rfl rfl Tryz.call28 (W_spec_l22Search hro67 hro70 (show InI 0 from by decide) (Ro.nil _) hc73) ?_; clear ha a; rintro v74 w75 ⟨u77, u78, fp80, rfl, ⟨rfl, hI79⟩, h81, pv82, hx76⟩ a ha
    have q84 := Nq.rd pv82 (Nq.append (Nq.append (Nq.mono q34 hs68) (Nq.mono q60 hs71)) (Nq.nil _)) hB11.bi
    have q85 := (Pv.call pv82 (Pv.app (Pv.app (Pv.mono (Pv.own q38 q39) hs68) (Pv.mono (Pv.own q64 (zf_nil _)) hs71)) (Pv.nil)) hE65.size : Pv (fa0_0) W.heap.size fp80)
    replace hB11 := hB11.ext hx76
    replace h25 := h25.ext hx76
    replace h52 := h52.ext hx76
    have hE86 := Ext.trans hE65 hx76
    refine o_storeA (vs := [(.int .i64 x72.1), u78]) ha hB11 Tryz.sizeOf41 rfl rfl (by intro c hc; simp only [List.mem_cons, List.not_mem_nil, or_false] at hc; rcases hc with hc | hc <;> subst hc <;> first | rfl | exact rfl | exact h81.oneC) rfl ?_; intro w87 hB88 hc89
    replace hc89 := hc89.bl
    replace hB88 : Bx w87 b9 [(.int .i64 x72.1), u78] 41 := hB88
    replace h25 := h25.nq hc89 q34
    replace h52 := h52.nq hc89 q60
    replace h81 := h81.nq hc89 q84
    have hE90 := Ext.then hE86 hc89 (Zn.bl q17)
    refine wpList_nil ?_; replace ha := ha.sub (σ' := [(2, (.pointer (some ⟨b9, 0, none⟩)))]) ⟨rfl, trivial⟩; refine e_then ?_; refine wp_ret ?_; obtain rfl := Option.some.inj hF
    exact f_retC (cs := [(.int .i64 x72.1), u78]) ha rfl rfl Tryz.isAgg41 Tryz.sizeOf41 hB88 ⟨_, _, _, rfl, ⟨rfl, hI79⟩, h81, (q85), hE90⟩
  replace hF := if_f hp40 hF
  rw [show (decide (3 ≤ (a0_0.length : Int))) = false from b_false (decide_eq_true_iff) hp40] at ha
  (iterate 6 refine op_unwant ha rfl (yields ha rfl rfl) rfl ?_; clear ha a; intro a ha); refine op_g ha rfl (g_pick rfl rfl) ?_; clear ha a; intro a ha; refine wpList_nil ?_; replace ha := ha.sub (σ' := [(2, (.pointer (some ⟨b9, 0, none⟩))), (3, (.int .i64 (a0_0.length : Int))), (4, v21), (19, (.bool false))]) ⟨rfl, rfl, rfl, rfl, trivial⟩; refine e_then ?_; refine c_false ha rfl ?_; refine wp_skip ?_; refine e_then ?_; refine wp_seq ?_; refine wp_region_lit ?_; (iterate 2 refine op_g ha rfl (g_move rfl) ?_; clear ha a; intro a ha); obtain ⟨g95, g95b, hF⟩ := mkS_some hF
  refine o_make (z0 := ([] : (List Int))) (Rp.sl 2 Rp.int) ha rfl sl22 rfl (fun w => nil_rep w) rfl g95 g95b ?_; clear ha a; intro v91 w92 h93 hx94 a ha
  obtain ⟨b98, hb98⟩ : ∃ b : Int, b = w22.heap.size := ⟨_, rfl⟩; rw [← hb98] at h93
  have q99 := zn_of hb98
  have q100 := Nq.new hB11.fpb q99
  have q101 := Nq.madeO q99 hB11.bi
  have q102 := Nq.new h25.fpb q99
  have q103 := Nq.madeO q99 h25.blt
  have q104 := Nf.old q99 (zf_nil _) h25.bnd
  have q105 := Zn.upD q99 hE37
  replace hB11 := hB11.ext hx94
  replace h25 := h25.ext hx94
  have hE106 := Ext.trans hE37 hx94
  refine op_g ha rfl (g_build (vs := []) (cells := #[(.int .i64 0), (.slice none 0 0)]) rfl (by rfl)) ?_; clear ha a; intro a ha
  obtain ⟨fp107, hro108, hs109⟩ := h25.roF
  obtain ⟨fp110, hro111, hs112⟩ := h93.roF
  obtain ⟨x113, hc114, hF⟩ := cal_some hF
  refine o_call ha rfl rfl Tryz.call28 (W_spec_l22Search hro108 hro111 (show InI 0 from by decide) (Ro.nil _) hc114) ?_; clear ha a; rintro v115 w116 ⟨u118, u119, fp121, rfl, ⟨rfl, hI120⟩, h122, pv123, hx117⟩ a ha
  have q125 := Nq.rd pv123 (Nq.append (Nq.append (Nq.mono q34 hs109) (Nq.mono q101 hs112)) (Nq.nil _)) hB11.bi
  have q126 := (Pv.call pv123 (Pv.app (Pv.app (Pv.mono (Pv.own q38 q39) hs109) (Pv.mono (Pv.own q105 (zf_nil _)) hs112)) (Pv.nil)) hE106.size : Pv (fa0_0) W.heap.size fp121)
  replace hB11 := hB11.ext hx117
  replace h25 := h25.ext hx117
  replace h93 := h93.ext hx117
  have hE127 := Ext.trans hE106 hx117
  refine o_storeA (vs := [(.int .i64 x113.1), u119]) ha hB11 Tryz.sizeOf41 rfl rfl (by intro c hc; simp only [List.mem_cons, List.not_mem_nil, or_false] at hc; rcases hc with hc | hc <;> subst hc <;> first | rfl | exact rfl | exact h122.oneC) rfl ?_; intro w128 hB129 hc130
  replace hc130 := hc130.bl
  replace hB129 : Bx w128 b9 [(.int .i64 x113.1), u119] 41 := hB129
  replace h25 := h25.nq hc130 q34
  replace h93 := h93.nq hc130 q101
  replace h122 := h122.nq hc130 q125
  have hE131 := Ext.then hE127 hc130 (Zn.bl q17)
  refine wpList_nil ?_; replace ha := ha.sub (σ' := [(2, (.pointer (some ⟨b9, 0, none⟩)))]) ⟨rfl, trivial⟩; refine e_then ?_; refine wp_ret ?_; obtain rfl := Option.some.inj hF
  exact f_retC (cs := [(.int .i64 x113.1), u119]) ha rfl rfl Tryz.isAgg41 Tryz.sizeOf41 hB129 ⟨_, _, _, rfl, ⟨rfl, hI120⟩, h122, (q126), hE131⟩
set_option maxHeartbeats 2000000 in
theorem W_spec_EmbeddingOf {W : World} {va0_0 : Value} {fa0_0 : List Nat} {a0_0 : (List (List Int))} (ha0_0 : Ro (Rp.sl 2 Rp.int) W fa0_0 va0_0 a0_0) {r : ((List (List Int)) × Bool)} (hF : F_spec_EmbeddingOf a0_0 = some r) :
    Calls Tryz.prog 10 [.agg #[va0_0]].toArray W (Ret fun u w' => ∃ (u0 : Value) (u1 : Value) (u0_0 : Value) (fp_u0_0 : List Nat), u = .tuple #[u0, u1] ∧ u0 = .agg #[u0_0] ∧ Ro (Rp.sl 2 Rp.int) w' fp_u0_0 u0_0 r.1 ∧ Pv (fa0_0) W.heap.size fp_u0_0 ∧ u1 = .bool r.2 ∧ Ext W w') := by
  refine f_enter Tryz.func10 rfl Tryz.ntmps10 rfl ?_
  intro a ha
  replace ha : Fr 18 [(0, (.agg #[va0_0]))] a := ha
  have hE : Chg [] W W := Chg.refl _ _
  unfold F_spec_EmbeddingOf at hF
  refine wp_seq ?_; refine wp_region_lit ?_
  refine o_box ha rfl rfl rfl ?_; clear ha a; intro b1 w2 hB3 hx4 hlo5 a ha
  have q6 := Zn.one hlo5
  have q7 := Zn.upD q6 hE
  have hE8 := Ext.trans hE hx4
  refine o_alloc (cs := [(.slice none 0 0)]) ha rfl Tryz.zeroValue33 rfl ?_; clear ha a; intro b9 w10 hB11 hx12 hlo13 a ha
  have q14 := Zn.one hlo13
  have q15 := Nq.new hB3.fpb q14
  have q16 := Nq.made1 hlo13 hB3.bi
  have q17 := Zn.upD q14 hE8
  replace hB3 := hB3.ext hx12
  have hE18 := Ext.trans hE8 hx12
  refine op_g ha rfl (g_assign rfl) ?_; clear ha a; intro a ha; refine wpList_nil ?_; replace ha := ha.sub (σ' := [(1, (.pointer (some ⟨b1, 0, none⟩))), (2, (.pointer (some ⟨b9, 0, none⟩)))]) ⟨rfl, rfl, trivial⟩; refine e_then ?_; refine wp_seq ?_; refine wp_seq ?_; refine wp_region_lit ?_; refine op_g ha rfl (g_loadA (cs := [va0_0]) Tryz.isAgg27 Tryz.sizeOf27 rfl (by simp) hB3.all) ?_; clear ha a; intro a ha; obtain ⟨x19, hc20, hF⟩ := cal_some hF
  refine o_call ha rfl rfl Tryz.call15 (W_spec_l26Small (ha0_0.ext hE18) hc20) ?_; clear ha a; rintro v21 w22 ⟨rfl, hx23⟩ a ha
  replace hB3 := hB3.ext hx23
  replace hB11 := hB11.ext hx23
  have hE24 := Ext.trans hE18 hx23
  refine op_g ha rfl (g_not rfl) ?_; clear ha a; intro a ha; refine wpList_nil ?_; replace ha := ha.sub (σ' := [(1, (.pointer (some ⟨b1, 0, none⟩))), (2, (.pointer (some ⟨b9, 0, none⟩))), (7, (.bool (!x19)))]) ⟨rfl, rfl, rfl, trivial⟩; refine e_then ?_; refine c_cond (¬ (x19 = true)) ha rfl (n_iff (Iff.rfl)) (fun hp25 => ?_) (fun hp25 => ?_)
  · replace hF := if_t hp25 hF
    refine wp_seq ?_; refine wp_region_lit ?_; refine op_g ha rfl (g_build (vs := []) (cells := #[(.slice none 0 0)]) rfl (by rfl)) ?_; clear ha a; intro a ha
    refine o_storeA (vs := [(.slice none 0 0)]) ha hB11 Tryz.sizeOf33 rfl rfl (by intro c hc; simp only [List.mem_cons, List.not_mem_nil, or_false] at hc; rcases hc with hc <;> subst hc <;> first | rfl | exact rfl) rfl ?_; intro w26 hB27 hc28
    replace hc28 := hc28.bl
    replace hB27 : Bx w26 b9 [(.slice none 0 0)] 33 := hB27
    replace hB3 := hB3.nq hc28 q15
    have hE29 := Ext.then hE24 hc28 (Zn.bl q17)
    refine op_g ha rfl (g_assign rfl) ?_; clear ha a; intro a ha; refine wpList_nil ?_; replace ha := ha.sub (σ' := [(2, (.pointer (some ⟨b9, 0, none⟩))), (3, (.bool false))]) ⟨rfl, rfl, trivial⟩; refine e_then ?_; refine wp_ret ?_; refine e_then_ret ?_; obtain rfl := Option.some.inj hF
    exact f_retC2 (cs := [(.slice none 0 0)]) ha rfl rfl Tryz.isAgg33 Tryz.sizeOf33 hB27 rfl ⟨_, _, _, [], rfl, rfl, (Ro.nil _), (Pv.nil), rfl, hE29⟩
  replace hF := if_f hp25 hF; refine wp_skip ?_; refine e_then ?_; refine wp_seq ?_; refine wp_region_lit ?_; refine op_g ha rfl (g_loadA (cs := [va0_0]) Tryz.isAgg27 Tryz.sizeOf27 rfl (by simp) hB3.all) ?_; clear ha a; intro a ha; obtain ⟨x30, hc31, hF⟩ := cal_some hF
  refine o_call ha rfl rfl Tryz.call16 (W_spec_l22All (ha0_0.ext hE24) hc31) ?_; clear ha a; rintro v32 w33 ⟨u35, u36, fp38, rfl, ⟨rfl, hI37⟩, h39, pv40, hx34⟩ a ha
  have q42 := Nq.rd pv40 (Nq.new ha0_0.bnd q7) hB3.bi
  have q43 := Nq.rd pv40 (Nq.new ha0_0.bnd q17) hB11.bi
  have q44 := (Pv.call pv40 (Pv.par (fun _ h => h)) hE24.size : Pv (fa0_0) W.heap.size fp38)
  replace hB3 := hB3.ext hx34
  replace hB11 := hB11.ext hx34
  have hE45 := Ext.trans hE24 hx34
  refine o_alloc (cs := [(.int .i64 0), (.slice none 0 0)]) ha rfl Tryz.zeroValue41 rfl ?_; clear ha a; intro b46 w47 hB48 hx49 hlo50 a ha
  have q51 := Zn.one hlo50
  have q52 := Nq.new hB3.fpb q51
  have q53 := Nq.made1 hlo50 hB3.bi
  have q54 := Nq.new hB11.fpb q51
  have q55 := Nq.made1 hlo50 hB11.bi
  have q56 := Nq.new h39.bnd q51
  have q57 := Zn.upD q51 hE45
  replace hB3 := hB3.ext hx49
  replace hB11 := hB11.ext hx49
  replace h39 := h39.ext hx49
  have hE58 := Ext.trans hE45 hx49
  refine o_storeA (vs := [(.int .i64 x30.1), u36]) ha hB48 Tryz.sizeOf41 rfl rfl (by intro c hc; simp only [List.mem_cons, List.not_mem_nil, or_false] at hc; rcases hc with hc | hc <;> subst hc <;> first | rfl | exact rfl | exact h39.oneC) rfl ?_; intro w59 hB60 hc61
  replace hc61 := hc61.bl
  replace hB60 : Bx w59 b46 [(.int .i64 x30.1), u36] 41 := hB60
  replace hB3 := hB3.nq hc61 q52
  replace hB11 := hB11.nq hc61 q54
  replace h39 := h39.nq hc61 q56
  have hE62 := Ext.then hE58 hc61 (Zn.bl q57)
  refine wpList_nil ?_; replace ha := ha.sub (σ' := [(2, (.pointer (some ⟨b9, 0, none⟩))), (4, (.pointer (some ⟨b46, 0, none⟩)))]) ⟨rfl, rfl, trivial⟩; refine e_then ?_; refine wp_seq ?_; refine wp_seq ?_; refine wp_region_lit ?_; refine op_g ha rfl (g_field0 st41_0 rfl) ?_; clear ha a; intro a ha; refine op_g ha rfl (g_load Tryz.isAgg2 rfl (hB60.cell rfl)) ?_; clear ha a; intro a ha; refine op_g ha rfl (g_eql rfl rfl) ?_; clear ha a; intro a ha; refine wpList_nil ?_; replace ha := ha.sub (σ' := [(2, (.pointer (some ⟨b9, 0, none⟩))), (4, (.pointer (some ⟨b46, 0, none⟩))), (13, (.bool (decide (x30.1 = 0))))]) ⟨rfl, rfl, rfl, trivial⟩
  refine e_then ?_; refine c_cond (x30.1 = 0) ha rfl (decide_eq_true_iff) (fun hp63 => ?_) (fun hp63 => ?_)
  · replace hF := if_t hp63 hF
    refine wp_seq ?_; refine wp_region_lit ?_; refine op_g ha rfl (g_build (vs := []) (cells := #[(.slice none 0 0)]) rfl (by rfl)) ?_; clear ha a; intro a ha
    refine o_storeA (vs := [(.slice none 0 0)]) ha hB11 Tryz.sizeOf33 rfl rfl (by intro c hc; simp only [List.mem_cons, List.not_mem_nil, or_false] at hc; rcases hc with hc <;> subst hc <;> first | rfl | exact rfl) rfl ?_; intro w64 hB65 hc66
    replace hc66 := hc66.bl
    replace hB65 : Bx w64 b9 [(.slice none 0 0)] 33 := hB65
    replace h39 := h39.nq hc66 q43
    replace hB60 := hB60.nq hc66 q55
    have hE67 := Ext.then hE62 hc66 (Zn.bl q17)
    refine op_g ha rfl (g_assign rfl) ?_; clear ha a; intro a ha; refine wpList_nil ?_; replace ha := ha.sub (σ' := [(2, (.pointer (some ⟨b9, 0, none⟩))), (3, (.bool false))]) ⟨rfl, rfl, trivial⟩; refine e_then ?_; refine wp_ret ?_; refine e_then_ret ?_; obtain rfl := Option.some.inj hF
    exact f_retC2 (cs := [(.slice none 0 0)]) ha rfl rfl Tryz.isAgg33 Tryz.sizeOf33 hB65 rfl ⟨_, _, _, [], rfl, rfl, (Ro.nil _), (Pv.nil), rfl, hE67⟩
  replace hF := if_f hp63 hF; refine wp_skip ?_; refine e_then ?_; refine wp_seq ?_; refine wp_region_lit ?_; refine op_g ha rfl (g_field0 st41_1 rfl) ?_; clear ha a; intro a ha; refine op_g ha rfl (g_load Tryz.isAgg22 rfl (hB60.cell rfl)) ?_; clear ha a; intro a ha; refine op_g ha rfl (g_build (vs := [(0, u36)]) (cells := #[u36]) rfl (by obtain ⟨_, _, rfl⟩ := h39.shape ; rfl)) ?_; clear ha a; intro a ha
  refine o_storeA (vs := [u36]) ha hB11 Tryz.sizeOf33 rfl rfl (by intro c hc; simp only [List.mem_cons, List.not_mem_nil, or_false] at hc; rcases hc with hc <;> subst hc <;> first | rfl | exact h39.oneC) rfl ?_; intro w68 hB69 hc70
  replace hc70 := hc70.bl
  replace hB69 : Bx w68 b9 [u36] 33 := hB69
  replace h39 := h39.nq hc70 q43
  replace hB60 := hB60.nq hc70 q55
  have hE71 := Ext.then hE62 hc70 (Zn.bl q17)
  refine op_g ha rfl (g_assign rfl) ?_; clear ha a; intro a ha; refine wpList_nil ?_; replace ha := ha.sub (σ' := [(2, (.pointer (some ⟨b9, 0, none⟩))), (3, (.bool true))]) ⟨rfl, rfl, trivial⟩; refine e_then ?_; refine wp_ret ?_; obtain rfl := Option.some.inj hF
  exact f_retC2 (cs := [u36]) ha rfl rfl Tryz.isAgg33 Tryz.sizeOf33 hB69 rfl ⟨_, _, _, _, rfl, rfl, h39, (q44), rfl, hE71⟩
set_option maxHeartbeats 2000000 in
theorem W_spec_PlanarIn {W : World} {va0_0 : Value} {fa0_0 : List Nat} {a0_0 : (List (List Int))} (ha0_0 : Ro (Rp.sl 2 Rp.int) W fa0_0 va0_0 a0_0) {r : Bool} (hF : F_spec_PlanarIn a0_0 = some r) :
    Calls Tryz.prog 5 [.agg #[va0_0]].toArray W (Ret fun u w' => u = .bool r ∧ Ext W w') := by
  refine f_enter Tryz.func5 rfl Tryz.ntmps5 rfl ?_
  intro a ha
  replace ha : Fr 11 [(0, (.agg #[va0_0]))] a := ha
  have hE : Chg [] W W := Chg.refl _ _
  unfold F_spec_PlanarIn at hF
  refine wp_seq ?_; refine wp_region_lit ?_
  refine o_box ha rfl rfl rfl ?_; clear ha a; intro b1 w2 hB3 hx4 hlo5 a ha
  have q6 := Zn.one hlo5
  have q7 := Zn.upD q6 hE
  have hE8 := Ext.trans hE hx4
  refine op_g ha rfl (g_assign rfl) ?_; clear ha a; intro a ha; refine wpList_nil ?_; replace ha := ha.sub (σ' := [(1, (.pointer (some ⟨b1, 0, none⟩)))]) ⟨rfl, trivial⟩; refine e_then ?_; refine wp_seq ?_; refine wp_region_lit ?_; refine op_g ha rfl (g_loadA (cs := [va0_0]) Tryz.isAgg27 Tryz.sizeOf27 rfl (by simp) hB3.all) ?_; clear ha a; intro a ha; obtain ⟨x9, hc10, hF⟩ := cal_some hF
  refine o_call ha rfl rfl Tryz.call10 (W_spec_EmbeddingOf (ha0_0.ext hE8) hc10) ?_; clear ha a; rintro v11 w12 ⟨u14, u15, u16, fp17, rfl, rfl, h18, pv19, rfl, hx13⟩ a ha
  have q21 := Nq.rd pv19 (Nq.new ha0_0.bnd q7) hB3.bi
  replace hB3 := hB3.ext hx13
  have hE22 := Ext.trans hE8 hx13
  refine op_g ha rfl (g_move rfl) ?_; clear ha a; intro a ha; (iterate 2 refine op_g ha rfl (g_extract rfl rfl) ?_; clear ha a; intro a ha)
  refine o_alloc (cs := [(.slice none 0 0)]) ha rfl Tryz.zeroValue33 rfl ?_; clear ha a; intro b23 w24 hB25 hx26 hlo27 a ha
  have q28 := Zn.one hlo27
  have q29 := Nq.new hB3.fpb q28
  have q30 := Nq.made1 hlo27 hB3.bi
  have q31 := Nq.new h18.bnd q28
  have q32 := Zn.upD q28 hE22
  replace hB3 := hB3.ext hx26
  replace h18 := h18.ext hx26
  have hE33 := Ext.trans hE22 hx26
  refine o_storeA (vs := [u16]) ha hB25 Tryz.sizeOf33 rfl rfl (by intro c hc; simp only [List.mem_cons, List.not_mem_nil, or_false] at hc; rcases hc with hc <;> subst hc <;> first | rfl | exact h18.oneC) rfl ?_; intro w34 hB35 hc36
  replace hc36 := hc36.bl
  replace hB35 : Bx w34 b23 [u16] 33 := hB35
  replace hB3 := hB3.nq hc36 q29
  replace h18 := h18.nq hc36 q31
  have hE37 := Ext.then hE33 hc36 (Zn.bl q32)
  refine op_g ha rfl (g_assign rfl) ?_; clear ha a; intro a ha; refine wpList_nil ?_; replace ha := ha.sub (σ' := [(4, (.bool x9.2))]) ⟨rfl, trivial⟩; refine e_then ?_; refine wp_seq ?_; refine wp_region_lit ?_; refine op_g ha rfl (g_move rfl) ?_; clear ha a; intro a ha; refine op_g ha rfl (g_assign rfl) ?_; clear ha a; intro a ha; refine wpList_nil ?_; replace ha := ha.sub (σ' := [(2, (.bool x9.2))]) ⟨rfl, trivial⟩; refine e_then ?_; refine wp_ret ?_; obtain rfl := Option.some.inj hF
  exact f_ret1 ha rfl rfl ⟨rfl, hE37⟩
set_option maxHeartbeats 2000000 in
theorem W_impl_inRange {W : World} {a0 : Int} (ha0 : InI a0) {a1 : Int} (ha1 : InI a1) {a2 : Int} (ha2 : InI a2) {r : Bool} (hF : F_impl_inRange a0 a1 a2 = some r) :
    Calls Tryz.prog 64 [.int .i64 a0, .int .i64 a1, .int .i64 a2].toArray W (Ret fun u w' => u = .bool r ∧ Ext W w') := by
  refine f_enter Tryz.func64 rfl Tryz.ntmps64 rfl ?_
  intro a ha
  replace ha : Fr 15 [(0, (.int .i64 a0)), (1, (.int .i64 a1)), (2, (.int .i64 a2))] a := ha
  have hE : Chg [] W W := Chg.refl _ _
  unfold F_impl_inRange at hF
  refine wp_seq ?_; refine wp_region_lit ?_; refine op_g ha rfl (g_assign rfl) ?_; clear ha a; intro a ha; refine wpList_nil ?_; replace ha := ha.sub (σ' := [(0, (.int .i64 a0)), (1, (.int .i64 a1)), (2, (.int .i64 a2))]) ⟨rfl, rfl, rfl, trivial⟩; refine e_then ?_; refine wp_seq ?_; refine wp_region_lit ?_; (iterate 2 refine op_g ha rfl (g_move rfl) ?_; clear ha a; intro a ha); refine op_g ha rfl (g_leq rfl rfl) ?_; clear ha a; intro a ha; refine op_g ha rfl (g_move rfl) ?_; clear ha a; intro a ha
  by_cases hp1 : a1 ≤ a0
  · replace hF := if_t hp1 hF
    rw [show (decide (a1 ≤ a0)) = true from (decide_eq_true_iff).2 hp1] at ha
    refine op_want (yields ha rfl rfl) ?_; refine op_g ha rfl (g_move rfl) ?_; clear ha a; intro a ha; refine op_want (yields ha rfl rfl) ?_; refine op_g ha rfl (g_move rfl) ?_; clear ha a; intro a ha; refine op_want (yields ha rfl rfl) ?_; refine op_g ha rfl (g_leq rfl rfl) ?_; clear ha a; intro a ha; refine op_g ha rfl (g_pick rfl rfl) ?_; clear ha a; intro a ha; refine op_g ha rfl (g_assign rfl) ?_; clear ha a; intro a ha; refine wpList_nil ?_; replace ha := ha.sub (σ' := [(6, (.bool (decide (a0 ≤ a2))))]) ⟨rfl, trivial⟩; refine e_then ?_; refine wp_ret ?_; obtain rfl := Option.some.inj hF
    exact f_ret1 ha rfl rfl ⟨rfl, hE⟩
  replace hF := if_f hp1 hF
  rw [show (decide (a1 ≤ a0)) = false from b_false (decide_eq_true_iff) hp1] at ha
  (iterate 3 refine op_unwant ha rfl (yields ha rfl rfl) rfl ?_; clear ha a; intro a ha); refine op_g ha rfl (g_pick rfl rfl) ?_; clear ha a; intro a ha; refine op_g ha rfl (g_assign rfl) ?_; clear ha a; intro a ha; refine wpList_nil ?_; replace ha := ha.sub (σ' := [(6, (.bool false))]) ⟨rfl, trivial⟩; refine e_then ?_; refine wp_ret ?_; obtain rfl := Option.some.inj hF
  exact f_ret1 ha rfl rfl ⟨rfl, hE⟩
set_option maxHeartbeats 2000000 in
theorem W_impl_increasing {W : World} {va0 : Value} {fa0 : List Nat} {a0 : (List Int)} (ha0 : Ro Rp.int W fa0 va0 a0) {a1 : Int} (ha1 : InI a1) {r : Bool} (hF : F_impl_increasing a0 a1 = some r) :
    Calls Tryz.prog 46 [va0, .int .i64 a1].toArray W (Ret fun u w' => u = .bool r ∧ Ext W w') := by
  refine f_enter Tryz.func46 rfl Tryz.ntmps46 rfl ?_
  intro a ha
  replace ha : Fr 33 [(0, va0), (1, (.int .i64 a1))] a := ha
  have hE : Chg [] W W := Chg.refl _ _
  unfold F_impl_increasing at hF
  refine wp_seq ?_; refine wp_region_lit ?_; refine op_g ha rfl (g_assign rfl) ?_; clear ha a; intro a ha; refine wpList_nil ?_; replace ha := ha.sub (σ' := [(0, va0), (1, (.int .i64 a1))]) ⟨rfl, rfl, trivial⟩; refine e_then ?_; refine wp_seq ?_; refine wp_seq ?_; refine wp_region_lit ?_; refine op_g ha rfl (g_move rfl) ?_; clear ha a; intro a ha; refine op_g ha rfl (g_lenR sl39.und ha0 rfl) ?_; clear ha a; intro a ha; refine op_g ha rfl (g_move rfl) ?_; clear ha a; intro a ha; refine wpList_nil ?_; replace ha := ha.sub (σ' := [(0, va0), (1, (.int .i64 a1)), (7, va0), (8, (.int .i64 (a0.length : Int))), (9, (.int .i64 0))]) ⟨rfl, rfl, rfl, rfl, rfl, trivial⟩
  refine e_then ?_; obtain ⟨o98, ho99, hK100⟩ := bnd_some hF
  obtain ⟨n101, hn102⟩ := lp_some ho99; clear ho99
  refine c_loop (fun a w => Fr 33 [] a ∧ Chg [] W w ∧ o98 = .inl ()) (fun n a w => ∃ (i49 : Int), Fr 33 [(0, va0), (1, (.int .i64 a1)), (7, va0), (8, (.int .i64 (a0.length : Int))), (9, (.int .i64 i49))] a ∧ Chg [] W w ∧ InI i49 ∧ lpN (fun s => F_impl_increasing_l1 a0 a1 s) n i49 = some o98) n101 ⟨0, ha.sub ⟨rfl, rfl, rfl, rfl, rfl, trivial⟩, hE, (show InI 0 from by decide), hn102⟩ ?_ ?_
  · rintro m106 a w48 ⟨i49, ha, hE51, hI50, hF⟩
    cases m106 with
    | zero => exact (lpN_zero hF).elim
    | succ m106 =>
      obtain ⟨z105, hF, hN104⟩ := lpN_succ hF
      have hF : F_impl_increasing_l1 a0 a1 i49 = some z105 := hF; unfold F_impl_increasing_l1 at hF
      refine wp_seq ?_; refine wp_region_lit ?_; refine op_g ha rfl (g_lss rfl rfl) ?_; clear ha a; intro a ha; refine wpList_nil ?_; replace ha := ha.sub (σ' := [(0, va0), (1, (.int .i64 a1)), (7, va0), (8, (.int .i64 (a0.length : Int))), (9, (.int .i64 i49)), (10, (.bool (decide (i49 < (a0.length : Int)))))]) ⟨rfl, rfl, rfl, rfl, rfl, rfl, trivial⟩; refine e_then ?_; refine wp_seq ?_; refine c_cond (i49 < (a0.length : Int)) ha rfl (decide_eq_true_iff) (fun hp107 => ?_) (fun hp107 => ?_)
      · replace hF := if_t hp107 hF
        refine wp_skip ?_; refine e_then ?_; refine wp_seq ?_; refine wp_block ?_; refine wp_seq ?_; refine wp_region_lit ?_; refine op_g ha rfl (g_move rfl) ?_; clear ha a; intro a ha; obtain ⟨x108, g109, gx110, hF⟩ := idx_some hF
        obtain ⟨p111, cs112, f113, hf114, hpb115, hat116, hr117, hi118⟩ := ha0.at g109 gx110
        obtain ⟨rfl, hI119, rfl⟩ := hr117
        refine op_g ha rfl (hi118.gives sl39 rfl rfl) ?_; clear ha a; intro a ha; refine op_g ha rfl (g_load0 hE51 Tryz.isAgg2 rfl hat116.one) ?_; clear ha a; intro a ha; (iterate 2 refine op_g ha rfl (g_assign rfl) ?_; clear ha a; intro a ha); refine wpList_nil ?_; replace ha := ha.sub (σ' := [(0, va0), (1, (.int .i64 a1)), (5, (.int .i64 i49)), (6, (.int .i64 x108)), (7, va0), (8, (.int .i64 (a0.length : Int))), (9, (.int .i64 i49))]) ⟨rfl, rfl, rfl, rfl, rfl, rfl, rfl, trivial⟩; refine e_then ?_; refine wp_seq ?_; refine wp_region_lit ?_; (iterate 2 refine op_g ha rfl (g_move rfl) ?_; clear ha a; intro a ha)
        obtain ⟨hI120, hF⟩ := ck_some hF; refine op_g ha rfl (g_sub rfl rfl hI120) ?_; clear ha a; intro a ha; obtain ⟨x122, hc123, hF⟩ := cal_some hF
        refine o_call ha rfl rfl Tryz.call64 (W_impl_inRange hI119 (show InI 0 from by decide) hI120 hc123) ?_; clear ha a; rintro v124 w125 ⟨rfl, hx126⟩ a ha
        have hE127 := Ext.trans hE51 hx126
        refine op_g ha rfl (g_not rfl) ?_; clear ha a; intro a ha; refine op_g ha rfl (g_move rfl) ?_; clear ha a; intro a ha
        by_cases hp128 : ¬ (x122 = true)
        · replace hF := if_t hp128 hF
          rw [show (!x122) = true from (n_iff (Iff.rfl)).2 hp128] at ha
          (iterate 3 refine op_unwant ha rfl (yields ha rfl rfl) rfl ?_; clear ha a; intro a ha); (iterate 7 refine op_unwant0 ha rfl (yields0 ha rfl rfl) ?_; clear ha a; intro a ha); refine op_unwant ha rfl (yields ha rfl rfl) rfl ?_; clear ha a; intro a ha; refine op_g ha rfl (g_pick rfl rfl) ?_; clear ha a; intro a ha; refine wpList_nil ?_; replace ha := ha.sub (σ' := [(0, va0), (1, (.int .i64 a1)), (7, va0), (8, (.int .i64 (a0.length : Int))), (9, (.int .i64 i49)), (31, (.bool true))]) ⟨rfl, rfl, rfl, rfl, rfl, rfl, trivial⟩; refine e_then ?_; refine c_true ha rfl ?_; refine wp_seq ?_; refine wp_region_lit ?_
          refine op_g ha rfl (g_assign rfl) ?_; clear ha a; intro a ha; refine wpList_nil ?_; replace ha := ha.sub (σ' := [(4, (.bool false))]) ⟨rfl, trivial⟩; refine e_then ?_; refine wp_ret ?_; refine e_blk_ret ?_; refine e_then_ret ?_; refine e_lq_ret ?_; refine e_then_ret ?_; obtain rfl := Option.some.inj hF
          have e129 := LK_inr hN104; subst e129
          have e130 := BK_inr hK100; subst e130
          exact f_ret1 ha rfl rfl ⟨rfl, hE127⟩
        replace hF := if_f hp128 hF
        rw [show (!x122) = false from b_false (n_iff (Iff.rfl)) hp128] at ha
        refine op_want (yields ha rfl rfl) ?_; refine op_g ha rfl (g_move rfl) ?_; clear ha a; intro a ha; refine op_want (yields ha rfl rfl) ?_; refine op_g ha rfl (g_gtr rfl rfl) ?_; clear ha a; intro a ha; refine op_want (yields ha rfl rfl) ?_; refine op_g ha rfl (g_move rfl) ?_; clear ha a; intro a ha
        by_cases hp131 : 0 < i49
        · replace hF := if_t hp131 hF
          rw [show (decide (0 < i49)) = true from (decide_eq_true_iff).2 hp131] at ha
          refine op_want (yields ha rfl rfl) ?_; refine op_g ha rfl (g_move rfl) ?_; clear ha a; intro a ha; refine op_want (yields ha rfl rfl) ?_; refine op_g ha rfl (g_move rfl) ?_; clear ha a; intro a ha; refine op_want (yields ha rfl rfl) ?_; obtain ⟨hI132, hF⟩ := ck_some hF; refine op_g ha rfl (g_sub rfl rfl hI132) ?_; clear ha a; intro a ha; refine op_want (yields ha rfl rfl) ?_; obtain ⟨x134, g135, gx136, hF⟩ := idx_some hF
          obtain ⟨p137, cs138, f139, hf140, hpb141, hat142, hr143, hi144⟩ := ha0.at g135 gx136
          obtain ⟨rfl, hI145, rfl⟩ := hr143
          refine op_g ha rfl (hi144.gives sl39 rfl rfl) ?_; clear ha a; intro a ha; refine op_want (yields ha rfl rfl) ?_; refine op_g ha rfl (g_load0 hE127 Tryz.isAgg2 rfl hat142.one) ?_; clear ha a; intro a ha; refine op_want (yields ha rfl rfl) ?_; refine op_g ha rfl (g_move rfl) ?_; clear ha a; intro a ha; refine op_want (yields ha rfl rfl) ?_; refine op_g ha rfl (g_geq rfl rfl) ?_; clear ha a; intro a ha; refine op_want (yields ha rfl rfl) ?_; (iterate 2 refine op_g ha rfl (g_pick rfl rfl) ?_; clear ha a; intro a ha); refine wpList_nil ?_; replace ha := ha.sub (σ' := [(0, va0), (1, (.int .i64 a1)), (7, va0), (8, (.int .i64 (a0.length : Int))), (9, (.int .i64 i49)), (20, (.int .i64 i49)), (21, (.bool true)), (22, (.bool true)), (23, va0), (24, (.int .i64 i49)), (25, (.int .i64 (i49 - 1))), (26, (.pointer (some p137))), (27, (.int .i64 x134)), (28, (.int .i64 x108)), (29, (.bool (decide (x108 ≤ x134)))), (30, (.bool (decide (x108 ≤ x134)))), (31, (.bool (decide (x108 ≤ x134))))]) ⟨rfl, rfl, rfl, rfl, rfl, rfl, rfl, rfl, rfl, rfl, rfl, rfl, rfl, rfl, rfl, rfl, rfl, trivial⟩
          refine e_then ?_; refine c_cond (x108 ≤ x134) ha rfl (decide_eq_true_iff) (fun hp146 => ?_) (fun hp146 => ?_)
          · replace hF := if_t hp146 hF
            refine wp_seq ?_; refine wp_region_lit ?_; refine op_g ha rfl (g_assign rfl) ?_; clear ha a; intro a ha; refine wpList_nil ?_; replace ha := ha.sub (σ' := [(4, (.bool false))]) ⟨rfl, trivial⟩; refine e_then ?_; refine wp_ret ?_; refine e_blk_ret ?_; refine e_then_ret ?_; refine e_lq_ret ?_; refine e_then_ret ?_; obtain rfl := Option.some.inj hF
            have e147 := LK_inr hN104; subst e147
            have e148 := BK_inr hK100; subst e148
            exact f_ret1 ha rfl rfl ⟨rfl, hE127⟩
          replace hF := if_f hp146 hF; refine wp_skip ?_; refine e_blk ?_; refine e_then ?_; refine wp_region_lit ?_; obtain ⟨hI149, hF⟩ := ck_some hF; refine op_g ha rfl (g_add rfl rfl hI149) ?_; clear ha a; intro a ha; refine op_g ha rfl (g_move rfl) ?_; clear ha a; intro a ha; refine wpList_nil ?_; replace ha := ha.sub (σ' := [(0, va0), (1, (.int .i64 a1)), (7, va0), (8, (.int .i64 (a0.length : Int))), (9, (.int .i64 (i49 + 1))), (20, (.int .i64 i49)), (21, (.bool true)), (22, (.bool true)), (23, va0), (24, (.int .i64 i49)), (25, (.int .i64 (i49 - 1))), (26, (.pointer (some p137))), (27, (.int .i64 x134)), (28, (.int .i64 x108)), (29, (.bool (decide (x108 ≤ x134)))), (30, (.bool (decide (x108 ≤ x134))))]) ⟨rfl, rfl, rfl, rfl, rfl, rfl, rfl, rfl, rfl, rfl, rfl, rfl, rfl, rfl, rfl, rfl, trivial⟩
          refine e_lq ?_; obtain rfl := Option.some.inj hF
          exact ⟨_, Nat.lt_succ_self _, i49 + 1, ha.sub ⟨rfl, rfl, rfl, rfl, rfl, trivial⟩, hE127, hI149, hN104⟩
        replace hF := if_f hp131 hF
        rw [show (decide (0 < i49)) = false from b_false (decide_eq_true_iff) hp131] at ha
        (iterate 7 refine op_unwant ha rfl (yields ha rfl rfl) rfl ?_; clear ha a; intro a ha); refine op_want (yields ha rfl rfl) ?_; (iterate 2 refine op_g ha rfl (g_pick rfl rfl) ?_; clear ha a; intro a ha); refine wpList_nil ?_; replace ha := ha.sub (σ' := [(0, va0), (1, (.int .i64 a1)), (7, va0), (8, (.int .i64 (a0.length : Int))), (9, (.int .i64 i49)), (20, (.int .i64 i49)), (21, (.bool false)), (22, (.bool false)), (30, (.bool false)), (31, (.bool false))]) ⟨rfl, rfl, rfl, rfl, rfl, rfl, rfl, rfl, rfl, rfl, trivial⟩; refine e_then ?_; refine c_false ha rfl ?_; refine wp_skip ?_; refine e_blk ?_
        refine e_then ?_; refine wp_region_lit ?_; obtain ⟨hI151, hF⟩ := ck_some hF; refine op_g ha rfl (g_add rfl rfl hI151) ?_; clear ha a; intro a ha; refine op_g ha rfl (g_move rfl) ?_; clear ha a; intro a ha; refine wpList_nil ?_; replace ha := ha.sub (σ' := [(0, va0), (1, (.int .i64 a1)), (7, va0), (8, (.int .i64 (a0.length : Int))), (9, (.int .i64 (i49 + 1))), (20, (.int .i64 i49)), (21, (.bool false)), (22, (.bool false)), (30, (.bool false))]) ⟨rfl, rfl, rfl, rfl, rfl, rfl, rfl, rfl, rfl, trivial⟩; refine e_lq ?_; obtain rfl := Option.some.inj hF
        exact ⟨_, Nat.lt_succ_self _, i49 + 1, ha.sub ⟨rfl, rfl, rfl, rfl, rfl, trivial⟩, hE127, hI151, hN104⟩
      replace hF := if_f hp107 hF; refine wp_exit ?_; refine e_then_exit ?_; refine e_lq_eq ?_; obtain rfl := Option.some.inj hF
      exact ⟨ha.sub trivial, hE51, (LK_inr hN104).symm⟩
  rintro a w97 ⟨ha, hE103, rfl⟩
  have hF : F_impl_increasing_k2 = some _ := hK100; clear hK100; unfold F_impl_increasing_k2 at hF
  refine e_then ?_; refine wp_seq ?_; refine wp_region_lit ?_; refine op_g ha rfl (g_assign rfl) ?_; clear ha a; intro a ha; refine wpList_nil ?_; refine e_then ?_; refine wp_ret ?_; obtain rfl := Option.some.inj hF
  exact f_ret1 ha rfl rfl ⟨rfl, hE103⟩
set_option maxHeartbeats 2000000 in
theorem W_slices_Index_int64 {W : World} {va0 : Value} {fa0 : List Nat} {a0 : (List Int)} (ha0 : Ro Rp.int W fa0 va0 a0) {a1 : Int} (ha1 : InI a1) {r : Int} (hF : F_slices_Index_int64 a0 a1 = some r) :
    Calls Tryz.prog 34 [va0, .int .i64 a1].toArray W (Ret fun u w' => (u = .int .i64 r ∧ InI r) ∧ Ext W w') := by
  refine f_enter Tryz.func34 rfl Tryz.ntmps34 rfl ?_
  intro a ha
  replace ha : Fr 19 [(0, va0), (1, (.int .i64 a1))] a := ha
  have hE : Chg [] W W := Chg.refl _ _
  unfold F_slices_Index_int64 at hF
  refine wp_seq ?_; refine wp_region_lit ?_; refine op_g ha rfl (g_assign rfl) ?_; clear ha a; intro a ha; refine wpList_nil ?_; replace ha := ha.sub (σ' := [(0, va0), (1, (.int .i64 a1))]) ⟨rfl, rfl, trivial⟩; refine e_then ?_; refine wp_seq ?_; refine wp_seq ?_; refine wp_region_lit ?_; refine op_g ha rfl (g_move rfl) ?_; clear ha a; intro a ha; refine op_g ha rfl (g_lenR sl39.und ha0 rfl) ?_; clear ha a; intro a ha; refine op_g ha rfl (g_move rfl) ?_; clear ha a; intro a ha; refine wpList_nil ?_; replace ha := ha.sub (σ' := [(0, va0), (1, (.int .i64 a1)), (7, (.int .i64 (a0.length : Int))), (8, (.int .i64 0))]) ⟨rfl, rfl, rfl, rfl, trivial⟩
  refine e_then ?_; obtain ⟨o46, ho47, hK48⟩ := bnd_some hF
  obtain ⟨n49, hn50⟩ := lp_some ho47; clear ho47
  refine c_loop (fun a w => Fr 19 [] a ∧ Chg [] W w ∧ o46 = .inl ()) (fun n a w => ∃ (i23 : Int), Fr 19 [(0, va0), (1, (.int .i64 a1)), (7, (.int .i64 (a0.length : Int))), (8, (.int .i64 i23))] a ∧ Chg [] W w ∧ InI i23 ∧ lpN (fun s => F_slices_Index_int64_l1 a0 a1 s) n i23 = some o46) n49 ⟨0, ha.sub ⟨rfl, rfl, rfl, rfl, trivial⟩, hE, (show InI 0 from by decide), hn50⟩ ?_ ?_
  · rintro m54 a w22 ⟨i23, ha, hE25, hI24, hF⟩
    cases m54 with
    | zero => exact (lpN_zero hF).elim
    | succ m54 =>
      obtain ⟨z53, hF, hN52⟩ := lpN_succ hF
      have hF : F_slices_Index_int64_l1 a0 a1 i23 = some z53 := hF; unfold F_slices_Index_int64_l1 at hF
      refine wp_seq ?_; refine wp_region_lit ?_; refine op_g ha rfl (g_lss rfl rfl) ?_; clear ha a; intro a ha; refine wpList_nil ?_; replace ha := ha.sub (σ' := [(0, va0), (1, (.int .i64 a1)), (7, (.int .i64 (a0.length : Int))), (8, (.int .i64 i23)), (9, (.bool (decide (i23 < (a0.length : Int)))))]) ⟨rfl, rfl, rfl, rfl, rfl, trivial⟩; refine e_then ?_; refine wp_seq ?_; refine c_cond (i23 < (a0.length : Int)) ha rfl (decide_eq_true_iff) (fun hp55 => ?_) (fun hp55 => ?_)
      · replace hF := if_t hp55 hF
        refine wp_skip ?_; refine e_then ?_; refine wp_seq ?_; refine wp_block ?_; refine wp_seq ?_; refine wp_region_lit ?_; refine op_g ha rfl (g_move rfl) ?_; clear ha a; intro a ha; refine op_g ha rfl (g_assign rfl) ?_; clear ha a; intro a ha; refine wpList_nil ?_; replace ha := ha.sub (σ' := [(0, va0), (1, (.int .i64 a1)), (5, (.int .i64 i23)), (7, (.int .i64 (a0.length : Int))), (8, (.int .i64 i23))]) ⟨rfl, rfl, rfl, rfl, rfl, trivial⟩; refine e_then ?_; refine wp_seq ?_; refine wp_region_lit ?_; (iterate 3 refine op_g ha rfl (g_move rfl) ?_; clear ha a; intro a ha); obtain ⟨x56, g57, gx58, hF⟩ := idx_some hF
        obtain ⟨p59, cs60, f61, hf62, hpb63, hat64, hr65, hi66⟩ := ha0.at g57 gx58
        obtain ⟨rfl, hI67, rfl⟩ := hr65
        refine op_g ha rfl (hi66.gives sl39 rfl rfl) ?_; clear ha a; intro a ha; refine op_g ha rfl (g_load0 hE25 Tryz.isAgg2 rfl hat64.one) ?_; clear ha a; intro a ha; refine op_g ha rfl (g_eql rfl rfl) ?_; clear ha a; intro a ha; refine wpList_nil ?_; replace ha := ha.sub (σ' := [(0, va0), (1, (.int .i64 a1)), (5, (.int .i64 i23)), (7, (.int .i64 (a0.length : Int))), (8, (.int .i64 i23)), (16, (.bool (decide (a1 = x56))))]) ⟨rfl, rfl, rfl, rfl, rfl, rfl, trivial⟩; refine e_then ?_; refine c_cond (a1 = x56) ha rfl (decide_eq_true_iff) (fun hp68 => ?_) (fun hp68 => ?_)
        · replace hF := if_t hp68 hF
          refine wp_seq ?_; refine wp_region_lit ?_; refine op_g ha rfl (g_move rfl) ?_; clear ha a; intro a ha; refine op_g ha rfl (g_assign rfl) ?_; clear ha a; intro a ha; refine wpList_nil ?_; replace ha := ha.sub (σ' := [(4, (.int .i64 i23))]) ⟨rfl, trivial⟩; refine e_then ?_; refine wp_ret ?_; refine e_blk_ret ?_; refine e_then_ret ?_; refine e_lq_ret ?_; refine e_then_ret ?_; obtain rfl := Option.some.inj hF
          have e69 := LK_inr hN52; subst e69
          have e70 := BK_inr hK48; subst e70
          exact f_ret1 ha rfl rfl ⟨⟨rfl, hI24⟩, hE25⟩
        replace hF := if_f hp68 hF; refine wp_skip ?_; refine e_blk ?_; refine e_then ?_; refine wp_region_lit ?_; obtain ⟨hI71, hF⟩ := ck_some hF; refine op_g ha rfl (g_add rfl rfl hI71) ?_; clear ha a; intro a ha; refine op_g ha rfl (g_move rfl) ?_; clear ha a; intro a ha; refine wpList_nil ?_; replace ha := ha.sub (σ' := [(0, va0), (1, (.int .i64 a1)), (7, (.int .i64 (a0.length : Int))), (8, (.int .i64 (i23 + 1)))]) ⟨rfl, rfl, rfl, rfl, trivial⟩; refine e_lq ?_; obtain rfl := Option.some.inj hF
        exact ⟨_, Nat.lt_succ_self _, i23 + 1, ha.sub ⟨rfl, rfl, rfl, rfl, trivial⟩, hE25, hI71, hN52⟩
      replace hF := if_f hp55 hF; refine wp_exit ?_; refine e_then_exit ?_; refine e_lq_eq ?_; obtain rfl := Option.some.inj hF
      exact ⟨ha.sub trivial, hE25, (LK_inr hN52).symm⟩
  rintro a w45 ⟨ha, hE51, rfl⟩
  have hF : F_slices_Index_int64_k2 = some _ := hK48; clear hK48; unfold F_slices_Index_int64_k2 at hF
  refine e_then ?_; refine wp_seq ?_; refine wp_region_lit ?_; refine op_g ha rfl (g_assign rfl) ?_; clear ha a; intro a ha; refine wpList_nil ?_; refine e_then ?_; refine wp_ret ?_; obtain rfl := Option.some.inj hF
  exact f_ret1 ha rfl rfl ⟨⟨rfl, (show InI (-1) from by decide)⟩, hE51⟩
set_option maxHeartbeats 2000000 in
theorem W_slices_Contains_int64 {W : World} {va0 : Value} {fa0 : List Nat} {a0 : (List Int)} (ha0 : Ro Rp.int W fa0 va0 a0) {a1 : Int} (ha1 : InI a1) {r : Bool} (hF : F_slices_Contains_int64 a0 a1 = some r) :
    Calls Tryz.prog 47 [va0, .int .i64 a1].toArray W (Ret fun u w' => u = .bool r ∧ Ext W w') := by
  refine f_enter Tryz.func47 rfl Tryz.ntmps47 rfl ?_
  intro a ha
  replace ha : Fr 9 [(0, va0), (1, (.int .i64 a1))] a := ha
  have hE : Chg [] W W := Chg.refl _ _
  unfold F_slices_Contains_int64 at hF
  refine wp_seq ?_; refine wp_region_lit ?_; refine op_g ha rfl (g_assign rfl) ?_; clear ha a; intro a ha; refine wpList_nil ?_; replace ha := ha.sub (σ' := [(0, va0), (1, (.int .i64 a1))]) ⟨rfl, rfl, trivial⟩; refine e_then ?_; refine wp_seq ?_; refine wp_region_lit ?_; (iterate 2 refine op_g ha rfl (g_move rfl) ?_; clear ha a; intro a ha); obtain ⟨x1, hc2, hF⟩ := cal_some hF
  refine o_call ha rfl rfl Tryz.call34 (W_slices_Index_int64 (ha0.ext hE) ha1 hc2) ?_; clear ha a; rintro v3 w4 ⟨⟨rfl, hI6⟩, hx5⟩ a ha
  have hE7 := Ext.trans hE hx5
  refine op_g ha rfl (g_geq rfl rfl) ?_; clear ha a; intro a ha; refine op_g ha rfl (g_assign rfl) ?_; clear ha a; intro a ha; refine wpList_nil ?_; replace ha := ha.sub (σ' := [(4, (.bool (decide (0 ≤ x1))))]) ⟨rfl, trivial⟩; refine e_then ?_; refine wp_ret ?_; obtain rfl := Option.some.inj hF
  exact f_ret1 ha rfl rfl ⟨rfl, hE7⟩
set_option maxHeartbeats 2000000 in
theorem W_impl_GraphOk {W : World} {va0_0 : Value} {fa0_0 : List Nat} {a0_0 : (List (List Int))} (ha0_0 : Ro (Rp.sl 2 Rp.int) W fa0_0 va0_0 a0_0) {r : Bool} (hF : F_impl_GraphOk a0_0 = some r) :
    Calls Tryz.prog 29 [.agg #[va0_0]].toArray W (Ret fun u w' => u = .bool r ∧ Ext W w') := by
  refine f_enter Tryz.func29 rfl Tryz.ntmps29 rfl ?_
  intro a ha
  replace ha : Fr 61 [(0, (.agg #[va0_0]))] a := ha
  have hE : Chg [] W W := Chg.refl _ _
  unfold F_impl_GraphOk at hF
  refine wp_seq ?_; refine wp_region_lit ?_
  refine o_box ha rfl rfl rfl ?_; clear ha a; intro b1 w2 hB3 hx4 hlo5 a ha
  have q6 := Zn.one hlo5
  have q7 := Zn.upD q6 hE
  have hE8 := Ext.trans hE hx4
  refine op_g ha rfl (g_assign rfl) ?_; clear ha a; intro a ha; refine wpList_nil ?_; replace ha := ha.sub (σ' := [(1, (.pointer (some ⟨b1, 0, none⟩)))]) ⟨rfl, trivial⟩; refine e_then ?_; refine wp_seq ?_; refine wp_region_lit ?_; refine op_g ha rfl (g_field0 st27_0 rfl) ?_; clear ha a; intro a ha; refine op_g ha rfl (g_load Tryz.isAgg22 rfl (hB3.cell rfl)) ?_; clear ha a; intro a ha; refine op_g ha rfl (g_lenR sl22.und ha0_0 rfl) ?_; clear ha a; intro a ha; refine op_g ha rfl (g_assign rfl) ?_; clear ha a; intro a ha; refine wpList_nil ?_; replace ha := ha.sub (σ' := [(1, (.pointer (some ⟨b1, 0, none⟩))), (3, (.int .i64 (a0_0.length : Int)))]) ⟨rfl, rfl, trivial⟩
  refine e_then ?_; refine wp_seq ?_; refine wp_seq ?_; refine wp_region_lit ?_; refine op_g ha rfl (g_move rfl) ?_; clear ha a; intro a ha; refine op_g ha rfl (g_lss rfl rfl) ?_; clear ha a; intro a ha; refine op_g ha rfl (g_move rfl) ?_; clear ha a; intro a ha
  by_cases hp11 : (a0_0.length : Int) < 1
  · replace hF := if_t hp11 hF
    rw [show (decide ((a0_0.length : Int) < 1)) = true from (decide_eq_true_iff).2 hp11] at ha
    (iterate 2 refine op_unwant ha rfl (yields ha rfl rfl) rfl ?_; clear ha a; intro a ha); refine op_g ha rfl (g_pick rfl rfl) ?_; clear ha a; intro a ha; refine wpList_nil ?_; replace ha := ha.sub (σ' := [(1, (.pointer (some ⟨b1, 0, none⟩))), (3, (.int .i64 (a0_0.length : Int))), (18, (.bool true))]) ⟨rfl, rfl, rfl, trivial⟩; refine e_then ?_; refine c_true ha rfl ?_; refine wp_seq ?_; refine wp_region_lit ?_; refine op_g ha rfl (g_assign rfl) ?_; clear ha a; intro a ha; refine wpList_nil ?_; replace ha := ha.sub (σ' := [(2, (.bool false))]) ⟨rfl, trivial⟩; refine e_then ?_; refine wp_ret ?_
    refine e_then_ret ?_; obtain rfl := Option.some.inj hF
    exact f_ret1 ha rfl rfl ⟨rfl, hE8⟩
  replace hF := if_f hp11 hF
  rw [show (decide ((a0_0.length : Int) < 1)) = false from b_false (decide_eq_true_iff) hp11] at ha
  refine op_want (yields ha rfl rfl) ?_; refine op_g ha rfl (g_move rfl) ?_; clear ha a; intro a ha; refine op_want (yields ha rfl rfl) ?_; refine op_g ha rfl (g_gtr rfl rfl) ?_; clear ha a; intro a ha; refine op_g ha rfl (g_pick rfl rfl) ?_; clear ha a; intro a ha; refine wpList_nil ?_; replace ha := ha.sub (σ' := [(1, (.pointer (some ⟨b1, 0, none⟩))), (3, (.int .i64 (a0_0.length : Int))), (18, (.bool (decide (16 < (a0_0.length : Int)))))]) ⟨rfl, rfl, rfl, trivial⟩; refine e_then ?_; refine c_cond (16 < (a0_0.length : Int)) ha rfl (decide_eq_true_iff) (fun hp12 => ?_) (fun hp12 => ?_)
  · replace hF := if_t hp12 hF
    refine wp_seq ?_; refine wp_region_lit ?_; refine op_g ha rfl (g_assign rfl) ?_; clear ha a; intro a ha; refine wpList_nil ?_; replace ha := ha.sub (σ' := [(2, (.bool false))]) ⟨rfl, trivial⟩; refine e_then ?_; refine wp_ret ?_; refine e_then_ret ?_; obtain rfl := Option.some.inj hF
    exact f_ret1 ha rfl rfl ⟨rfl, hE8⟩
  replace hF := if_f hp12 hF; refine wp_skip ?_; refine e_then ?_; refine wp_seq ?_; refine wp_seq ?_; refine wp_region_lit ?_; refine op_g ha rfl (g_field0 st27_0 rfl) ?_; clear ha a; intro a ha; refine op_g ha rfl (g_load Tryz.isAgg22 rfl (hB3.cell rfl)) ?_; clear ha a; intro a ha; refine op_g ha rfl (g_lenR sl22.und ha0_0 rfl) ?_; clear ha a; intro a ha; refine op_g ha rfl (g_move rfl) ?_; clear ha a; intro a ha; refine wpList_nil ?_; replace ha := ha.sub (σ' := [(1, (.pointer (some ⟨b1, 0, none⟩))), (3, (.int .i64 (a0_0.length : Int))), (20, va0_0), (21, (.int .i64 (a0_0.length : Int))), (22, (.int .i64 0))]) ⟨rfl, rfl, rfl, rfl, rfl, trivial⟩
  refine e_then ?_; obtain ⟨o98, ho99, hK100⟩ := bnd_some hF
  obtain ⟨n101, hn102⟩ := lp_some ho99; clear ho99
  refine c_loop (fun a w => Fr 61 [(1, (.pointer (some ⟨b1, 0, none⟩)))] a ∧ Chg [] W w ∧ Bx w b1 [va0_0] 27 ∧ Zn W (b1 : Int) ∧ o98 = .inl ()) (fun n a w => ∃ (i56 : Int), Fr 61 [(1, (.pointer (some ⟨b1, 0, none⟩))), (3, (.int .i64 (a0_0.length : Int))), (20, va0_0), (21, (.int .i64 (a0_0.length : Int))), (22, (.int .i64 i56))] a ∧ Chg [] W w ∧ InI i56 ∧ Bx w b1 [va0_0] 27 ∧ Zn W (b1 : Int) ∧ lpN (fun s => F_impl_GraphOk_l1 a0_0 s) n i56 = some o98) n101 ⟨0, ha.sub ⟨rfl, rfl, rfl, rfl, rfl, trivial⟩, hE8, (show InI 0 from by decide), hB3, q7, hn102⟩ ?_ ?_
  · rintro m106 a w53 ⟨i56, ha, hE58, hI57, hB54, z55, hF⟩
    cases m106 with
    | zero => exact (lpN_zero hF).elim
    | succ m106 =>
      obtain ⟨z105, hF, hN104⟩ := lpN_succ hF
      have hF : F_impl_GraphOk_l1 a0_0 i56 = some z105 := hF; unfold F_impl_GraphOk_l1 at hF
      refine wp_seq ?_; refine wp_region_lit ?_; refine op_g ha rfl (g_lss rfl rfl) ?_; clear ha a; intro a ha; refine wpList_nil ?_; replace ha := ha.sub (σ' := [(1, (.pointer (some ⟨b1, 0, none⟩))), (3, (.int .i64 (a0_0.length : Int))), (20, va0_0), (21, (.int .i64 (a0_0.length : Int))), (22, (.int .i64 i56)), (23, (.bool (decide (i56 < (a0_0.length : Int)))))]) ⟨rfl, rfl, rfl, rfl, rfl, rfl, trivial⟩; refine e_then ?_; refine wp_seq ?_; refine c_cond (i56 < (a0_0.length : Int)) ha rfl (decide_eq_true_iff) (fun hp107 => ?_) (fun hp107 => ?_)
      · replace hF := if_t hp107 hF
        refine wp_skip ?_; refine e_then ?_; refine wp_seq ?_; refine wp_block ?_; refine wp_seq ?_; refine wp_region_lit ?_; refine op_g ha rfl (g_move rfl) ?_; clear ha a; intro a ha; obtain ⟨x108, g109, gx110, hF⟩ := idx_some hF
        obtain ⟨p111, cs112, f113, hf114, hpb115, hat116, hr117, hi118⟩ := ha0_0.at g109 gx110
        obtain ⟨v119, rfl, h120⟩ := hr117
        have h120 : Ro Rp.int W f113 v119 x108 := h120
        refine op_g ha rfl (hi118.gives sl22 rfl rfl) ?_; clear ha a; intro a ha; refine op_g ha rfl (g_load0 hE58 Tryz.isAgg39 rfl hat116.one) ?_; clear ha a; intro a ha; (iterate 2 refine op_g ha rfl (g_assign rfl) ?_; clear ha a; intro a ha); refine wpList_nil ?_; replace ha := ha.sub (σ' := [(1, (.pointer (some ⟨b1, 0, none⟩))), (3, (.int .i64 (a0_0.length : Int))), (4, (.int .i64 i56)), (5, v119), (20, va0_0), (21, (.int .i64 (a0_0.length : Int))), (22, (.int .i64 i56))]) ⟨rfl, rfl, rfl, rfl, rfl, rfl, rfl, trivial⟩; refine e_then ?_; refine wp_seq ?_; refine wp_region_lit ?_; (iterate 2 refine op_g ha rfl (g_move rfl) ?_; clear ha a; intro a ha)
        obtain ⟨x122, hc123, hF⟩ := cal_some hF
        refine o_call ha rfl rfl Tryz.call46 (W_impl_increasing (h120.ext hE58) ha0_0.len hc123) ?_; clear ha a; rintro v124 w125 ⟨rfl, hx126⟩ a ha
        replace hB54 := hB54.ext hx126
        have hE127 := Ext.trans hE58 hx126
        refine op_g ha rfl (g_not rfl) ?_; clear ha a; intro a ha; refine op_g ha rfl (g_move rfl) ?_; clear ha a; intro a ha
        by_cases hp128 : ¬ (x122 = true)
        · replace hF := if_t hp128 hF
          rw [show (!x122) = true from (n_iff (Iff.rfl)).2 hp128] at ha
          (iterate 3 refine op_unwant ha rfl (yields ha rfl rfl) rfl ?_; clear ha a; intro a ha); refine op_g ha rfl (g_pick rfl rfl) ?_; clear ha a; intro a ha; refine wpList_nil ?_; replace ha := ha.sub (σ' := [(1, (.pointer (some ⟨b1, 0, none⟩))), (3, (.int .i64 (a0_0.length : Int))), (20, va0_0), (21, (.int .i64 (a0_0.length : Int))), (22, (.int .i64 i56)), (35, (.bool true))]) ⟨rfl, rfl, rfl, rfl, rfl, rfl, trivial⟩; refine e_then ?_; refine c_true ha rfl ?_; refine wp_seq ?_; refine wp_region_lit ?_; refine op_g ha rfl (g_assign rfl) ?_; clear ha a; intro a ha; refine wpList_nil ?_; replace ha := ha.sub (σ' := [(2, (.bool false))]) ⟨rfl, trivial⟩
          refine e_then ?_; refine wp_ret ?_; refine e_blk_ret ?_; refine e_then_ret ?_; refine e_lq_ret ?_; refine e_then_ret ?_; obtain rfl := Option.some.inj hF
          have e129 := LK_inr hN104; subst e129
          have e130 := BK_inr hK100; subst e130
          exact f_ret1 ha rfl rfl ⟨rfl, hE127⟩
        replace hF := if_f hp128 hF
        rw [show (!x122) = false from b_false (n_iff (Iff.rfl)) hp128] at ha
        refine op_want (yields ha rfl rfl) ?_; refine op_g ha rfl (g_move rfl) ?_; clear ha a; intro a ha; refine op_want (yields ha rfl rfl) ?_; refine op_g ha rfl (g_move rfl) ?_; clear ha a; intro a ha; refine op_want (yields ha rfl rfl) ?_; obtain ⟨x131, hc132, hF⟩ := cal_some hF
        refine o_call ha rfl rfl Tryz.call47 (W_slices_Contains_int64 (h120.ext hE127) hI57 hc132) ?_; clear ha a; rintro v133 w134 ⟨rfl, hx135⟩ a ha
        replace hB54 := hB54.ext hx135
        have hE136 := Ext.trans hE127 hx135
        refine op_g ha rfl (g_pick rfl rfl) ?_; clear ha a; intro a ha; refine wpList_nil ?_; replace ha := ha.sub (σ' := [(1, (.pointer (some ⟨b1, 0, none⟩))), (3, (.int .i64 (a0_0.length : Int))), (20, va0_0), (21, (.int .i64 (a0_0.length : Int))), (22, (.int .i64 i56)), (32, v119), (33, (.int .i64 i56)), (34, (.bool x131)), (35, (.bool x131))]) ⟨rfl, rfl, rfl, rfl, rfl, rfl, rfl, rfl, rfl, trivial⟩; refine e_then ?_; refine c_cond (x131 = true) ha rfl (Iff.rfl) (fun hp137 => ?_) (fun hp137 => ?_)
        · replace hF := if_t hp137 hF
          refine wp_seq ?_; refine wp_region_lit ?_; refine op_g ha rfl (g_assign rfl) ?_; clear ha a; intro a ha; refine wpList_nil ?_; replace ha := ha.sub (σ' := [(2, (.bool false))]) ⟨rfl, trivial⟩; refine e_then ?_; refine wp_ret ?_; refine e_blk_ret ?_; refine e_then_ret ?_; refine e_lq_ret ?_; refine e_then_ret ?_; obtain rfl := Option.some.inj hF
          have e138 := LK_inr hN104; subst e138
          have e139 := BK_inr hK100; subst e139
          exact f_ret1 ha rfl rfl ⟨rfl, hE136⟩
        replace hF := if_f hp137 hF; refine wp_skip ?_; refine e_blk ?_; refine e_then ?_; refine wp_region_lit ?_; obtain ⟨hI140, hF⟩ := ck_some hF; refine op_g ha rfl (g_add rfl rfl hI140) ?_; clear ha a; intro a ha; refine op_g ha rfl (g_move rfl) ?_; clear ha a; intro a ha; refine wpList_nil ?_; replace ha := ha.sub (σ' := [(1, (.pointer (some ⟨b1, 0, none⟩))), (3, (.int .i64 (a0_0.length : Int))), (20, va0_0), (21, (.int .i64 (a0_0.length : Int))), (22, (.int .i64 (i56 + 1))), (32, v119), (33, (.int .i64 i56)), (34, (.bool x131))]) ⟨rfl, rfl, rfl, rfl, rfl, rfl, rfl, rfl, trivial⟩; refine e_lq ?_
        obtain rfl := Option.some.inj hF
        exact ⟨_, Nat.lt_succ_self _, i56 + 1, ha.sub ⟨rfl, rfl, rfl, rfl, rfl, trivial⟩, hE136, hI140, hB54, z55, hN104⟩
      replace hF := if_f hp107 hF; refine wp_exit ?_; refine e_then_exit ?_; refine e_lq_eq ?_; obtain rfl := Option.some.inj hF
      exact ⟨ha.sub ⟨rfl, trivial⟩, hE58, hB54, z55, (LK_inr hN104).symm⟩
  rintro a w95 ⟨ha, hE103, hB96, z97, rfl⟩
  have hF : F_impl_GraphOk_k2 a0_0 = some _ := hK100; clear hK100; unfold F_impl_GraphOk_k2 at hF
  refine e_then ?_; refine wp_seq ?_; refine wp_seq ?_; refine wp_region_lit ?_; refine op_g ha rfl (g_field0 st27_0 rfl) ?_; clear ha a; intro a ha; refine op_g ha rfl (g_load Tryz.isAgg22 rfl (hB96.cell rfl)) ?_; clear ha a; intro a ha; refine op_g ha rfl (g_lenR sl22.und ha0_0 rfl) ?_; clear ha a; intro a ha; refine op_g ha rfl (g_move rfl) ?_; clear ha a; intro a ha; refine wpList_nil ?_; replace ha := ha.sub (σ' := [(1, (.pointer (some ⟨b1, 0, none⟩))), (38, va0_0), (39, (.int .i64 (a0_0.length : Int))), (40, (.int .i64 0))]) ⟨rfl, rfl, rfl, rfl, trivial⟩; refine e_then ?_; obtain ⟨o477, ho478, hK479⟩ := bnd_some hF
  obtain ⟨n480, hn481⟩ := lp_some ho478; clear ho478
  refine c_loop (fun a w => Fr 61 [] a ∧ Chg [] W w ∧ o477 = .inl ()) (fun n a w => ∃ (i311 : Int), Fr 61 [(1, (.pointer (some ⟨b1, 0, none⟩))), (38, va0_0), (39, (.int .i64 (a0_0.length : Int))), (40, (.int .i64 i311))] a ∧ Chg [] W w ∧ InI i311 ∧ Bx w b1 [va0_0] 27 ∧ Zn W (b1 : Int) ∧ lpN (fun s => F_impl_GraphOk_l3 a0_0 s) n i311 = some o477) n480 ⟨0, ha.sub ⟨rfl, rfl, rfl, rfl, trivial⟩, hE103, (show InI 0 from by decide), hB96, z97, hn481⟩ ?_ ?_
  · rintro m485 a w308 ⟨i311, ha, hE313, hI312, hB309, z310, hF⟩
    cases m485 with
    | zero => exact (lpN_zero hF).elim
    | succ m485 =>
      obtain ⟨z484, hF, hN483⟩ := lpN_succ hF
      have hF : F_impl_GraphOk_l3 a0_0 i311 = some z484 := hF; unfold F_impl_GraphOk_l3 at hF
      refine wp_seq ?_; refine wp_region_lit ?_; refine op_g ha rfl (g_lss rfl rfl) ?_; clear ha a; intro a ha; refine wpList_nil ?_; replace ha := ha.sub (σ' := [(1, (.pointer (some ⟨b1, 0, none⟩))), (38, va0_0), (39, (.int .i64 (a0_0.length : Int))), (40, (.int .i64 i311)), (41, (.bool (decide (i311 < (a0_0.length : Int)))))]) ⟨rfl, rfl, rfl, rfl, rfl, trivial⟩; refine e_then ?_; refine wp_seq ?_; refine c_cond (i311 < (a0_0.length : Int)) ha rfl (decide_eq_true_iff) (fun hp486 => ?_) (fun hp486 => ?_)
      · replace hF := if_t hp486 hF
        refine wp_skip ?_; refine e_then ?_; refine wp_seq ?_; refine wp_block ?_; refine wp_seq ?_; refine wp_region_lit ?_; refine op_g ha rfl (g_move rfl) ?_; clear ha a; intro a ha; obtain ⟨x487, g488, gx489, hF⟩ := idx_some hF
        obtain ⟨p490, cs491, f492, hf493, hpb494, hat495, hr496, hi497⟩ := ha0_0.at g488 gx489
        obtain ⟨v498, rfl, h499⟩ := hr496
        have h499 : Ro Rp.int W f492 v498 x487 := h499
        refine op_g ha rfl (hi497.gives sl22 rfl rfl) ?_; clear ha a; intro a ha; refine op_g ha rfl (g_load0 hE313 Tryz.isAgg39 rfl hat495.one) ?_; clear ha a; intro a ha; (iterate 2 refine op_g ha rfl (g_assign rfl) ?_; clear ha a; intro a ha); refine wpList_nil ?_; replace ha := ha.sub (σ' := [(1, (.pointer (some ⟨b1, 0, none⟩))), (6, (.int .i64 i311)), (7, v498), (38, va0_0), (39, (.int .i64 (a0_0.length : Int))), (40, (.int .i64 i311))]) ⟨rfl, rfl, rfl, rfl, rfl, rfl, trivial⟩; refine e_then ?_; refine wp_seq ?_; refine wp_region_lit ?_; refine op_g ha rfl (g_move rfl) ?_; clear ha a; intro a ha
        refine op_g ha rfl (g_lenR sl39.und h499 rfl) ?_; clear ha a; intro a ha; refine op_g ha rfl (g_move rfl) ?_; clear ha a; intro a ha; refine wpList_nil ?_; replace ha := ha.sub (σ' := [(1, (.pointer (some ⟨b1, 0, none⟩))), (6, (.int .i64 i311)), (38, va0_0), (39, (.int .i64 (a0_0.length : Int))), (40, (.int .i64 i311)), (45, v498), (46, (.int .i64 (x487.length : Int))), (47, (.int .i64 0))]) ⟨rfl, rfl, rfl, rfl, rfl, rfl, rfl, rfl, trivial⟩; refine e_then ?_; obtain ⟨o596, ho597, hK598⟩ := bnd_some hF
        obtain ⟨n599, hn600⟩ := lp_some ho597; clear ho597
        refine c_loop (fun a w => Fr 61 [(1, (.pointer (some ⟨b1, 0, none⟩))), (38, va0_0), (39, (.int .i64 (a0_0.length : Int))), (40, (.int .i64 i311))] a ∧ Chg [] W w ∧ Bx w b1 [va0_0] 27 ∧ Zn W (b1 : Int) ∧ o596 = .inl ()) (fun n a w => ∃ (i549 : Int), Fr 61 [(1, (.pointer (some ⟨b1, 0, none⟩))), (6, (.int .i64 i311)), (38, va0_0), (39, (.int .i64 (a0_0.length : Int))), (40, (.int .i64 i311)), (45, v498), (46, (.int .i64 (x487.length : Int))), (47, (.int .i64 i549))] a ∧ Chg [] W w ∧ InI i549 ∧ Bx w b1 [va0_0] 27 ∧ Zn W (b1 : Int) ∧ lpN (fun s => F_impl_GraphOk_l4 a0_0 i311 x487 s) n i549 = some o596) n599 ⟨0, ha.sub ⟨rfl, rfl, rfl, rfl, rfl, rfl, rfl, rfl, trivial⟩, hE313, (show InI 0 from by decide), hB309, z310, hn600⟩ ?_ ?_
        · rintro m604 a w546 ⟨i549, ha, hE551, hI550, hB547, z548, hF⟩
          cases m604 with
          | zero => exact (lpN_zero hF).elim
          | succ m604 =>
            obtain ⟨z603, hF, hN602⟩ := lpN_succ hF
            have hF : F_impl_GraphOk_l4 a0_0 i311 x487 i549 = some z603 := hF; unfold F_impl_GraphOk_l4 at hF
            refine wp_seq ?_; refine wp_region_lit ?_; refine op_g ha rfl (g_lss rfl rfl) ?_; clear ha a; intro a ha; refine wpList_nil ?_; replace ha := ha.sub (σ' := [(1, (.pointer (some ⟨b1, 0, none⟩))), (6, (.int .i64 i311)), (38, va0_0), (39, (.int .i64 (a0_0.length : Int))), (40, (.int .i64 i311)), (45, v498), (46, (.int .i64 (x487.length : Int))), (47, (.int .i64 i549)), (48, (.bool (decide (i549 < (x487.length : Int)))))]) ⟨rfl, rfl, rfl, rfl, rfl, rfl, rfl, rfl, rfl, trivial⟩; refine e_then ?_; refine wp_seq ?_; refine c_cond (i549 < (x487.length : Int)) ha rfl (decide_eq_true_iff) (fun hp605 => ?_) (fun hp605 => ?_)
            · replace hF := if_t hp605 hF
              refine wp_skip ?_; refine e_then ?_; refine wp_seq ?_; refine wp_block ?_; refine wp_seq ?_; refine wp_region_lit ?_; obtain ⟨x606, g607, gx608, hF⟩ := idx_some hF
              obtain ⟨p609, cs610, f611, hf612, hpb613, hat614, hr615, hi616⟩ := h499.at g607 gx608
              obtain ⟨rfl, hI617, rfl⟩ := hr615
              refine op_g ha rfl (hi616.gives sl39 rfl rfl) ?_; clear ha a; intro a ha; refine op_g ha rfl (g_load0 hE551 Tryz.isAgg2 rfl hat614.one) ?_; clear ha a; intro a ha; refine op_g ha rfl (g_assign rfl) ?_; clear ha a; intro a ha; refine wpList_nil ?_; replace ha := ha.sub (σ' := [(1, (.pointer (some ⟨b1, 0, none⟩))), (6, (.int .i64 i311)), (9, (.int .i64 x606)), (38, va0_0), (39, (.int .i64 (a0_0.length : Int))), (40, (.int .i64 i311)), (45, v498), (46, (.int .i64 (x487.length : Int))), (47, (.int .i64 i549))]) ⟨rfl, rfl, rfl, rfl, rfl, rfl, rfl, rfl, rfl, trivial⟩; refine e_then ?_; refine wp_seq ?_
              refine wp_region_lit ?_; refine op_g ha rfl (g_field0 st27_0 rfl) ?_; clear ha a; intro a ha; refine op_g ha rfl (g_load Tryz.isAgg22 rfl (hB547.cell rfl)) ?_; clear ha a; intro a ha; refine op_g ha rfl (g_move rfl) ?_; clear ha a; intro a ha; obtain ⟨x618, g619, gx620, hF⟩ := idx_some hF
              obtain ⟨p621, cs622, f623, hf624, hpb625, hat626, hr627, hi628⟩ := ha0_0.at g619 gx620
              obtain ⟨v629, rfl, h630⟩ := hr627
              have h630 : Ro Rp.int W f623 v629 x618 := h630
              refine op_g ha rfl (hi628.gives sl22 rfl rfl) ?_; clear ha a; intro a ha; refine op_g ha rfl (g_load0 hE551 Tryz.isAgg39 rfl hat626.one) ?_; clear ha a; intro a ha; refine op_g ha rfl (g_move rfl) ?_; clear ha a; intro a ha; obtain ⟨x632, hc633, hF⟩ := cal_some hF
              refine o_call ha rfl rfl Tryz.call47 (W_slices_Contains_int64 (h630.ext hE551) hI312 hc633) ?_; clear ha a; rintro v634 w635 ⟨rfl, hx636⟩ a ha
              replace hB547 := hB547.ext hx636
              have hE637 := Ext.trans hE551 hx636
              refine op_g ha rfl (g_not rfl) ?_; clear ha a; intro a ha; refine wpList_nil ?_; replace ha := ha.sub (σ' := [(1, (.pointer (some ⟨b1, 0, none⟩))), (6, (.int .i64 i311)), (38, va0_0), (39, (.int .i64 (a0_0.length : Int))), (40, (.int .i64 i311)), (45, v498), (46, (.int .i64 (x487.length : Int))), (47, (.int .i64 i549)), (58, (.bool (!x632)))]) ⟨rfl, rfl, rfl, rfl, rfl, rfl, rfl, rfl, rfl, trivial⟩; refine e_then ?_; refine c_cond (¬ (x632 = true)) ha rfl (n_iff (Iff.rfl)) (fun hp638 => ?_) (fun hp638 => ?_)
              · replace hF := if_t hp638 hF
                refine wp_seq ?_; refine wp_region_lit ?_; refine op_g ha rfl (g_assign rfl) ?_; clear ha a; intro a ha; refine wpList_nil ?_; replace ha := ha.sub (σ' := [(2, (.bool false))]) ⟨rfl, trivial⟩; refine e_then ?_; refine wp_ret ?_; refine e_blk_ret ?_; refine e_then_ret ?_; refine e_lq_ret ?_; refine e_blk_ret ?_; refine e_then_ret ?_; refine e_lq_ret ?_; refine e_then_ret ?_; obtain rfl := Option.some.inj hF
                have e639 := LK_inr hN602; subst e639
                have e640 := BK_inr hK598; subst e640
                have e641 := LK_inr hN483; subst e641
                have e642 := BK_inr hK479; subst e642
                exact f_ret1 ha rfl rfl ⟨rfl, hE637⟩
              replace hF := if_f hp638 hF; refine wp_skip ?_; refine e_blk ?_; refine e_then ?_; refine wp_region_lit ?_; obtain ⟨hI643, hF⟩ := ck_some hF; refine op_g ha rfl (g_add rfl rfl hI643) ?_; clear ha a; intro a ha; refine op_g ha rfl (g_move rfl) ?_; clear ha a; intro a ha; refine wpList_nil ?_; replace ha := ha.sub (σ' := [(1, (.pointer (some ⟨b1, 0, none⟩))), (6, (.int .i64 i311)), (38, va0_0), (39, (.int .i64 (a0_0.length : Int))), (40, (.int .i64 i311)), (45, v498), (46, (.int .i64 (x487.length : Int))), (47, (.int .i64 (i549 + 1)))]) ⟨rfl, rfl, rfl, rfl, rfl, rfl, rfl, rfl, trivial⟩
              refine e_lq ?_; obtain rfl := Option.some.inj hF
              exact ⟨_, Nat.lt_succ_self _, i549 + 1, ha.sub ⟨rfl, rfl, rfl, rfl, rfl, rfl, rfl, rfl, trivial⟩, hE637, hI643, hB547, z548, hN602⟩
            replace hF := if_f hp605 hF; refine wp_exit ?_; refine e_then_exit ?_; refine e_lq_eq ?_; obtain rfl := Option.some.inj hF
            exact ⟨ha.sub ⟨rfl, rfl, rfl, rfl, trivial⟩, hE551, hB547, z548, (LK_inr hN602).symm⟩
        rintro a w593 ⟨ha, hE601, hB594, z595, rfl⟩
        have hF : F_impl_GraphOk_k5 i311 = some _ := hK598; clear hK598; unfold F_impl_GraphOk_k5 at hF
        refine e_blk ?_; refine e_then ?_; refine wp_region_lit ?_; obtain ⟨hI645, hF⟩ := ck_some hF; refine op_g ha rfl (g_add rfl rfl hI645) ?_; clear ha a; intro a ha; refine op_g ha rfl (g_move rfl) ?_; clear ha a; intro a ha; refine wpList_nil ?_; replace ha := ha.sub (σ' := [(1, (.pointer (some ⟨b1, 0, none⟩))), (38, va0_0), (39, (.int .i64 (a0_0.length : Int))), (40, (.int .i64 (i311 + 1)))]) ⟨rfl, rfl, rfl, rfl, trivial⟩; refine e_lq ?_; obtain rfl := Option.some.inj hF
        exact ⟨_, Nat.lt_succ_self _, i311 + 1, ha.sub ⟨rfl, rfl, rfl, rfl, trivial⟩, hE601, hI645, hB594, z595, hN483⟩
      replace hF := if_f hp486 hF; refine wp_exit ?_; refine e_then_exit ?_; refine e_lq_eq ?_; obtain rfl := Option.some.inj hF
      exact ⟨ha.sub trivial, hE313, (LK_inr hN483).symm⟩
  rintro a w476 ⟨ha, hE482, rfl⟩
  have hF : F_impl_GraphOk_k6 = some _ := hK479; clear hK479; unfold F_impl_GraphOk_k6 at hF
  refine e_then ?_; refine wp_seq ?_; refine wp_region_lit ?_; refine op_g ha rfl (g_assign rfl) ?_; clear ha a; intro a ha; refine wpList_nil ?_; refine e_then ?_; refine wp_ret ?_; obtain rfl := Option.some.inj hF
  exact f_ret1 ha rfl rfl ⟨rfl, hE482⟩
set_option maxHeartbeats 2000000 in
theorem W_impl_isSmall {W : World} {va0_0 : Value} {fa0_0 : List Nat} {a0_0 : (List (List Int))} (ha0_0 : Ro (Rp.sl 2 Rp.int) W fa0_0 va0_0 a0_0) {r : Bool} (hF : F_impl_isSmall a0_0 = some r) :
    Calls Tryz.prog 18 [.agg #[va0_0]].toArray W (Ret fun u w' => u = .bool r ∧ Ext W w') := by
  refine f_enter Tryz.func18 rfl Tryz.ntmps18 rfl ?_
  intro a ha
  replace ha : Fr 11 [(0, (.agg #[va0_0]))] a := ha
  have hE : Chg [] W W := Chg.refl _ _
  unfold F_impl_isSmall at hF
  refine wp_seq ?_; refine wp_region_lit ?_
  refine o_box ha rfl rfl rfl ?_; clear ha a; intro b1 w2 hB3 hx4 hlo5 a ha
  have q6 := Zn.one hlo5
  have q7 := Zn.upD q6 hE
  have hE8 := Ext.trans hE hx4
  refine op_g ha rfl (g_assign rfl) ?_; clear ha a; intro a ha; refine wpList_nil ?_; replace ha := ha.sub (σ' := [(1, (.pointer (some ⟨b1, 0, none⟩)))]) ⟨rfl, trivial⟩; refine e_then ?_; refine wp_seq ?_; refine wp_region_lit ?_; refine op_g ha rfl (g_loadA (cs := [va0_0]) Tryz.isAgg27 Tryz.sizeOf27 rfl (by simp) hB3.all) ?_; clear ha a; intro a ha; obtain ⟨x9, hc10, hF⟩ := cal_some hF
  refine o_call ha rfl rfl Tryz.call29 (W_impl_GraphOk (ha0_0.ext hE8) hc10) ?_; clear ha a; rintro v11 w12 ⟨rfl, hx13⟩ a ha
  replace hB3 := hB3.ext hx13
  have hE14 := Ext.trans hE8 hx13
  refine op_g ha rfl (g_move rfl) ?_; clear ha a; intro a ha
  by_cases hp15 : x9 = true
  · replace hF := if_t hp15 hF
    rw [show (x9) = true from (Iff.rfl).2 hp15] at ha
    refine op_want (yields ha rfl rfl) ?_; refine op_g ha rfl (g_field0 st27_0 rfl) ?_; clear ha a; intro a ha; refine op_want (yields ha rfl rfl) ?_; refine op_g ha rfl (g_load Tryz.isAgg22 rfl (hB3.cell rfl)) ?_; clear ha a; intro a ha; refine op_want (yields ha rfl rfl) ?_; refine op_g ha rfl (g_lenR sl22.und ha0_0 rfl) ?_; clear ha a; intro a ha; refine op_want (yields ha rfl rfl) ?_; refine op_g ha rfl (g_leq rfl rfl) ?_; clear ha a; intro a ha; refine op_g ha rfl (g_pick rfl rfl) ?_; clear ha a; intro a ha; refine op_g ha rfl (g_assign rfl) ?_; clear ha a; intro a ha; refine wpList_nil ?_
    replace ha := ha.sub (σ' := [(2, (.bool (decide ((a0_0.length : Int) ≤ 8))))]) ⟨rfl, trivial⟩; refine e_then ?_; refine wp_ret ?_; obtain rfl := Option.some.inj hF
    exact f_ret1 ha rfl rfl ⟨rfl, hE14⟩
  replace hF := if_f hp15 hF
  rw [show (x9) = false from b_false (Iff.rfl) hp15] at ha
  (iterate 4 refine op_unwant ha rfl (yields ha rfl rfl) rfl ?_; clear ha a; intro a ha); refine op_g ha rfl (g_pick rfl rfl) ?_; clear ha a; intro a ha; refine op_g ha rfl (g_assign rfl) ?_; clear ha a; intro a ha; refine wpList_nil ?_; replace ha := ha.sub (σ' := [(2, (.bool false))]) ⟨rfl, trivial⟩; refine e_then ?_; refine wp_ret ?_; obtain rfl := Option.some.inj hF
  exact f_ret1 ha rfl rfl ⟨rfl, hE14⟩
set_option maxHeartbeats 2000000 in
theorem W_impl_one {W : World} {a0 : Int} (ha0 : InI a0) {r : (BitVec 32)} (hF : F_impl_one a0 = some r) :
    Calls Tryz.prog 51 [.int .i64 a0].toArray W (Ret fun u w' => u = .int .u32 (BitVec.toNat r : Int) ∧ Ext W w') := by
  refine f_enter Tryz.func51 rfl Tryz.ntmps51 rfl ?_
  intro a ha
  replace ha : Fr 5 [(0, (.int .i64 a0))] a := ha
  have hE : Chg [] W W := Chg.refl _ _
  unfold F_impl_one at hF
  refine wp_seq ?_; refine wp_region_lit ?_; refine op_g ha rfl (g_assign rfl) ?_; clear ha a; intro a ha; refine wpList_nil ?_; replace ha := ha.sub (σ' := [(0, (.int .i64 a0))]) ⟨rfl, trivial⟩; refine e_then ?_; refine wp_seq ?_; refine wp_region_lit ?_; refine op_g ha rfl (g_move rfl) ?_; clear ha a; intro a ha; obtain ⟨hs1, hF⟩ := grd_some hF; refine op_g ha rfl (g32_shl (m := (1#32)) rfl rfl hs1) ?_; clear ha a; intro a ha; refine op_g ha rfl (g_assign rfl) ?_; clear ha a; intro a ha; refine wpList_nil ?_; replace ha := ha.sub (σ' := [(2, (.int .u32 (BitVec.toNat ((1#32) <<< (a0 : Int).toNat) : Int)))]) ⟨rfl, trivial⟩
  refine e_then ?_; refine wp_ret ?_; obtain rfl := Option.some.inj hF
  exact f_ret1 ha rfl rfl ⟨rfl, hE⟩
set_option maxHeartbeats 2000000 in
theorem W_impl_maskOf {W : World} {va0 : Value} {fa0 : List Nat} {a0 : (List Int)} (ha0 : Ro Rp.int W fa0 va0 a0) {r : (BitVec 32)} (hF : F_impl_maskOf a0 = some r) :
    Calls Tryz.prog 32 [va0].toArray W (Ret fun u w' => u = .int .u32 (BitVec.toNat r : Int) ∧ Ext W w') := by
  refine f_enter Tryz.func32 rfl Tryz.ntmps32 rfl ?_
  intro a ha
  replace ha : Fr 18 [(0, va0)] a := ha
  have hE : Chg [] W W := Chg.refl _ _
  unfold F_impl_maskOf at hF
  refine wp_seq ?_; refine wp_region_lit ?_; refine op_g ha rfl (g_assign rfl) ?_; clear ha a; intro a ha; refine wpList_nil ?_; replace ha := ha.sub (σ' := [(0, va0)]) ⟨rfl, trivial⟩; refine e_then ?_; refine wp_seq ?_; refine wp_region_lit ?_; refine op_g ha rfl (g_assign rfl) ?_; clear ha a; intro a ha; refine wpList_nil ?_; refine e_then ?_; refine wp_seq ?_; refine wp_seq ?_; refine wp_region_lit ?_; refine op_g ha rfl (g_move rfl) ?_; clear ha a; intro a ha; refine op_g ha rfl (g_lenR sl39.und ha0 rfl) ?_; clear ha a; intro a ha; refine op_g ha rfl (g_move rfl) ?_; clear ha a; intro a ha
  refine wpList_nil ?_; replace ha := ha.sub (σ' := [(3, (.int .u32 (BitVec.toNat (0#32) : Int))), (6, va0), (7, (.int .i64 (a0.length : Int))), (8, (.int .i64 0))]) ⟨rfl, rfl, rfl, rfl, trivial⟩; refine e_then ?_; obtain ⟨o60, ho61, hK62⟩ := bnd_some hF
  obtain ⟨n63, hn64⟩ := lp_some ho61; clear ho61
  refine c_loop (fun a w => ∃ (u59 : BitVec 32), Fr 18 [(3, (.int .u32 (BitVec.toNat u59 : Int)))] a ∧ Chg [] W w ∧ o60 = .inl u59) (fun n a w => ∃ (u29 : BitVec 32) (i30 : Int), Fr 18 [(3, (.int .u32 (BitVec.toNat u29 : Int))), (6, va0), (7, (.int .i64 (a0.length : Int))), (8, (.int .i64 i30))] a ∧ Chg [] W w ∧ InI i30 ∧ lpN (fun s => F_impl_maskOf_l1 a0 s.1 s.2) n (u29, i30) = some o60) n63 ⟨0#32, 0, ha.sub ⟨rfl, rfl, rfl, rfl, trivial⟩, hE, (show InI 0 from by decide), hn64⟩ ?_ ?_
  · rintro m68 a w28 ⟨u29, i30, ha, hE32, hI31, hF⟩
    cases m68 with
    | zero => exact (lpN_zero hF).elim
    | succ m68 =>
      obtain ⟨z67, hF, hN66⟩ := lpN_succ hF
      have hF : F_impl_maskOf_l1 a0 u29 i30 = some z67 := hF; unfold F_impl_maskOf_l1 at hF
      refine wp_seq ?_; refine wp_region_lit ?_; refine op_g ha rfl (g_lss rfl rfl) ?_; clear ha a; intro a ha; refine wpList_nil ?_; replace ha := ha.sub (σ' := [(3, (.int .u32 (BitVec.toNat u29 : Int))), (6, va0), (7, (.int .i64 (a0.length : Int))), (8, (.int .i64 i30)), (9, (.bool (decide (i30 < (a0.length : Int)))))]) ⟨rfl, rfl, rfl, rfl, rfl, trivial⟩; refine e_then ?_; refine wp_seq ?_; refine c_cond (i30 < (a0.length : Int)) ha rfl (decide_eq_true_iff) (fun hp69 => ?_) (fun hp69 => ?_)
      · replace hF := if_t hp69 hF
        refine wp_skip ?_; refine e_then ?_; refine wp_seq ?_; refine wp_block ?_; refine wp_seq ?_; refine wp_region_lit ?_; obtain ⟨x70, g71, gx72, hF⟩ := idx_some hF
        obtain ⟨p73, cs74, f75, hf76, hpb77, hat78, hr79, hi80⟩ := ha0.at g71 gx72
        obtain ⟨rfl, hI81, rfl⟩ := hr79
        refine op_g ha rfl (hi80.gives sl39 rfl rfl) ?_; clear ha a; intro a ha; refine op_g ha rfl (g_load0 hE32 Tryz.isAgg2 rfl hat78.one) ?_; clear ha a; intro a ha; refine op_g ha rfl (g_assign rfl) ?_; clear ha a; intro a ha; refine wpList_nil ?_; replace ha := ha.sub (σ' := [(3, (.int .u32 (BitVec.toNat u29 : Int))), (5, (.int .i64 x70)), (6, va0), (7, (.int .i64 (a0.length : Int))), (8, (.int .i64 i30))]) ⟨rfl, rfl, rfl, rfl, rfl, trivial⟩; refine e_then ?_; refine wp_region_lit ?_; (iterate 2 refine op_g ha rfl (g_move rfl) ?_; clear ha a; intro a ha); obtain ⟨x82, hc83, hF⟩ := cal_some hF
        refine o_call ha rfl rfl Tryz.call51 (W_impl_one hI81 hc83) ?_; clear ha a; rintro v84 w85 ⟨rfl, hx86⟩ a ha
        have hE87 := Ext.trans hE32 hx86
        refine op_g ha rfl (g32_or (m := u29) (n := x82) rfl rfl) ?_; clear ha a; intro a ha; refine op_g ha rfl (g_assign rfl) ?_; clear ha a; intro a ha; refine wpList_nil ?_; replace ha := ha.sub (σ' := [(3, (.int .u32 (BitVec.toNat (u29 ||| x82) : Int))), (6, va0), (7, (.int .i64 (a0.length : Int))), (8, (.int .i64 i30))]) ⟨rfl, rfl, rfl, rfl, trivial⟩; refine e_blk ?_; refine e_then ?_; refine wp_region_lit ?_; obtain ⟨hI88, hF⟩ := ck_some hF; refine op_g ha rfl (g_add rfl rfl hI88) ?_; clear ha a; intro a ha; refine op_g ha rfl (g_move rfl) ?_; clear ha a; intro a ha; refine wpList_nil ?_
        replace ha := ha.sub (σ' := [(3, (.int .u32 (BitVec.toNat (u29 ||| x82) : Int))), (6, va0), (7, (.int .i64 (a0.length : Int))), (8, (.int .i64 (i30 + 1)))]) ⟨rfl, rfl, rfl, rfl, trivial⟩; refine e_lq ?_; obtain rfl := Option.some.inj hF
        exact ⟨_, Nat.lt_succ_self _, u29 ||| x82, i30 + 1, ha.sub ⟨rfl, rfl, rfl, rfl, trivial⟩, hE87, hI88, hN66⟩
      replace hF := if_f hp69 hF; refine wp_exit ?_; refine e_then_exit ?_; refine e_lq_eq ?_; obtain rfl := Option.some.inj hF
      exact ⟨u29, ha.sub ⟨rfl, trivial⟩, hE32, (LK_inr hN66).symm⟩
  rintro a w58 ⟨u59, ha, hE65, rfl⟩
  have hF : F_impl_maskOf_k2 u59 = some _ := hK62; clear hK62; unfold F_impl_maskOf_k2 at hF
  refine e_then ?_; refine wp_seq ?_; refine wp_region_lit ?_; refine op_g ha rfl (g_move rfl) ?_; clear ha a; intro a ha; refine op_g ha rfl (g_assign rfl) ?_; clear ha a; intro a ha; refine wpList_nil ?_; replace ha := ha.sub (σ' := [(2, (.int .u32 (BitVec.toNat u59 : Int)))]) ⟨rfl, trivial⟩; refine e_then ?_; refine wp_ret ?_; obtain rfl := Option.some.inj hF
  exact f_ret1 ha rfl rfl ⟨rfl, hE65⟩
set_option maxHeartbeats 2000000 in
theorem W_impl_netsOf {W : World} {va0_0 : Value} {fa0_0 : List Nat} {a0_0 : (List (List Int))} (ha0_0 : Ro (Rp.sl 2 Rp.int) W fa0_0 va0_0 a0_0) {r : (List (BitVec 32))} (hF : F_impl_netsOf a0_0 = some r) :
    Calls Tryz.prog 20 [.agg #[va0_0]].toArray W (Ret fun u w' => ∃ (b_u : Int), Ow Rp.u32 64 true w' [] b_u u r ∧ Zn W b_u ∧ Ext W w') := by
  refine f_enter Tryz.func20 rfl Tryz.ntmps20 rfl ?_
  intro a ha
  replace ha : Fr 21 [(0, (.agg #[va0_0]))] a := ha
  have hE : Chg [] W W := Chg.refl _ _
  unfold F_impl_netsOf at hF
  refine wp_seq ?_; refine wp_region_lit ?_
  refine o_box ha rfl rfl rfl ?_; clear ha a; intro b1 w2 hB3 hx4 hlo5 a ha
  have q6 := Zn.one hlo5
  have q7 := Zn.upD q6 hE
  have hE8 := Ext.trans hE hx4
  refine op_g ha rfl (g_assign rfl) ?_; clear ha a; intro a ha; refine wpList_nil ?_; replace ha := ha.sub (σ' := [(1, (.pointer (some ⟨b1, 0, none⟩)))]) ⟨rfl, trivial⟩; refine e_then ?_; refine wp_seq ?_; refine wp_region_lit ?_
  refine o_lit0 Rp.u32 ha rfl sl46 ?_; clear ha a; intro v9 w10 h11 hx12 a ha
  obtain ⟨b14, hb14⟩ : ∃ b : Int, b = w2.heap.size := ⟨_, rfl⟩; rw [← hb14] at h11
  have q15 := zn_of hb14
  have q16 := Nq.new hB3.fpb q15
  have q17 := Nq.madeO q15 hB3.bi
  have q18 := Zn.upD q15 hE8
  replace hB3 := hB3.ext hx12
  have hE19 := Ext.trans hE8 hx12
  refine op_g ha rfl (g_assign rfl) ?_; clear ha a; intro a ha; refine wpList_nil ?_; replace ha := ha.sub (σ' := [(1, (.pointer (some ⟨b1, 0, none⟩))), (3, v9)]) ⟨rfl, rfl, trivial⟩; refine e_then ?_; refine wp_seq ?_; refine wp_seq ?_; refine wp_region_lit ?_; refine op_g ha rfl (g_field0 st27_0 rfl) ?_; clear ha a; intro a ha; refine op_g ha rfl (g_load Tryz.isAgg22 rfl (hB3.cell rfl)) ?_; clear ha a; intro a ha; refine op_g ha rfl (g_lenR sl22.und ha0_0 rfl) ?_; clear ha a; intro a ha; refine op_g ha rfl (g_move rfl) ?_; clear ha a; intro a ha; refine wpList_nil ?_; replace ha := ha.sub (σ' := [(3, v9), (8, va0_0), (9, (.int .i64 (a0_0.length : Int))), (10, (.int .i64 0))]) ⟨rfl, rfl, rfl, rfl, trivial⟩
  refine e_then ?_; obtain ⟨o152, ho153, hK154⟩ := bnd_some hF
  obtain ⟨n155, hn156⟩ := lp_some ho153; clear ho153
  refine c_loop (fun a w => ∃ (l149 : (List (BitVec 32))) (v150 : Value) (b151 : Int), Fr 21 [(3, v150)] a ∧ Chg [] W w ∧ Ow Rp.u32 64 true w [] b151 v150 l149 ∧ Zn W b151 ∧ o152 = .inl l149) (fun n a w => ∃ (l84 : (List (BitVec 32))) (i87 : Int) (v85 : Value) (b86 : Int), Fr 21 [(3, v85), (8, va0_0), (9, (.int .i64 (a0_0.length : Int))), (10, (.int .i64 i87))] a ∧ Chg [] W w ∧ InI i87 ∧ Ow Rp.u32 64 true w [] b86 v85 l84 ∧ Zn W b86 ∧ lpN (fun s => F_impl_netsOf_l1 a0_0 s.1 s.2) n (l84, i87) = some o152) n155 ⟨([] : (List (BitVec 32))), 0, v9, b14, ha.sub ⟨rfl, rfl, rfl, rfl, trivial⟩, hE19, (show InI 0 from by decide), h11, q18, hn156⟩ ?_ ?_
  · rintro m160 a w80 ⟨l84, i87, v85, b86, ha, hE89, hI88, h82, z83, hF⟩
    cases m160 with
    | zero => exact (lpN_zero hF).elim
    | succ m160 =>
      obtain ⟨z159, hF, hN158⟩ := lpN_succ hF
      have hF : F_impl_netsOf_l1 a0_0 l84 i87 = some z159 := hF; unfold F_impl_netsOf_l1 at hF
      refine wp_seq ?_; refine wp_region_lit ?_; refine op_g ha rfl (g_lss rfl rfl) ?_; clear ha a; intro a ha; refine wpList_nil ?_; replace ha := ha.sub (σ' := [(3, v85), (8, va0_0), (9, (.int .i64 (a0_0.length : Int))), (10, (.int .i64 i87)), (11, (.bool (decide (i87 < (a0_0.length : Int)))))]) ⟨rfl, rfl, rfl, rfl, rfl, trivial⟩; refine e_then ?_; refine wp_seq ?_; refine c_cond (i87 < (a0_0.length : Int)) ha rfl (decide_eq_true_iff) (fun hp161 => ?_) (fun hp161 => ?_)
      · replace hF := if_t hp161 hF
        refine wp_skip ?_; refine e_then ?_; refine wp_seq ?_; refine wp_block ?_; refine wp_seq ?_; refine wp_region_lit ?_; obtain ⟨x162, g163, gx164, hF⟩ := idx_some hF
        obtain ⟨p165, cs166, f167, hf168, hpb169, hat170, hr171, hi172⟩ := ha0_0.at g163 gx164
        obtain ⟨v173, rfl, h174⟩ := hr171
        have h174 : Ro Rp.int W f167 v173 x162 := h174
        refine op_g ha rfl (hi172.gives sl22 rfl rfl) ?_; clear ha a; intro a ha; refine op_g ha rfl (g_load0 hE89 Tryz.isAgg39 rfl hat170.one) ?_; clear ha a; intro a ha; refine op_g ha rfl (g_assign rfl) ?_; clear ha a; intro a ha; refine wpList_nil ?_; replace ha := ha.sub (σ' := [(3, v85), (5, v173), (8, va0_0), (9, (.int .i64 (a0_0.length : Int))), (10, (.int .i64 i87))]) ⟨rfl, rfl, rfl, rfl, rfl, trivial⟩; refine e_then ?_; refine wp_region_lit ?_; (iterate 2 refine op_g ha rfl (g_move rfl) ?_; clear ha a; intro a ha); obtain ⟨x176, hc177, hF⟩ := cal_some hF
        refine o_call ha rfl rfl Tryz.call32 (W_impl_maskOf (h174.ext hE89) hc177) ?_; clear ha a; rintro v178 w179 ⟨rfl, hx180⟩ a ha
        replace h82 := h82.ext hx180
        have hE181 := Ext.trans hE89 hx180
        refine o_lit1 (o := true) (y := x176) Rp.u32 ha rfl sl46 rfl rfl rfl ⟨rfl, rfl⟩ ?_; clear ha a; intro v182 w183 h184 hx185 a ha
        obtain ⟨b187, hb187⟩ : ∃ b : Int, b = w179.heap.size := ⟨_, rfl⟩; rw [← hb187] at h184
        have q188 := zn_of hb187
        have q189 := Nq.new h82.fpb q188
        have q190 := Nq.madeO q188 h82.blt
        have q191 := Zn.upD q188 hE181
        replace h82 := h82.ext hx185
        have hE192 := Ext.trans hE181 hx185
        obtain ⟨hl193, hF⟩ := app_some hF
        refine o_append ha rfl sl46 rfl rfl rfl h82 h184.src (Nq.nil _) hl193 ?_; clear ha a; intro v194 w195 b196 h197 hc198 hb199 a ha
        replace h197 : Ow Rp.u32 64 true w195 [] b196 v194 _ := h197
        have q201 := Nq.appY q190 h184.fpb hb199
        have q202 := Nq.appX q189 (Nq.nil _) hb199 h184.blt
        have q203 := Zn.appD z83 hb199 hE192
        replace h184 := h184.nq hc198 q190
        have hE204 := Ext.then hE192 hc198 (Zn.bl z83)
        refine op_g ha rfl (g_assign rfl) ?_; clear ha a; intro a ha; refine wpList_nil ?_; replace ha := ha.sub (σ' := [(3, v194), (8, va0_0), (9, (.int .i64 (a0_0.length : Int))), (10, (.int .i64 i87))]) ⟨rfl, rfl, rfl, rfl, trivial⟩; refine e_blk ?_; refine e_then ?_; refine wp_region_lit ?_; obtain ⟨hI205, hF⟩ := ck_some hF; refine op_g ha rfl (g_add rfl rfl hI205) ?_; clear ha a; intro a ha; refine op_g ha rfl (g_move rfl) ?_; clear ha a; intro a ha; refine wpList_nil ?_; replace ha := ha.sub (σ' := [(3, v194), (8, va0_0), (9, (.int .i64 (a0_0.length : Int))), (10, (.int .i64 (i87 + 1)))]) ⟨rfl, rfl, rfl, rfl, trivial⟩
        refine e_lq ?_; obtain rfl := Option.some.inj hF
        exact ⟨_, Nat.lt_succ_self _, (l84 ++ ([x176])), i87 + 1, v194, b196, ha.sub ⟨rfl, rfl, rfl, rfl, trivial⟩, hE204, hI205, h197, q203, hN158⟩
      replace hF := if_f hp161 hF; refine wp_exit ?_; refine e_then_exit ?_; refine e_lq_eq ?_; obtain rfl := Option.some.inj hF
      exact ⟨l84, v85, b86, ha.sub ⟨rfl, trivial⟩, hE89, h82, z83, (LK_inr hN158).symm⟩
  rintro a w145 ⟨l149, v150, b151, ha, hE157, h147, z148, rfl⟩
  have hF : F_impl_netsOf_k2 l149 = some _ := hK154; clear hK154; unfold F_impl_netsOf_k2 at hF
  refine e_then ?_; refine wp_seq ?_; refine wp_region_lit ?_; refine op_g ha rfl (g_move rfl) ?_; clear ha a; intro a ha; refine op_g ha rfl (g_assign rfl) ?_; clear ha a; intro a ha; refine wpList_nil ?_; replace ha := ha.sub (σ' := [(2, v150)]) ⟨rfl, trivial⟩; refine e_then ?_; refine wp_ret ?_; obtain rfl := Option.some.inj hF
  exact f_ret1 ha rfl rfl ⟨_, h147, z148, hE157⟩
set_option maxHeartbeats 2000000 in
theorem W_impl_firstOf {W : World} {a0 : Int} (ha0 : InI a0) {r : (BitVec 32)} (hF : F_impl_firstOf a0 = some r) :
    Calls Tryz.prog 65 [.int .i64 a0].toArray W (Ret fun u w' => u = .int .u32 (BitVec.toNat r : Int) ∧ Ext W w') := by
  refine f_enter Tryz.func65 rfl Tryz.ntmps65 rfl ?_
  intro a ha
  replace ha : Fr 6 [(0, (.int .i64 a0))] a := ha
  have hE : Chg [] W W := Chg.refl _ _
  unfold F_impl_firstOf at hF
  refine wp_seq ?_; refine wp_region_lit ?_; refine op_g ha rfl (g_assign rfl) ?_; clear ha a; intro a ha; refine wpList_nil ?_; replace ha := ha.sub (σ' := [(0, (.int .i64 a0))]) ⟨rfl, trivial⟩; refine e_then ?_; refine wp_seq ?_; refine wp_region_lit ?_; refine op_g ha rfl (g_move rfl) ?_; clear ha a; intro a ha; obtain ⟨hs1, hF⟩ := grd_some hF; refine op_g ha rfl (g32_shl (m := (1#32)) rfl rfl hs1) ?_; clear ha a; intro a ha; refine op_g ha rfl (g32_sub (m := ((1#32) <<< (a0 : Int).toNat)) (n := (1#32)) rfl rfl) ?_; clear ha a; intro a ha; refine op_g ha rfl (g_assign rfl) ?_; clear ha a; intro a ha
  refine wpList_nil ?_; replace ha := ha.sub (σ' := [(2, (.int .u32 (BitVec.toNat (((1#32) <<< (a0 : Int).toNat) - (1#32)) : Int)))]) ⟨rfl, trivial⟩; refine e_then ?_; refine wp_ret ?_; obtain rfl := Option.some.inj hF
  exact f_ret1 ha rfl rfl ⟨rfl, hE⟩
set_option maxHeartbeats 2000000 in
theorem W_impl_nets_all {W : World} {va0 : Value} {fa0 : List Nat} {a0 : (List (BitVec 32))} (ha0 : Ro Rp.u32 W fa0 va0 a0) {r : (BitVec 32)} (hF : F_impl_nets_all a0 = some r) :
    Calls Tryz.prog 48 [va0].toArray W (Ret fun u w' => u = .int .u32 (BitVec.toNat r : Int) ∧ Ext W w') := by
  refine f_enter Tryz.func48 rfl Tryz.ntmps48 rfl ?_
  intro a ha
  replace ha : Fr 6 [(0, va0)] a := ha
  have hE : Chg [] W W := Chg.refl _ _
  unfold F_impl_nets_all at hF
  refine wp_seq ?_; refine wp_region_lit ?_; refine op_g ha rfl (g_assign rfl) ?_; clear ha a; intro a ha; refine wpList_nil ?_; replace ha := ha.sub (σ' := [(0, va0)]) ⟨rfl, trivial⟩; refine e_then ?_; refine wp_seq ?_; refine wp_region_lit ?_; refine op_g ha rfl (g_move rfl) ?_; clear ha a; intro a ha; refine op_g ha rfl (g_lenR sl46.und ha0 rfl) ?_; clear ha a; intro a ha; obtain ⟨x1, hc2, hF⟩ := cal_some hF
  refine o_call ha rfl rfl Tryz.call65 (W_impl_firstOf ha0.len hc2) ?_; clear ha a; rintro v3 w4 ⟨rfl, hx5⟩ a ha
  have hE6 := Ext.trans hE hx5
  refine op_g ha rfl (g_assign rfl) ?_; clear ha a; intro a ha; refine wpList_nil ?_; replace ha := ha.sub (σ' := [(2, (.int .u32 (BitVec.toNat x1 : Int)))]) ⟨rfl, trivial⟩; refine e_then ?_; refine wp_ret ?_; obtain rfl := Option.some.inj hF
  exact f_ret1 ha rfl rfl ⟨rfl, hE6⟩
set_option maxHeartbeats 2000000 in
theorem W_math_bits_TrailingZeros32 {W : World} {a0 : BitVec 32} (hG : GT 0 W) {r : Int} (hF : F_math_bits_TrailingZeros32 a0 = some r) :
    Calls Tryz.prog 74 [.int .u32 (BitVec.toNat a0 : Int)].toArray W (Ret fun u w' => (u = .int .i64 r ∧ InI r) ∧ Ext W w') := by
  refine f_enter Tryz.func74 rfl Tryz.ntmps74 rfl ?_
  intro a ha
  replace ha : Fr 14 [(0, (.int .u32 (BitVec.toNat a0 : Int)))] a := ha
  have hE : Chg [] W W := Chg.refl _ _
  unfold F_math_bits_TrailingZeros32 at hF
  refine wp_seq ?_; refine wp_region_lit ?_; refine op_g ha rfl (g_assign rfl) ?_; clear ha a; intro a ha; refine wpList_nil ?_; replace ha := ha.sub (σ' := [(0, (.int .u32 (BitVec.toNat a0 : Int)))]) ⟨rfl, trivial⟩; refine e_then ?_; refine wp_seq ?_; refine wp_seq ?_; refine wp_region_lit ?_; refine op_g ha rfl (g_move rfl) ?_; clear ha a; intro a ha; refine op_g ha rfl (g32_eql (m := a0) (n := (0#32)) rfl rfl) ?_; clear ha a; intro a ha; refine wpList_nil ?_; replace ha := ha.sub (σ' := [(0, (.int .u32 (BitVec.toNat a0 : Int))), (4, (.bool (decide (a0 = (0#32)))))]) ⟨rfl, rfl, trivial⟩; refine e_then ?_
  refine c_cond (a0 = (0#32)) ha rfl (decide_eq_true_iff) (fun hp1 => ?_) (fun hp1 => ?_)
  · replace hF := if_t hp1 hF
    refine wp_seq ?_; refine wp_region_lit ?_; refine op_g ha rfl (g_assign rfl) ?_; clear ha a; intro a ha; refine wpList_nil ?_; replace ha := ha.sub (σ' := [(2, (.int .i64 32))]) ⟨rfl, trivial⟩; refine e_then ?_; refine wp_ret ?_; refine e_then_ret ?_; obtain rfl := Option.some.inj hF
    exact f_ret1 ha rfl rfl ⟨⟨rfl, (show InI 32 from by decide)⟩, hE⟩
  replace hF := if_f hp1 hF; refine wp_skip ?_; refine e_then ?_; refine wp_seq ?_; refine wp_region_lit ?_; (iterate 2 refine op_g ha rfl (g_move rfl) ?_; clear ha a; intro a ha); refine op_g ha rfl (g32_neg (m := a0) rfl) ?_; clear ha a; intro a ha; refine op_g ha rfl (g32_and (m := a0) (n := (-a0)) rfl rfl) ?_; clear ha a; intro a ha; refine op_g ha rfl (g32_mul (m := (a0 &&& (-a0))) (n := (125613361#32)) rfl rfl) ?_; clear ha a; intro a ha; refine op_g ha rfl (g32_shr (m := ((a0 &&& (-a0)) * (125613361#32))) rfl rfl (show InU 27 from by decide).1) ?_; clear ha a; intro a ha; obtain ⟨x2, g3, gx4, hF⟩ := idx_some hF
  refine op_g ha rfl (g_idxG un109 Tryz.sizeOf5 rfl g3 (idx_lt g3 gx4 (by decide))) ?_; clear ha a; intro a ha; refine op_g ha rfl (g_load Tryz.isAgg5 rfl (Tab.cell (hG.ext hE) gx4)) ?_; clear ha a; intro a ha; refine op_g ha rfl (g_conv8 (m := x2) un5 un3 rfl) ?_; clear ha a; intro a ha; refine op_g ha rfl (g_assign rfl) ?_; clear ha a; intro a ha; refine wpList_nil ?_; replace ha := ha.sub (σ' := [(2, (.int .i64 (BitVec.toNat x2 : Int)))]) ⟨rfl, trivial⟩; refine e_then ?_; refine wp_ret ?_; obtain rfl := Option.some.inj hF
  exact f_ret1 ha rfl rfl ⟨⟨rfl, (in_u8 _)⟩, hE⟩
set_option maxHeartbeats 2000000 in
theorem W_impl_vset_least {W : World} {a0 : BitVec 32} (hG : GT 0 W) {r : Int} (hF : F_impl_vset_least a0 = some r) :
    Calls Tryz.prog 66 [.int .u32 (BitVec.toNat a0 : Int)].toArray W (Ret fun u w' => (u = .int .i64 r ∧ InI r) ∧ Ext W w') := by
  refine f_enter Tryz.func66 rfl Tryz.ntmps66 rfl ?_
  intro a ha
  replace ha : Fr 5 [(0, (.int .u32 (BitVec.toNat a0 : Int)))] a := ha
  have hE : Chg [] W W := Chg.refl _ _
  unfold F_impl_vset_least at hF
  refine wp_seq ?_; refine wp_region_lit ?_; refine op_g ha rfl (g_assign rfl) ?_; clear ha a; intro a ha; refine wpList_nil ?_; replace ha := ha.sub (σ' := [(0, (.int .u32 (BitVec.toNat a0 : Int)))]) ⟨rfl, trivial⟩; refine e_then ?_; refine wp_seq ?_; refine wp_region_lit ?_; refine op_g ha rfl (g_move rfl) ?_; clear ha a; intro a ha; obtain ⟨x1, hc2, hF⟩ := cal_some hF
  refine o_call ha rfl rfl Tryz.call74 (W_math_bits_TrailingZeros32 (hG.ext hE) hc2) ?_; clear ha a; rintro v3 w4 ⟨⟨rfl, hI6⟩, hx5⟩ a ha
  have hE7 := Ext.trans hE hx5
  refine op_g ha rfl (g_assign rfl) ?_; clear ha a; intro a ha; refine wpList_nil ?_; replace ha := ha.sub (σ' := [(2, (.int .i64 x1))]) ⟨rfl, trivial⟩; refine e_then ?_; refine wp_ret ?_; obtain rfl := Option.some.inj hF
  exact f_ret1 ha rfl rfl ⟨⟨rfl, hI6⟩, hE7⟩
set_option maxHeartbeats 2000000 in
theorem W_impl_vset_list {W : World} {a0 : BitVec 32} (hG : GT 0 W) {r : (List Int)} (hF : F_impl_vset_list a0 = some r) :
    Calls Tryz.prog 49 [.int .u32 (BitVec.toNat a0 : Int)].toArray W (Ret fun u w' => ∃ (b_u : Int), Ow Rp.int 3 true w' [] b_u u r ∧ Zn W b_u ∧ Ext W w') := by
  refine f_enter Tryz.func49 rfl Tryz.ntmps49 rfl ?_
  intro a ha
  replace ha : Fr 17 [(0, (.int .u32 (BitVec.toNat a0 : Int)))] a := ha
  have hE : Chg [] W W := Chg.refl _ _
  unfold F_impl_vset_list at hF
  refine wp_seq ?_; refine wp_region_lit ?_; refine op_g ha rfl (g_assign rfl) ?_; clear ha a; intro a ha; refine wpList_nil ?_; replace ha := ha.sub (σ' := [(0, (.int .u32 (BitVec.toNat a0 : Int)))]) ⟨rfl, trivial⟩; refine e_then ?_; refine wp_seq ?_; refine wp_region_lit ?_
  refine o_lit0 Rp.int ha rfl sl66 ?_; clear ha a; intro v1 w2 h3 hx4 a ha
  obtain ⟨b6, hb6⟩ : ∃ b : Int, b = W.heap.size := ⟨_, rfl⟩; rw [← hb6] at h3
  have q7 := zn_of hb6
  have q8 := Zn.upD q7 hE
  have hE9 := Ext.trans hE hx4
  refine op_g ha rfl (g_assign rfl) ?_; clear ha a; intro a ha; refine wpList_nil ?_; replace ha := ha.sub (σ' := [(0, (.int .u32 (BitVec.toNat a0 : Int))), (3, v1)]) ⟨rfl, rfl, trivial⟩; refine e_then ?_; refine wp_seq ?_; obtain ⟨o109, ho110, hK111⟩ := bnd_some hF
  obtain ⟨n112, hn113⟩ := lp_some ho110; clear ho110
  refine c_loop (fun a w => ∃ (l106 : (List Int)) (v107 : Value) (b108 : Int), Fr 17 [(3, v107)] a ∧ Chg [] W w ∧ Ow Rp.int 3 true w [] b108 v107 l106 ∧ Zn W b108 ∧ o109 = .inl l106) (fun n a w => ∃ (u55 : BitVec 32) (l59 : (List Int)) (v60 : Value) (b61 : Int), Fr 17 [(0, (.int .u32 (BitVec.toNat u55 : Int))), (3, v60)] a ∧ Chg [] W w ∧ Ow Rp.int 3 true w [] b61 v60 l59 ∧ Zn W b61 ∧ lpN (fun s => F_impl_vset_list_l1 s.1 s.2) n (u55, l59) = some o109) n112 ⟨a0, ([] : (List Int)), v1, b6, ha.sub ⟨rfl, rfl, trivial⟩, hE9, h3, q8, hn113⟩ ?_ ?_
  · rintro m117 a w54 ⟨u55, l59, v60, b61, ha, hE62, h57, z58, hF⟩
    cases m117 with
    | zero => exact (lpN_zero hF).elim
    | succ m117 =>
      obtain ⟨z116, hF, hN115⟩ := lpN_succ hF
      have hF : F_impl_vset_list_l1 u55 l59 = some z116 := hF; unfold F_impl_vset_list_l1 at hF
      refine wp_seq ?_; refine wp_seq ?_; refine wp_region_lit ?_; refine op_g ha rfl (g_move rfl) ?_; clear ha a; intro a ha; refine op_g ha rfl (g32_neq (m := u55) (n := (0#32)) rfl rfl) ?_; clear ha a; intro a ha; refine wpList_nil ?_; replace ha := ha.sub (σ' := [(0, (.int .u32 (BitVec.toNat u55 : Int))), (3, v60), (6, (.bool (decide (u55 ≠ (0#32)))))]) ⟨rfl, rfl, rfl, trivial⟩; refine e_then ?_; refine c_cond (u55 ≠ (0#32)) ha rfl (decide_eq_true_iff) (fun hp118 => ?_) (fun hp118 => ?_)
      · replace hF := if_t hp118 hF
        refine wp_skip ?_; refine e_then ?_; refine wp_seq ?_; refine wp_block ?_; refine wp_region_lit ?_; (iterate 2 refine op_g ha rfl (g_move rfl) ?_; clear ha a; intro a ha); obtain ⟨x119, hc120, hF⟩ := cal_some hF
        refine o_call ha rfl rfl Tryz.call66 (W_impl_vset_least (hG.ext hE62) hc120) ?_; clear ha a; rintro v121 w122 ⟨⟨rfl, hI124⟩, hx123⟩ a ha
        replace h57 := h57.ext hx123
        have hE125 := Ext.trans hE62 hx123
        refine o_lit1 (o := true) (y := x119) Rp.int ha rfl sl66 rfl rfl rfl ⟨rfl, hI124, rfl⟩ ?_; clear ha a; intro v126 w127 h128 hx129 a ha
        obtain ⟨b131, hb131⟩ : ∃ b : Int, b = w122.heap.size := ⟨_, rfl⟩; rw [← hb131] at h128
        have q132 := zn_of hb131
        have q133 := Nq.new h57.fpb q132
        have q134 := Nq.madeO q132 h57.blt
        have q135 := Zn.upD q132 hE125
        replace h57 := h57.ext hx129
        have hE136 := Ext.trans hE125 hx129
        obtain ⟨hl137, hF⟩ := app_some hF
        refine o_append ha rfl sl66 rfl rfl rfl h57 h128.src (Nq.nil _) hl137 ?_; clear ha a; intro v138 w139 b140 h141 hc142 hb143 a ha
        replace h141 : Ow Rp.int 3 true w139 [] b140 v138 _ := h141
        have q145 := Nq.appY q134 h128.fpb hb143
        have q146 := Nq.appX q133 (Nq.nil _) hb143 h128.blt
        have q147 := Zn.appD z58 hb143 hE136
        replace h128 := h128.nq hc142 q134
        have hE148 := Ext.then hE136 hc142 (Zn.bl z58)
        refine op_g ha rfl (g_assign rfl) ?_; clear ha a; intro a ha; refine wpList_nil ?_; replace ha := ha.sub (σ' := [(0, (.int .u32 (BitVec.toNat u55 : Int))), (3, v138)]) ⟨rfl, rfl, trivial⟩; refine e_blk ?_; refine e_then ?_; refine wp_region_lit ?_; (iterate 2 refine op_g ha rfl (g_move rfl) ?_; clear ha a; intro a ha); refine op_g ha rfl (g32_sub (m := u55) (n := (1#32)) rfl rfl) ?_; clear ha a; intro a ha; refine op_g ha rfl (g32_and (m := u55) (n := (u55 - (1#32))) rfl rfl) ?_; clear ha a; intro a ha; refine op_g ha rfl (g_assign rfl) ?_; clear ha a; intro a ha; refine wpList_nil ?_; replace ha := ha.sub (σ' := [(0, (.int .u32 (BitVec.toNat (u55 &&& (u55 - (1#32))) : Int))), (3, v138)]) ⟨rfl, rfl, trivial⟩
        refine e_lq ?_; obtain rfl := Option.some.inj hF
        exact ⟨_, Nat.lt_succ_self _, u55 &&& (u55 - (1#32)), (l59 ++ ([x119])), v138, b140, ha.sub ⟨rfl, rfl, trivial⟩, hE148, h141, q147, hN115⟩
      replace hF := if_f hp118 hF; refine wp_exit ?_; refine e_then_exit ?_; refine e_lq_eq ?_; obtain rfl := Option.some.inj hF
      exact ⟨l59, v60, b61, ha.sub ⟨rfl, trivial⟩, hE62, h57, z58, (LK_inr hN115).symm⟩
  rintro a w102 ⟨l106, v107, b108, ha, hE114, h104, z105, rfl⟩
  have hF : F_impl_vset_list_k2 l106 = some _ := hK111; clear hK111; unfold F_impl_vset_list_k2 at hF
  refine e_then ?_; refine wp_seq ?_; refine wp_region_lit ?_; refine op_g ha rfl (g_move rfl) ?_; clear ha a; intro a ha; refine op_g ha rfl (g_assign rfl) ?_; clear ha a; intro a ha; refine wpList_nil ?_; replace ha := ha.sub (σ' := [(2, v107)]) ⟨rfl, trivial⟩; refine e_then ?_; refine wp_ret ?_; obtain rfl := Option.some.inj hF
  exact f_ret1 ha rfl rfl ⟨_, h104, z105, hE114⟩
set_option maxHeartbeats 2000000 in
theorem W_math_bits_OnesCount32 {W : World} {a0 : BitVec 32} {r : Int} (hF : F_math_bits_OnesCount32 a0 = some r) :
    Calls Tryz.prog 67 [.int .u32 (BitVec.toNat a0 : Int)].toArray W (Ret fun u w' => (u = .int .i64 r ∧ InI r) ∧ Ext W w') := by
  refine f_enter Tryz.func67 rfl Tryz.ntmps67 rfl ?_
  intro a ha
  replace ha : Fr 21 [(0, (.int .u32 (BitVec.toNat a0 : Int)))] a := ha
  have hE : Chg [] W W := Chg.refl _ _
  unfold F_math_bits_OnesCount32 at hF
  refine wp_seq ?_; refine wp_region_lit ?_; refine op_g ha rfl (g_assign rfl) ?_; clear ha a; intro a ha; refine wpList_nil ?_; replace ha := ha.sub (σ' := [(0, (.int .u32 (BitVec.toNat a0 : Int)))]) ⟨rfl, trivial⟩; refine e_then ?_; refine wp_seq ?_; refine d_quiet hmix (by kernel_rfl) ?_; refine q_g ha rfl (g_move rfl) ?_; clear ha a; intro a ha; refine q_g ha rfl (g32_shr (m := a0) rfl rfl (show InU 24 from by decide).1) ?_; clear ha a; intro a ha; obtain ⟨x1, g2, gx3, hF⟩ := idx_some hF; refine q_g ha rfl (g_strIdx un9 rfl rfl g2 (str_at (tab := popTab) (by kernel_rfl) gx3)) ?_; clear ha a; intro a ha
  refine q_g ha rfl (g_move rfl) ?_; clear ha a; intro a ha; refine q_g ha rfl (g32_shr (m := a0) rfl rfl (show InU 16 from by decide).1) ?_; clear ha a; intro a ha; refine q_g ha rfl (g32_and (m := (a0 >>> (16 : Int).toNat)) (n := (255#32)) rfl rfl) ?_; clear ha a; intro a ha; obtain ⟨x4, g5, gx6, hF⟩ := idx_some hF; refine q_g ha rfl (g_strIdx un9 rfl rfl g5 (str_at (tab := popTab) (by kernel_rfl) gx6)) ?_; clear ha a; intro a ha; refine q_g ha rfl (g8_add (m := x1) (n := x4) rfl rfl) ?_; clear ha a; intro a ha; refine q_g ha rfl (g_move rfl) ?_; clear ha a; intro a ha; refine q_g ha rfl (g32_shr (m := a0) rfl rfl (show InU 8 from by decide).1) ?_; clear ha a; intro a ha
  refine q_g ha rfl (g32_and (m := (a0 >>> (8 : Int).toNat)) (n := (255#32)) rfl rfl) ?_; clear ha a; intro a ha; obtain ⟨x7, g8, gx9, hF⟩ := idx_some hF; refine q_g ha rfl (g_strIdx un9 rfl rfl g8 (str_at (tab := popTab) (by kernel_rfl) gx9)) ?_; clear ha a; intro a ha; refine q_g ha rfl (g8_add (m := (x1 + x4)) (n := x7) rfl rfl) ?_; clear ha a; intro a ha; refine q_g ha rfl (g_move rfl) ?_; clear ha a; intro a ha; refine q_g ha rfl (g32_and (m := a0) (n := (255#32)) rfl rfl) ?_; clear ha a; intro a ha; obtain ⟨x10, g11, gx12, hF⟩ := idx_some hF; refine q_g ha rfl (g_strIdx un9 rfl rfl g11 (str_at (tab := popTab) (by kernel_rfl) gx12)) ?_; clear ha a; intro a ha
  refine q_g ha rfl (g8_add (m := ((x1 + x4) + x7)) (n := x10) rfl rfl) ?_; clear ha a; intro a ha; refine q_g ha rfl (g_conv8 (m := (((x1 + x4) + x7) + x10)) un5 un3 rfl) ?_; clear ha a; intro a ha; refine q_g ha rfl (g_assign rfl) ?_; clear ha a; intro a ha
  refine q_nil ?_; intro w13 hx14
  have hE15 := Ext.trans hE hx14
  replace ha := ha.sub (σ' := [(2, (.int .i64 (BitVec.toNat (((x1 + x4) + x7) + x10) : Int)))]) ⟨rfl, trivial⟩; refine e_then ?_; refine wp_ret ?_; obtain rfl := Option.some.inj hF
  exact f_ret1 ha rfl rfl ⟨⟨rfl, (in_u8 _)⟩, hE15⟩
set_option maxHeartbeats 2000000 in
theorem W_impl_vset_size {W : World} {a0 : BitVec 32} {r : Int} (hF : F_impl_vset_size a0 = some r) :
    Calls Tryz.prog 50 [.int .u32 (BitVec.toNat a0 : Int)].toArray W (Ret fun u w' => (u = .int .i64 r ∧ InI r) ∧ Ext W w') := by
  refine f_enter Tryz.func50 rfl Tryz.ntmps50 rfl ?_
  intro a ha
  replace ha : Fr 5 [(0, (.int .u32 (BitVec.toNat a0 : Int)))] a := ha
  have hE : Chg [] W W := Chg.refl _ _
  unfold F_impl_vset_size at hF
  refine wp_seq ?_; refine wp_region_lit ?_; refine op_g ha rfl (g_assign rfl) ?_; clear ha a; intro a ha; refine wpList_nil ?_; replace ha := ha.sub (σ' := [(0, (.int .u32 (BitVec.toNat a0 : Int)))]) ⟨rfl, trivial⟩; refine e_then ?_; refine wp_seq ?_; refine wp_region_lit ?_; refine op_g ha rfl (g_move rfl) ?_; clear ha a; intro a ha; obtain ⟨x1, hc2, hF⟩ := cal_some hF
  refine o_call ha rfl rfl Tryz.call67 (W_math_bits_OnesCount32  hc2) ?_; clear ha a; rintro v3 w4 ⟨⟨rfl, hI6⟩, hx5⟩ a ha
  have hE7 := Ext.trans hE hx5
  refine op_g ha rfl (g_assign rfl) ?_; clear ha a; intro a ha; refine wpList_nil ?_; replace ha := ha.sub (σ' := [(2, (.int .i64 x1))]) ⟨rfl, trivial⟩; refine e_then ?_; refine wp_ret ?_; obtain rfl := Option.some.inj hF
  exact f_ret1 ha rfl rfl ⟨⟨rfl, hI6⟩, hE7⟩
end Go.Proofs.YtmaaloijdjnblaaGreatDoor
