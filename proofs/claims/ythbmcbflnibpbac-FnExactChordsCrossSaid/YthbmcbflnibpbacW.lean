/- Walks, printed by gen.py. -/
import Derived.Test.YthbmcbflnibpbacF
import Derived.Test.YthbmcbflnibpbacW1
import Derived.Test.YthbmcbflnibpbacProg
import Derived.KernelRfl
set_option maxRecDepth 100000
namespace Go.Proofs.Ythbmcbflnibpbac
open Go Go.RowKit

set_option maxHeartbeats 2000000 in
theorem W_impl_alternate_1 {W : World} {a0 : Int} (ha0 : InI a0) {y0 : Int} (hy0 : InI y0) {bc0 : Nat} (hbc0 : Bx W bc0 [.int .i64 y0] 3) {vy1 : Value} {fy1 : List Nat} {y1 : (List Int)} (hy1 : Ro Rp.int W fy1 vy1 y1) {bc1 : Nat} (hbc1 : Bx W bc1 [vy1] 40) {y2 : Int} (hy2 : InI y2) {bc2 : Nat} (hbc2 : Bx W bc2 [.int .i64 y2] 3) {r : Bool} (hF : F_impl_alternate_1 a0 y0 y1 y2 = some r) :
    Calls Try.prog 46 [.int .i64 a0, .pointer (some ⟨bc0, 0, none⟩), .pointer (some ⟨bc1, 0, none⟩), .pointer (some ⟨bc2, 0, none⟩)].toArray W (Ret fun u w' => u = .bool r ∧ Ext W w') := by
  refine f_enter Try.func46 rfl Try.ntmps46 rfl ?_
  intro a ha
  replace ha : Fr 20 [(0, (.int .i64 a0)), (1, (.pointer (some ⟨bc0, 0, none⟩))), (2, (.pointer (some ⟨bc1, 0, none⟩))), (3, (.pointer (some ⟨bc2, 0, none⟩)))] a := ha
  have hE : Chg [] W W := Chg.refl _ _
  unfold F_impl_alternate_1 at hF
  refine wp_seq ?_; refine wp_region_lit ?_; refine op_g ha rfl (g_assign rfl) ?_; clear ha a; intro a ha; refine wpList_nil ?_; replace ha := ha.sub (σ' := [(0, (.int .i64 a0)), (1, (.pointer (some ⟨bc0, 0, none⟩))), (2, (.pointer (some ⟨bc1, 0, none⟩))), (3, (.pointer (some ⟨bc2, 0, none⟩)))]) ⟨rfl, rfl, rfl, rfl, trivial⟩; refine e_then ?_; refine wp_seq ?_; refine d_quiet hmix (by kernel_rfl) ?_; refine q_g ha rfl (g_load Try.isAgg3 rfl ((hbc0.ext hE).cell rfl)) ?_; clear ha a; intro a ha; refine q_g ha rfl (g_load Try.isAgg40 rfl ((hbc1.ext hE).cell rfl)) ?_; clear ha a; intro a ha; refine q_g ha rfl (g_move rfl) ?_; clear ha a; intro a ha
  obtain ⟨x1, g2, gx3, hF⟩ := idx_some hF
  obtain ⟨p4, cs5, f6, hf7, hpb8, hat9, hr10, hi11⟩ := hy1.at g2 gx3
  obtain ⟨rfl, hI12, rfl⟩ := hr10
  refine q_g ha rfl (hi11.gives sl40 rfl rfl) ?_; clear ha a; intro a ha; refine q_g ha rfl (g_load0 hE Try.isAgg3 rfl hat9.one) ?_; clear ha a; intro a ha; refine q_g ha rfl (g_lss rfl rfl) ?_; clear ha a; intro a ha; refine q_g ha rfl (g_move rfl) ?_; clear ha a; intro a ha
  by_cases hp13 : y0 < x1
  · replace hF := if_t hp13 hF
    rw [show (decide (y0 < x1)) = true from (decide_eq_true_iff).2 hp13] at ha
    refine q_want (yields ha rfl rfl) ?_; refine q_g ha rfl (g_load Try.isAgg40 rfl ((hbc1.ext hE).cell rfl)) ?_; clear ha a; intro a ha; refine q_want (yields ha rfl rfl) ?_; refine q_g ha rfl (g_move rfl) ?_; clear ha a; intro a ha; refine q_want (yields ha rfl rfl) ?_; obtain ⟨x14, g15, gx16, hF⟩ := idx_some hF
    obtain ⟨p17, cs18, f19, hf20, hpb21, hat22, hr23, hi24⟩ := hy1.at g15 gx16
    obtain ⟨rfl, hI25, rfl⟩ := hr23
    refine q_g ha rfl (hi24.gives sl40 rfl rfl) ?_; clear ha a; intro a ha; refine q_want (yields ha rfl rfl) ?_; refine q_g ha rfl (g_load0 hE Try.isAgg3 rfl hat22.one) ?_; clear ha a; intro a ha; refine q_want (yields ha rfl rfl) ?_; refine q_g ha rfl (g_load Try.isAgg3 rfl ((hbc2.ext hE).cell rfl)) ?_; clear ha a; intro a ha; refine q_want (yields ha rfl rfl) ?_; refine q_g ha rfl (g_lss rfl rfl) ?_; clear ha a; intro a ha; refine q_g ha rfl (g_pick rfl rfl) ?_; clear ha a; intro a ha; refine q_g ha rfl (g_assign rfl) ?_; clear ha a; intro a ha
    refine q_nil ?_; intro w26 hx27
    have hE28 := Ext.trans hE hx27
    replace ha := ha.sub (σ' := [(5, (.bool (decide (x14 < y2))))]) ⟨rfl, trivial⟩; refine e_then ?_; refine wp_ret ?_; obtain rfl := Option.some.inj hF
    exact f_ret1 ha rfl rfl ⟨rfl, hE28⟩
  replace hF := if_f hp13 hF
  rw [show (decide (y0 < x1)) = false from b_false (decide_eq_true_iff) hp13] at ha
  (iterate 6 refine q_unwant ha rfl (yields ha rfl rfl) rfl ?_; clear ha a; intro a ha); refine q_g ha rfl (g_pick rfl rfl) ?_; clear ha a; intro a ha; refine q_g ha rfl (g_assign rfl) ?_; clear ha a; intro a ha
  refine q_nil ?_; intro w29 hx30
  have hE31 := Ext.trans hE hx30
  replace ha := ha.sub (σ' := [(5, (.bool false))]) ⟨rfl, trivial⟩; refine e_then ?_; refine wp_ret ?_; obtain rfl := Option.some.inj hF
  exact f_ret1 ha rfl rfl ⟨rfl, hE31⟩
set_option maxHeartbeats 2000000 in
theorem W_impl_alternate {W : World} {va0 : Value} {fa0 : List Nat} {a0 : (List Int)} (ha0 : Ro Rp.int W fa0 va0 a0) {va1 : Value} {fa1 : List Nat} {a1 : (List Int)} (ha1 : Ro Rp.int W fa1 va1 a1) {va2 : Value} {fa2 : List Nat} {a2 : (List Int)} (ha2 : Ro Rp.int W fa2 va2 a2) {r : Bool} (hF : F_impl_alternate a0 a1 a2 = some r) :
    Calls Try.prog 29 [va0, va1, va2].toArray W (Ret fun u w' => u = .bool r ∧ Ext W w') := by
  refine f_enter Try.func29 rfl Try.ntmps29 rfl ?_
  intro a ha
  replace ha : Fr 86 [(0, va0), (1, va1), (2, va2)] a := ha
  have hE : Chg [] W W := Chg.refl _ _
  unfold F_impl_alternate at hF
  refine wp_seq ?_; refine wp_region_lit ?_
  refine o_box ha rfl rfl ha0.cells ?_; clear ha a; intro b1 w2 hB3 hx4 hlo5 a ha
  have q6 := Zn.one hlo5
  have q7 := Zn.upD q6 hE
  have hE8 := Ext.trans hE hx4
  refine op_g ha rfl (g_assign rfl) ?_; clear ha a; intro a ha; refine wpList_nil ?_; replace ha := ha.sub (σ' := [(1, va1), (2, va2), (3, (.pointer (some ⟨b1, 0, none⟩)))]) ⟨rfl, rfl, rfl, trivial⟩; refine e_then ?_; refine wp_seq ?_; refine x_region [0, 1, 2, 3, 4, 5, 6, 7, 8, 9, 10, 11, 12, 13, 14, 15, 16, 17, 18, 19, 20, 21, 22, 23, 24, 25, 26, 27, 28, 29] hmix ?_
  have hS9 := RowKit.Below.refl w2.heap.size w2
  refine x_g 0 rfl (by kernel_rfl) (want0 _) ha rfl hS9 (g_load Try.isAgg40 rfl (hB3.cell rfl)) ?_; clear ha a; intro a ha; refine x_g 1 rfl (by kernel_rfl) (want0 _) ha rfl hS9 (g_move rfl) ?_; clear ha a; intro a ha; obtain ⟨x10, g11, gx12, hF⟩ := idx_some hF
  obtain ⟨p13, cs14, f15, hf16, hpb17, hat18, hr19, hi20⟩ := ha1.at g11 gx12
  obtain ⟨rfl, hI21, rfl⟩ := hr19
  refine x_g 2 rfl (by kernel_rfl) (want0 _) ha rfl hS9 (hi20.gives sl25 rfl rfl) ?_; clear ha a; intro a ha; refine x_g 3 rfl (by kernel_rfl) (want0 _) ha rfl hS9 (g_load0 hE8 Try.isAgg2 rfl hat18.one) ?_; clear ha a; intro a ha; obtain ⟨x22, g23, gx24, hF⟩ := idx_some hF
  obtain ⟨p25, cs26, f27, hf28, hpb29, hat30, hr31, hi32⟩ := ha0.at g23 gx24
  obtain ⟨rfl, hI33, rfl⟩ := hr31
  refine x_g 4 rfl (by kernel_rfl) (want0 _) ha rfl hS9 (hi32.gives sl40 rfl rfl) ?_; clear ha a; intro a ha; refine x_g 5 rfl (by kernel_rfl) (want0 _) ha rfl hS9 (g_load0 hE8 Try.isAgg3 rfl hat30.one) ?_; clear ha a; intro a ha; refine x_g 6 rfl (by kernel_rfl) (want0 _) ha rfl hS9 (g_load Try.isAgg40 rfl (hB3.cell rfl)) ?_; clear ha a; intro a ha; refine x_g 7 rfl (by kernel_rfl) (want0 _) ha rfl hS9 (g_move rfl) ?_; clear ha a; intro a ha; obtain ⟨x34, g35, gx36, hF⟩ := idx_some hF
  obtain ⟨p37, cs38, f39, hf40, hpb41, hat42, hr43, hi44⟩ := ha1.at g35 gx36
  obtain ⟨rfl, hI45, rfl⟩ := hr43
  refine x_g 8 rfl (by kernel_rfl) (want0 _) ha rfl hS9 (hi44.gives sl25 rfl rfl) ?_; clear ha a; intro a ha; refine x_g 9 rfl (by kernel_rfl) (want0 _) ha rfl hS9 (g_load0 hE8 Try.isAgg2 rfl hat42.one) ?_; clear ha a; intro a ha; obtain ⟨x46, g47, gx48, hF⟩ := idx_some hF
  obtain ⟨p49, cs50, f51, hf52, hpb53, hat54, hr55, hi56⟩ := ha0.at g47 gx48
  obtain ⟨rfl, hI57, rfl⟩ := hr55
  refine x_g 10 rfl (by kernel_rfl) (want0 _) ha rfl hS9 (hi56.gives sl40 rfl rfl) ?_; clear ha a; intro a ha; refine x_g 11 rfl (by kernel_rfl) (want0 _) ha rfl hS9 (g_load0 hE8 Try.isAgg3 rfl hat54.one) ?_; clear ha a; intro a ha; refine x_g 12 rfl (by kernel_rfl) (want0 _) ha rfl hS9 (g_min rfl rfl) ?_; clear ha a; intro a ha; refine x_g 13 rfl (by kernel_rfl) (want0 _) ha rfl hS9 (g_load Try.isAgg40 rfl (hB3.cell rfl)) ?_; clear ha a; intro a ha; refine x_g 14 rfl (by kernel_rfl) (want0 _) ha rfl hS9 (g_move rfl) ?_; clear ha a; intro a ha; obtain ⟨x58, g59, gx60, hF⟩ := idx_some hF
  obtain ⟨p61, cs62, f63, hf64, hpb65, hat66, hr67, hi68⟩ := ha1.at g59 gx60
  obtain ⟨rfl, hI69, rfl⟩ := hr67
  refine x_g 15 rfl (by kernel_rfl) (want0 _) ha rfl hS9 (hi68.gives sl25 rfl rfl) ?_; clear ha a; intro a ha; refine x_g 16 rfl (by kernel_rfl) (want0 _) ha rfl hS9 (g_load0 hE8 Try.isAgg2 rfl hat66.one) ?_; clear ha a; intro a ha; obtain ⟨x70, g71, gx72, hF⟩ := idx_some hF
  obtain ⟨p73, cs74, f75, hf76, hpb77, hat78, hr79, hi80⟩ := ha0.at g71 gx72
  obtain ⟨rfl, hI81, rfl⟩ := hr79
  refine x_g 17 rfl (by kernel_rfl) (want0 _) ha rfl hS9 (hi80.gives sl40 rfl rfl) ?_; clear ha a; intro a ha; refine x_g 18 rfl (by kernel_rfl) (want0 _) ha rfl hS9 (g_load0 hE8 Try.isAgg3 rfl hat78.one) ?_; clear ha a; intro a ha; refine x_g 19 rfl (by kernel_rfl) (want0 _) ha rfl hS9 (g_load Try.isAgg40 rfl (hB3.cell rfl)) ?_; clear ha a; intro a ha; refine x_g 20 rfl (by kernel_rfl) (want0 _) ha rfl hS9 (g_move rfl) ?_; clear ha a; intro a ha; obtain ⟨x82, g83, gx84, hF⟩ := idx_some hF
  obtain ⟨p85, cs86, f87, hf88, hpb89, hat90, hr91, hi92⟩ := ha1.at g83 gx84
  obtain ⟨rfl, hI93, rfl⟩ := hr91
  refine x_g 21 rfl (by kernel_rfl) (want0 _) ha rfl hS9 (hi92.gives sl25 rfl rfl) ?_; clear ha a; intro a ha; refine x_g 22 rfl (by kernel_rfl) (want0 _) ha rfl hS9 (g_load0 hE8 Try.isAgg2 rfl hat90.one) ?_; clear ha a; intro a ha; obtain ⟨x94, g95, gx96, hF⟩ := idx_some hF
  obtain ⟨p97, cs98, f99, hf100, hpb101, hat102, hr103, hi104⟩ := ha0.at g95 gx96
  obtain ⟨rfl, hI105, rfl⟩ := hr103
  refine x_g 23 rfl (by kernel_rfl) (want0 _) ha rfl hS9 (hi104.gives sl40 rfl rfl) ?_; clear ha a; intro a ha; refine x_g 24 rfl (by kernel_rfl) (want0 _) ha rfl hS9 (g_load0 hE8 Try.isAgg3 rfl hat102.one) ?_; clear ha a; intro a ha; refine x_g 25 rfl (by kernel_rfl) (want0 _) ha rfl hS9 (g_max rfl rfl) ?_; clear ha a; intro a ha; refine x_many [26, 27] (by kernel_rfl) rfl fun wqr1_1 hxqr1_1 => ⟨⟨_, rfl, ?_⟩, ⟨_, rfl, ?_⟩, trivial⟩
  · skip
    replace hB3 := hB3.ext hxqr1_1
    have hEqr1o26_1 := Ext.trans hE8 hxqr1_1
    have qqr1o26_1 := bel_step hS9 hxqr1_1
    refine o_alloc (cs := [(.int .i64 0)]) ha rfl Try.zeroValue3 rfl ?_; clear ha a; intro bqr1o26_1 wqr1o26_1 hBqr1o26_1 hxqr1o26_1 hloqr1o26_1 a ha
    have qqr1o26_2 := Zn.one hloqr1o26_1
    have qqr1o26_3 := Nq.new hB3.fpb qqr1o26_2
    have qqr1o26_4 := Nq.made1 hloqr1o26_1 hB3.bi
    have qqr1o26_5 := Zn.upD qqr1o26_2 hEqr1o26_1
    have qqr1o26_6 := Zn.upB qqr1o26_2 qqr1o26_1
    replace hB3 := hB3.ext hxqr1o26_1
    have hEqr1o26_2 := Ext.trans hEqr1o26_1 hxqr1o26_1
    refine wpList_nil (e_sq ?_)
    have hStqr1o26_1 : RowKit.Below w2.heap.size wqr1_1 wqr1o26_1 := ext_bel qqr1o26_1.size hxqr1o26_1
    refine ⟨fun _ => hStqr1o26_1, ?_⟩
    have qqr1o26_7 := RowKit.Below.trans qqr1o26_1 hStqr1o26_1
    refine x_only 27 rfl (by kernel_rfl) ?_; intro wqr1o27_1 hxqr1o27_1
    replace hB3 := hB3.ext hxqr1o27_1
    replace hBqr1o26_1 := hBqr1o26_1.ext hxqr1o27_1
    have hEqr1o27_1 := Ext.trans hEqr1o26_2 hxqr1o27_1
    have qqr1o27_1 := bel_step qqr1o26_7 hxqr1o27_1
    refine o_alloc (cs := [(.int .i64 0)]) ha rfl Try.zeroValue3 rfl ?_; clear ha a; intro bqr1o27_1 wqr1o27_2 hBqr1o27_1 hxqr1o27_2 hloqr1o27_1 a ha
    have qqr1o27_2 := Zn.one hloqr1o27_1
    have qqr1o27_3 := Nq.new hB3.fpb qqr1o27_2
    have qqr1o27_4 := Nq.made1 hloqr1o27_1 hB3.bi
    have qqr1o27_5 := Nq.new hBqr1o26_1.fpb qqr1o27_2
    have qqr1o27_6 := Nq.made1 hloqr1o27_1 hBqr1o26_1.bi
    have qqr1o27_7 := Zn.upD qqr1o27_2 hEqr1o27_1
    have qqr1o27_8 := Zn.upB qqr1o27_2 qqr1o27_1
    replace hB3 := hB3.ext hxqr1o27_2
    replace hBqr1o26_1 := hBqr1o26_1.ext hxqr1o27_2
    have hEqr1o27_2 := Ext.trans hEqr1o27_1 hxqr1o27_2
    refine wpList_nil (e_sq ?_)
    have hStqr1o27_1 : RowKit.Below w2.heap.size wqr1o27_1 wqr1o27_2 := ext_bel qqr1o27_1.size hxqr1o27_2
    refine ⟨fun _ => hStqr1o27_1, ?_⟩
    have qqr1o27_9 := RowKit.Below.trans qqr1o27_1 hStqr1o27_1
    refine x_only 28 rfl (by kernel_rfl) ?_; intro wqr1o28_1 hxqr1o28_1
    replace hB3 := hB3.ext hxqr1o28_1
    replace hBqr1o26_1 := hBqr1o26_1.ext hxqr1o28_1
    replace hBqr1o27_1 := hBqr1o27_1.ext hxqr1o28_1
    have hEqr1o28_1 := Ext.trans hEqr1o27_2 hxqr1o28_1
    have qqr1o28_1 := bel_step qqr1o27_9 hxqr1o28_1
    refine o_storeB ha hBqr1o26_1 Try.sizeOf3 rfl rfl rfl rfl (Nat.le_of_ble_eq_true rfl) ?_; intro wqr1o28_2 hBqr1o28_1 hcqr1o28_1
    replace hcqr1o28_1 := hcqr1o28_1.bl
    replace hBqr1o28_1 : Bx wqr1o28_2 bqr1o26_1 [(.int .i64 (min x22 x46))] 3 := hBqr1o28_1
    replace hB3 := hB3.nq hcqr1o28_1 qqr1o26_3
    replace hBqr1o27_1 := hBqr1o27_1.nq hcqr1o28_1 qqr1o27_6
    have hEqr1o28_2 := Ext.then hEqr1o28_1 hcqr1o28_1 (Zn.bl qqr1o26_5)
    refine wpList_nil (e_sq ?_)
    have hStqr1o28_1 : RowKit.Below w2.heap.size wqr1o28_1 wqr1o28_2 := chg_bel hcqr1o28_1 qqr1o28_1.size (Zn.bl qqr1o26_6)
    refine ⟨fun _ => hStqr1o28_1, ?_⟩
    have qqr1o28_2 := RowKit.Below.trans qqr1o28_1 hStqr1o28_1
    refine x_only 29 rfl (by kernel_rfl) ?_; intro wqr1o29_1 hxqr1o29_1
    replace hB3 := hB3.ext hxqr1o29_1
    replace hBqr1o28_1 := hBqr1o28_1.ext hxqr1o29_1
    replace hBqr1o27_1 := hBqr1o27_1.ext hxqr1o29_1
    have hEqr1o29_1 := Ext.trans hEqr1o28_2 hxqr1o29_1
    have qqr1o29_1 := bel_step qqr1o28_2 hxqr1o29_1
    refine o_storeB ha hBqr1o27_1 Try.sizeOf3 rfl rfl rfl rfl (Nat.le_of_ble_eq_true rfl) ?_; intro wqr1o29_2 hBqr1o29_1 hcqr1o29_1
    replace hcqr1o29_1 := hcqr1o29_1.bl
    replace hBqr1o29_1 : Bx wqr1o29_2 bqr1o27_1 [(.int .i64 (max x70 x94))] 3 := hBqr1o29_1
    replace hB3 := hB3.nq hcqr1o29_1 qqr1o27_3
    replace hBqr1o28_1 := hBqr1o28_1.nq hcqr1o29_1 qqr1o27_5
    have hEqr1o29_2 := Ext.then hEqr1o29_1 hcqr1o29_1 (Zn.bl qqr1o27_7)
    refine wpList_nil (e_sq ?_)
    have hStqr1o29_1 : RowKit.Below w2.heap.size wqr1o29_1 wqr1o29_2 := chg_bel hcqr1o29_1 qqr1o29_1.size (Zn.bl qqr1o27_8)
    refine ⟨fun _ => hStqr1o29_1, ?_⟩
    have qqr1o29_2 := RowKit.Below.trans qqr1o29_1 hStqr1o29_1
    refine x_done (by kernel_rfl) ?_; intro w106 hx107
    replace hB3 := hB3.ext hx107
    replace hBqr1o28_1 := hBqr1o28_1.ext hx107
    replace hBqr1o29_1 := hBqr1o29_1.ext hx107
    have hE108 := Ext.trans hEqr1o29_2 hx107
    replace ha := ha.sub (σ' := [(1, va1), (2, va2), (3, (.pointer (some ⟨b1, 0, none⟩))), (7, (.pointer (some ⟨bqr1o26_1, 0, none⟩))), (8, (.pointer (some ⟨bqr1o27_1, 0, none⟩)))]) ⟨rfl, rfl, rfl, rfl, rfl, trivial⟩; refine e_then ?_; refine wp_seq ?_; refine wp_region_lit ?_; refine op_g ha rfl (g_func rfl rfl) ?_; clear ha a; intro a ha; refine op_g ha rfl (g_assign rfl) ?_; clear ha a; intro a ha; refine wpList_nil ?_; replace ha := ha.sub (σ' := [(1, va1), (2, va2), (9, (.func (.func 46) #[] #[(.pointer (some ⟨bqr1o26_1, 0, none⟩)), (.pointer (some ⟨b1, 0, none⟩)), (.pointer (some ⟨bqr1o27_1, 0, none⟩))]))]) ⟨rfl, rfl, rfl, trivial⟩
    refine e_then ?_; refine wp_seq ?_; refine d_quiet hmix (by kernel_rfl) ?_; refine q_g ha rfl (g_move rfl) ?_; clear ha a; intro a ha; obtain ⟨x109, g110, gx111, hF⟩ := idx_some hF
    obtain ⟨p112, cs113, f114, hf115, hpb116, hat117, hr118, hi119⟩ := ha1.at g110 gx111
    obtain ⟨rfl, hI120, rfl⟩ := hr118
    refine q_g ha rfl (hi119.gives sl25 rfl rfl) ?_; clear ha a; intro a ha; refine q_g ha rfl (g_load0 hE108 Try.isAgg2 rfl hat117.one) ?_; clear ha a; intro a ha; refine q_g ha rfl (g_move rfl) ?_; clear ha a; intro a ha; obtain ⟨x121, g122, gx123, hF⟩ := idx_some hF
    obtain ⟨p124, cs125, f126, hf127, hpb128, hat129, hr130, hi131⟩ := ha2.at g122 gx123
    obtain ⟨rfl, hI132, rfl⟩ := hr130
    refine q_g ha rfl (hi131.gives sl25 rfl rfl) ?_; clear ha a; intro a ha; refine q_g ha rfl (g_load0 hE108 Try.isAgg2 rfl hat129.one) ?_; clear ha a; intro a ha; refine q_g ha rfl (g_neq rfl rfl) ?_; clear ha a; intro a ha; refine q_g ha rfl (g_move rfl) ?_; clear ha a; intro a ha
    by_cases hp133 : x109 ≠ x121
    · replace hF := if_t hp133 hF
      rw [show (decide (x109 ≠ x121)) = true from (decide_eq_true_iff).2 hp133] at ha
      refine q_want (yields ha rfl rfl) ?_; refine q_g ha rfl (g_move rfl) ?_; clear ha a; intro a ha; refine q_want (yields ha rfl rfl) ?_; obtain ⟨x134, g135, gx136, hF⟩ := idx_some hF
      obtain ⟨p137, cs138, f139, hf140, hpb141, hat142, hr143, hi144⟩ := ha1.at g135 gx136
      obtain ⟨rfl, hI145, rfl⟩ := hr143
      refine q_g ha rfl (hi144.gives sl25 rfl rfl) ?_; clear ha a; intro a ha; refine q_want (yields ha rfl rfl) ?_; refine q_g ha rfl (g_load0 hE108 Try.isAgg2 rfl hat142.one) ?_; clear ha a; intro a ha; refine q_want (yields ha rfl rfl) ?_; refine q_g ha rfl (g_move rfl) ?_; clear ha a; intro a ha; refine q_want (yields ha rfl rfl) ?_; obtain ⟨x146, g147, gx148, hF⟩ := idx_some hF
      obtain ⟨p149, cs150, f151, hf152, hpb153, hat154, hr155, hi156⟩ := ha2.at g147 gx148
      obtain ⟨rfl, hI157, rfl⟩ := hr155
      refine q_g ha rfl (hi156.gives sl25 rfl rfl) ?_; clear ha a; intro a ha; refine q_want (yields ha rfl rfl) ?_; refine q_g ha rfl (g_load0 hE108 Try.isAgg2 rfl hat154.one) ?_; clear ha a; intro a ha; refine q_want (yields ha rfl rfl) ?_; refine q_g ha rfl (g_neq rfl rfl) ?_; clear ha a; intro a ha; refine q_g ha rfl (g_pick rfl rfl) ?_; clear ha a; intro a ha; refine q_g ha rfl (g_move rfl) ?_; clear ha a; intro a ha
      by_cases hp158 : x134 ≠ x146
      · replace hF := if_t hp158 hF
        rw [show (decide (x134 ≠ x146)) = true from (decide_eq_true_iff).2 hp158] at ha
        refine q_want (yields ha rfl rfl) ?_; refine q_g ha rfl (g_move rfl) ?_; clear ha a; intro a ha; refine q_want (yields ha rfl rfl) ?_; obtain ⟨x159, g160, gx161, hF⟩ := idx_some hF
        obtain ⟨p162, cs163, f164, hf165, hpb166, hat167, hr168, hi169⟩ := ha1.at g160 gx161
        obtain ⟨rfl, hI170, rfl⟩ := hr168
        refine q_g ha rfl (hi169.gives sl25 rfl rfl) ?_; clear ha a; intro a ha; refine q_want (yields ha rfl rfl) ?_; refine q_g ha rfl (g_load0 hE108 Try.isAgg2 rfl hat167.one) ?_; clear ha a; intro a ha; refine q_want (yields ha rfl rfl) ?_; refine q_g ha rfl (g_move rfl) ?_; clear ha a; intro a ha; refine q_want (yields ha rfl rfl) ?_; obtain ⟨x171, g172, gx173, hF⟩ := idx_some hF
        obtain ⟨p174, cs175, f176, hf177, hpb178, hat179, hr180, hi181⟩ := ha2.at g172 gx173
        obtain ⟨rfl, hI182, rfl⟩ := hr180
        refine q_g ha rfl (hi181.gives sl25 rfl rfl) ?_; clear ha a; intro a ha; refine q_want (yields ha rfl rfl) ?_; refine q_g ha rfl (g_load0 hE108 Try.isAgg2 rfl hat179.one) ?_; clear ha a; intro a ha; refine q_want (yields ha rfl rfl) ?_; refine q_g ha rfl (g_neq rfl rfl) ?_; clear ha a; intro a ha; refine q_g ha rfl (g_pick rfl rfl) ?_; clear ha a; intro a ha; refine q_g ha rfl (g_move rfl) ?_; clear ha a; intro a ha
        by_cases hp183 : x159 ≠ x171
        · replace hF := if_t hp183 hF
          rw [show (decide (x159 ≠ x171)) = true from (decide_eq_true_iff).2 hp183] at ha
          refine q_want (yields ha rfl rfl) ?_; refine q_g ha rfl (g_move rfl) ?_; clear ha a; intro a ha; refine q_want (yields ha rfl rfl) ?_; obtain ⟨x184, g185, gx186, hF⟩ := idx_some hF
          obtain ⟨p187, cs188, f189, hf190, hpb191, hat192, hr193, hi194⟩ := ha1.at g185 gx186
          obtain ⟨rfl, hI195, rfl⟩ := hr193
          refine q_g ha rfl (hi194.gives sl25 rfl rfl) ?_; clear ha a; intro a ha; refine q_want (yields ha rfl rfl) ?_; refine q_g ha rfl (g_load0 hE108 Try.isAgg2 rfl hat192.one) ?_; clear ha a; intro a ha; refine q_want (yields ha rfl rfl) ?_; refine q_g ha rfl (g_move rfl) ?_; clear ha a; intro a ha; refine q_want (yields ha rfl rfl) ?_; obtain ⟨x196, g197, gx198, hF⟩ := idx_some hF
          obtain ⟨p199, cs200, f201, hf202, hpb203, hat204, hr205, hi206⟩ := ha2.at g197 gx198
          obtain ⟨rfl, hI207, rfl⟩ := hr205
          refine q_g ha rfl (hi206.gives sl25 rfl rfl) ?_; clear ha a; intro a ha; refine q_want (yields ha rfl rfl) ?_; refine q_g ha rfl (g_load0 hE108 Try.isAgg2 rfl hat204.one) ?_; clear ha a; intro a ha; refine q_want (yields ha rfl rfl) ?_; refine q_g ha rfl (g_neq rfl rfl) ?_; clear ha a; intro a ha; refine q_g ha rfl (g_pick rfl rfl) ?_; clear ha a; intro a ha; refine q_g ha rfl (g_assign rfl) ?_; clear ha a; intro a ha
          refine q_nil ?_; intro w208 hx209
          replace hB3 := hB3.ext hx209
          replace hBqr1o28_1 := hBqr1o28_1.ext hx209
          replace hBqr1o29_1 := hBqr1o29_1.ext hx209
          have hE210 := Ext.trans hE108 hx209
          replace ha := ha.sub (σ' := [(2, va2), (9, (.func (.func 46) #[] #[(.pointer (some ⟨bqr1o26_1, 0, none⟩)), (.pointer (some ⟨b1, 0, none⟩)), (.pointer (some ⟨bqr1o27_1, 0, none⟩))])), (10, (.bool (decide (x184 ≠ x196))))]) ⟨rfl, rfl, rfl, trivial⟩; refine e_then ?_; refine wp_seq ?_; refine d_quiet hmix (by kernel_rfl) ?_; (iterate 2 refine q_g ha rfl (g_move rfl) ?_; clear ha a; intro a ha)
          by_cases hp211 : x184 ≠ x196
          · replace hF := if_t hp211 hF
            rw [show (decide (x184 ≠ x196)) = true from (decide_eq_true_iff).2 hp211] at ha
            refine q_want (yields ha rfl rfl) ?_; refine q_g ha rfl (g_move rfl) ?_; clear ha a; intro a ha; refine q_want (yields ha rfl rfl) ?_; refine q_g ha rfl (g_move rfl) ?_; clear ha a; intro a ha; refine q_want (yields ha rfl rfl) ?_; obtain ⟨x212, g213, gx214, hF⟩ := idx_some hF
            obtain ⟨p215, cs216, f217, hf218, hpb219, hat220, hr221, hi222⟩ := ha2.at g213 gx214
            obtain ⟨rfl, hI223, rfl⟩ := hr221
            refine q_g ha rfl (hi222.gives sl25 rfl rfl) ?_; clear ha a; intro a ha; refine q_want (yields ha rfl rfl) ?_; refine q_g ha rfl (g_load0 hE210 Try.isAgg2 rfl hat220.one) ?_; clear ha a; intro a ha; refine q_want (yields ha rfl rfl) ?_; obtain ⟨x226, hc227, hF⟩ := cal_some hF; refine q_callv (.bool x226) ha rfl rfl rfl Try.call46 (fun w225 hx224 => W_impl_alternate_1 hI223 (in_min hI33 hI57) (hBqr1o28_1.ext hx224) (ha0.ext (Ext.trans hE210 hx224)) (hB3.ext hx224) (in_max hI81 hI105) (hBqr1o29_1.ext hx224) hc227) (fun _ _ _ h => ⟨h.1, h.2⟩) ?_; clear ha a; intro a ha; refine q_want (yields ha rfl rfl) ?_
            refine q_g ha rfl (g_move rfl) ?_; clear ha a; intro a ha; refine q_want (yields ha rfl rfl) ?_; refine q_g ha rfl (g_move rfl) ?_; clear ha a; intro a ha; refine q_want (yields ha rfl rfl) ?_; obtain ⟨x228, g229, gx230, hF⟩ := idx_some hF
            obtain ⟨p231, cs232, f233, hf234, hpb235, hat236, hr237, hi238⟩ := ha2.at g229 gx230
            obtain ⟨rfl, hI239, rfl⟩ := hr237
            refine q_g ha rfl (hi238.gives sl25 rfl rfl) ?_; clear ha a; intro a ha; refine q_want (yields ha rfl rfl) ?_; refine q_g ha rfl (g_load0 hE210 Try.isAgg2 rfl hat236.one) ?_; clear ha a; intro a ha; refine q_want (yields ha rfl rfl) ?_; obtain ⟨x242, hc243, hF⟩ := cal_some hF; refine q_callv (.bool x242) ha rfl rfl rfl Try.call46 (fun w241 hx240 => W_impl_alternate_1 hI239 (in_min hI33 hI57) (hBqr1o28_1.ext hx240) (ha0.ext (Ext.trans hE210 hx240)) (hB3.ext hx240) (in_max hI81 hI105) (hBqr1o29_1.ext hx240) hc243) (fun _ _ _ h => ⟨h.1, h.2⟩) ?_; clear ha a; intro a ha; refine q_want (yields ha rfl rfl) ?_
            refine q_g ha rfl (gB_neq un4 rfl rfl) ?_; clear ha a; intro a ha; refine q_g ha rfl (g_pick rfl rfl) ?_; clear ha a; intro a ha; refine q_g ha rfl (g_assign rfl) ?_; clear ha a; intro a ha
            refine q_nil ?_; intro w244 hx245
            replace hB3 := hB3.ext hx245
            replace hBqr1o28_1 := hBqr1o28_1.ext hx245
            replace hBqr1o29_1 := hBqr1o29_1.ext hx245
            have hE246 := Ext.trans hE210 hx245
            replace ha := ha.sub (σ' := [(6, (.bool (x226 != x242)))]) ⟨rfl, trivial⟩; refine e_then ?_; refine wp_ret ?_; obtain rfl := Option.some.inj hF
            exact f_ret1 ha rfl rfl ⟨rfl, hE246⟩
          replace hF := if_f hp211 hF
          rw [show (decide (x184 ≠ x196)) = false from b_false (decide_eq_true_iff) hp211] at ha
          (iterate 11 refine q_unwant ha rfl (yields ha rfl rfl) rfl ?_; clear ha a; intro a ha); refine q_g ha rfl (g_pick rfl rfl) ?_; clear ha a; intro a ha; refine q_g ha rfl (g_assign rfl) ?_; clear ha a; intro a ha
          refine q_nil ?_; intro w247 hx248
          replace hB3 := hB3.ext hx248
          replace hBqr1o28_1 := hBqr1o28_1.ext hx248
          replace hBqr1o29_1 := hBqr1o29_1.ext hx248
          have hE249 := Ext.trans hE210 hx248
          replace ha := ha.sub (σ' := [(6, (.bool false))]) ⟨rfl, trivial⟩; refine e_then ?_; refine wp_ret ?_; obtain rfl := Option.some.inj hF
          exact f_ret1 ha rfl rfl ⟨rfl, hE249⟩
        replace hF := if_f hp183 hF
        rw [show (decide (x159 ≠ x171)) = false from b_false (decide_eq_true_iff) hp183] at ha
        (iterate 7 refine q_unwant ha rfl (yields ha rfl rfl) rfl ?_; clear ha a; intro a ha); refine q_g ha rfl (g_pick rfl rfl) ?_; clear ha a; intro a ha; refine q_g ha rfl (g_assign rfl) ?_; clear ha a; intro a ha
        refine q_nil ?_; intro w250 hx251
        replace hB3 := hB3.ext hx251
        replace hBqr1o28_1 := hBqr1o28_1.ext hx251
        replace hBqr1o29_1 := hBqr1o29_1.ext hx251
        have hE252 := Ext.trans hE108 hx251
        replace ha := ha.sub (σ' := [(2, va2), (9, (.func (.func 46) #[] #[(.pointer (some ⟨bqr1o26_1, 0, none⟩)), (.pointer (some ⟨b1, 0, none⟩)), (.pointer (some ⟨bqr1o27_1, 0, none⟩))])), (10, (.bool false))]) ⟨rfl, rfl, rfl, trivial⟩; refine e_then ?_; refine wp_seq ?_; refine d_quiet hmix (by kernel_rfl) ?_; (iterate 2 refine q_g ha rfl (g_move rfl) ?_; clear ha a; intro a ha); (iterate 11 refine q_unwant ha rfl (yields ha rfl rfl) rfl ?_; clear ha a; intro a ha); refine q_g ha rfl (g_pick rfl rfl) ?_; clear ha a; intro a ha; refine q_g ha rfl (g_assign rfl) ?_; clear ha a; intro a ha
        refine q_nil ?_; intro w253 hx254
        replace hB3 := hB3.ext hx254
        replace hBqr1o28_1 := hBqr1o28_1.ext hx254
        replace hBqr1o29_1 := hBqr1o29_1.ext hx254
        have hE255 := Ext.trans hE252 hx254
        replace ha := ha.sub (σ' := [(6, (.bool false))]) ⟨rfl, trivial⟩; refine e_then ?_; refine wp_ret ?_; obtain rfl := Option.some.inj hF
        exact f_ret1 ha rfl rfl ⟨rfl, hE255⟩
      replace hF := if_f hp158 hF
      rw [show (decide (x134 ≠ x146)) = false from b_false (decide_eq_true_iff) hp158] at ha
      (iterate 7 refine q_unwant ha rfl (yields ha rfl rfl) rfl ?_; clear ha a; intro a ha); refine q_g ha rfl (g_pick rfl rfl) ?_; clear ha a; intro a ha; refine q_g ha rfl (g_move rfl) ?_; clear ha a; intro a ha; (iterate 7 refine q_unwant ha rfl (yields ha rfl rfl) rfl ?_; clear ha a; intro a ha); refine q_g ha rfl (g_pick rfl rfl) ?_; clear ha a; intro a ha; refine q_g ha rfl (g_assign rfl) ?_; clear ha a; intro a ha
      refine q_nil ?_; intro w256 hx257
      replace hB3 := hB3.ext hx257
      replace hBqr1o28_1 := hBqr1o28_1.ext hx257
      replace hBqr1o29_1 := hBqr1o29_1.ext hx257
      have hE258 := Ext.trans hE108 hx257
      replace ha := ha.sub (σ' := [(2, va2), (9, (.func (.func 46) #[] #[(.pointer (some ⟨bqr1o26_1, 0, none⟩)), (.pointer (some ⟨b1, 0, none⟩)), (.pointer (some ⟨bqr1o27_1, 0, none⟩))])), (10, (.bool false))]) ⟨rfl, rfl, rfl, trivial⟩; refine e_then ?_; refine wp_seq ?_; refine d_quiet hmix (by kernel_rfl) ?_; (iterate 2 refine q_g ha rfl (g_move rfl) ?_; clear ha a; intro a ha); (iterate 11 refine q_unwant ha rfl (yields ha rfl rfl) rfl ?_; clear ha a; intro a ha); refine q_g ha rfl (g_pick rfl rfl) ?_; clear ha a; intro a ha; refine q_g ha rfl (g_assign rfl) ?_; clear ha a; intro a ha
      refine q_nil ?_; intro w259 hx260
      replace hB3 := hB3.ext hx260
      replace hBqr1o28_1 := hBqr1o28_1.ext hx260
      replace hBqr1o29_1 := hBqr1o29_1.ext hx260
      have hE261 := Ext.trans hE258 hx260
      replace ha := ha.sub (σ' := [(6, (.bool false))]) ⟨rfl, trivial⟩; refine e_then ?_; refine wp_ret ?_; obtain rfl := Option.some.inj hF
      exact f_ret1 ha rfl rfl ⟨rfl, hE261⟩
    replace hF := if_f hp133 hF
    rw [show (decide (x109 ≠ x121)) = false from b_false (decide_eq_true_iff) hp133] at ha
    (iterate 7 refine q_unwant ha rfl (yields ha rfl rfl) rfl ?_; clear ha a; intro a ha); refine q_g ha rfl (g_pick rfl rfl) ?_; clear ha a; intro a ha; refine q_g ha rfl (g_move rfl) ?_; clear ha a; intro a ha; (iterate 7 refine q_unwant ha rfl (yields ha rfl rfl) rfl ?_; clear ha a; intro a ha); refine q_g ha rfl (g_pick rfl rfl) ?_; clear ha a; intro a ha; refine q_g ha rfl (g_move rfl) ?_; clear ha a; intro a ha; (iterate 7 refine q_unwant ha rfl (yields ha rfl rfl) rfl ?_; clear ha a; intro a ha); refine q_g ha rfl (g_pick rfl rfl) ?_; clear ha a; intro a ha; refine q_g ha rfl (g_assign rfl) ?_; clear ha a; intro a ha
    refine q_nil ?_; intro w262 hx263
    replace hB3 := hB3.ext hx263
    replace hBqr1o28_1 := hBqr1o28_1.ext hx263
    replace hBqr1o29_1 := hBqr1o29_1.ext hx263
    have hE264 := Ext.trans hE108 hx263
    replace ha := ha.sub (σ' := [(2, va2), (9, (.func (.func 46) #[] #[(.pointer (some ⟨bqr1o26_1, 0, none⟩)), (.pointer (some ⟨b1, 0, none⟩)), (.pointer (some ⟨bqr1o27_1, 0, none⟩))])), (10, (.bool false))]) ⟨rfl, rfl, rfl, trivial⟩; refine e_then ?_; refine wp_seq ?_; refine d_quiet hmix (by kernel_rfl) ?_; (iterate 2 refine q_g ha rfl (g_move rfl) ?_; clear ha a; intro a ha); (iterate 11 refine q_unwant ha rfl (yields ha rfl rfl) rfl ?_; clear ha a; intro a ha); refine q_g ha rfl (g_pick rfl rfl) ?_; clear ha a; intro a ha; refine q_g ha rfl (g_assign rfl) ?_; clear ha a; intro a ha
    refine q_nil ?_; intro w265 hx266
    replace hB3 := hB3.ext hx266
    replace hBqr1o28_1 := hBqr1o28_1.ext hx266
    replace hBqr1o29_1 := hBqr1o29_1.ext hx266
    have hE267 := Ext.trans hE264 hx266
    replace ha := ha.sub (σ' := [(6, (.bool false))]) ⟨rfl, trivial⟩; refine e_then ?_; refine wp_ret ?_; obtain rfl := Option.some.inj hF
    exact f_ret1 ha rfl rfl ⟨rfl, hE267⟩
  skip
  replace hB3 := hB3.ext hxqr1_1
  have hEqr1o27_1 := Ext.trans hE8 hxqr1_1
  have qqr1o27_1 := bel_step hS9 hxqr1_1
  refine o_alloc (cs := [(.int .i64 0)]) ha rfl Try.zeroValue3 rfl ?_; clear ha a; intro bqr1o27_1 wqr1o27_1 hBqr1o27_1 hxqr1o27_1 hloqr1o27_1 a ha
  have qqr1o27_2 := Zn.one hloqr1o27_1
  have qqr1o27_3 := Nq.new hB3.fpb qqr1o27_2
  have qqr1o27_4 := Nq.made1 hloqr1o27_1 hB3.bi
  have qqr1o27_5 := Zn.upD qqr1o27_2 hEqr1o27_1
  have qqr1o27_6 := Zn.upB qqr1o27_2 qqr1o27_1
  replace hB3 := hB3.ext hxqr1o27_1
  have hEqr1o27_2 := Ext.trans hEqr1o27_1 hxqr1o27_1
  refine wpList_nil (e_sq ?_)
  have hStqr1o27_1 : RowKit.Below w2.heap.size wqr1_1 wqr1o27_1 := ext_bel qqr1o27_1.size hxqr1o27_1
  refine ⟨fun _ => hStqr1o27_1, ?_⟩
  have qqr1o27_7 := RowKit.Below.trans qqr1o27_1 hStqr1o27_1
  refine x_only 26 rfl (by kernel_rfl) ?_; intro wqr1o26_1 hxqr1o26_1
  replace hB3 := hB3.ext hxqr1o26_1
  replace hBqr1o27_1 := hBqr1o27_1.ext hxqr1o26_1
  have hEqr1o26_1 := Ext.trans hEqr1o27_2 hxqr1o26_1
  have qqr1o26_1 := bel_step qqr1o27_7 hxqr1o26_1
  refine o_alloc (cs := [(.int .i64 0)]) ha rfl Try.zeroValue3 rfl ?_; clear ha a; intro bqr1o26_1 wqr1o26_2 hBqr1o26_1 hxqr1o26_2 hloqr1o26_1 a ha
  have qqr1o26_2 := Zn.one hloqr1o26_1
  have qqr1o26_3 := Nq.new hB3.fpb qqr1o26_2
  have qqr1o26_4 := Nq.made1 hloqr1o26_1 hB3.bi
  have qqr1o26_5 := Nq.new hBqr1o27_1.fpb qqr1o26_2
  have qqr1o26_6 := Nq.made1 hloqr1o26_1 hBqr1o27_1.bi
  have qqr1o26_7 := Zn.upD qqr1o26_2 hEqr1o26_1
  have qqr1o26_8 := Zn.upB qqr1o26_2 qqr1o26_1
  replace hB3 := hB3.ext hxqr1o26_2
  replace hBqr1o27_1 := hBqr1o27_1.ext hxqr1o26_2
  have hEqr1o26_2 := Ext.trans hEqr1o26_1 hxqr1o26_2
  refine wpList_nil (e_sq ?_)
  have hStqr1o26_1 : RowKit.Below w2.heap.size wqr1o26_1 wqr1o26_2 := ext_bel qqr1o26_1.size hxqr1o26_2
  refine ⟨fun _ => hStqr1o26_1, ?_⟩
  have qqr1o26_9 := RowKit.Below.trans qqr1o26_1 hStqr1o26_1
  refine x_only 28 rfl (by kernel_rfl) ?_; intro wqr1o28_1 hxqr1o28_1
  replace hB3 := hB3.ext hxqr1o28_1
  replace hBqr1o27_1 := hBqr1o27_1.ext hxqr1o28_1
  replace hBqr1o26_1 := hBqr1o26_1.ext hxqr1o28_1
  have hEqr1o28_1 := Ext.trans hEqr1o26_2 hxqr1o28_1
  have qqr1o28_1 := bel_step qqr1o26_9 hxqr1o28_1
  refine o_storeB ha hBqr1o26_1 Try.sizeOf3 rfl rfl rfl rfl (Nat.le_of_ble_eq_true rfl) ?_; intro wqr1o28_2 hBqr1o28_1 hcqr1o28_1
  replace hcqr1o28_1 := hcqr1o28_1.bl
  replace hBqr1o28_1 : Bx wqr1o28_2 bqr1o26_1 [(.int .i64 (min x22 x46))] 3 := hBqr1o28_1
  replace hB3 := hB3.nq hcqr1o28_1 qqr1o26_3
  replace hBqr1o27_1 := hBqr1o27_1.nq hcqr1o28_1 qqr1o26_5
  have hEqr1o28_2 := Ext.then hEqr1o28_1 hcqr1o28_1 (Zn.bl qqr1o26_7)
  refine wpList_nil (e_sq ?_)
  have hStqr1o28_1 : RowKit.Below w2.heap.size wqr1o28_1 wqr1o28_2 := chg_bel hcqr1o28_1 qqr1o28_1.size (Zn.bl qqr1o26_8)
  refine ⟨fun _ => hStqr1o28_1, ?_⟩
  have qqr1o28_2 := RowKit.Below.trans qqr1o28_1 hStqr1o28_1
  refine x_only 29 rfl (by kernel_rfl) ?_; intro wqr1o29_1 hxqr1o29_1
  replace hB3 := hB3.ext hxqr1o29_1
  replace hBqr1o27_1 := hBqr1o27_1.ext hxqr1o29_1
  replace hBqr1o28_1 := hBqr1o28_1.ext hxqr1o29_1
  have hEqr1o29_1 := Ext.trans hEqr1o28_2 hxqr1o29_1
  have qqr1o29_1 := bel_step qqr1o28_2 hxqr1o29_1
  refine o_storeB ha hBqr1o27_1 Try.sizeOf3 rfl rfl rfl rfl (Nat.le_of_ble_eq_true rfl) ?_; intro wqr1o29_2 hBqr1o29_1 hcqr1o29_1
  replace hcqr1o29_1 := hcqr1o29_1.bl
  replace hBqr1o29_1 : Bx wqr1o29_2 bqr1o27_1 [(.int .i64 (max x70 x94))] 3 := hBqr1o29_1
  replace hB3 := hB3.nq hcqr1o29_1 qqr1o27_3
  replace hBqr1o28_1 := hBqr1o28_1.nq hcqr1o29_1 qqr1o26_6
  have hEqr1o29_2 := Ext.then hEqr1o29_1 hcqr1o29_1 (Zn.bl qqr1o27_5)
  refine wpList_nil (e_sq ?_)
  have hStqr1o29_1 : RowKit.Below w2.heap.size wqr1o29_1 wqr1o29_2 := chg_bel hcqr1o29_1 qqr1o29_1.size (Zn.bl qqr1o27_6)
  refine ⟨fun _ => hStqr1o29_1, ?_⟩
  have qqr1o29_2 := RowKit.Below.trans qqr1o29_1 hStqr1o29_1
  refine x_done (by kernel_rfl) ?_; intro w106 hx107
  replace hB3 := hB3.ext hx107
  replace hBqr1o29_1 := hBqr1o29_1.ext hx107
  replace hBqr1o28_1 := hBqr1o28_1.ext hx107
  have hE108 := Ext.trans hEqr1o29_2 hx107
  replace ha := ha.sub (σ' := [(1, va1), (2, va2), (3, (.pointer (some ⟨b1, 0, none⟩))), (7, (.pointer (some ⟨bqr1o26_1, 0, none⟩))), (8, (.pointer (some ⟨bqr1o27_1, 0, none⟩)))]) ⟨rfl, rfl, rfl, rfl, rfl, trivial⟩; refine e_then ?_; refine wp_seq ?_; refine wp_region_lit ?_; refine op_g ha rfl (g_func rfl rfl) ?_; clear ha a; intro a ha; refine op_g ha rfl (g_assign rfl) ?_; clear ha a; intro a ha; refine wpList_nil ?_; replace ha := ha.sub (σ' := [(1, va1), (2, va2), (9, (.func (.func 46) #[] #[(.pointer (some ⟨bqr1o26_1, 0, none⟩)), (.pointer (some ⟨b1, 0, none⟩)), (.pointer (some ⟨bqr1o27_1, 0, none⟩))]))]) ⟨rfl, rfl, rfl, trivial⟩
  refine e_then ?_; refine wp_seq ?_; refine d_quiet hmix (by kernel_rfl) ?_; refine q_g ha rfl (g_move rfl) ?_; clear ha a; intro a ha; obtain ⟨x109, g110, gx111, hF⟩ := idx_some hF
  obtain ⟨p112, cs113, f114, hf115, hpb116, hat117, hr118, hi119⟩ := ha1.at g110 gx111
  obtain ⟨rfl, hI120, rfl⟩ := hr118
  refine q_g ha rfl (hi119.gives sl25 rfl rfl) ?_; clear ha a; intro a ha; refine q_g ha rfl (g_load0 hE108 Try.isAgg2 rfl hat117.one) ?_; clear ha a; intro a ha; refine q_g ha rfl (g_move rfl) ?_; clear ha a; intro a ha; obtain ⟨x121, g122, gx123, hF⟩ := idx_some hF
  obtain ⟨p124, cs125, f126, hf127, hpb128, hat129, hr130, hi131⟩ := ha2.at g122 gx123
  obtain ⟨rfl, hI132, rfl⟩ := hr130
  refine q_g ha rfl (hi131.gives sl25 rfl rfl) ?_; clear ha a; intro a ha; refine q_g ha rfl (g_load0 hE108 Try.isAgg2 rfl hat129.one) ?_; clear ha a; intro a ha; refine q_g ha rfl (g_neq rfl rfl) ?_; clear ha a; intro a ha; refine q_g ha rfl (g_move rfl) ?_; clear ha a; intro a ha
  by_cases hp133 : x109 ≠ x121
  · replace hF := if_t hp133 hF
    rw [show (decide (x109 ≠ x121)) = true from (decide_eq_true_iff).2 hp133] at ha
    refine q_want (yields ha rfl rfl) ?_; refine q_g ha rfl (g_move rfl) ?_; clear ha a; intro a ha; refine q_want (yields ha rfl rfl) ?_; obtain ⟨x134, g135, gx136, hF⟩ := idx_some hF
    obtain ⟨p137, cs138, f139, hf140, hpb141, hat142, hr143, hi144⟩ := ha1.at g135 gx136
    obtain ⟨rfl, hI145, rfl⟩ := hr143
    refine q_g ha rfl (hi144.gives sl25 rfl rfl) ?_; clear ha a; intro a ha; refine q_want (yields ha rfl rfl) ?_; refine q_g ha rfl (g_load0 hE108 Try.isAgg2 rfl hat142.one) ?_; clear ha a; intro a ha; refine q_want (yields ha rfl rfl) ?_; refine q_g ha rfl (g_move rfl) ?_; clear ha a; intro a ha; refine q_want (yields ha rfl rfl) ?_; obtain ⟨x146, g147, gx148, hF⟩ := idx_some hF
    obtain ⟨p149, cs150, f151, hf152, hpb153, hat154, hr155, hi156⟩ := ha2.at g147 gx148
    obtain ⟨rfl, hI157, rfl⟩ := hr155
    refine q_g ha rfl (hi156.gives sl25 rfl rfl) ?_; clear ha a; intro a ha; refine q_want (yields ha rfl rfl) ?_; refine q_g ha rfl (g_load0 hE108 Try.isAgg2 rfl hat154.one) ?_; clear ha a; intro a ha; refine q_want (yields ha rfl rfl) ?_; refine q_g ha rfl (g_neq rfl rfl) ?_; clear ha a; intro a ha; refine q_g ha rfl (g_pick rfl rfl) ?_; clear ha a; intro a ha; refine q_g ha rfl (g_move rfl) ?_; clear ha a; intro a ha
    by_cases hp158 : x134 ≠ x146
    · replace hF := if_t hp158 hF
      rw [show (decide (x134 ≠ x146)) = true from (decide_eq_true_iff).2 hp158] at ha
      refine q_want (yields ha rfl rfl) ?_; refine q_g ha rfl (g_move rfl) ?_; clear ha a; intro a ha; refine q_want (yields ha rfl rfl) ?_; obtain ⟨x159, g160, gx161, hF⟩ := idx_some hF
      obtain ⟨p162, cs163, f164, hf165, hpb166, hat167, hr168, hi169⟩ := ha1.at g160 gx161
      obtain ⟨rfl, hI170, rfl⟩ := hr168
      refine q_g ha rfl (hi169.gives sl25 rfl rfl) ?_; clear ha a; intro a ha; refine q_want (yields ha rfl rfl) ?_; refine q_g ha rfl (g_load0 hE108 Try.isAgg2 rfl hat167.one) ?_; clear ha a; intro a ha; refine q_want (yields ha rfl rfl) ?_; refine q_g ha rfl (g_move rfl) ?_; clear ha a; intro a ha; refine q_want (yields ha rfl rfl) ?_; obtain ⟨x171, g172, gx173, hF⟩ := idx_some hF
      obtain ⟨p174, cs175, f176, hf177, hpb178, hat179, hr180, hi181⟩ := ha2.at g172 gx173
      obtain ⟨rfl, hI182, rfl⟩ := hr180
      refine q_g ha rfl (hi181.gives sl25 rfl rfl) ?_; clear ha a; intro a ha; refine q_want (yields ha rfl rfl) ?_; refine q_g ha rfl (g_load0 hE108 Try.isAgg2 rfl hat179.one) ?_; clear ha a; intro a ha; refine q_want (yields ha rfl rfl) ?_; refine q_g ha rfl (g_neq rfl rfl) ?_; clear ha a; intro a ha; refine q_g ha rfl (g_pick rfl rfl) ?_; clear ha a; intro a ha; refine q_g ha rfl (g_move rfl) ?_; clear ha a; intro a ha
      by_cases hp183 : x159 ≠ x171
      · replace hF := if_t hp183 hF
        rw [show (decide (x159 ≠ x171)) = true from (decide_eq_true_iff).2 hp183] at ha
        refine q_want (yields ha rfl rfl) ?_; refine q_g ha rfl (g_move rfl) ?_; clear ha a; intro a ha; refine q_want (yields ha rfl rfl) ?_; obtain ⟨x184, g185, gx186, hF⟩ := idx_some hF
        obtain ⟨p187, cs188, f189, hf190, hpb191, hat192, hr193, hi194⟩ := ha1.at g185 gx186
        obtain ⟨rfl, hI195, rfl⟩ := hr193
        refine q_g ha rfl (hi194.gives sl25 rfl rfl) ?_; clear ha a; intro a ha; refine q_want (yields ha rfl rfl) ?_; refine q_g ha rfl (g_load0 hE108 Try.isAgg2 rfl hat192.one) ?_; clear ha a; intro a ha; refine q_want (yields ha rfl rfl) ?_; refine q_g ha rfl (g_move rfl) ?_; clear ha a; intro a ha; refine q_want (yields ha rfl rfl) ?_; obtain ⟨x196, g197, gx198, hF⟩ := idx_some hF
        obtain ⟨p199, cs200, f201, hf202, hpb203, hat204, hr205, hi206⟩ := ha2.at g197 gx198
        obtain ⟨rfl, hI207, rfl⟩ := hr205
        refine q_g ha rfl (hi206.gives sl25 rfl rfl) ?_; clear ha a; intro a ha; refine q_want (yields ha rfl rfl) ?_; refine q_g ha rfl (g_load0 hE108 Try.isAgg2 rfl hat204.one) ?_; clear ha a; intro a ha; refine q_want (yields ha rfl rfl) ?_; refine q_g ha rfl (g_neq rfl rfl) ?_; clear ha a; intro a ha; refine q_g ha rfl (g_pick rfl rfl) ?_; clear ha a; intro a ha; refine q_g ha rfl (g_assign rfl) ?_; clear ha a; intro a ha
        refine q_nil ?_; intro w208 hx209
        replace hB3 := hB3.ext hx209
        replace hBqr1o29_1 := hBqr1o29_1.ext hx209
        replace hBqr1o28_1 := hBqr1o28_1.ext hx209
        have hE210 := Ext.trans hE108 hx209
        replace ha := ha.sub (σ' := [(2, va2), (9, (.func (.func 46) #[] #[(.pointer (some ⟨bqr1o26_1, 0, none⟩)), (.pointer (some ⟨b1, 0, none⟩)), (.pointer (some ⟨bqr1o27_1, 0, none⟩))])), (10, (.bool (decide (x184 ≠ x196))))]) ⟨rfl, rfl, rfl, trivial⟩; refine e_then ?_; refine wp_seq ?_; refine d_quiet hmix (by kernel_rfl) ?_; (iterate 2 refine q_g ha rfl (g_move rfl) ?_; clear ha a; intro a ha)
        by_cases hp211 : x184 ≠ x196
        · replace hF := if_t hp211 hF
          rw [show (decide (x184 ≠ x196)) = true from (decide_eq_true_iff).2 hp211] at ha
          refine q_want (yields ha rfl rfl) ?_; refine q_g ha rfl (g_move rfl) ?_; clear ha a; intro a ha; refine q_want (yields ha rfl rfl) ?_; refine q_g ha rfl (g_move rfl) ?_; clear ha a; intro a ha; refine q_want (yields ha rfl rfl) ?_; obtain ⟨x212, g213, gx214, hF⟩ := idx_some hF
          obtain ⟨p215, cs216, f217, hf218, hpb219, hat220, hr221, hi222⟩ := ha2.at g213 gx214
          obtain ⟨rfl, hI223, rfl⟩ := hr221
          refine q_g ha rfl (hi222.gives sl25 rfl rfl) ?_; clear ha a; intro a ha; refine q_want (yields ha rfl rfl) ?_; refine q_g ha rfl (g_load0 hE210 Try.isAgg2 rfl hat220.one) ?_; clear ha a; intro a ha; refine q_want (yields ha rfl rfl) ?_; obtain ⟨x226, hc227, hF⟩ := cal_some hF; refine q_callv (.bool x226) ha rfl rfl rfl Try.call46 (fun w225 hx224 => W_impl_alternate_1 hI223 (in_min hI33 hI57) (hBqr1o28_1.ext hx224) (ha0.ext (Ext.trans hE210 hx224)) (hB3.ext hx224) (in_max hI81 hI105) (hBqr1o29_1.ext hx224) hc227) (fun _ _ _ h => ⟨h.1, h.2⟩) ?_; clear ha a; intro a ha; refine q_want (yields ha rfl rfl) ?_
          refine q_g ha rfl (g_move rfl) ?_; clear ha a; intro a ha; refine q_want (yields ha rfl rfl) ?_; refine q_g ha rfl (g_move rfl) ?_; clear ha a; intro a ha; refine q_want (yields ha rfl rfl) ?_; obtain ⟨x228, g229, gx230, hF⟩ := idx_some hF
          obtain ⟨p231, cs232, f233, hf234, hpb235, hat236, hr237, hi238⟩ := ha2.at g229 gx230
          obtain ⟨rfl, hI239, rfl⟩ := hr237
          refine q_g ha rfl (hi238.gives sl25 rfl rfl) ?_; clear ha a; intro a ha; refine q_want (yields ha rfl rfl) ?_; refine q_g ha rfl (g_load0 hE210 Try.isAgg2 rfl hat236.one) ?_; clear ha a; intro a ha; refine q_want (yields ha rfl rfl) ?_; obtain ⟨x242, hc243, hF⟩ := cal_some hF; refine q_callv (.bool x242) ha rfl rfl rfl Try.call46 (fun w241 hx240 => W_impl_alternate_1 hI239 (in_min hI33 hI57) (hBqr1o28_1.ext hx240) (ha0.ext (Ext.trans hE210 hx240)) (hB3.ext hx240) (in_max hI81 hI105) (hBqr1o29_1.ext hx240) hc243) (fun _ _ _ h => ⟨h.1, h.2⟩) ?_; clear ha a; intro a ha; refine q_want (yields ha rfl rfl) ?_
          refine q_g ha rfl (gB_neq un4 rfl rfl) ?_; clear ha a; intro a ha; refine q_g ha rfl (g_pick rfl rfl) ?_; clear ha a; intro a ha; refine q_g ha rfl (g_assign rfl) ?_; clear ha a; intro a ha
          refine q_nil ?_; intro w244 hx245
          replace hB3 := hB3.ext hx245
          replace hBqr1o29_1 := hBqr1o29_1.ext hx245
          replace hBqr1o28_1 := hBqr1o28_1.ext hx245
          have hE246 := Ext.trans hE210 hx245
          replace ha := ha.sub (σ' := [(6, (.bool (x226 != x242)))]) ⟨rfl, trivial⟩; refine e_then ?_; refine wp_ret ?_; obtain rfl := Option.some.inj hF
          exact f_ret1 ha rfl rfl ⟨rfl, hE246⟩
        replace hF := if_f hp211 hF
        rw [show (decide (x184 ≠ x196)) = false from b_false (decide_eq_true_iff) hp211] at ha
        (iterate 11 refine q_unwant ha rfl (yields ha rfl rfl) rfl ?_; clear ha a; intro a ha); refine q_g ha rfl (g_pick rfl rfl) ?_; clear ha a; intro a ha; refine q_g ha rfl (g_assign rfl) ?_; clear ha a; intro a ha
        refine q_nil ?_; intro w247 hx248
        replace hB3 := hB3.ext hx248
        replace hBqr1o29_1 := hBqr1o29_1.ext hx248
        replace hBqr1o28_1 := hBqr1o28_1.ext hx248
        have hE249 := Ext.trans hE210 hx248
        replace ha := ha.sub (σ' := [(6, (.bool false))]) ⟨rfl, trivial⟩; refine e_then ?_; refine wp_ret ?_; obtain rfl := Option.some.inj hF
        exact f_ret1 ha rfl rfl ⟨rfl, hE249⟩
      replace hF := if_f hp183 hF
      rw [show (decide (x159 ≠ x171)) = false from b_false (decide_eq_true_iff) hp183] at ha
      (iterate 7 refine q_unwant ha rfl (yields ha rfl rfl) rfl ?_; clear ha a; intro a ha); refine q_g ha rfl (g_pick rfl rfl) ?_; clear ha a; intro a ha; refine q_g ha rfl (g_assign rfl) ?_; clear ha a; intro a ha
      refine q_nil ?_; intro w250 hx251
      replace hB3 := hB3.ext hx251
      replace hBqr1o29_1 := hBqr1o29_1.ext hx251
      replace hBqr1o28_1 := hBqr1o28_1.ext hx251
      have hE252 := Ext.trans hE108 hx251
      replace ha := ha.sub (σ' := [(2, va2), (9, (.func (.func 46) #[] #[(.pointer (some ⟨bqr1o26_1, 0, none⟩)), (.pointer (some ⟨b1, 0, none⟩)), (.pointer (some ⟨bqr1o27_1, 0, none⟩))])), (10, (.bool false))]) ⟨rfl, rfl, rfl, trivial⟩; refine e_then ?_; refine wp_seq ?_; refine d_quiet hmix (by kernel_rfl) ?_; (iterate 2 refine q_g ha rfl (g_move rfl) ?_; clear ha a; intro a ha); (iterate 11 refine q_unwant ha rfl (yields ha rfl rfl) rfl ?_; clear ha a; intro a ha); refine q_g ha rfl (g_pick rfl rfl) ?_; clear ha a; intro a ha; refine q_g ha rfl (g_assign rfl) ?_; clear ha a; intro a ha
      refine q_nil ?_; intro w253 hx254
      replace hB3 := hB3.ext hx254
      replace hBqr1o29_1 := hBqr1o29_1.ext hx254
      replace hBqr1o28_1 := hBqr1o28_1.ext hx254
      have hE255 := Ext.trans hE252 hx254
      replace ha := ha.sub (σ' := [(6, (.bool false))]) ⟨rfl, trivial⟩; refine e_then ?_; refine wp_ret ?_; obtain rfl := Option.some.inj hF
      exact f_ret1 ha rfl rfl ⟨rfl, hE255⟩
    replace hF := if_f hp158 hF
    rw [show (decide (x134 ≠ x146)) = false from b_false (decide_eq_true_iff) hp158] at ha
    (iterate 7 refine q_unwant ha rfl (yields ha rfl rfl) rfl ?_; clear ha a; intro a ha); refine q_g ha rfl (g_pick rfl rfl) ?_; clear ha a; intro a ha; refine q_g ha rfl (g_move rfl) ?_; clear ha a; intro a ha; (iterate 7 refine q_unwant ha rfl (yields ha rfl rfl) rfl ?_; clear ha a; intro a ha); refine q_g ha rfl (g_pick rfl rfl) ?_; clear ha a; intro a ha; refine q_g ha rfl (g_assign rfl) ?_; clear ha a; intro a ha
    refine q_nil ?_; intro w256 hx257
    replace hB3 := hB3.ext hx257
    replace hBqr1o29_1 := hBqr1o29_1.ext hx257
    replace hBqr1o28_1 := hBqr1o28_1.ext hx257
    have hE258 := Ext.trans hE108 hx257
    replace ha := ha.sub (σ' := [(2, va2), (9, (.func (.func 46) #[] #[(.pointer (some ⟨bqr1o26_1, 0, none⟩)), (.pointer (some ⟨b1, 0, none⟩)), (.pointer (some ⟨bqr1o27_1, 0, none⟩))])), (10, (.bool false))]) ⟨rfl, rfl, rfl, trivial⟩; refine e_then ?_; refine wp_seq ?_; refine d_quiet hmix (by kernel_rfl) ?_; (iterate 2 refine q_g ha rfl (g_move rfl) ?_; clear ha a; intro a ha); (iterate 11 refine q_unwant ha rfl (yields ha rfl rfl) rfl ?_; clear ha a; intro a ha); refine q_g ha rfl (g_pick rfl rfl) ?_; clear ha a; intro a ha; refine q_g ha rfl (g_assign rfl) ?_; clear ha a; intro a ha
    refine q_nil ?_; intro w259 hx260
    replace hB3 := hB3.ext hx260
    replace hBqr1o29_1 := hBqr1o29_1.ext hx260
    replace hBqr1o28_1 := hBqr1o28_1.ext hx260
    have hE261 := Ext.trans hE258 hx260
    replace ha := ha.sub (σ' := [(6, (.bool false))]) ⟨rfl, trivial⟩; refine e_then ?_; refine wp_ret ?_; obtain rfl := Option.some.inj hF
    exact f_ret1 ha rfl rfl ⟨rfl, hE261⟩
  replace hF := if_f hp133 hF
  rw [show (decide (x109 ≠ x121)) = false from b_false (decide_eq_true_iff) hp133] at ha
  (iterate 7 refine q_unwant ha rfl (yields ha rfl rfl) rfl ?_; clear ha a; intro a ha); refine q_g ha rfl (g_pick rfl rfl) ?_; clear ha a; intro a ha; refine q_g ha rfl (g_move rfl) ?_; clear ha a; intro a ha; (iterate 7 refine q_unwant ha rfl (yields ha rfl rfl) rfl ?_; clear ha a; intro a ha); refine q_g ha rfl (g_pick rfl rfl) ?_; clear ha a; intro a ha; refine q_g ha rfl (g_move rfl) ?_; clear ha a; intro a ha; (iterate 7 refine q_unwant ha rfl (yields ha rfl rfl) rfl ?_; clear ha a; intro a ha); refine q_g ha rfl (g_pick rfl rfl) ?_; clear ha a; intro a ha; refine q_g ha rfl (g_assign rfl) ?_; clear ha a; intro a ha
  refine q_nil ?_; intro w262 hx263
  replace hB3 := hB3.ext hx263
  replace hBqr1o29_1 := hBqr1o29_1.ext hx263
  replace hBqr1o28_1 := hBqr1o28_1.ext hx263
  have hE264 := Ext.trans hE108 hx263
  replace ha := ha.sub (σ' := [(2, va2), (9, (.func (.func 46) #[] #[(.pointer (some ⟨bqr1o26_1, 0, none⟩)), (.pointer (some ⟨b1, 0, none⟩)), (.pointer (some ⟨bqr1o27_1, 0, none⟩))])), (10, (.bool false))]) ⟨rfl, rfl, rfl, trivial⟩; refine e_then ?_; refine wp_seq ?_; refine d_quiet hmix (by kernel_rfl) ?_; (iterate 2 refine q_g ha rfl (g_move rfl) ?_; clear ha a; intro a ha); (iterate 11 refine q_unwant ha rfl (yields ha rfl rfl) rfl ?_; clear ha a; intro a ha); refine q_g ha rfl (g_pick rfl rfl) ?_; clear ha a; intro a ha; refine q_g ha rfl (g_assign rfl) ?_; clear ha a; intro a ha
  refine q_nil ?_; intro w265 hx266
  replace hB3 := hB3.ext hx266
  replace hBqr1o29_1 := hBqr1o29_1.ext hx266
  replace hBqr1o28_1 := hBqr1o28_1.ext hx266
  have hE267 := Ext.trans hE264 hx266
  replace ha := ha.sub (σ' := [(6, (.bool false))]) ⟨rfl, trivial⟩; refine e_then ?_; refine wp_ret ?_; obtain rfl := Option.some.inj hF
  exact f_ret1 ha rfl rfl ⟨rfl, hE267⟩
set_option maxHeartbeats 2000000 in
theorem W_impl_ChordsCross {W : World} {va0_0 : Value} {fa0_0 : List Nat} {a0_0 : (List (List Int))} (ha0_0 : Ro (Rp.sl 2 Rp.int) W fa0_0 va0_0 a0_0) {va1 : Value} {fa1 : List Nat} {a1 : (List Int)} (ha1 : Ro Rp.int W fa1 va1 a1) {va2 : Value} {fa2 : List Nat} {a2 : (List Int)} (ha2 : Ro Rp.int W fa2 va2 a2) {va3 : Value} {fa3 : List Nat} {a3 : (List Int)} (ha3 : Ro Rp.int W fa3 va3 a3) {r : Bool} (hF : F_impl_ChordsCross a0_0 a1 a2 a3 = some r) :
    Calls Try.prog 16 [.agg #[va0_0], va1, va2, va3].toArray W (Ret fun u w' => u = .bool r ∧ Ext W w') := by
  refine f_enter Try.func16 rfl Try.ntmps16 rfl ?_
  intro a ha
  replace ha : Fr 36 [(0, (.agg #[va0_0])), (1, va1), (2, va2), (3, va3)] a := ha
  have hE : Chg [] W W := Chg.refl _ _
  unfold F_impl_ChordsCross at hF
  refine wp_seq ?_; refine wp_region_lit ?_
  refine o_box ha rfl rfl rfl ?_; clear ha a; intro b1 w2 hB3 hx4 hlo5 a ha
  have q6 := Zn.one hlo5
  have q7 := Zn.upD q6 hE
  have hE8 := Ext.trans hE hx4
  refine op_g ha rfl (g_assign rfl) ?_; clear ha a; intro a ha; refine wpList_nil ?_; replace ha := ha.sub (σ' := [(1, va1), (2, va2), (3, va3), (4, (.pointer (some ⟨b1, 0, none⟩)))]) ⟨rfl, rfl, rfl, rfl, trivial⟩; refine e_then ?_; refine wp_seq ?_; refine wp_seq ?_; refine wp_region_lit ?_; refine op_g ha rfl (g_loadA (cs := [va0_0]) Try.isAgg28 Try.sizeOf28 rfl (by simp) hB3.all) ?_; clear ha a; intro a ha; refine op_g ha rfl (g_move rfl) ?_; clear ha a; intro a ha; obtain ⟨x9, hc10, hF⟩ := cal_some hF
  refine o_call ha rfl rfl Try.call10 (W_impl_RingOk (ha0_0.ext hE8) (ha1.ext hE8) hc10) ?_; clear ha a; rintro v11 w12 ⟨rfl, hx13⟩ a ha
  replace hB3 := hB3.ext hx13
  have hE14 := Ext.trans hE8 hx13
  refine op_g ha rfl (g_not rfl) ?_; clear ha a; intro a ha; refine op_g ha rfl (g_move rfl) ?_; clear ha a; intro a ha
  by_cases hp15 : ¬ (x9 = true)
  · replace hF := if_t hp15 hF
    rw [show (!x9) = true from (n_iff (Iff.rfl)).2 hp15] at ha
    (iterate 4 refine op_unwant ha rfl (yields ha rfl rfl) rfl ?_; clear ha a; intro a ha); refine op_g ha rfl (g_pick rfl rfl) ?_; clear ha a; intro a ha; refine op_g ha rfl (g_move rfl) ?_; clear ha a; intro a ha; (iterate 4 refine op_unwant ha rfl (yields ha rfl rfl) rfl ?_; clear ha a; intro a ha); refine op_g ha rfl (g_pick rfl rfl) ?_; clear ha a; intro a ha; refine wpList_nil ?_; replace ha := ha.sub (σ' := [(1, va1), (2, va2), (3, va3), (26, (.bool true))]) ⟨rfl, rfl, rfl, rfl, trivial⟩; refine e_then ?_; refine c_true ha rfl ?_; refine wp_seq ?_; refine wp_region_lit ?_; refine op_g ha rfl (g_assign rfl) ?_; clear ha a; intro a ha
    refine wpList_nil ?_; replace ha := ha.sub (σ' := [(8, (.bool false))]) ⟨rfl, trivial⟩; refine e_then ?_; refine wp_ret ?_; refine e_then_ret ?_; obtain rfl := Option.some.inj hF
    exact f_ret1 ha rfl rfl ⟨rfl, hE14⟩
  replace hF := if_f hp15 hF
  rw [show (!x9) = false from b_false (n_iff (Iff.rfl)) hp15] at ha
  refine op_want (yields ha rfl rfl) ?_; refine op_g ha rfl (g_loadA (cs := [va0_0]) Try.isAgg28 Try.sizeOf28 rfl (by simp) hB3.all) ?_; clear ha a; intro a ha; refine op_want (yields ha rfl rfl) ?_; refine op_g ha rfl (g_move rfl) ?_; clear ha a; intro a ha; refine op_want (yields ha rfl rfl) ?_; obtain ⟨x16, hc17, hF⟩ := cal_some hF
  refine o_call ha rfl rfl Try.call27 (W_impl_isEdge (ha0_0.ext hE14) (ha2.ext hE14) hc17) ?_; clear ha a; rintro v18 w19 ⟨rfl, hx20⟩ a ha
  replace hB3 := hB3.ext hx20
  have hE21 := Ext.trans hE14 hx20
  refine op_want (yields ha rfl rfl) ?_; refine op_g ha rfl (g_not rfl) ?_; clear ha a; intro a ha; refine op_g ha rfl (g_pick rfl rfl) ?_; clear ha a; intro a ha; refine op_g ha rfl (g_move rfl) ?_; clear ha a; intro a ha
  by_cases hp22 : ¬ (x16 = true)
  · replace hF := if_t hp22 hF
    rw [show (!x16) = true from (n_iff (Iff.rfl)).2 hp22] at ha
    (iterate 4 refine op_unwant ha rfl (yields ha rfl rfl) rfl ?_; clear ha a; intro a ha); refine op_g ha rfl (g_pick rfl rfl) ?_; clear ha a; intro a ha; refine wpList_nil ?_; replace ha := ha.sub (σ' := [(1, va1), (2, va2), (3, va3), (26, (.bool true))]) ⟨rfl, rfl, rfl, rfl, trivial⟩; refine e_then ?_; refine c_true ha rfl ?_; refine wp_seq ?_; refine wp_region_lit ?_; refine op_g ha rfl (g_assign rfl) ?_; clear ha a; intro a ha; refine wpList_nil ?_; replace ha := ha.sub (σ' := [(8, (.bool false))]) ⟨rfl, trivial⟩; refine e_then ?_; refine wp_ret ?_; refine e_then_ret ?_; obtain rfl := Option.some.inj hF
    exact f_ret1 ha rfl rfl ⟨rfl, hE21⟩
  replace hF := if_f hp22 hF
  rw [show (!x16) = false from b_false (n_iff (Iff.rfl)) hp22] at ha
  refine op_want (yields ha rfl rfl) ?_; refine op_g ha rfl (g_loadA (cs := [va0_0]) Try.isAgg28 Try.sizeOf28 rfl (by simp) hB3.all) ?_; clear ha a; intro a ha; refine op_want (yields ha rfl rfl) ?_; refine op_g ha rfl (g_move rfl) ?_; clear ha a; intro a ha; refine op_want (yields ha rfl rfl) ?_; obtain ⟨x23, hc24, hF⟩ := cal_some hF
  refine o_call ha rfl rfl Try.call27 (W_impl_isEdge (ha0_0.ext hE21) (ha3.ext hE21) hc24) ?_; clear ha a; rintro v25 w26 ⟨rfl, hx27⟩ a ha
  replace hB3 := hB3.ext hx27
  have hE28 := Ext.trans hE21 hx27
  refine op_want (yields ha rfl rfl) ?_; refine op_g ha rfl (g_not rfl) ?_; clear ha a; intro a ha; refine op_g ha rfl (g_pick rfl rfl) ?_; clear ha a; intro a ha; refine wpList_nil ?_; replace ha := ha.sub (σ' := [(1, va1), (2, va2), (3, va3), (26, (.bool (!x23)))]) ⟨rfl, rfl, rfl, rfl, trivial⟩; refine e_then ?_; refine c_cond (¬ (x23 = true)) ha rfl (n_iff (Iff.rfl)) (fun hp29 => ?_) (fun hp29 => ?_)
  · replace hF := if_t hp29 hF
    refine wp_seq ?_; refine wp_region_lit ?_; refine op_g ha rfl (g_assign rfl) ?_; clear ha a; intro a ha; refine wpList_nil ?_; replace ha := ha.sub (σ' := [(8, (.bool false))]) ⟨rfl, trivial⟩; refine e_then ?_; refine wp_ret ?_; refine e_then_ret ?_; obtain rfl := Option.some.inj hF
    exact f_ret1 ha rfl rfl ⟨rfl, hE28⟩
  replace hF := if_f hp29 hF; refine wp_skip ?_; refine e_then ?_; refine wp_seq ?_; refine wp_region_lit ?_; refine op_g ha rfl (g_move rfl) ?_; clear ha a; intro a ha; obtain ⟨x30, hc31, hF⟩ := cal_some hF
  refine o_call ha rfl rfl Try.call28 (W_impl_placesIn (ha1.ext hE28) hc31) ?_; clear ha a; rintro v32 w33 ⟨u35, u36, b37, rfl, h38, z39, rfl, hx34⟩ a ha
  have hE41 := Ext.trans hE28 hx34
  have q42 := Zn.upD z39 hE28
  refine op_g ha rfl (g_move rfl) ?_; clear ha a; intro a ha; (iterate 2 refine op_g ha rfl (g_extract rfl rfl) ?_; clear ha a; intro a ha); (iterate 2 refine op_g ha rfl (g_assign rfl) ?_; clear ha a; intro a ha); refine wpList_nil ?_; replace ha := ha.sub (σ' := [(2, va2), (3, va3), (9, u35)]) ⟨rfl, rfl, rfl, trivial⟩; refine e_then ?_; refine wp_seq ?_; refine wp_region_lit ?_; (iterate 3 refine op_g ha rfl (g_move rfl) ?_; clear ha a; intro a ha)
  obtain ⟨fp43, hro44, hs45⟩ := h38.roF
  obtain ⟨x46, hc47, hF⟩ := cal_some hF
  refine o_call ha rfl rfl Try.call29 (W_impl_alternate hro44 (ha2.ext hE41) (ha3.ext hE41) hc47) ?_; clear ha a; rintro v48 w49 ⟨rfl, hx50⟩ a ha
  replace h38 := h38.ext hx50
  have hE51 := Ext.trans hE41 hx50
  refine op_g ha rfl (g_assign rfl) ?_; clear ha a; intro a ha; refine wpList_nil ?_; replace ha := ha.sub (σ' := [(8, (.bool x46))]) ⟨rfl, trivial⟩; refine e_then ?_; refine wp_ret ?_; obtain rfl := Option.some.inj hF
  exact f_ret1 ha rfl rfl ⟨rfl, hE51⟩
set_option maxHeartbeats 2000000 in
theorem W_laws_eqInt64S {W : World} {va0 : Value} {fa0 : List Nat} {a0 : (List Int)} (ha0 : Ro Rp.int W fa0 va0 a0) {va1 : Value} {fa1 : List Nat} {a1 : (List Int)} (ha1 : Ro Rp.int W fa1 va1 a1) {r : Bool} (hF : F_laws_eqInt64S a0 a1 = some r) :
    Calls Try.prog 12 [va0, va1].toArray W (Ret fun u w' => u = .bool r ∧ Ext W w') := by
  refine f_enter Try.func12 rfl Try.ntmps12 rfl ?_
  intro a ha
  replace ha : Fr 26 [(0, va0), (1, va1)] a := ha
  have hE : Chg [] W W := Chg.refl _ _
  unfold F_laws_eqInt64S at hF
  refine wp_seq ?_; refine wp_region_lit ?_; refine op_g ha rfl (g_assign rfl) ?_; clear ha a; intro a ha; refine wpList_nil ?_; replace ha := ha.sub (σ' := [(0, va0), (1, va1)]) ⟨rfl, rfl, trivial⟩; refine e_then ?_; refine wp_seq ?_; refine wp_seq ?_; refine wp_region_lit ?_; refine op_g ha rfl (g_move rfl) ?_; clear ha a; intro a ha; refine op_g ha rfl (g_lenR sl25.und ha0 rfl) ?_; clear ha a; intro a ha; refine op_g ha rfl (g_move rfl) ?_; clear ha a; intro a ha; refine op_g ha rfl (g_lenR sl25.und ha1 rfl) ?_; clear ha a; intro a ha; refine op_g ha rfl (g_neq rfl rfl) ?_; clear ha a; intro a ha
  refine wpList_nil ?_; replace ha := ha.sub (σ' := [(0, va0), (1, va1), (10, (.bool (decide ((a0.length : Int) ≠ (a1.length : Int)))))]) ⟨rfl, rfl, rfl, trivial⟩; refine e_then ?_; refine c_cond ((a0.length : Int) ≠ (a1.length : Int)) ha rfl (decide_eq_true_iff) (fun hp1 => ?_) (fun hp1 => ?_)
  · replace hF := if_t hp1 hF
    refine wp_seq ?_; refine wp_region_lit ?_; refine op_g ha rfl (g_assign rfl) ?_; clear ha a; intro a ha; refine wpList_nil ?_; replace ha := ha.sub (σ' := [(4, (.bool false))]) ⟨rfl, trivial⟩; refine e_then ?_; refine wp_ret ?_; refine e_then_ret ?_; obtain rfl := Option.some.inj hF
    exact f_ret1 ha rfl rfl ⟨rfl, hE⟩
  replace hF := if_f hp1 hF; refine wp_skip ?_; refine e_then ?_; refine wp_seq ?_; refine wp_seq ?_; refine wp_region_lit ?_; refine op_g ha rfl (g_assign rfl) ?_; clear ha a; intro a ha; refine wpList_nil ?_; replace ha := ha.sub (σ' := [(0, va0), (1, va1), (5, (.int .i64 0))]) ⟨rfl, rfl, rfl, trivial⟩; refine e_then ?_; obtain ⟨o77, ho78, hK79⟩ := bnd_some hF
  obtain ⟨n80, hn81⟩ := lp_some ho78; clear ho78
  refine c_loop (fun a w => Fr 26 [] a ∧ Chg [] W w ∧ o77 = .inl ()) (fun n a w => ∃ (i39 : Int), Fr 26 [(0, va0), (1, va1), (5, (.int .i64 i39))] a ∧ Chg [] W w ∧ InI i39 ∧ lpN (fun s => F_laws_eqInt64S_l1 a0 a1 s) n i39 = some o77) n80 ⟨0, ha.sub ⟨rfl, rfl, rfl, trivial⟩, hE, (show InI 0 from by decide), hn81⟩ ?_ ?_
  · rintro m85 a w38 ⟨i39, ha, hE41, hI40, hF⟩
    cases m85 with
    | zero => exact (lpN_zero hF).elim
    | succ m85 =>
      obtain ⟨z84, hF, hN83⟩ := lpN_succ hF
      have hF : F_laws_eqInt64S_l1 a0 a1 i39 = some z84 := hF; unfold F_laws_eqInt64S_l1 at hF
      refine wp_seq ?_; refine wp_seq ?_; refine wp_region_lit ?_; (iterate 2 refine op_g ha rfl (g_move rfl) ?_; clear ha a; intro a ha); refine op_g ha rfl (g_lenR sl25.und ha0 rfl) ?_; clear ha a; intro a ha; refine op_g ha rfl (g_lss rfl rfl) ?_; clear ha a; intro a ha; refine wpList_nil ?_; replace ha := ha.sub (σ' := [(0, va0), (1, va1), (5, (.int .i64 i39)), (14, (.bool (decide (i39 < (a0.length : Int)))))]) ⟨rfl, rfl, rfl, rfl, trivial⟩; refine e_then ?_; refine c_cond (i39 < (a0.length : Int)) ha rfl (decide_eq_true_iff) (fun hp86 => ?_) (fun hp86 => ?_)
      · replace hF := if_t hp86 hF
        refine wp_skip ?_; refine e_then ?_; refine wp_seq ?_; refine wp_block ?_; refine wp_seq ?_; refine d_quiet hmix (by kernel_rfl) ?_; (iterate 2 refine q_g ha rfl (g_move rfl) ?_; clear ha a; intro a ha); obtain ⟨x87, g88, gx89, hF⟩ := idx_some hF
        obtain ⟨p90, cs91, f92, hf93, hpb94, hat95, hr96, hi97⟩ := ha0.at g88 gx89
        obtain ⟨rfl, hI98, rfl⟩ := hr96
        refine q_g ha rfl (hi97.gives sl25 rfl rfl) ?_; clear ha a; intro a ha; refine q_g ha rfl (g_load0 hE41 Try.isAgg2 rfl hat95.one) ?_; clear ha a; intro a ha; (iterate 2 refine q_g ha rfl (g_move rfl) ?_; clear ha a; intro a ha); obtain ⟨x99, g100, gx101, hF⟩ := idx_some hF
        obtain ⟨p102, cs103, f104, hf105, hpb106, hat107, hr108, hi109⟩ := ha1.at g100 gx101
        obtain ⟨rfl, hI110, rfl⟩ := hr108
        refine q_g ha rfl (hi109.gives sl25 rfl rfl) ?_; clear ha a; intro a ha; refine q_g ha rfl (g_load0 hE41 Try.isAgg2 rfl hat107.one) ?_; clear ha a; intro a ha; refine q_g ha rfl (g_neq rfl rfl) ?_; clear ha a; intro a ha
        refine q_nil ?_; intro w111 hx112
        have hE113 := Ext.trans hE41 hx112
        replace ha := ha.sub (σ' := [(0, va0), (1, va1), (5, (.int .i64 i39)), (25, (.bool (decide (x87 ≠ x99))))]) ⟨rfl, rfl, rfl, rfl, trivial⟩; refine e_then ?_; refine c_cond (x87 ≠ x99) ha rfl (decide_eq_true_iff) (fun hp114 => ?_) (fun hp114 => ?_)
        · replace hF := if_t hp114 hF
          refine wp_seq ?_; refine wp_region_lit ?_; refine op_g ha rfl (g_assign rfl) ?_; clear ha a; intro a ha; refine wpList_nil ?_; replace ha := ha.sub (σ' := [(4, (.bool false))]) ⟨rfl, trivial⟩; refine e_then ?_; refine wp_ret ?_; refine e_blk_ret ?_; refine e_then_ret ?_; refine e_lq_ret ?_; refine e_then_ret ?_; obtain rfl := Option.some.inj hF
          have e115 := LK_inr hN83; subst e115
          have e116 := BK_inr hK79; subst e116
          exact f_ret1 ha rfl rfl ⟨rfl, hE113⟩
        replace hF := if_f hp114 hF; refine wp_skip ?_; refine e_blk ?_; refine e_then ?_; refine wp_region_lit ?_; refine op_g ha rfl (g_move rfl) ?_; clear ha a; intro a ha; obtain ⟨hI117, hF⟩ := ck_some hF; refine op_g ha rfl (g_add rfl rfl hI117) ?_; clear ha a; intro a ha; refine op_g ha rfl (g_assign rfl) ?_; clear ha a; intro a ha; refine wpList_nil ?_; replace ha := ha.sub (σ' := [(0, va0), (1, va1), (5, (.int .i64 (i39 + 1)))]) ⟨rfl, rfl, rfl, trivial⟩; refine e_lq ?_; obtain rfl := Option.some.inj hF
        exact ⟨_, Nat.lt_succ_self _, i39 + 1, ha.sub ⟨rfl, rfl, rfl, trivial⟩, hE113, hI117, hN83⟩
      replace hF := if_f hp86 hF; refine wp_exit ?_; refine e_then_exit ?_; refine e_lq_eq ?_; obtain rfl := Option.some.inj hF
      exact ⟨ha.sub trivial, hE41, (LK_inr hN83).symm⟩
  rintro a w76 ⟨ha, hE82, rfl⟩
  have hF : F_laws_eqInt64S_k2 = some _ := hK79; clear hK79; unfold F_laws_eqInt64S_k2 at hF
  refine e_then ?_; refine wp_seq ?_; refine wp_region_lit ?_; refine op_g ha rfl (g_assign rfl) ?_; clear ha a; intro a ha; refine wpList_nil ?_; refine e_then ?_; refine wp_ret ?_; obtain rfl := Option.some.inj hF
  exact f_ret1 ha rfl rfl ⟨rfl, hE82⟩
set_option maxHeartbeats 2000000 in
theorem W_laws_eqInt64SS {W : World} {va0 : Value} {fa0 : List Nat} {a0 : (List (List Int))} (ha0 : Ro (Rp.sl 2 Rp.int) W fa0 va0 a0) {va1 : Value} {fa1 : List Nat} {a1 : (List (List Int))} (ha1 : Ro (Rp.sl 2 Rp.int) W fa1 va1 a1) {r : Bool} (hF : F_laws_eqInt64SS a0 a1 = some r) :
    Calls Try.prog 21 [va0, va1].toArray W (Ret fun u w' => u = .bool r ∧ Ext W w') := by
  refine f_enter Try.func21 rfl Try.ntmps21 rfl ?_
  intro a ha
  replace ha : Fr 27 [(0, va0), (1, va1)] a := ha
  have hE : Chg [] W W := Chg.refl _ _
  unfold F_laws_eqInt64SS at hF
  refine wp_seq ?_; refine wp_region_lit ?_; refine op_g ha rfl (g_assign rfl) ?_; clear ha a; intro a ha; refine wpList_nil ?_; replace ha := ha.sub (σ' := [(0, va0), (1, va1)]) ⟨rfl, rfl, trivial⟩; refine e_then ?_; refine wp_seq ?_; refine wp_seq ?_; refine wp_region_lit ?_; refine op_g ha rfl (g_move rfl) ?_; clear ha a; intro a ha; refine op_g ha rfl (g_lenR sl22.und ha0 rfl) ?_; clear ha a; intro a ha; refine op_g ha rfl (g_move rfl) ?_; clear ha a; intro a ha; refine op_g ha rfl (g_lenR sl22.und ha1 rfl) ?_; clear ha a; intro a ha; refine op_g ha rfl (g_neq rfl rfl) ?_; clear ha a; intro a ha
  refine wpList_nil ?_; replace ha := ha.sub (σ' := [(0, va0), (1, va1), (10, (.bool (decide ((a0.length : Int) ≠ (a1.length : Int)))))]) ⟨rfl, rfl, rfl, trivial⟩; refine e_then ?_; refine c_cond ((a0.length : Int) ≠ (a1.length : Int)) ha rfl (decide_eq_true_iff) (fun hp1 => ?_) (fun hp1 => ?_)
  · replace hF := if_t hp1 hF
    refine wp_seq ?_; refine wp_region_lit ?_; refine op_g ha rfl (g_assign rfl) ?_; clear ha a; intro a ha; refine wpList_nil ?_; replace ha := ha.sub (σ' := [(4, (.bool false))]) ⟨rfl, trivial⟩; refine e_then ?_; refine wp_ret ?_; refine e_then_ret ?_; obtain rfl := Option.some.inj hF
    exact f_ret1 ha rfl rfl ⟨rfl, hE⟩
  replace hF := if_f hp1 hF; refine wp_skip ?_; refine e_then ?_; refine wp_seq ?_; refine wp_seq ?_; refine wp_region_lit ?_; refine op_g ha rfl (g_assign rfl) ?_; clear ha a; intro a ha; refine wpList_nil ?_; replace ha := ha.sub (σ' := [(0, va0), (1, va1), (5, (.int .i64 0))]) ⟨rfl, rfl, rfl, trivial⟩; refine e_then ?_; obtain ⟨o93, ho94, hK95⟩ := bnd_some hF
  obtain ⟨n96, hn97⟩ := lp_some ho94; clear ho94
  refine c_loop (fun a w => Fr 27 [] a ∧ Chg [] W w ∧ o93 = .inl ()) (fun n a w => ∃ (i47 : Int), Fr 27 [(0, va0), (1, va1), (5, (.int .i64 i47))] a ∧ Chg [] W w ∧ InI i47 ∧ lpN (fun s => F_laws_eqInt64SS_l1 a0 a1 s) n i47 = some o93) n96 ⟨0, ha.sub ⟨rfl, rfl, rfl, trivial⟩, hE, (show InI 0 from by decide), hn97⟩ ?_ ?_
  · rintro m101 a w46 ⟨i47, ha, hE49, hI48, hF⟩
    cases m101 with
    | zero => exact (lpN_zero hF).elim
    | succ m101 =>
      obtain ⟨z100, hF, hN99⟩ := lpN_succ hF
      have hF : F_laws_eqInt64SS_l1 a0 a1 i47 = some z100 := hF; unfold F_laws_eqInt64SS_l1 at hF
      refine wp_seq ?_; refine wp_seq ?_; refine wp_region_lit ?_; (iterate 2 refine op_g ha rfl (g_move rfl) ?_; clear ha a; intro a ha); refine op_g ha rfl (g_lenR sl22.und ha0 rfl) ?_; clear ha a; intro a ha; refine op_g ha rfl (g_lss rfl rfl) ?_; clear ha a; intro a ha; refine wpList_nil ?_; replace ha := ha.sub (σ' := [(0, va0), (1, va1), (5, (.int .i64 i47)), (14, (.bool (decide (i47 < (a0.length : Int)))))]) ⟨rfl, rfl, rfl, rfl, trivial⟩; refine e_then ?_; refine c_cond (i47 < (a0.length : Int)) ha rfl (decide_eq_true_iff) (fun hp102 => ?_) (fun hp102 => ?_)
      · replace hF := if_t hp102 hF
        refine wp_skip ?_; refine e_then ?_; refine wp_seq ?_; refine wp_block ?_; refine wp_seq ?_; refine d_quiet hmix (by kernel_rfl) ?_; (iterate 2 refine q_g ha rfl (g_move rfl) ?_; clear ha a; intro a ha); obtain ⟨x103, g104, gx105, hF⟩ := idx_some hF
        obtain ⟨p106, cs107, f108, hf109, hpb110, hat111, hr112, hi113⟩ := ha0.at g104 gx105
        obtain ⟨v114, rfl, h115⟩ := hr112
        have h115 : Ro Rp.int W f108 v114 x103 := h115
        refine q_g ha rfl (hi113.gives sl22 rfl rfl) ?_; clear ha a; intro a ha; refine q_g ha rfl (g_load0 hE49 Try.isAgg25 rfl hat111.one) ?_; clear ha a; intro a ha; (iterate 2 refine q_g ha rfl (g_move rfl) ?_; clear ha a; intro a ha); obtain ⟨x117, g118, gx119, hF⟩ := idx_some hF
        obtain ⟨p120, cs121, f122, hf123, hpb124, hat125, hr126, hi127⟩ := ha1.at g118 gx119
        obtain ⟨v128, rfl, h129⟩ := hr126
        have h129 : Ro Rp.int W f122 v128 x117 := h129
        refine q_g ha rfl (hi127.gives sl22 rfl rfl) ?_; clear ha a; intro a ha; refine q_g ha rfl (g_load0 hE49 Try.isAgg25 rfl hat125.one) ?_; clear ha a; intro a ha; obtain ⟨x133, hc134, hF⟩ := cal_some hF; refine q_call (.bool x133) ha rfl rfl Try.call12 (fun w132 hx131 => W_laws_eqInt64S (h115.ext (Ext.trans hE49 hx131)) (h129.ext (Ext.trans hE49 hx131)) hc134) (fun _ _ _ h => ⟨h.1, h.2⟩) ?_; clear ha a; intro a ha; refine q_g ha rfl (g_not rfl) ?_; clear ha a; intro a ha
        refine q_nil ?_; intro w135 hx136
        have hE137 := Ext.trans hE49 hx136
        replace ha := ha.sub (σ' := [(0, va0), (1, va1), (5, (.int .i64 i47)), (26, (.bool (!x133)))]) ⟨rfl, rfl, rfl, rfl, trivial⟩; refine e_then ?_; refine c_cond (¬ (x133 = true)) ha rfl (n_iff (Iff.rfl)) (fun hp138 => ?_) (fun hp138 => ?_)
        · replace hF := if_t hp138 hF
          refine wp_seq ?_; refine wp_region_lit ?_; refine op_g ha rfl (g_assign rfl) ?_; clear ha a; intro a ha; refine wpList_nil ?_; replace ha := ha.sub (σ' := [(4, (.bool false))]) ⟨rfl, trivial⟩; refine e_then ?_; refine wp_ret ?_; refine e_blk_ret ?_; refine e_then_ret ?_; refine e_lq_ret ?_; refine e_then_ret ?_; obtain rfl := Option.some.inj hF
          have e139 := LK_inr hN99; subst e139
          have e140 := BK_inr hK95; subst e140
          exact f_ret1 ha rfl rfl ⟨rfl, hE137⟩
        replace hF := if_f hp138 hF; refine wp_skip ?_; refine e_blk ?_; refine e_then ?_; refine wp_region_lit ?_; refine op_g ha rfl (g_move rfl) ?_; clear ha a; intro a ha; obtain ⟨hI141, hF⟩ := ck_some hF; refine op_g ha rfl (g_add rfl rfl hI141) ?_; clear ha a; intro a ha; refine op_g ha rfl (g_assign rfl) ?_; clear ha a; intro a ha; refine wpList_nil ?_; replace ha := ha.sub (σ' := [(0, va0), (1, va1), (5, (.int .i64 (i47 + 1)))]) ⟨rfl, rfl, rfl, trivial⟩; refine e_lq ?_; obtain rfl := Option.some.inj hF
        exact ⟨_, Nat.lt_succ_self _, i47 + 1, ha.sub ⟨rfl, rfl, rfl, trivial⟩, hE137, hI141, hN99⟩
      replace hF := if_f hp102 hF; refine wp_exit ?_; refine e_then_exit ?_; refine e_lq_eq ?_; obtain rfl := Option.some.inj hF
      exact ⟨ha.sub trivial, hE49, (LK_inr hN99).symm⟩
  rintro a w92 ⟨ha, hE98, rfl⟩
  have hF : F_laws_eqInt64SS_k2 = some _ := hK95; clear hK95; unfold F_laws_eqInt64SS_k2 at hF
  refine e_then ?_; refine wp_seq ?_; refine wp_region_lit ?_; refine op_g ha rfl (g_assign rfl) ?_; clear ha a; intro a ha; refine wpList_nil ?_; refine e_then ?_; refine wp_ret ?_; obtain rfl := Option.some.inj hF
  exact f_ret1 ha rfl rfl ⟨rfl, hE98⟩
set_option maxHeartbeats 2000000 in
theorem W_laws_eqGraph {W : World} {va0_0 : Value} {fa0_0 : List Nat} {a0_0 : (List (List Int))} (ha0_0 : Ro (Rp.sl 2 Rp.int) W fa0_0 va0_0 a0_0) {va1_0 : Value} {fa1_0 : List Nat} {a1_0 : (List (List Int))} (ha1_0 : Ro (Rp.sl 2 Rp.int) W fa1_0 va1_0 a1_0) {r : Bool} (hF : F_laws_eqGraph a0_0 a1_0 = some r) :
    Calls Try.prog 11 [.agg #[va0_0], .agg #[va1_0]].toArray W (Ret fun u w' => u = .bool r ∧ Ext W w') := by
  refine f_enter Try.func11 rfl Try.ntmps11 rfl ?_
  intro a ha
  replace ha : Fr 11 [(0, (.agg #[va0_0])), (1, (.agg #[va1_0]))] a := ha
  have hE : Chg [] W W := Chg.refl _ _
  unfold F_laws_eqGraph at hF
  refine wp_seq ?_; refine wp_region_lit ?_
  refine o_box ha rfl rfl rfl ?_; clear ha a; intro b1 w2 hB3 hx4 hlo5 a ha
  have q6 := Zn.one hlo5
  have q7 := Zn.upD q6 hE
  have hE8 := Ext.trans hE hx4
  refine o_box ha rfl rfl rfl ?_; clear ha a; intro b9 w10 hB11 hx12 hlo13 a ha
  have q14 := Zn.one hlo13
  have q15 := Nq.new hB3.fpb q14
  have q16 := Nq.made1 hlo13 hB3.bi
  have q17 := Zn.upD q14 hE8
  replace hB3 := hB3.ext hx12
  have hE18 := Ext.trans hE8 hx12
  refine op_g ha rfl (g_assign rfl) ?_; clear ha a; intro a ha; refine wpList_nil ?_; replace ha := ha.sub (σ' := [(2, (.pointer (some ⟨b1, 0, none⟩))), (3, (.pointer (some ⟨b9, 0, none⟩)))]) ⟨rfl, rfl, trivial⟩; refine e_then ?_; refine wp_seq ?_; refine wp_seq ?_; refine wp_region_lit ?_; refine op_g ha rfl (g_field0 st28_0 rfl) ?_; clear ha a; intro a ha; refine op_g ha rfl (g_load Try.isAgg22 rfl (hB3.cell rfl)) ?_; clear ha a; intro a ha; refine op_g ha rfl (g_field0 st28_0 rfl) ?_; clear ha a; intro a ha; refine op_g ha rfl (g_load Try.isAgg22 rfl (hB11.cell rfl)) ?_; clear ha a; intro a ha
  obtain ⟨x19, hc20, hF⟩ := cal_some hF
  refine o_call ha rfl rfl Try.call21 (W_laws_eqInt64SS (ha0_0.ext hE18) (ha1_0.ext hE18) hc20) ?_; clear ha a; rintro v21 w22 ⟨rfl, hx23⟩ a ha
  replace hB3 := hB3.ext hx23
  replace hB11 := hB11.ext hx23
  have hE24 := Ext.trans hE18 hx23
  refine op_g ha rfl (g_not rfl) ?_; clear ha a; intro a ha; refine wpList_nil ?_; replace ha := ha.sub (σ' := [(10, (.bool (!x19)))]) ⟨rfl, trivial⟩; refine e_then ?_; refine c_cond (¬ (x19 = true)) ha rfl (n_iff (Iff.rfl)) (fun hp25 => ?_) (fun hp25 => ?_)
  · replace hF := if_t hp25 hF
    refine wp_seq ?_; refine wp_region_lit ?_; refine op_g ha rfl (g_assign rfl) ?_; clear ha a; intro a ha; refine wpList_nil ?_; replace ha := ha.sub (σ' := [(4, (.bool false))]) ⟨rfl, trivial⟩; refine e_then ?_; refine wp_ret ?_; refine e_then_ret ?_; obtain rfl := Option.some.inj hF
    exact f_ret1 ha rfl rfl ⟨rfl, hE24⟩
  replace hF := if_f hp25 hF; refine wp_skip ?_; refine e_then ?_; refine wp_seq ?_; refine wp_region_lit ?_; refine op_g ha rfl (g_assign rfl) ?_; clear ha a; intro a ha; refine wpList_nil ?_; replace ha := ha.sub (σ' := [(4, (.bool true))]) ⟨rfl, trivial⟩; refine e_then ?_; refine wp_ret ?_; obtain rfl := Option.some.inj hF
  exact f_ret1 ha rfl rfl ⟨rfl, hE24⟩
set_option maxHeartbeats 2000000 in
theorem W_laws_FnExactChordsCross {W : World} {va0_0 : Value} {fa0_0 : List Nat} {a0_0 : (List (List Int))} (ha0_0 : Ro (Rp.sl 2 Rp.int) W fa0_0 va0_0 a0_0) {va1 : Value} {fa1 : List Nat} {a1 : (List Int)} (ha1 : Ro Rp.int W fa1 va1 a1) {va2 : Value} {fa2 : List Nat} {a2 : (List Int)} (ha2 : Ro Rp.int W fa2 va2 a2) {va3 : Value} {fa3 : List Nat} {a3 : (List Int)} (ha3 : Ro Rp.int W fa3 va3 a3) {r : Bool} (hF : F_laws_FnExactChordsCross a0_0 a1 a2 a3 = some r) :
    Calls Try.prog 5 [.agg #[va0_0], va1, va2, va3].toArray W (Ret fun u w' => u = .bool r ∧ Ext W w') := by
  refine f_enter Try.func5 rfl Try.ntmps5 rfl ?_
  intro a ha
  replace ha : Fr 75 [(0, (.agg #[va0_0])), (1, va1), (2, va2), (3, va3)] a := ha
  have hE : Chg [] W W := Chg.refl _ _
  unfold F_laws_FnExactChordsCross at hF
  refine wp_seq ?_; refine wp_region_lit ?_
  refine o_box ha rfl rfl rfl ?_; clear ha a; intro b1 w2 hB3 hx4 hlo5 a ha
  have q6 := Zn.one hlo5
  have q7 := Zn.upD q6 hE
  have hE8 := Ext.trans hE hx4
  refine op_g ha rfl (g_assign rfl) ?_; clear ha a; intro a ha; refine wpList_nil ?_; replace ha := ha.sub (σ' := [(1, va1), (2, va2), (3, va3), (4, (.pointer (some ⟨b1, 0, none⟩)))]) ⟨rfl, rfl, rfl, rfl, trivial⟩; refine e_then ?_; refine wp_seq ?_; refine wp_seq ?_; refine wp_region_lit ?_; refine op_g ha rfl (g_move rfl) ?_; clear ha a; intro a ha; refine op_g ha rfl (g_lenR sl25.und ha1 rfl) ?_; clear ha a; intro a ha; refine op_g ha rfl (g_gtr rfl rfl) ?_; clear ha a; intro a ha; refine wpList_nil ?_; replace ha := ha.sub (σ' := [(1, va1), (2, va2), (3, va3), (4, (.pointer (some ⟨b1, 0, none⟩))), (18, (.bool (decide (1048576 < (a1.length : Int)))))]) ⟨rfl, rfl, rfl, rfl, rfl, trivial⟩
  refine e_then ?_; refine c_cond (1048576 < (a1.length : Int)) ha rfl (decide_eq_true_iff) (fun hp9 => ?_) (fun hp9 => ?_)
  · replace hF := if_t hp9 hF
    refine wp_seq ?_; refine wp_region_lit ?_; refine op_g ha rfl (g_assign rfl) ?_; clear ha a; intro a ha; refine wpList_nil ?_; replace ha := ha.sub (σ' := [(8, (.bool true))]) ⟨rfl, trivial⟩; refine e_then ?_; refine wp_ret ?_; refine e_then_ret ?_; obtain rfl := Option.some.inj hF
    exact f_ret1 ha rfl rfl ⟨rfl, hE8⟩
  replace hF := if_f hp9 hF; refine wp_skip ?_; refine e_then ?_; refine wp_seq ?_; refine wp_seq ?_; refine wp_region_lit ?_; refine op_g ha rfl (g_move rfl) ?_; clear ha a; intro a ha; refine op_g ha rfl (g_lenR sl25.und ha2 rfl) ?_; clear ha a; intro a ha; refine op_g ha rfl (g_gtr rfl rfl) ?_; clear ha a; intro a ha; refine wpList_nil ?_; replace ha := ha.sub (σ' := [(1, va1), (2, va2), (3, va3), (4, (.pointer (some ⟨b1, 0, none⟩))), (21, (.bool (decide (1048576 < (a2.length : Int)))))]) ⟨rfl, rfl, rfl, rfl, rfl, trivial⟩; refine e_then ?_; refine c_cond (1048576 < (a2.length : Int)) ha rfl (decide_eq_true_iff) (fun hp10 => ?_) (fun hp10 => ?_)
  · replace hF := if_t hp10 hF
    refine wp_seq ?_; refine wp_region_lit ?_; refine op_g ha rfl (g_assign rfl) ?_; clear ha a; intro a ha; refine wpList_nil ?_; replace ha := ha.sub (σ' := [(8, (.bool true))]) ⟨rfl, trivial⟩; refine e_then ?_; refine wp_ret ?_; refine e_then_ret ?_; obtain rfl := Option.some.inj hF
    exact f_ret1 ha rfl rfl ⟨rfl, hE8⟩
  replace hF := if_f hp10 hF; refine wp_skip ?_; refine e_then ?_; refine wp_seq ?_; refine wp_seq ?_; refine wp_region_lit ?_; refine op_g ha rfl (g_move rfl) ?_; clear ha a; intro a ha; refine op_g ha rfl (g_lenR sl25.und ha3 rfl) ?_; clear ha a; intro a ha; refine op_g ha rfl (g_gtr rfl rfl) ?_; clear ha a; intro a ha; refine wpList_nil ?_; replace ha := ha.sub (σ' := [(1, va1), (2, va2), (3, va3), (4, (.pointer (some ⟨b1, 0, none⟩))), (24, (.bool (decide (1048576 < (a3.length : Int)))))]) ⟨rfl, rfl, rfl, rfl, rfl, trivial⟩; refine e_then ?_; refine c_cond (1048576 < (a3.length : Int)) ha rfl (decide_eq_true_iff) (fun hp11 => ?_) (fun hp11 => ?_)
  · replace hF := if_t hp11 hF
    refine wp_seq ?_; refine wp_region_lit ?_; refine op_g ha rfl (g_assign rfl) ?_; clear ha a; intro a ha; refine wpList_nil ?_; replace ha := ha.sub (σ' := [(8, (.bool true))]) ⟨rfl, trivial⟩; refine e_then ?_; refine wp_ret ?_; refine e_then_ret ?_; obtain rfl := Option.some.inj hF
    exact f_ret1 ha rfl rfl ⟨rfl, hE8⟩
  replace hF := if_f hp11 hF; refine wp_skip ?_; refine e_then ?_; refine wp_seq ?_; refine wp_region_lit ?_; refine op_g ha rfl (g_assign rfl) ?_; clear ha a; intro a ha; refine wpList_nil ?_; replace ha := ha.sub (σ' := [(1, va1), (2, va2), (3, va3), (4, (.pointer (some ⟨b1, 0, none⟩))), (9, (.int .i64 1048576))]) ⟨rfl, rfl, rfl, rfl, rfl, trivial⟩; refine e_then ?_; refine wp_seq ?_; refine wp_region_lit ?_; refine op_g ha rfl (g_loadA (cs := [va0_0]) Try.isAgg24 Try.sizeOf24 rfl (by simp) hB3.all) ?_; clear ha a; intro a ha; refine op_g ha rfl (g_move rfl) ?_; clear ha a; intro a ha; obtain ⟨x12, hc13, hF⟩ := cal_some hF
  refine o_call ha rfl rfl Try.call6 (W_laws_szGraph (ha0_0.ext hE8) (show InI 1048576 from by decide) hc13) ?_; clear ha a; rintro v14 w15 ⟨⟨rfl, hI17⟩, hx16⟩ a ha
  replace hB3 := hB3.ext hx16
  have hE18 := Ext.trans hE8 hx16
  refine op_g ha rfl (g_assign rfl) ?_; clear ha a; intro a ha; refine wpList_nil ?_; replace ha := ha.sub (σ' := [(1, va1), (2, va2), (3, va3), (4, (.pointer (some ⟨b1, 0, none⟩))), (9, (.int .i64 x12))]) ⟨rfl, rfl, rfl, rfl, rfl, trivial⟩; refine e_then ?_; refine wp_seq ?_; refine wp_seq ?_; refine wp_region_lit ?_; refine op_g ha rfl (g_move rfl) ?_; clear ha a; intro a ha; refine op_g ha rfl (g_lss rfl rfl) ?_; clear ha a; intro a ha; refine wpList_nil ?_; replace ha := ha.sub (σ' := [(1, va1), (2, va2), (3, va3), (4, (.pointer (some ⟨b1, 0, none⟩))), (29, (.bool (decide (x12 < 0))))]) ⟨rfl, rfl, rfl, rfl, rfl, trivial⟩
  refine e_then ?_; refine c_cond (x12 < 0) ha rfl (decide_eq_true_iff) (fun hp19 => ?_) (fun hp19 => ?_)
  · replace hF := if_t hp19 hF
    refine wp_seq ?_; refine wp_region_lit ?_; refine op_g ha rfl (g_assign rfl) ?_; clear ha a; intro a ha; refine wpList_nil ?_; replace ha := ha.sub (σ' := [(8, (.bool true))]) ⟨rfl, trivial⟩; refine e_then ?_; refine wp_ret ?_; refine e_then_ret ?_; obtain rfl := Option.some.inj hF
    exact f_ret1 ha rfl rfl ⟨rfl, hE18⟩
  replace hF := if_f hp19 hF; refine wp_skip ?_; refine e_then ?_; refine wp_seq ?_; refine wp_region_lit ?_; refine op_g ha rfl (g_loadA (cs := [va0_0]) Try.isAgg24 Try.sizeOf24 rfl (by simp) hB3.all) ?_; clear ha a; intro a ha; obtain ⟨x20, hc21, hF⟩ := cal_some hF
  refine o_call ha rfl rfl Try.call8 (W_laws_toGraph (ha0_0.ext hE18) hc21) ?_; clear ha a; rintro v22 w23 ⟨u25, b26, fs30, rfl, h27, z28, zf31, nd32, hx24⟩ a ha
  have q33 := Nq.new hB3.fpb z28
  have q34 := Nq.madeF z28 zf31 hB3.bi
  have q35 := Nf.new hB3.fpb zf31
  replace hB3 := hB3.ext hx24
  have hE36 := Ext.trans hE18 hx24
  have q37 := Zn.upD z28 hE18
  have q38 := zf_up zf31 hE18
  refine op_g ha rfl (g_move rfl) ?_; clear ha a; intro a ha; obtain ⟨x39, hc40, hF⟩ := cal_some hF
  refine o_call ha rfl rfl Try.call9 (W_laws_toInt64S (ha1.ext hE36) hc40) ?_; clear ha a; rintro v41 w42 ⟨b44, h45, z46, hx43⟩ a ha
  have q48 := Nq.new hB3.fpb z46
  have q49 := Nq.madeO z46 hB3.bi
  have q50 := Nq.new h27.fpb z46
  have q51 := Nq.madeO z46 h27.blt
  have q52 := Nf.old z46 (zf_nil _) h27.bnd
  replace hB3 := hB3.ext hx43
  replace h27 := h27.ext hx43
  have hE53 := Ext.trans hE36 hx43
  have q54 := Zn.upD z46 hE36
  refine op_g ha rfl (g_move rfl) ?_; clear ha a; intro a ha; obtain ⟨x55, hc56, hF⟩ := cal_some hF
  refine o_call ha rfl rfl Try.call9 (W_laws_toInt64S (ha2.ext hE53) hc56) ?_; clear ha a; rintro v57 w58 ⟨b60, h61, z62, hx59⟩ a ha
  have q64 := Nq.new hB3.fpb z62
  have q65 := Nq.madeO z62 hB3.bi
  have q66 := Nq.new h27.fpb z62
  have q67 := Nq.madeO z62 h27.blt
  have q68 := Nq.new h45.fpb z62
  have q69 := Nq.madeO z62 h45.blt
  have q70 := Nf.old z62 (zf_nil _) h27.bnd
  replace hB3 := hB3.ext hx59
  replace h27 := h27.ext hx59
  replace h45 := h45.ext hx59
  have hE71 := Ext.trans hE53 hx59
  have q72 := Zn.upD z62 hE53
  refine op_g ha rfl (g_move rfl) ?_; clear ha a; intro a ha; obtain ⟨x73, hc74, hF⟩ := cal_some hF
  refine o_call ha rfl rfl Try.call9 (W_laws_toInt64S (ha3.ext hE71) hc74) ?_; clear ha a; rintro v75 w76 ⟨b78, h79, z80, hx77⟩ a ha
  have q82 := Nq.new hB3.fpb z80
  have q83 := Nq.madeO z80 hB3.bi
  have q84 := Nq.new h27.fpb z80
  have q85 := Nq.madeO z80 h27.blt
  have q86 := Nq.new h45.fpb z80
  have q87 := Nq.madeO z80 h45.blt
  have q88 := Nq.new h61.fpb z80
  have q89 := Nq.madeO z80 h61.blt
  have q90 := Nf.old z80 (zf_nil _) h27.bnd
  replace hB3 := hB3.ext hx77
  replace h27 := h27.ext hx77
  replace h45 := h45.ext hx77
  replace h61 := h61.ext hx77
  have hE91 := Ext.trans hE71 hx77
  have q92 := Zn.upD z80 hE71
  obtain ⟨fp93, hro94, hs95⟩ := h27.roF
  obtain ⟨fp96, hro97, hs98⟩ := h45.roF
  obtain ⟨fp99, hro100, hs101⟩ := h61.roF
  obtain ⟨fp102, hro103, hs104⟩ := h79.roF
  obtain ⟨x105, hc106, hF⟩ := cal_some hF
  refine o_call ha rfl rfl Try.call15 (W_spec_ChordsCross hro94 hro97 hro100 hro103 hc106) ?_; clear ha a; rintro v107 w108 ⟨rfl, hx109⟩ a ha
  replace hB3 := hB3.ext hx109
  replace h27 := h27.ext hx109
  replace h45 := h45.ext hx109
  replace h61 := h61.ext hx109
  replace h79 := h79.ext hx109
  have hE110 := Ext.trans hE91 hx109
  refine op_g ha rfl (g_assign rfl) ?_; clear ha a; intro a ha; refine wpList_nil ?_; replace ha := ha.sub (σ' := [(1, va1), (2, va2), (3, va3), (4, (.pointer (some ⟨b1, 0, none⟩))), (10, (.bool x105))]) ⟨rfl, rfl, rfl, rfl, rfl, trivial⟩; refine e_then ?_; refine wp_seq ?_; refine wp_region_lit ?_; refine op_g ha rfl (g_loadA (cs := [va0_0]) Try.isAgg24 Try.sizeOf24 rfl (by simp) hB3.all) ?_; clear ha a; intro a ha; obtain ⟨x111, hc112, hF⟩ := cal_some hF
  refine o_call ha rfl rfl Try.call8 (W_laws_toGraph (ha0_0.ext hE110) hc112) ?_; clear ha a; rintro v113 w114 ⟨u116, b117, fs121, rfl, h118, z119, zf122, nd123, hx115⟩ a ha
  have q124 := Nq.new hB3.fpb z119
  have q125 := Nq.madeF z119 zf122 hB3.bi
  have q126 := Nf.new hB3.fpb zf122
  replace hB3 := hB3.ext hx115
  have hE127 := Ext.trans hE110 hx115
  have q128 := Zn.upD z119 hE110
  have q129 := zf_up zf122 hE110
  refine o_alloc (cs := [(.slice none 0 0)]) ha rfl Try.zeroValue28 rfl ?_; clear ha a; intro b130 w131 hB132 hx133 hlo134 a ha
  have q135 := Zn.one hlo134
  have q136 := Nq.new hB3.fpb q135
  have q137 := Nq.made1 hlo134 hB3.bi
  have q138 := Nq.new h118.fpb q135
  have q139 := Nq.made1 hlo134 h118.blt
  have q140 := Zn.upD q135 hE127
  replace hB3 := hB3.ext hx133
  replace h118 := h118.ext hx133
  have hE141 := Ext.trans hE127 hx133
  refine o_storeA (vs := [u116]) ha hB132 Try.sizeOf28 rfl rfl (by intro c hc; simp only [List.mem_cons, List.not_mem_nil, or_false] at hc; rcases hc with hc <;> subst hc <;> first | rfl | exact h118.oneC) rfl ?_; intro w142 hB143 hc144
  replace hc144 := hc144.bl
  replace hB143 : Bx w142 b130 [u116] 28 := hB143
  replace hB3 := hB3.nq hc144 q136
  replace h118 := h118.nq hc144 q138
  have hE145 := Ext.then hE141 hc144 (Zn.bl q140)
  refine wpList_nil ?_; replace ha := ha.sub (σ' := [(1, va1), (2, va2), (3, va3), (4, (.pointer (some ⟨b1, 0, none⟩))), (10, (.bool x105)), (11, (.pointer (some ⟨b130, 0, none⟩)))]) ⟨rfl, rfl, rfl, rfl, rfl, rfl, trivial⟩; refine e_then ?_; refine wp_seq ?_; refine wp_region_lit ?_; refine op_g ha rfl (g_move rfl) ?_; clear ha a; intro a ha; obtain ⟨x146, hc147, hF⟩ := cal_some hF
  refine o_call ha rfl rfl Try.call9 (W_laws_toInt64S (ha1.ext hE145) hc147) ?_; clear ha a; rintro v148 w149 ⟨b151, h152, z153, hx150⟩ a ha
  have q155 := Nq.new hB3.fpb z153
  have q156 := Nq.madeO z153 hB3.bi
  have q157 := Nq.new h118.fpb z153
  have q158 := Nq.madeO z153 h118.blt
  have q159 := Nq.new hB143.fpb z153
  have q160 := Nq.madeO z153 hB143.bi
  have q161 := Nf.old z153 (zf_nil _) h118.bnd
  replace hB3 := hB3.ext hx150
  replace h118 := h118.ext hx150
  replace hB143 := hB143.ext hx150
  have hE162 := Ext.trans hE145 hx150
  have q163 := Zn.upD z153 hE145
  refine op_g ha rfl (g_assign rfl) ?_; clear ha a; intro a ha; refine wpList_nil ?_; replace ha := ha.sub (σ' := [(1, va1), (2, va2), (3, va3), (4, (.pointer (some ⟨b1, 0, none⟩))), (10, (.bool x105)), (11, (.pointer (some ⟨b130, 0, none⟩))), (12, v148)]) ⟨rfl, rfl, rfl, rfl, rfl, rfl, rfl, trivial⟩; refine e_then ?_; refine wp_seq ?_; refine wp_region_lit ?_; refine op_g ha rfl (g_move rfl) ?_; clear ha a; intro a ha; obtain ⟨x164, hc165, hF⟩ := cal_some hF
  refine o_call ha rfl rfl Try.call9 (W_laws_toInt64S (ha2.ext hE162) hc165) ?_; clear ha a; rintro v166 w167 ⟨b169, h170, z171, hx168⟩ a ha
  have q173 := Nq.new hB3.fpb z171
  have q174 := Nq.madeO z171 hB3.bi
  have q175 := Nq.new h118.fpb z171
  have q176 := Nq.madeO z171 h118.blt
  have q177 := Nq.new hB143.fpb z171
  have q178 := Nq.madeO z171 hB143.bi
  have q179 := Nq.new h152.fpb z171
  have q180 := Nq.madeO z171 h152.blt
  have q181 := Nf.old z171 (zf_nil _) h118.bnd
  replace hB3 := hB3.ext hx168
  replace h118 := h118.ext hx168
  replace hB143 := hB143.ext hx168
  replace h152 := h152.ext hx168
  have hE182 := Ext.trans hE162 hx168
  have q183 := Zn.upD z171 hE162
  refine op_g ha rfl (g_assign rfl) ?_; clear ha a; intro a ha; refine wpList_nil ?_; replace ha := ha.sub (σ' := [(1, va1), (2, va2), (3, va3), (4, (.pointer (some ⟨b1, 0, none⟩))), (10, (.bool x105)), (11, (.pointer (some ⟨b130, 0, none⟩))), (12, v148), (13, v166)]) ⟨rfl, rfl, rfl, rfl, rfl, rfl, rfl, rfl, trivial⟩; refine e_then ?_; refine wp_seq ?_; refine wp_region_lit ?_; refine op_g ha rfl (g_move rfl) ?_; clear ha a; intro a ha; obtain ⟨x184, hc185, hF⟩ := cal_some hF
  refine o_call ha rfl rfl Try.call9 (W_laws_toInt64S (ha3.ext hE182) hc185) ?_; clear ha a; rintro v186 w187 ⟨b189, h190, z191, hx188⟩ a ha
  have q193 := Nq.new hB3.fpb z191
  have q194 := Nq.madeO z191 hB3.bi
  have q195 := Nq.new h118.fpb z191
  have q196 := Nq.madeO z191 h118.blt
  have q197 := Nq.new hB143.fpb z191
  have q198 := Nq.madeO z191 hB143.bi
  have q199 := Nq.new h152.fpb z191
  have q200 := Nq.madeO z191 h152.blt
  have q201 := Nq.new h170.fpb z191
  have q202 := Nq.madeO z191 h170.blt
  have q203 := Nf.old z191 (zf_nil _) h118.bnd
  replace hB3 := hB3.ext hx188
  replace h118 := h118.ext hx188
  replace hB143 := hB143.ext hx188
  replace h152 := h152.ext hx188
  replace h170 := h170.ext hx188
  have hE204 := Ext.trans hE182 hx188
  have q205 := Zn.upD z191 hE182
  refine op_g ha rfl (g_assign rfl) ?_; clear ha a; intro a ha; refine wpList_nil ?_; replace ha := ha.sub (σ' := [(1, va1), (2, va2), (3, va3), (4, (.pointer (some ⟨b1, 0, none⟩))), (10, (.bool x105)), (11, (.pointer (some ⟨b130, 0, none⟩))), (12, v148), (13, v166), (14, v186)]) ⟨rfl, rfl, rfl, rfl, rfl, rfl, rfl, rfl, rfl, trivial⟩; refine e_then ?_; refine wp_seq ?_; refine wp_region_lit ?_; refine op_g ha rfl (g_loadA (cs := [u116]) Try.isAgg28 Try.sizeOf28 rfl (by simp) hB143.all) ?_; clear ha a; intro a ha; (iterate 3 refine op_g ha rfl (g_move rfl) ?_; clear ha a; intro a ha)
  obtain ⟨fp206, hro207, hs208⟩ := h118.roF
  obtain ⟨fp209, hro210, hs211⟩ := h152.roF
  obtain ⟨fp212, hro213, hs214⟩ := h170.roF
  obtain ⟨fp215, hro216, hs217⟩ := h190.roF
  obtain ⟨x218, hc219, hF⟩ := cal_some hF
  refine o_call ha rfl rfl Try.call16 (W_impl_ChordsCross hro207 hro210 hro213 hro216 hc219) ?_; clear ha a; rintro v220 w221 ⟨rfl, hx222⟩ a ha
  replace hB3 := hB3.ext hx222
  replace h118 := h118.ext hx222
  replace hB143 := hB143.ext hx222
  replace h152 := h152.ext hx222
  replace h170 := h170.ext hx222
  replace h190 := h190.ext hx222
  have hE223 := Ext.trans hE204 hx222
  refine op_g ha rfl (g_assign rfl) ?_; clear ha a; intro a ha; refine wpList_nil ?_; replace ha := ha.sub (σ' := [(1, va1), (2, va2), (3, va3), (4, (.pointer (some ⟨b1, 0, none⟩))), (10, (.bool x105)), (11, (.pointer (some ⟨b130, 0, none⟩))), (12, v148), (13, v166), (14, v186), (15, (.bool x218))]) ⟨rfl, rfl, rfl, rfl, rfl, rfl, rfl, rfl, rfl, rfl, trivial⟩; refine e_then ?_; refine wp_seq ?_; refine wp_seq ?_; refine wp_region_lit ?_; (iterate 2 refine op_g ha rfl (g_move rfl) ?_; clear ha a; intro a ha); refine op_g ha rfl (gB_neq un4 rfl rfl) ?_; clear ha a; intro a ha; refine wpList_nil ?_
  replace ha := ha.sub (σ' := [(1, va1), (2, va2), (3, va3), (4, (.pointer (some ⟨b1, 0, none⟩))), (11, (.pointer (some ⟨b130, 0, none⟩))), (12, v148), (13, v166), (14, v186), (54, (.bool (x218 != x105)))]) ⟨rfl, rfl, rfl, rfl, rfl, rfl, rfl, rfl, rfl, trivial⟩; refine e_then ?_; refine c_cond ((x218 != x105) = true) ha rfl (Iff.rfl) (fun hp224 => ?_) (fun hp224 => ?_)
  · replace hF := if_t hp224 hF
    refine wp_seq ?_; refine wp_region_lit ?_; refine op_g ha rfl (g_assign rfl) ?_; clear ha a; intro a ha; refine wpList_nil ?_; replace ha := ha.sub (σ' := [(8, (.bool false))]) ⟨rfl, trivial⟩; refine e_then ?_; refine wp_ret ?_; refine e_then_ret ?_; obtain rfl := Option.some.inj hF
    exact f_ret1 ha rfl rfl ⟨rfl, hE223⟩
  replace hF := if_f hp224 hF; refine wp_skip ?_; refine e_then ?_; refine wp_seq ?_; refine wp_seq ?_; refine d_region [0, 1, 2, 3, 4] hmix ?_; refine u_g 0 rfl (by kernel_rfl) (want0 _) ha rfl (g_loadA (cs := [u116]) Try.isAgg28 Try.sizeOf28 rfl (by simp) hB143.all) ?_; clear ha a; intro a ha; refine u_g 1 rfl (by kernel_rfl) (want0 _) ha rfl (g_loadA (cs := [va0_0]) Try.isAgg24 Try.sizeOf24 rfl (by simp) hB3.all) ?_; clear ha a; intro a ha
  refine u_only 2 rfl (by kernel_rfl) ?_; intro w225 hx226
  replace hB3 := hB3.ext hx226
  replace h118 := h118.ext hx226
  replace hB143 := hB143.ext hx226
  replace h152 := h152.ext hx226
  replace h170 := h170.ext hx226
  replace h190 := h190.ext hx226
  have hE227 := Ext.trans hE223 hx226
  obtain ⟨x228, hc229, hF⟩ := cal_some hF
  refine o_call ha rfl rfl Try.call8 (W_laws_toGraph (ha0_0.ext hE227) hc229) ?_; clear ha a; rintro v230 w231 ⟨u233, b234, fs238, rfl, h235, z236, zf239, nd240, hx232⟩ a ha
  have q241 := Nq.new hB3.fpb z236
  have q242 := Nq.madeF z236 zf239 hB3.bi
  have q243 := Nq.new h118.fpb z236
  have q244 := Nq.madeF z236 zf239 h118.blt
  have q245 := Nq.new hB143.fpb z236
  have q246 := Nq.madeF z236 zf239 hB143.bi
  have q247 := Nq.new h152.fpb z236
  have q248 := Nq.madeF z236 zf239 h152.blt
  have q249 := Nq.new h170.fpb z236
  have q250 := Nq.madeF z236 zf239 h170.blt
  have q251 := Nq.new h190.fpb z236
  have q252 := Nq.madeF z236 zf239 h190.blt
  have q253 := Nf.new hB3.fpb zf239
  have q254 := Nf.new h118.fpb zf239
  have q255 := Nf.old z236 zf239 h118.bnd
  have q256 := Nf.new hB143.fpb zf239
  have q257 := Nf.new h152.fpb zf239
  have q258 := Nf.new h170.fpb zf239
  have q259 := Nf.new h190.fpb zf239
  replace hB3 := hB3.ext hx232
  replace h118 := h118.ext hx232
  replace hB143 := hB143.ext hx232
  replace h152 := h152.ext hx232
  replace h170 := h170.ext hx232
  replace h190 := h190.ext hx232
  have hE260 := Ext.trans hE227 hx232
  have q261 := Zn.upD z236 hE227
  have q262 := zf_up zf239 hE227
  refine wpList_nil (e_sq ?_)
  refine ⟨fun _ => hx232, ?_⟩
  obtain ⟨fp265, hro266, hs267⟩ := h118.roF
  obtain ⟨fp268, hro269, hs270⟩ := h235.roF
  obtain ⟨x271, hc272, hF⟩ := cal_some hF; refine u_call (.bool x271) 3 rfl (by kernel_rfl) (want0 _) ha rfl rfl Try.call11 (fun w264 hx263 => W_laws_eqGraph (hro266.ext hx263) (hro269.ext hx263) hc272) (fun _ _ _ h => ⟨h.1, h.2⟩) ?_; clear ha a; intro a ha; refine u_g 4 rfl (by kernel_rfl) (want0 _) ha rfl (g_not rfl) ?_; clear ha a; intro a ha
  refine u_done (by kernel_rfl) ?_; intro w273 hx274
  replace hB3 := hB3.ext hx274
  replace h118 := h118.ext hx274
  replace hB143 := hB143.ext hx274
  replace h152 := h152.ext hx274
  replace h170 := h170.ext hx274
  replace h190 := h190.ext hx274
  replace h235 := h235.ext hx274
  have hE275 := Ext.trans hE260 hx274
  replace ha := ha.sub (σ' := [(1, va1), (2, va2), (3, va3), (12, v148), (13, v166), (14, v186), (59, (.bool (!x271)))]) ⟨rfl, rfl, rfl, rfl, rfl, rfl, rfl, trivial⟩; refine e_then ?_; refine c_cond (¬ (x271 = true)) ha rfl (n_iff (Iff.rfl)) (fun hp276 => ?_) (fun hp276 => ?_)
  · replace hF := if_t hp276 hF
    refine wp_seq ?_; refine wp_region_lit ?_; refine op_g ha rfl (g_assign rfl) ?_; clear ha a; intro a ha; refine wpList_nil ?_; replace ha := ha.sub (σ' := [(8, (.bool false))]) ⟨rfl, trivial⟩; refine e_then ?_; refine wp_ret ?_; refine e_then_ret ?_; obtain rfl := Option.some.inj hF
    exact f_ret1 ha rfl rfl ⟨rfl, hE275⟩
  replace hF := if_f hp276 hF; refine wp_skip ?_; refine e_then ?_; refine wp_seq ?_; refine wp_seq ?_; refine wp_region_lit ?_; (iterate 2 refine op_g ha rfl (g_move rfl) ?_; clear ha a; intro a ha); obtain ⟨x277, hc278, hF⟩ := cal_some hF
  refine o_call ha rfl rfl Try.call9 (W_laws_toInt64S (ha1.ext hE275) hc278) ?_; clear ha a; rintro v279 w280 ⟨b282, h283, z284, hx281⟩ a ha
  have q286 := Nq.new h152.fpb z284
  have q287 := Nq.madeO z284 h152.blt
  have q288 := Nq.new h170.fpb z284
  have q289 := Nq.madeO z284 h170.blt
  have q290 := Nq.new h190.fpb z284
  have q291 := Nq.madeO z284 h190.blt
  replace h152 := h152.ext hx281
  replace h170 := h170.ext hx281
  replace h190 := h190.ext hx281
  have hE292 := Ext.trans hE275 hx281
  have q293 := Zn.upD z284 hE275
  obtain ⟨fp294, hro295, hs296⟩ := h152.roF
  obtain ⟨fp297, hro298, hs299⟩ := h283.roF
  obtain ⟨x300, hc301, hF⟩ := cal_some hF
  refine o_call ha rfl rfl Try.call12 (W_laws_eqInt64S hro295 hro298 hc301) ?_; clear ha a; rintro v302 w303 ⟨rfl, hx304⟩ a ha
  replace h152 := h152.ext hx304
  replace h170 := h170.ext hx304
  replace h190 := h190.ext hx304
  replace h283 := h283.ext hx304
  have hE305 := Ext.trans hE292 hx304
  refine op_g ha rfl (g_not rfl) ?_; clear ha a; intro a ha; refine wpList_nil ?_; replace ha := ha.sub (σ' := [(2, va2), (3, va3), (13, v166), (14, v186), (64, (.bool (!x300)))]) ⟨rfl, rfl, rfl, rfl, rfl, trivial⟩; refine e_then ?_; refine c_cond (¬ (x300 = true)) ha rfl (n_iff (Iff.rfl)) (fun hp306 => ?_) (fun hp306 => ?_)
  · replace hF := if_t hp306 hF
    refine wp_seq ?_; refine wp_region_lit ?_; refine op_g ha rfl (g_assign rfl) ?_; clear ha a; intro a ha; refine wpList_nil ?_; replace ha := ha.sub (σ' := [(8, (.bool false))]) ⟨rfl, trivial⟩; refine e_then ?_; refine wp_ret ?_; refine e_then_ret ?_; obtain rfl := Option.some.inj hF
    exact f_ret1 ha rfl rfl ⟨rfl, hE305⟩
  replace hF := if_f hp306 hF; refine wp_skip ?_; refine e_then ?_; refine wp_seq ?_; refine wp_seq ?_; refine wp_region_lit ?_; (iterate 2 refine op_g ha rfl (g_move rfl) ?_; clear ha a; intro a ha); obtain ⟨x307, hc308, hF⟩ := cal_some hF
  refine o_call ha rfl rfl Try.call9 (W_laws_toInt64S (ha2.ext hE305) hc308) ?_; clear ha a; rintro v309 w310 ⟨b312, h313, z314, hx311⟩ a ha
  have q316 := Nq.new h170.fpb z314
  have q317 := Nq.madeO z314 h170.blt
  have q318 := Nq.new h190.fpb z314
  have q319 := Nq.madeO z314 h190.blt
  replace h170 := h170.ext hx311
  replace h190 := h190.ext hx311
  have hE320 := Ext.trans hE305 hx311
  have q321 := Zn.upD z314 hE305
  obtain ⟨fp322, hro323, hs324⟩ := h170.roF
  obtain ⟨fp325, hro326, hs327⟩ := h313.roF
  obtain ⟨x328, hc329, hF⟩ := cal_some hF
  refine o_call ha rfl rfl Try.call12 (W_laws_eqInt64S hro323 hro326 hc329) ?_; clear ha a; rintro v330 w331 ⟨rfl, hx332⟩ a ha
  replace h170 := h170.ext hx332
  replace h190 := h190.ext hx332
  replace h313 := h313.ext hx332
  have hE333 := Ext.trans hE320 hx332
  refine op_g ha rfl (g_not rfl) ?_; clear ha a; intro a ha; refine wpList_nil ?_; replace ha := ha.sub (σ' := [(3, va3), (14, v186), (69, (.bool (!x328)))]) ⟨rfl, rfl, rfl, trivial⟩; refine e_then ?_; refine c_cond (¬ (x328 = true)) ha rfl (n_iff (Iff.rfl)) (fun hp334 => ?_) (fun hp334 => ?_)
  · replace hF := if_t hp334 hF
    refine wp_seq ?_; refine wp_region_lit ?_; refine op_g ha rfl (g_assign rfl) ?_; clear ha a; intro a ha; refine wpList_nil ?_; replace ha := ha.sub (σ' := [(8, (.bool false))]) ⟨rfl, trivial⟩; refine e_then ?_; refine wp_ret ?_; refine e_then_ret ?_; obtain rfl := Option.some.inj hF
    exact f_ret1 ha rfl rfl ⟨rfl, hE333⟩
  replace hF := if_f hp334 hF; refine wp_skip ?_; refine e_then ?_; refine wp_seq ?_; refine wp_seq ?_; refine wp_region_lit ?_; (iterate 2 refine op_g ha rfl (g_move rfl) ?_; clear ha a; intro a ha); obtain ⟨x335, hc336, hF⟩ := cal_some hF
  refine o_call ha rfl rfl Try.call9 (W_laws_toInt64S (ha3.ext hE333) hc336) ?_; clear ha a; rintro v337 w338 ⟨b340, h341, z342, hx339⟩ a ha
  have q344 := Nq.new h190.fpb z342
  have q345 := Nq.madeO z342 h190.blt
  replace h190 := h190.ext hx339
  have hE346 := Ext.trans hE333 hx339
  have q347 := Zn.upD z342 hE333
  obtain ⟨fp348, hro349, hs350⟩ := h190.roF
  obtain ⟨fp351, hro352, hs353⟩ := h341.roF
  obtain ⟨x354, hc355, hF⟩ := cal_some hF
  refine o_call ha rfl rfl Try.call12 (W_laws_eqInt64S hro349 hro352 hc355) ?_; clear ha a; rintro v356 w357 ⟨rfl, hx358⟩ a ha
  replace h190 := h190.ext hx358
  replace h341 := h341.ext hx358
  have hE359 := Ext.trans hE346 hx358
  refine op_g ha rfl (g_not rfl) ?_; clear ha a; intro a ha; refine wpList_nil ?_; replace ha := ha.sub (σ' := [(74, (.bool (!x354)))]) ⟨rfl, trivial⟩; refine e_then ?_; refine c_cond (¬ (x354 = true)) ha rfl (n_iff (Iff.rfl)) (fun hp360 => ?_) (fun hp360 => ?_)
  · replace hF := if_t hp360 hF
    refine wp_seq ?_; refine wp_region_lit ?_; refine op_g ha rfl (g_assign rfl) ?_; clear ha a; intro a ha; refine wpList_nil ?_; replace ha := ha.sub (σ' := [(8, (.bool false))]) ⟨rfl, trivial⟩; refine e_then ?_; refine wp_ret ?_; refine e_then_ret ?_; obtain rfl := Option.some.inj hF
    exact f_ret1 ha rfl rfl ⟨rfl, hE359⟩
  replace hF := if_f hp360 hF; refine wp_skip ?_; refine e_then ?_; refine wp_seq ?_; refine wp_region_lit ?_; refine op_g ha rfl (g_assign rfl) ?_; clear ha a; intro a ha; refine wpList_nil ?_; replace ha := ha.sub (σ' := [(8, (.bool true))]) ⟨rfl, trivial⟩; refine e_then ?_; refine wp_ret ?_; obtain rfl := Option.some.inj hF
  exact f_ret1 ha rfl rfl ⟨rfl, hE359⟩
end Go.Proofs.Ythbmcbflnibpbac
