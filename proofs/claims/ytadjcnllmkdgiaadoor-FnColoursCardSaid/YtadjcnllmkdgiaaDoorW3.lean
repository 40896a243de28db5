/- Walks, printed by gen.py. -/
import Derived.Test.YtadjcnllmkdgiaaDoorF
import Derived.Test.YtadjcnllmkdgiaaDoorW2
import Derived.Test.YtadjcnllmkdgiaaDoorProg
import Derived.KernelRfl
set_option maxRecDepth 100000
namespace Go.Proofs.YtadjcnllmkdgiaaDoor
open Go Go.RowKit

set_option maxHeartbeats 2000000 in
theorem W_impl_InTurn {W : World} {va0_0 : Value} {fa0_0 : List Nat} {a0_0 : (List (List Int))} (ha0_0 : Ro (Rp.sl 2 Rp.int) W fa0_0 va0_0 a0_0) {va1 : Value} {fa1 : List Nat} {a1 : (List Int)} (ha1 : Ro Rp.int W fa1 va1 a1) {r : (List Int)} (hF : F_impl_InTurn a0_0 a1 = some r) :
    Calls Tryd.prog 14 [.agg #[va0_0], va1].toArray W (Ret fun u w' => ∃ (b_u : Int), Ow Rp.int 2 true w' [] b_u u r ∧ Zn W b_u ∧ Ext W w') := by
  refine f_enter Tryd.func14 rfl Tryd.ntmps14 rfl ?_
  intro a ha
  replace ha : Fr 46 [(0, (.agg #[va0_0])), (1, va1)] a := ha
  have hE : Chg [] W W := Chg.refl _ _
  unfold F_impl_InTurn at hF
  refine wp_seq ?_; refine wp_region_lit ?_
  refine o_box ha rfl rfl rfl ?_; clear ha a; intro b1 w2 hB3 hx4 hlo5 a ha
  have q6 := Zn.one hlo5
  have q7 := Zn.upD q6 hE
  have hE8 := Ext.trans hE hx4
  refine op_g ha rfl (g_assign rfl) ?_; clear ha a; intro a ha; refine wpList_nil ?_; replace ha := ha.sub (σ' := [(1, va1), (2, (.pointer (some ⟨b1, 0, none⟩)))]) ⟨rfl, rfl, trivial⟩; refine e_then ?_; refine wp_seq ?_; refine wp_seq ?_; refine wp_region_lit ?_; refine op_g ha rfl (g_loadA (cs := [va0_0]) Tryd.isAgg29 Tryd.sizeOf29 rfl (by simp) hB3.all) ?_; clear ha a; intro a ha; refine op_g ha rfl (g_move rfl) ?_; clear ha a; intro a ha; obtain ⟨x9, hc10, hF⟩ := cal_some hF
  refine o_call ha rfl rfl Tryd.call43 (W_impl_OrderOk (ha0_0.ext hE8) (ha1.ext hE8) hc10) ?_; clear ha a; rintro v11 w12 ⟨rfl, hx13⟩ a ha
  replace hB3 := hB3.ext hx13
  have hE14 := Ext.trans hE8 hx13
  refine op_g ha rfl (g_not rfl) ?_; clear ha a; intro a ha; refine wpList_nil ?_; replace ha := ha.sub (σ' := [(1, va1), (2, (.pointer (some ⟨b1, 0, none⟩))), (14, (.bool (!x9)))]) ⟨rfl, rfl, rfl, trivial⟩; refine e_then ?_; refine c_cond (¬ (x9 = true)) ha rfl (n_iff (Iff.rfl)) (fun hp15 => ?_) (fun hp15 => ?_)
  · replace hF := if_t hp15 hF
    refine wp_seq ?_; refine wp_region_lit ?_; refine op_g ha rfl (g_assign rfl) ?_; clear ha a; intro a ha; refine wpList_nil ?_; replace ha := ha.sub (σ' := [(4, (.slice none 0 0))]) ⟨rfl, trivial⟩; refine e_then ?_; refine wp_ret ?_; refine e_then_ret ?_; obtain rfl := Option.some.inj hF
    exact f_ret1 ha rfl rfl ⟨-1, (Ow.nil (by decide)), (.inl (by decide)), hE14⟩
  replace hF := if_f hp15 hF; refine wp_skip ?_; refine e_then ?_; obtain ⟨o20, ho21, hK22⟩ := bnd_some hF
  have hF := ho21; clear ho21
  refine s_cut (fun a w => ∃ (l30 : (List (BitVec 32))) (l36 : (List (BitVec 32))) (l42 : (List Int)) (b24 : Nat) (v31 : Value) (b32 : Int) (v37 : Value) (b38 : Int) (v43 : Value) (b44 : Int), Fr 46 [(1, va1), (5, (.pointer (some ⟨b24, 0, none⟩))), (6, v37), (7, v43)] a ∧ Chg [] W w ∧ Bx w b24 [v31] 50 ∧ Zn W (b24 : Int) ∧ Ow Rp.u32 53 true w [] b32 v31 l30 ∧ Zn W b32 ∧ Ow Rp.u32 53 true w [] b38 v37 l36 ∧ Zn W b38 ∧ Ow Rp.int 2 true w [] b44 v43 l42 ∧ Zn W b44 ∧ Nq ([b24]) b32 ∧ Nq ([b24]) b38 ∧ Nq ([b24]) b44 ∧ Nq (bl b32 ++ []) (b24 : Int) ∧ Nq (bl b32 ++ []) b38 ∧ Nq (bl b32 ++ []) b44 ∧ Nq (bl b38 ++ []) (b24 : Int) ∧ Nq (bl b38 ++ []) b32 ∧ Nq (bl b38 ++ []) b44 ∧ Nq (bl b44 ++ []) (b24 : Int) ∧ Nq (bl b44 ++ []) b32 ∧ Nq (bl b44 ++ []) b38 ∧ o20 = .inl (l30, l36, l42)) ?_ ?_
  · skip
    refine x_region [0, 1, 2, 3, 4, 5, 6, 7, 8, 9, 10, 11] hmix ?_
    have hS58 := RowKit.Below.refl w12.heap.size w12
    refine x_g 0 rfl (by kernel_rfl) (want0 _) ha rfl hS58 (g_loadA (cs := [va0_0]) Tryd.isAgg29 Tryd.sizeOf29 rfl (by simp) hB3.all) ?_; clear ha a; intro a ha; refine x_g 2 rfl (by kernel_rfl) (want0 _) ha rfl hS58 (g_move rfl) ?_; clear ha a; intro a ha; refine x_g 3 rfl (by kernel_rfl) (want0 _) ha rfl hS58 (g_lenR sl31.und ha1 rfl) ?_; clear ha a; intro a ha; refine x_g 5 rfl (by kernel_rfl) (want0 _) ha rfl hS58 (g_move rfl) ?_; clear ha a; intro a ha; refine x_g 6 rfl (by kernel_rfl) (want0 _) ha rfl hS58 (g_lenR sl31.und ha1 rfl) ?_; clear ha a; intro a ha; obtain ⟨xqr2o1_1, hcqr2o1_1, hF⟩ := cal_some hF
    obtain ⟨gqr2o4_1, gqr2o4_1b, hF⟩ := mkS_some hF; obtain ⟨gqr2o7_1, gqr2o7_1b, hF⟩ := mkS_some hF; refine x_many [1, 4, 7, 8] (by kernel_rfl) rfl fun wqr2_1 hxqr2_1 => ⟨⟨_, rfl, ?_⟩, ⟨_, rfl, ?_⟩, ⟨_, rfl, ?_⟩, ⟨_, rfl, ?_⟩, trivial⟩
    · skip
      replace hB3 := hB3.ext hxqr2_1
      have hEqr2o1_1 := Ext.trans hE14 hxqr2_1
      have qqr2o1_1 := bel_step hS58 hxqr2_1
      refine o_call ha rfl rfl Tryd.call31 (W_impl_netsOf (ha0_0.ext hEqr2o1_1) hcqr2o1_1) ?_; clear ha a; rintro vqr2o1_1 wqr2o1_1 ⟨bqr2o1_1, hqr2o1_1, zqr2o1_1, hxqr2o1_1⟩ a ha
      have qqr2o1_2 := Zn.upB zqr2o1_1 qqr2o1_1
      have qqr2o1_3 := Nq.new hB3.fpb zqr2o1_1
      have qqr2o1_4 := Nq.madeO zqr2o1_1 hB3.bi
      replace hB3 := hB3.ext hxqr2o1_1
      have hEqr2o1_2 := Ext.trans hEqr2o1_1 hxqr2o1_1
      have qqr2o1_5 := Zn.upD zqr2o1_1 hEqr2o1_1
      refine wpList_nil (e_sq ?_)
      have hStqr2o1_1 : RowKit.Below w12.heap.size wqr2_1 wqr2o1_1 := ext_bel qqr2o1_1.size hxqr2o1_1
      refine ⟨fun _ => hStqr2o1_1, ?_⟩
      have qqr2o1_6 := RowKit.Below.trans qqr2o1_1 hStqr2o1_1
      refine x_many [4, 7, 8] (by kernel_rfl) rfl fun wqr2o1_2 hxqr2o1_2 => ⟨⟨_, rfl, ?_⟩, ⟨_, rfl, ?_⟩, ⟨_, rfl, ?_⟩, trivial⟩
      · skip
        replace hB3 := hB3.ext hxqr2o1_2
        replace hqr2o1_1 := hqr2o1_1.ext hxqr2o1_2
        have hEqr2o4_1 := Ext.trans hEqr2o1_2 hxqr2o1_2
        have qqr2o4_1 := bel_step qqr2o1_6 hxqr2o1_2
        refine o_make (z0 := (0 : BitVec 32)) Rp.u32 ha rfl sl48 rfl (fun w => ⟨rfl, rfl⟩) rfl gqr2o4_1 gqr2o4_1b ?_; clear ha a; intro vqr2o4_1 wqr2o4_1 hqr2o4_1 hxqr2o4_1 a ha
        obtain ⟨bqr2o4_1, hbqr2o4_1⟩ : ∃ b : Int, b = wqr2o1_2.heap.size := ⟨_, rfl⟩; rw [← hbqr2o4_1] at hqr2o4_1
        have qqr2o4_2 := zn_of hbqr2o4_1
        have qqr2o4_3 := Nq.new hB3.fpb qqr2o4_2
        have qqr2o4_4 := Nq.madeO qqr2o4_2 hB3.bi
        have qqr2o4_5 := Nq.new hqr2o1_1.fpb qqr2o4_2
        have qqr2o4_6 := Nq.madeO qqr2o4_2 hqr2o1_1.blt
        have qqr2o4_7 := Zn.upD qqr2o4_2 hEqr2o4_1
        have qqr2o4_8 := Zn.upB qqr2o4_2 qqr2o4_1
        replace hB3 := hB3.ext hxqr2o4_1
        replace hqr2o1_1 := hqr2o1_1.ext hxqr2o4_1
        have hEqr2o4_2 := Ext.trans hEqr2o4_1 hxqr2o4_1
        refine wpList_nil (e_sq ?_)
        have hStqr2o4_1 : RowKit.Below w12.heap.size wqr2o1_2 wqr2o4_1 := ext_bel qqr2o4_1.size hxqr2o4_1
        refine ⟨fun _ => hStqr2o4_1, ?_⟩
        have qqr2o4_9 := RowKit.Below.trans qqr2o4_1 hStqr2o4_1
        refine x_many [7, 8] (by kernel_rfl) rfl fun wqr2o4_2 hxqr2o4_2 => ⟨⟨_, rfl, ?_⟩, ⟨_, rfl, ?_⟩, trivial⟩
        · skip
          replace hB3 := hB3.ext hxqr2o4_2
          replace hqr2o1_1 := hqr2o1_1.ext hxqr2o4_2
          replace hqr2o4_1 := hqr2o4_1.ext hxqr2o4_2
          have hEqr2o7_1 := Ext.trans hEqr2o4_2 hxqr2o4_2
          have qqr2o7_1 := bel_step qqr2o4_9 hxqr2o4_2
          refine o_make (z0 := (0 : Int)) Rp.int ha rfl sl31 rfl (fun w => ⟨rfl, by decide, rfl⟩) rfl gqr2o7_1 gqr2o7_1b ?_; clear ha a; intro vqr2o7_1 wqr2o7_1 hqr2o7_1 hxqr2o7_1 a ha
          obtain ⟨bqr2o7_1, hbqr2o7_1⟩ : ∃ b : Int, b = wqr2o4_2.heap.size := ⟨_, rfl⟩; rw [← hbqr2o7_1] at hqr2o7_1
          have qqr2o7_2 := zn_of hbqr2o7_1
          have qqr2o7_3 := Nq.new hB3.fpb qqr2o7_2
          have qqr2o7_4 := Nq.madeO qqr2o7_2 hB3.bi
          have qqr2o7_5 := Nq.new hqr2o1_1.fpb qqr2o7_2
          have qqr2o7_6 := Nq.madeO qqr2o7_2 hqr2o1_1.blt
          have qqr2o7_7 := Nq.new hqr2o4_1.fpb qqr2o7_2
          have qqr2o7_8 := Nq.madeO qqr2o7_2 hqr2o4_1.blt
          have qqr2o7_9 := Zn.upD qqr2o7_2 hEqr2o7_1
          have qqr2o7_10 := Zn.upB qqr2o7_2 qqr2o7_1
          replace hB3 := hB3.ext hxqr2o7_1
          replace hqr2o1_1 := hqr2o1_1.ext hxqr2o7_1
          replace hqr2o4_1 := hqr2o4_1.ext hxqr2o7_1
          have hEqr2o7_2 := Ext.trans hEqr2o7_1 hxqr2o7_1
          refine wpList_nil (e_sq ?_)
          have hStqr2o7_1 : RowKit.Below w12.heap.size wqr2o4_2 wqr2o7_1 := ext_bel qqr2o7_1.size hxqr2o7_1
          refine ⟨fun _ => hStqr2o7_1, ?_⟩
          have qqr2o7_11 := RowKit.Below.trans qqr2o7_1 hStqr2o7_1
          refine x_only 8 rfl (by kernel_rfl) ?_; intro wqr2o8_1 hxqr2o8_1
          replace hB3 := hB3.ext hxqr2o8_1
          replace hqr2o1_1 := hqr2o1_1.ext hxqr2o8_1
          replace hqr2o4_1 := hqr2o4_1.ext hxqr2o8_1
          replace hqr2o7_1 := hqr2o7_1.ext hxqr2o8_1
          have hEqr2o8_1 := Ext.trans hEqr2o7_2 hxqr2o8_1
          have qqr2o8_1 := bel_step qqr2o7_11 hxqr2o8_1
          refine o_alloc (cs := [(.slice none 0 0)]) ha rfl Tryd.zeroValue50 rfl ?_; clear ha a; intro bqr2o8_1 wqr2o8_2 hBqr2o8_1 hxqr2o8_2 hloqr2o8_1 a ha
          have qqr2o8_2 := Zn.one hloqr2o8_1
          have qqr2o8_3 := Nq.new hB3.fpb qqr2o8_2
          have qqr2o8_4 := Nq.made1 hloqr2o8_1 hB3.bi
          have qqr2o8_5 := Nq.new hqr2o1_1.fpb qqr2o8_2
          have qqr2o8_6 := Nq.made1 hloqr2o8_1 hqr2o1_1.blt
          have qqr2o8_7 := Nq.new hqr2o4_1.fpb qqr2o8_2
          have qqr2o8_8 := Nq.made1 hloqr2o8_1 hqr2o4_1.blt
          have qqr2o8_9 := Nq.new hqr2o7_1.fpb qqr2o8_2
          have qqr2o8_10 := Nq.made1 hloqr2o8_1 hqr2o7_1.blt
          have qqr2o8_11 := Zn.upD qqr2o8_2 hEqr2o8_1
          have qqr2o8_12 := Zn.upB qqr2o8_2 qqr2o8_1
          replace hB3 := hB3.ext hxqr2o8_2
          replace hqr2o1_1 := hqr2o1_1.ext hxqr2o8_2
          replace hqr2o4_1 := hqr2o4_1.ext hxqr2o8_2
          replace hqr2o7_1 := hqr2o7_1.ext hxqr2o8_2
          have hEqr2o8_2 := Ext.trans hEqr2o8_1 hxqr2o8_2
          refine wpList_nil (e_sq ?_)
          have hStqr2o8_1 : RowKit.Below w12.heap.size wqr2o8_1 wqr2o8_2 := ext_bel qqr2o8_1.size hxqr2o8_2
          refine ⟨fun _ => hStqr2o8_1, ?_⟩
          have qqr2o8_13 := RowKit.Below.trans qqr2o8_1 hStqr2o8_1
          refine x_only 9 rfl (by kernel_rfl) ?_; intro wqr2o9_1 hxqr2o9_1
          replace hB3 := hB3.ext hxqr2o9_1
          replace hqr2o1_1 := hqr2o1_1.ext hxqr2o9_1
          replace hqr2o4_1 := hqr2o4_1.ext hxqr2o9_1
          replace hqr2o7_1 := hqr2o7_1.ext hxqr2o9_1
          replace hBqr2o8_1 := hBqr2o8_1.ext hxqr2o9_1
          have hEqr2o9_1 := Ext.trans hEqr2o8_2 hxqr2o9_1
          have qqr2o9_1 := bel_step qqr2o8_13 hxqr2o9_1
          refine o_storeB ha hBqr2o8_1 Tryd.sizeOf50 rfl rfl hqr2o1_1.cells hqr2o1_1.oneC (Nat.le_of_ble_eq_true rfl) ?_; intro wqr2o9_2 hBqr2o9_1 hcqr2o9_1
          replace hcqr2o9_1 := hcqr2o9_1.bl
          replace hBqr2o9_1 : Bx wqr2o9_2 bqr2o8_1 [vqr2o1_1] 50 := hBqr2o9_1
          replace hB3 := hB3.nq hcqr2o9_1 qqr2o8_3
          replace hqr2o1_1 := hqr2o1_1.nq hcqr2o9_1 qqr2o8_5
          replace hqr2o4_1 := hqr2o4_1.nq hcqr2o9_1 qqr2o8_7
          replace hqr2o7_1 := hqr2o7_1.nq hcqr2o9_1 qqr2o8_9
          have hEqr2o9_2 := Ext.then hEqr2o9_1 hcqr2o9_1 (Zn.bl qqr2o8_11)
          refine wpList_nil (e_sq ?_)
          have hStqr2o9_1 : RowKit.Below w12.heap.size wqr2o9_1 wqr2o9_2 := chg_bel hcqr2o9_1 qqr2o9_1.size (Zn.bl qqr2o8_12)
          refine ⟨fun _ => hStqr2o9_1, ?_⟩
          have qqr2o9_2 := RowKit.Below.trans qqr2o9_1 hStqr2o9_1
          refine x_g 10 rfl (by kernel_rfl) (want0 _) ha rfl qqr2o9_2 (g_assign rfl) ?_; clear ha a; intro a ha; refine x_g 11 rfl (by kernel_rfl) (want0 _) ha rfl qqr2o9_2 (g_assign rfl) ?_; clear ha a; intro a ha
          refine x_done (by kernel_rfl) ?_; intro w59 hx60
          replace hB3 := hB3.ext hx60
          replace hqr2o1_1 := hqr2o1_1.ext hx60
          replace hqr2o4_1 := hqr2o4_1.ext hx60
          replace hqr2o7_1 := hqr2o7_1.ext hx60
          replace hBqr2o9_1 := hBqr2o9_1.ext hx60
          have hE61 := Ext.trans hEqr2o9_2 hx60
          replace ha := ha.sub (σ' := [(1, va1), (5, (.pointer (some ⟨bqr2o8_1, 0, none⟩))), (6, vqr2o4_1), (7, vqr2o7_1)]) ⟨rfl, rfl, rfl, rfl, trivial⟩; refine e_sq ?_; obtain rfl := Option.some.inj hF
          exact ⟨xqr2o1_1, (List.replicate ((a1.length : Int) : Int).toNat (0 : BitVec 32)), (List.replicate ((a1.length : Int) : Int).toNat (0 : Int)), bqr2o8_1, vqr2o1_1, bqr2o1_1, vqr2o4_1, bqr2o4_1, vqr2o7_1, bqr2o7_1, ha.sub ⟨rfl, rfl, rfl, rfl, trivial⟩, hE61, hBqr2o9_1, qqr2o8_11, hqr2o1_1, qqr2o1_5, hqr2o4_1, qqr2o4_7, hqr2o7_1, qqr2o7_9, qqr2o8_6, qqr2o8_8, qqr2o8_10, qqr2o8_5, qqr2o4_5, qqr2o7_5, qqr2o8_7, qqr2o4_6, qqr2o7_7, qqr2o8_9, qqr2o7_6, qqr2o7_8, rfl⟩
        skip
        replace hB3 := hB3.ext hxqr2o4_2
        replace hqr2o1_1 := hqr2o1_1.ext hxqr2o4_2
        replace hqr2o4_1 := hqr2o4_1.ext hxqr2o4_2
        have hEqr2o8_1 := Ext.trans hEqr2o4_2 hxqr2o4_2
        have qqr2o8_1 := bel_step qqr2o4_9 hxqr2o4_2
        refine o_alloc (cs := [(.slice none 0 0)]) ha rfl Tryd.zeroValue50 rfl ?_; clear ha a; intro bqr2o8_1 wqr2o8_1 hBqr2o8_1 hxqr2o8_1 hloqr2o8_1 a ha
        have qqr2o8_2 := Zn.one hloqr2o8_1
        have qqr2o8_3 := Nq.new hB3.fpb qqr2o8_2
        have qqr2o8_4 := Nq.made1 hloqr2o8_1 hB3.bi
        have qqr2o8_5 := Nq.new hqr2o1_1.fpb qqr2o8_2
        have qqr2o8_6 := Nq.made1 hloqr2o8_1 hqr2o1_1.blt
        have qqr2o8_7 := Nq.new hqr2o4_1.fpb qqr2o8_2
        have qqr2o8_8 := Nq.made1 hloqr2o8_1 hqr2o4_1.blt
        have qqr2o8_9 := Zn.upD qqr2o8_2 hEqr2o8_1
        have qqr2o8_10 := Zn.upB qqr2o8_2 qqr2o8_1
        replace hB3 := hB3.ext hxqr2o8_1
        replace hqr2o1_1 := hqr2o1_1.ext hxqr2o8_1
        replace hqr2o4_1 := hqr2o4_1.ext hxqr2o8_1
        have hEqr2o8_2 := Ext.trans hEqr2o8_1 hxqr2o8_1
        refine wpList_nil (e_sq ?_)
        have hStqr2o8_1 : RowKit.Below w12.heap.size wqr2o4_2 wqr2o8_1 := ext_bel qqr2o8_1.size hxqr2o8_1
        refine ⟨fun _ => hStqr2o8_1, ?_⟩
        have qqr2o8_11 := RowKit.Below.trans qqr2o8_1 hStqr2o8_1
        refine x_many [7, 9] (by kernel_rfl) rfl fun wqr2o8_2 hxqr2o8_2 => ⟨⟨_, rfl, ?_⟩, ⟨_, rfl, ?_⟩, trivial⟩
        · skip
          replace hB3 := hB3.ext hxqr2o8_2
          replace hqr2o1_1 := hqr2o1_1.ext hxqr2o8_2
          replace hqr2o4_1 := hqr2o4_1.ext hxqr2o8_2
          replace hBqr2o8_1 := hBqr2o8_1.ext hxqr2o8_2
          have hEqr2o7_1 := Ext.trans hEqr2o8_2 hxqr2o8_2
          have qqr2o7_1 := bel_step qqr2o8_11 hxqr2o8_2
          refine o_make (z0 := (0 : Int)) Rp.int ha rfl sl31 rfl (fun w => ⟨rfl, by decide, rfl⟩) rfl gqr2o7_1 gqr2o7_1b ?_; clear ha a; intro vqr2o7_1 wqr2o7_1 hqr2o7_1 hxqr2o7_1 a ha
          obtain ⟨bqr2o7_1, hbqr2o7_1⟩ : ∃ b : Int, b = wqr2o8_2.heap.size := ⟨_, rfl⟩; rw [← hbqr2o7_1] at hqr2o7_1
          have qqr2o7_2 := zn_of hbqr2o7_1
          have qqr2o7_3 := Nq.new hB3.fpb qqr2o7_2
          have qqr2o7_4 := Nq.madeO qqr2o7_2 hB3.bi
          have qqr2o7_5 := Nq.new hqr2o1_1.fpb qqr2o7_2
          have qqr2o7_6 := Nq.madeO qqr2o7_2 hqr2o1_1.blt
          have qqr2o7_7 := Nq.new hqr2o4_1.fpb qqr2o7_2
          have qqr2o7_8 := Nq.madeO qqr2o7_2 hqr2o4_1.blt
          have qqr2o7_9 := Nq.new hBqr2o8_1.fpb qqr2o7_2
          have qqr2o7_10 := Nq.madeO qqr2o7_2 hBqr2o8_1.bi
          have qqr2o7_11 := Zn.upD qqr2o7_2 hEqr2o7_1
          have qqr2o7_12 := Zn.upB qqr2o7_2 qqr2o7_1
          replace hB3 := hB3.ext hxqr2o7_1
          replace hqr2o1_1 := hqr2o1_1.ext hxqr2o7_1
          replace hqr2o4_1 := hqr2o4_1.ext hxqr2o7_1
          replace hBqr2o8_1 := hBqr2o8_1.ext hxqr2o7_1
          have hEqr2o7_2 := Ext.trans hEqr2o7_1 hxqr2o7_1
          refine wpList_nil (e_sq ?_)
          have hStqr2o7_1 : RowKit.Below w12.heap.size wqr2o8_2 wqr2o7_1 := ext_bel qqr2o7_1.size hxqr2o7_1
          refine ⟨fun _ => hStqr2o7_1, ?_⟩
          have qqr2o7_13 := RowKit.Below.trans qqr2o7_1 hStqr2o7_1
          refine x_only 9 rfl (by kernel_rfl) ?_; intro wqr2o9_1 hxqr2o9_1
          replace hB3 := hB3.ext hxqr2o9_1
          replace hqr2o1_1 := hqr2o1_1.ext hxqr2o9_1
          replace hqr2o4_1 := hqr2o4_1.ext hxqr2o9_1
          replace hBqr2o8_1 := hBqr2o8_1.ext hxqr2o9_1
          replace hqr2o7_1 := hqr2o7_1.ext hxqr2o9_1
          have hEqr2o9_1 := Ext.trans hEqr2o7_2 hxqr2o9_1
          have qqr2o9_1 := bel_step qqr2o7_13 hxqr2o9_1
          refine o_storeB ha hBqr2o8_1 Tryd.sizeOf50 rfl rfl hqr2o1_1.cells hqr2o1_1.oneC (Nat.le_of_ble_eq_true rfl) ?_; intro wqr2o9_2 hBqr2o9_1 hcqr2o9_1
          replace hcqr2o9_1 := hcqr2o9_1.bl
          replace hBqr2o9_1 : Bx wqr2o9_2 bqr2o8_1 [vqr2o1_1] 50 := hBqr2o9_1
          replace hB3 := hB3.nq hcqr2o9_1 qqr2o8_3
          replace hqr2o1_1 := hqr2o1_1.nq hcqr2o9_1 qqr2o8_5
          replace hqr2o4_1 := hqr2o4_1.nq hcqr2o9_1 qqr2o8_7
          replace hqr2o7_1 := hqr2o7_1.nq hcqr2o9_1 qqr2o7_10
          have hEqr2o9_2 := Ext.then hEqr2o9_1 hcqr2o9_1 (Zn.bl qqr2o8_9)
          refine wpList_nil (e_sq ?_)
          have hStqr2o9_1 : RowKit.Below w12.heap.size wqr2o9_1 wqr2o9_2 := chg_bel hcqr2o9_1 qqr2o9_1.size (Zn.bl qqr2o8_10)
          refine ⟨fun _ => hStqr2o9_1, ?_⟩
          have qqr2o9_2 := RowKit.Below.trans qqr2o9_1 hStqr2o9_1
          refine x_g 10 rfl (by kernel_rfl) (want0 _) ha rfl qqr2o9_2 (g_assign rfl) ?_; clear ha a; intro a ha; refine x_g 11 rfl (by kernel_rfl) (want0 _) ha rfl qqr2o9_2 (g_assign rfl) ?_; clear ha a; intro a ha
          refine x_done (by kernel_rfl) ?_; intro w59 hx60
          replace hB3 := hB3.ext hx60
          replace hqr2o1_1 := hqr2o1_1.ext hx60
          replace hqr2o4_1 := hqr2o4_1.ext hx60
          replace hBqr2o9_1 := hBqr2o9_1.ext hx60
          replace hqr2o7_1 := hqr2o7_1.ext hx60
          have hE61 := Ext.trans hEqr2o9_2 hx60
          replace ha := ha.sub (σ' := [(1, va1), (5, (.pointer (some ⟨bqr2o8_1, 0, none⟩))), (6, vqr2o4_1), (7, vqr2o7_1)]) ⟨rfl, rfl, rfl, rfl, trivial⟩; refine e_sq ?_; obtain rfl := Option.some.inj hF
          exact ⟨xqr2o1_1, (List.replicate ((a1.length : Int) : Int).toNat (0 : BitVec 32)), (List.replicate ((a1.length : Int) : Int).toNat (0 : Int)), bqr2o8_1, vqr2o1_1, bqr2o1_1, vqr2o4_1, bqr2o4_1, vqr2o7_1, bqr2o7_1, ha.sub ⟨rfl, rfl, rfl, rfl, trivial⟩, hE61, hBqr2o9_1, qqr2o8_9, hqr2o1_1, qqr2o1_5, hqr2o4_1, qqr2o4_7, hqr2o7_1, qqr2o7_11, qqr2o8_6, qqr2o8_8, qqr2o7_9, qqr2o8_5, qqr2o4_5, qqr2o7_5, qqr2o8_7, qqr2o4_6, qqr2o7_7, qqr2o7_10, qqr2o7_6, qqr2o7_8, rfl⟩
        skip
        replace hB3 := hB3.ext hxqr2o8_2
        replace hqr2o1_1 := hqr2o1_1.ext hxqr2o8_2
        replace hqr2o4_1 := hqr2o4_1.ext hxqr2o8_2
        replace hBqr2o8_1 := hBqr2o8_1.ext hxqr2o8_2
        have hEqr2o9_1 := Ext.trans hEqr2o8_2 hxqr2o8_2
        have qqr2o9_1 := bel_step qqr2o8_11 hxqr2o8_2
        refine o_storeB ha hBqr2o8_1 Tryd.sizeOf50 rfl rfl hqr2o1_1.cells hqr2o1_1.oneC (Nat.le_of_ble_eq_true rfl) ?_; intro wqr2o9_1 hBqr2o9_1 hcqr2o9_1
        replace hcqr2o9_1 := hcqr2o9_1.bl
        replace hBqr2o9_1 : Bx wqr2o9_1 bqr2o8_1 [vqr2o1_1] 50 := hBqr2o9_1
        replace hB3 := hB3.nq hcqr2o9_1 qqr2o8_3
        replace hqr2o1_1 := hqr2o1_1.nq hcqr2o9_1 qqr2o8_5
        replace hqr2o4_1 := hqr2o4_1.nq hcqr2o9_1 qqr2o8_7
        have hEqr2o9_2 := Ext.then hEqr2o9_1 hcqr2o9_1 (Zn.bl qqr2o8_9)
        refine wpList_nil (e_sq ?_)
        have hStqr2o9_1 : RowKit.Below w12.heap.size wqr2o8_2 wqr2o9_1 := chg_bel hcqr2o9_1 qqr2o9_1.size (Zn.bl qqr2o8_10)
        refine ⟨fun _ => hStqr2o9_1, ?_⟩
        have qqr2o9_2 := RowKit.Below.trans qqr2o9_1 hStqr2o9_1
        refine x_g 10 rfl (by kernel_rfl) (want0 _) ha rfl qqr2o9_2 (g_assign rfl) ?_; clear ha a; intro a ha
        refine x_only 7 rfl (by kernel_rfl) ?_; intro wqr2o7_1 hxqr2o7_1
        replace hB3 := hB3.ext hxqr2o7_1
        replace hqr2o1_1 := hqr2o1_1.ext hxqr2o7_1
        replace hqr2o4_1 := hqr2o4_1.ext hxqr2o7_1
        replace hBqr2o9_1 := hBqr2o9_1.ext hxqr2o7_1
        have hEqr2o7_1 := Ext.trans hEqr2o9_2 hxqr2o7_1
        have qqr2o7_1 := bel_step qqr2o9_2 hxqr2o7_1
        refine o_make (z0 := (0 : Int)) Rp.int ha rfl sl31 rfl (fun w => ⟨rfl, by decide, rfl⟩) rfl gqr2o7_1 gqr2o7_1b ?_; clear ha a; intro vqr2o7_1 wqr2o7_2 hqr2o7_1 hxqr2o7_2 a ha
        obtain ⟨bqr2o7_1, hbqr2o7_1⟩ : ∃ b : Int, b = wqr2o7_1.heap.size := ⟨_, rfl⟩; rw [← hbqr2o7_1] at hqr2o7_1
        have qqr2o7_2 := zn_of hbqr2o7_1
        have qqr2o7_3 := Nq.new hB3.fpb qqr2o7_2
        have qqr2o7_4 := Nq.madeO qqr2o7_2 hB3.bi
        have qqr2o7_5 := Nq.new hqr2o1_1.fpb qqr2o7_2
        have qqr2o7_6 := Nq.madeO qqr2o7_2 hqr2o1_1.blt
        have qqr2o7_7 := Nq.new hqr2o4_1.fpb qqr2o7_2
        have qqr2o7_8 := Nq.madeO qqr2o7_2 hqr2o4_1.blt
        have qqr2o7_9 := Nq.new hBqr2o9_1.fpb qqr2o7_2
        have qqr2o7_10 := Nq.madeO qqr2o7_2 hBqr2o9_1.bi
        have qqr2o7_11 := Zn.upD qqr2o7_2 hEqr2o7_1
        have qqr2o7_12 := Zn.upB qqr2o7_2 qqr2o7_1
        replace hB3 := hB3.ext hxqr2o7_2
        replace hqr2o1_1 := hqr2o1_1.ext hxqr2o7_2
        replace hqr2o4_1 := hqr2o4_1.ext hxqr2o7_2
        replace hBqr2o9_1 := hBqr2o9_1.ext hxqr2o7_2
        have hEqr2o7_2 := Ext.trans hEqr2o7_1 hxqr2o7_2
        refine wpList_nil (e_sq ?_)
        have hStqr2o7_1 : RowKit.Below w12.heap.size wqr2o7_1 wqr2o7_2 := ext_bel qqr2o7_1.size hxqr2o7_2
        refine ⟨fun _ => hStqr2o7_1, ?_⟩
        have qqr2o7_13 := RowKit.Below.trans qqr2o7_1 hStqr2o7_1
        refine x_g 11 rfl (by kernel_rfl) (want0 _) ha rfl qqr2o7_13 (g_assign rfl) ?_; clear ha a; intro a ha
        refine x_done (by kernel_rfl) ?_; intro w59 hx60
        replace hB3 := hB3.ext hx60
        replace hqr2o1_1 := hqr2o1_1.ext hx60
        replace hqr2o4_1 := hqr2o4_1.ext hx60
        replace hBqr2o9_1 := hBqr2o9_1.ext hx60
        replace hqr2o7_1 := hqr2o7_1.ext hx60
        have hE61 := Ext.trans hEqr2o7_2 hx60
        replace ha := ha.sub (σ' := [(1, va1), (5, (.pointer (some ⟨bqr2o8_1, 0, none⟩))), (6, vqr2o4_1), (7, vqr2o7_1)]) ⟨rfl, rfl, rfl, rfl, trivial⟩; refine e_sq ?_; obtain rfl := Option.some.inj hF
        exact ⟨xqr2o1_1, (List.replicate ((a1.length : Int) : Int).toNat (0 : BitVec 32)), (List.replicate ((a1.length : Int) : Int).toNat (0 : Int)), bqr2o8_1, vqr2o1_1, bqr2o1_1, vqr2o4_1, bqr2o4_1, vqr2o7_1, bqr2o7_1, ha.sub ⟨rfl, rfl, rfl, rfl, trivial⟩, hE61, hBqr2o9_1, qqr2o8_9, hqr2o1_1, qqr2o1_5, hqr2o4_1, qqr2o4_7, hqr2o7_1, qqr2o7_11, qqr2o8_6, qqr2o8_8, qqr2o7_9, qqr2o8_5, qqr2o4_5, qqr2o7_5, qqr2o8_7, qqr2o4_6, qqr2o7_7, qqr2o7_10, qqr2o7_6, qqr2o7_8, rfl⟩
      · skip
        replace hB3 := hB3.ext hxqr2o1_2
        replace hqr2o1_1 := hqr2o1_1.ext hxqr2o1_2
        have hEqr2o7_1 := Ext.trans hEqr2o1_2 hxqr2o1_2
        have qqr2o7_1 := bel_step qqr2o1_6 hxqr2o1_2
        refine o_make (z0 := (0 : Int)) Rp.int ha rfl sl31 rfl (fun w => ⟨rfl, by decide, rfl⟩) rfl gqr2o7_1 gqr2o7_1b ?_; clear ha a; intro vqr2o7_1 wqr2o7_1 hqr2o7_1 hxqr2o7_1 a ha
        obtain ⟨bqr2o7_1, hbqr2o7_1⟩ : ∃ b : Int, b = wqr2o1_2.heap.size := ⟨_, rfl⟩; rw [← hbqr2o7_1] at hqr2o7_1
        have qqr2o7_2 := zn_of hbqr2o7_1
        have qqr2o7_3 := Nq.new hB3.fpb qqr2o7_2
        have qqr2o7_4 := Nq.madeO qqr2o7_2 hB3.bi
        have qqr2o7_5 := Nq.new hqr2o1_1.fpb qqr2o7_2
        have qqr2o7_6 := Nq.madeO qqr2o7_2 hqr2o1_1.blt
        have qqr2o7_7 := Zn.upD qqr2o7_2 hEqr2o7_1
        have qqr2o7_8 := Zn.upB qqr2o7_2 qqr2o7_1
        replace hB3 := hB3.ext hxqr2o7_1
        replace hqr2o1_1 := hqr2o1_1.ext hxqr2o7_1
        have hEqr2o7_2 := Ext.trans hEqr2o7_1 hxqr2o7_1
        refine wpList_nil (e_sq ?_)
        have hStqr2o7_1 : RowKit.Below w12.heap.size wqr2o1_2 wqr2o7_1 := ext_bel qqr2o7_1.size hxqr2o7_1
        refine ⟨fun _ => hStqr2o7_1, ?_⟩
        have qqr2o7_9 := RowKit.Below.trans qqr2o7_1 hStqr2o7_1
        refine x_many [4, 8] (by kernel_rfl) rfl fun wqr2o7_2 hxqr2o7_2 => ⟨⟨_, rfl, ?_⟩, ⟨_, rfl, ?_⟩, trivial⟩
        · skip
          replace hB3 := hB3.ext hxqr2o7_2
          replace hqr2o1_1 := hqr2o1_1.ext hxqr2o7_2
          replace hqr2o7_1 := hqr2o7_1.ext hxqr2o7_2
          have hEqr2o4_1 := Ext.trans hEqr2o7_2 hxqr2o7_2
          have qqr2o4_1 := bel_step qqr2o7_9 hxqr2o7_2
          refine o_make (z0 := (0 : BitVec 32)) Rp.u32 ha rfl sl48 rfl (fun w => ⟨rfl, rfl⟩) rfl gqr2o4_1 gqr2o4_1b ?_; clear ha a; intro vqr2o4_1 wqr2o4_1 hqr2o4_1 hxqr2o4_1 a ha
          obtain ⟨bqr2o4_1, hbqr2o4_1⟩ : ∃ b : Int, b = wqr2o7_2.heap.size := ⟨_, rfl⟩; rw [← hbqr2o4_1] at hqr2o4_1
          have qqr2o4_2 := zn_of hbqr2o4_1
          have qqr2o4_3 := Nq.new hB3.fpb qqr2o4_2
          have qqr2o4_4 := Nq.madeO qqr2o4_2 hB3.bi
          have qqr2o4_5 := Nq.new hqr2o1_1.fpb qqr2o4_2
          have qqr2o4_6 := Nq.madeO qqr2o4_2 hqr2o1_1.blt
          have qqr2o4_7 := Nq.new hqr2o7_1.fpb qqr2o4_2
          have qqr2o4_8 := Nq.madeO qqr2o4_2 hqr2o7_1.blt
          have qqr2o4_9 := Zn.upD qqr2o4_2 hEqr2o4_1
          have qqr2o4_10 := Zn.upB qqr2o4_2 qqr2o4_1
          replace hB3 := hB3.ext hxqr2o4_1
          replace hqr2o1_1 := hqr2o1_1.ext hxqr2o4_1
          replace hqr2o7_1 := hqr2o7_1.ext hxqr2o4_1
          have hEqr2o4_2 := Ext.trans hEqr2o4_1 hxqr2o4_1
          refine wpList_nil (e_sq ?_)
          have hStqr2o4_1 : RowKit.Below w12.heap.size wqr2o7_2 wqr2o4_1 := ext_bel qqr2o4_1.size hxqr2o4_1
          refine ⟨fun _ => hStqr2o4_1, ?_⟩
          have qqr2o4_11 := RowKit.Below.trans qqr2o4_1 hStqr2o4_1
          refine x_only 8 rfl (by kernel_rfl) ?_; intro wqr2o8_1 hxqr2o8_1
          replace hB3 := hB3.ext hxqr2o8_1
          replace hqr2o1_1 := hqr2o1_1.ext hxqr2o8_1
          replace hqr2o7_1 := hqr2o7_1.ext hxqr2o8_1
          replace hqr2o4_1 := hqr2o4_1.ext hxqr2o8_1
          have hEqr2o8_1 := Ext.trans hEqr2o4_2 hxqr2o8_1
          have qqr2o8_1 := bel_step qqr2o4_11 hxqr2o8_1
          refine o_alloc (cs := [(.slice none 0 0)]) ha rfl Tryd.zeroValue50 rfl ?_; clear ha a; intro bqr2o8_1 wqr2o8_2 hBqr2o8_1 hxqr2o8_2 hloqr2o8_1 a ha
          have qqr2o8_2 := Zn.one hloqr2o8_1
          have qqr2o8_3 := Nq.new hB3.fpb qqr2o8_2
          have qqr2o8_4 := Nq.made1 hloqr2o8_1 hB3.bi
          have qqr2o8_5 := Nq.new hqr2o1_1.fpb qqr2o8_2
          have qqr2o8_6 := Nq.made1 hloqr2o8_1 hqr2o1_1.blt
          have qqr2o8_7 := Nq.new hqr2o7_1.fpb qqr2o8_2
          have qqr2o8_8 := Nq.made1 hloqr2o8_1 hqr2o7_1.blt
          have qqr2o8_9 := Nq.new hqr2o4_1.fpb qqr2o8_2
          have qqr2o8_10 := Nq.made1 hloqr2o8_1 hqr2o4_1.blt
          have qqr2o8_11 := Zn.upD qqr2o8_2 hEqr2o8_1
          have qqr2o8_12 := Zn.upB qqr2o8_2 qqr2o8_1
          replace hB3 := hB3.ext hxqr2o8_2
          replace hqr2o1_1 := hqr2o1_1.ext hxqr2o8_2
          replace hqr2o7_1 := hqr2o7_1.ext hxqr2o8_2
          replace hqr2o4_1 := hqr2o4_1.ext hxqr2o8_2
          have hEqr2o8_2 := Ext.trans hEqr2o8_1 hxqr2o8_2
          refine wpList_nil (e_sq ?_)
          have hStqr2o8_1 : RowKit.Below w12.heap.size wqr2o8_1 wqr2o8_2 := ext_bel qqr2o8_1.size hxqr2o8_2
          refine ⟨fun _ => hStqr2o8_1, ?_⟩
          have qqr2o8_13 := RowKit.Below.trans qqr2o8_1 hStqr2o8_1
          refine x_only 9 rfl (by kernel_rfl) ?_; intro wqr2o9_1 hxqr2o9_1
          replace hB3 := hB3.ext hxqr2o9_1
          replace hqr2o1_1 := hqr2o1_1.ext hxqr2o9_1
          replace hqr2o7_1 := hqr2o7_1.ext hxqr2o9_1
          replace hqr2o4_1 := hqr2o4_1.ext hxqr2o9_1
          replace hBqr2o8_1 := hBqr2o8_1.ext hxqr2o9_1
          have hEqr2o9_1 := Ext.trans hEqr2o8_2 hxqr2o9_1
          have qqr2o9_1 := bel_step qqr2o8_13 hxqr2o9_1
          refine o_storeB ha hBqr2o8_1 Tryd.sizeOf50 rfl rfl hqr2o1_1.cells hqr2o1_1.oneC (Nat.le_of_ble_eq_true rfl) ?_; intro wqr2o9_2 hBqr2o9_1 hcqr2o9_1
          replace hcqr2o9_1 := hcqr2o9_1.bl
          replace hBqr2o9_1 : Bx wqr2o9_2 bqr2o8_1 [vqr2o1_1] 50 := hBqr2o9_1
          replace hB3 := hB3.nq hcqr2o9_1 qqr2o8_3
          replace hqr2o1_1 := hqr2o1_1.nq hcqr2o9_1 qqr2o8_5
          replace hqr2o7_1 := hqr2o7_1.nq hcqr2o9_1 qqr2o8_7
          replace hqr2o4_1 := hqr2o4_1.nq hcqr2o9_1 qqr2o8_9
          have hEqr2o9_2 := Ext.then hEqr2o9_1 hcqr2o9_1 (Zn.bl qqr2o8_11)
          refine wpList_nil (e_sq ?_)
          have hStqr2o9_1 : RowKit.Below w12.heap.size wqr2o9_1 wqr2o9_2 := chg_bel hcqr2o9_1 qqr2o9_1.size (Zn.bl qqr2o8_12)
          refine ⟨fun _ => hStqr2o9_1, ?_⟩
          have qqr2o9_2 := RowKit.Below.trans qqr2o9_1 hStqr2o9_1
          refine x_g 10 rfl (by kernel_rfl) (want0 _) ha rfl qqr2o9_2 (g_assign rfl) ?_; clear ha a; intro a ha; refine x_g 11 rfl (by kernel_rfl) (want0 _) ha rfl qqr2o9_2 (g_assign rfl) ?_; clear ha a; intro a ha
          refine x_done (by kernel_rfl) ?_; intro w59 hx60
          replace hB3 := hB3.ext hx60
          replace hqr2o1_1 := hqr2o1_1.ext hx60
          replace hqr2o7_1 := hqr2o7_1.ext hx60
          replace hqr2o4_1 := hqr2o4_1.ext hx60
          replace hBqr2o9_1 := hBqr2o9_1.ext hx60
          have hE61 := Ext.trans hEqr2o9_2 hx60
          replace ha := ha.sub (σ' := [(1, va1), (5, (.pointer (some ⟨bqr2o8_1, 0, none⟩))), (6, vqr2o4_1), (7, vqr2o7_1)]) ⟨rfl, rfl, rfl, rfl, trivial⟩; refine e_sq ?_; obtain rfl := Option.some.inj hF
          exact ⟨xqr2o1_1, (List.replicate ((a1.length : Int) : Int).toNat (0 : BitVec 32)), (List.replicate ((a1.length : Int) : Int).toNat (0 : Int)), bqr2o8_1, vqr2o1_1, bqr2o1_1, vqr2o4_1, bqr2o4_1, vqr2o7_1, bqr2o7_1, ha.sub ⟨rfl, rfl, rfl, rfl, trivial⟩, hE61, hBqr2o9_1, qqr2o8_11, hqr2o1_1, qqr2o1_5, hqr2o4_1, qqr2o4_9, hqr2o7_1, qqr2o7_7, qqr2o8_6, qqr2o8_10, qqr2o8_8, qqr2o8_5, qqr2o4_5, qqr2o7_5, qqr2o8_9, qqr2o4_6, qqr2o4_8, qqr2o8_7, qqr2o7_6, qqr2o4_7, rfl⟩
        skip
        replace hB3 := hB3.ext hxqr2o7_2
        replace hqr2o1_1 := hqr2o1_1.ext hxqr2o7_2
        replace hqr2o7_1 := hqr2o7_1.ext hxqr2o7_2
        have hEqr2o8_1 := Ext.trans hEqr2o7_2 hxqr2o7_2
        have qqr2o8_1 := bel_step qqr2o7_9 hxqr2o7_2
        refine o_alloc (cs := [(.slice none 0 0)]) ha rfl Tryd.zeroValue50 rfl ?_; clear ha a; intro bqr2o8_1 wqr2o8_1 hBqr2o8_1 hxqr2o8_1 hloqr2o8_1 a ha
        have qqr2o8_2 := Zn.one hloqr2o8_1
        have qqr2o8_3 := Nq.new hB3.fpb qqr2o8_2
        have qqr2o8_4 := Nq.made1 hloqr2o8_1 hB3.bi
        have qqr2o8_5 := Nq.new hqr2o1_1.fpb qqr2o8_2
        have qqr2o8_6 := Nq.made1 hloqr2o8_1 hqr2o1_1.blt
        have qqr2o8_7 := Nq.new hqr2o7_1.fpb qqr2o8_2
        have qqr2o8_8 := Nq.made1 hloqr2o8_1 hqr2o7_1.blt
        have qqr2o8_9 := Zn.upD qqr2o8_2 hEqr2o8_1
        have qqr2o8_10 := Zn.upB qqr2o8_2 qqr2o8_1
        replace hB3 := hB3.ext hxqr2o8_1
        replace hqr2o1_1 := hqr2o1_1.ext hxqr2o8_1
        replace hqr2o7_1 := hqr2o7_1.ext hxqr2o8_1
        have hEqr2o8_2 := Ext.trans hEqr2o8_1 hxqr2o8_1
        refine wpList_nil (e_sq ?_)
        have hStqr2o8_1 : RowKit.Below w12.heap.size wqr2o7_2 wqr2o8_1 := ext_bel qqr2o8_1.size hxqr2o8_1
        refine ⟨fun _ => hStqr2o8_1, ?_⟩
        have qqr2o8_11 := RowKit.Below.trans qqr2o8_1 hStqr2o8_1
        refine x_many [4, 9] (by kernel_rfl) rfl fun wqr2o8_2 hxqr2o8_2 => ⟨⟨_, rfl, ?_⟩, ⟨_, rfl, ?_⟩, trivial⟩
        · skip
          replace hB3 := hB3.ext hxqr2o8_2
          replace hqr2o1_1 := hqr2o1_1.ext hxqr2o8_2
          replace hqr2o7_1 := hqr2o7_1.ext hxqr2o8_2
          replace hBqr2o8_1 := hBqr2o8_1.ext hxqr2o8_2
          have hEqr2o4_1 := Ext.trans hEqr2o8_2 hxqr2o8_2
          have qqr2o4_1 := bel_step qqr2o8_11 hxqr2o8_2
          refine o_make (z0 := (0 : BitVec 32)) Rp.u32 ha rfl sl48 rfl (fun w => ⟨rfl, rfl⟩) rfl gqr2o4_1 gqr2o4_1b ?_; clear ha a; intro vqr2o4_1 wqr2o4_1 hqr2o4_1 hxqr2o4_1 a ha
          obtain ⟨bqr2o4_1, hbqr2o4_1⟩ : ∃ b : Int, b = wqr2o8_2.heap.size := ⟨_, rfl⟩; rw [← hbqr2o4_1] at hqr2o4_1
          have qqr2o4_2 := zn_of hbqr2o4_1
          have qqr2o4_3 := Nq.new hB3.fpb qqr2o4_2
          have qqr2o4_4 := Nq.madeO qqr2o4_2 hB3.bi
          have qqr2o4_5 := Nq.new hqr2o1_1.fpb qqr2o4_2
          have qqr2o4_6 := Nq.madeO qqr2o4_2 hqr2o1_1.blt
          have qqr2o4_7 := Nq.new hqr2o7_1.fpb qqr2o4_2
          have qqr2o4_8 := Nq.madeO qqr2o4_2 hqr2o7_1.blt
          have qqr2o4_9 := Nq.new hBqr2o8_1.fpb qqr2o4_2
          have qqr2o4_10 := Nq.madeO qqr2o4_2 hBqr2o8_1.bi
          have qqr2o4_11 := Zn.upD qqr2o4_2 hEqr2o4_1
          have qqr2o4_12 := Zn.upB qqr2o4_2 qqr2o4_1
          replace hB3 := hB3.ext hxqr2o4_1
          replace hqr2o1_1 := hqr2o1_1.ext hxqr2o4_1
          replace hqr2o7_1 := hqr2o7_1.ext hxqr2o4_1
          replace hBqr2o8_1 := hBqr2o8_1.ext hxqr2o4_1
          have hEqr2o4_2 := Ext.trans hEqr2o4_1 hxqr2o4_1
          refine wpList_nil (e_sq ?_)
          have hStqr2o4_1 : RowKit.Below w12.heap.size wqr2o8_2 wqr2o4_1 := ext_bel qqr2o4_1.size hxqr2o4_1
          refine ⟨fun _ => hStqr2o4_1, ?_⟩
          have qqr2o4_13 := RowKit.Below.trans qqr2o4_1 hStqr2o4_1
          refine x_only 9 rfl (by kernel_rfl) ?_; intro wqr2o9_1 hxqr2o9_1
          replace hB3 := hB3.ext hxqr2o9_1
          replace hqr2o1_1 := hqr2o1_1.ext hxqr2o9_1
          replace hqr2o7_1 := hqr2o7_1.ext hxqr2o9_1
          replace hBqr2o8_1 := hBqr2o8_1.ext hxqr2o9_1
          replace hqr2o4_1 := hqr2o4_1.ext hxqr2o9_1
          have hEqr2o9_1 := Ext.trans hEqr2o4_2 hxqr2o9_1
          have qqr2o9_1 := bel_step qqr2o4_13 hxqr2o9_1
          refine o_storeB ha hBqr2o8_1 Tryd.sizeOf50 rfl rfl hqr2o1_1.cells hqr2o1_1.oneC (Nat.le_of_ble_eq_true rfl) ?_; intro wqr2o9_2 hBqr2o9_1 hcqr2o9_1
          replace hcqr2o9_1 := hcqr2o9_1.bl
          replace hBqr2o9_1 : Bx wqr2o9_2 bqr2o8_1 [vqr2o1_1] 50 := hBqr2o9_1
          replace hB3 := hB3.nq hcqr2o9_1 qqr2o8_3
          replace hqr2o1_1 := hqr2o1_1.nq hcqr2o9_1 qqr2o8_5
          replace hqr2o7_1 := hqr2o7_1.nq hcqr2o9_1 qqr2o8_7
          replace hqr2o4_1 := hqr2o4_1.nq hcqr2o9_1 qqr2o4_10
          have hEqr2o9_2 := Ext.then hEqr2o9_1 hcqr2o9_1 (Zn.bl qqr2o8_9)
          refine wpList_nil (e_sq ?_)
          have hStqr2o9_1 : RowKit.Below w12.heap.size wqr2o9_1 wqr2o9_2 := chg_bel hcqr2o9_1 qqr2o9_1.size (Zn.bl qqr2o8_10)
          refine ⟨fun _ => hStqr2o9_1, ?_⟩
          have qqr2o9_2 := RowKit.Below.trans qqr2o9_1 hStqr2o9_1
          refine x_g 10 rfl (by kernel_rfl) (want0 _) ha rfl qqr2o9_2 (g_assign rfl) ?_; clear ha a; intro a ha; refine x_g 11 rfl (by kernel_rfl) (want0 _) ha rfl qqr2o9_2 (g_assign rfl) ?_; clear ha a; intro a ha
          refine x_done (by kernel_rfl) ?_; intro w59 hx60
          replace hB3 := hB3.ext hx60
          replace hqr2o1_1 := hqr2o1_1.ext hx60
          replace hqr2o7_1 := hqr2o7_1.ext hx60
          replace hBqr2o9_1 := hBqr2o9_1.ext hx60
          replace hqr2o4_1 := hqr2o4_1.ext hx60
          have hE61 := Ext.trans hEqr2o9_2 hx60
          replace ha := ha.sub (σ' := [(1, va1), (5, (.pointer (some ⟨bqr2o8_1, 0, none⟩))), (6, vqr2o4_1), (7, vqr2o7_1)]) ⟨rfl, rfl, rfl, rfl, trivial⟩; refine e_sq ?_; obtain rfl := Option.some.inj hF
          exact ⟨xqr2o1_1, (List.replicate ((a1.length : Int) : Int).toNat (0 : BitVec 32)), (List.replicate ((a1.length : Int) : Int).toNat (0 : Int)), bqr2o8_1, vqr2o1_1, bqr2o1_1, vqr2o4_1, bqr2o4_1, vqr2o7_1, bqr2o7_1, ha.sub ⟨rfl, rfl, rfl, rfl, trivial⟩, hE61, hBqr2o9_1, qqr2o8_9, hqr2o1_1, qqr2o1_5, hqr2o4_1, qqr2o4_11, hqr2o7_1, qqr2o7_7, qqr2o8_6, qqr2o4_9, qqr2o8_8, qqr2o8_5, qqr2o4_5, qqr2o7_5, qqr2o4_10, qqr2o4_6, qqr2o4_8, qqr2o8_7, qqr2o7_6, qqr2o4_7, rfl⟩
        skip
        replace hB3 := hB3.ext hxqr2o8_2
        replace hqr2o1_1 := hqr2o1_1.ext hxqr2o8_2
        replace hqr2o7_1 := hqr2o7_1.ext hxqr2o8_2
        replace hBqr2o8_1 := hBqr2o8_1.ext hxqr2o8_2
        have hEqr2o9_1 := Ext.trans hEqr2o8_2 hxqr2o8_2
        have qqr2o9_1 := bel_step qqr2o8_11 hxqr2o8_2
        refine o_storeB ha hBqr2o8_1 Tryd.sizeOf50 rfl rfl hqr2o1_1.cells hqr2o1_1.oneC (Nat.le_of_ble_eq_true rfl) ?_; intro wqr2o9_1 hBqr2o9_1 hcqr2o9_1
        replace hcqr2o9_1 := hcqr2o9_1.bl
        replace hBqr2o9_1 : Bx wqr2o9_1 bqr2o8_1 [vqr2o1_1] 50 := hBqr2o9_1
        replace hB3 := hB3.nq hcqr2o9_1 qqr2o8_3
        replace hqr2o1_1 := hqr2o1_1.nq hcqr2o9_1 qqr2o8_5
        replace hqr2o7_1 := hqr2o7_1.nq hcqr2o9_1 qqr2o8_7
        have hEqr2o9_2 := Ext.then hEqr2o9_1 hcqr2o9_1 (Zn.bl qqr2o8_9)
        refine wpList_nil (e_sq ?_)
        have hStqr2o9_1 : RowKit.Below w12.heap.size wqr2o8_2 wqr2o9_1 := chg_bel hcqr2o9_1 qqr2o9_1.size (Zn.bl qqr2o8_10)
        refine ⟨fun _ => hStqr2o9_1, ?_⟩
        have qqr2o9_2 := RowKit.Below.trans qqr2o9_1 hStqr2o9_1
        refine x_only 4 rfl (by kernel_rfl) ?_; intro wqr2o4_1 hxqr2o4_1
        replace hB3 := hB3.ext hxqr2o4_1
        replace hqr2o1_1 := hqr2o1_1.ext hxqr2o4_1
        replace hqr2o7_1 := hqr2o7_1.ext hxqr2o4_1
        replace hBqr2o9_1 := hBqr2o9_1.ext hxqr2o4_1
        have hEqr2o4_1 := Ext.trans hEqr2o9_2 hxqr2o4_1
        have qqr2o4_1 := bel_step qqr2o9_2 hxqr2o4_1
        refine o_make (z0 := (0 : BitVec 32)) Rp.u32 ha rfl sl48 rfl (fun w => ⟨rfl, rfl⟩) rfl gqr2o4_1 gqr2o4_1b ?_; clear ha a; intro vqr2o4_1 wqr2o4_2 hqr2o4_1 hxqr2o4_2 a ha
        obtain ⟨bqr2o4_1, hbqr2o4_1⟩ : ∃ b : Int, b = wqr2o4_1.heap.size := ⟨_, rfl⟩; rw [← hbqr2o4_1] at hqr2o4_1
        have qqr2o4_2 := zn_of hbqr2o4_1
        have qqr2o4_3 := Nq.new hB3.fpb qqr2o4_2
        have qqr2o4_4 := Nq.madeO qqr2o4_2 hB3.bi
        have qqr2o4_5 := Nq.new hqr2o1_1.fpb qqr2o4_2
        have qqr2o4_6 := Nq.madeO qqr2o4_2 hqr2o1_1.blt
        have qqr2o4_7 := Nq.new hqr2o7_1.fpb qqr2o4_2
        have qqr2o4_8 := Nq.madeO qqr2o4_2 hqr2o7_1.blt
        have qqr2o4_9 := Nq.new hBqr2o9_1.fpb qqr2o4_2
        have qqr2o4_10 := Nq.madeO qqr2o4_2 hBqr2o9_1.bi
        have qqr2o4_11 := Zn.upD qqr2o4_2 hEqr2o4_1
        have qqr2o4_12 := Zn.upB qqr2o4_2 qqr2o4_1
        replace hB3 := hB3.ext hxqr2o4_2
        replace hqr2o1_1 := hqr2o1_1.ext hxqr2o4_2
        replace hqr2o7_1 := hqr2o7_1.ext hxqr2o4_2
        replace hBqr2o9_1 := hBqr2o9_1.ext hxqr2o4_2
        have hEqr2o4_2 := Ext.trans hEqr2o4_1 hxqr2o4_2
        refine wpList_nil (e_sq ?_)
        have hStqr2o4_1 : RowKit.Below w12.heap.size wqr2o4_1 wqr2o4_2 := ext_bel qqr2o4_1.size hxqr2o4_2
        refine ⟨fun _ => hStqr2o4_1, ?_⟩
        have qqr2o4_13 := RowKit.Below.trans qqr2o4_1 hStqr2o4_1
        refine x_g 10 rfl (by kernel_rfl) (want0 _) ha rfl qqr2o4_13 (g_assign rfl) ?_; clear ha a; intro a ha; refine x_g 11 rfl (by kernel_rfl) (want0 _) ha rfl qqr2o4_13 (g_assign rfl) ?_; clear ha a; intro a ha
        refine x_done (by kernel_rfl) ?_; intro w59 hx60
        replace hB3 := hB3.ext hx60
        replace hqr2o1_1 := hqr2o1_1.ext hx60
        replace hqr2o7_1 := hqr2o7_1.ext hx60
        replace hBqr2o9_1 := hBqr2o9_1.ext hx60
        replace hqr2o4_1 := hqr2o4_1.ext hx60
        have hE61 := Ext.trans hEqr2o4_2 hx60
        replace ha := ha.sub (σ' := [(1, va1), (5, (.pointer (some ⟨bqr2o8_1, 0, none⟩))), (6, vqr2o4_1), (7, vqr2o7_1)]) ⟨rfl, rfl, rfl, rfl, trivial⟩; refine e_sq ?_; obtain rfl := Option.some.inj hF
        exact ⟨xqr2o1_1, (List.replicate ((a1.length : Int) : Int).toNat (0 : BitVec 32)), (List.replicate ((a1.length : Int) : Int).toNat (0 : Int)), bqr2o8_1, vqr2o1_1, bqr2o1_1, vqr2o4_1, bqr2o4_1, vqr2o7_1, bqr2o7_1, ha.sub ⟨rfl, rfl, rfl, rfl, trivial⟩, hE61, hBqr2o9_1, qqr2o8_9, hqr2o1_1, qqr2o1_5, hqr2o4_1, qqr2o4_11, hqr2o7_1, qqr2o7_7, qqr2o8_6, qqr2o4_9, qqr2o8_8, qqr2o8_5, qqr2o4_5, qqr2o7_5, qqr2o4_10, qqr2o4_6, qqr2o4_8, qqr2o8_7, qqr2o7_6, qqr2o4_7, rfl⟩
      skip
      replace hB3 := hB3.ext hxqr2o1_2
      replace hqr2o1_1 := hqr2o1_1.ext hxqr2o1_2
      have hEqr2o8_1 := Ext.trans hEqr2o1_2 hxqr2o1_2
      have qqr2o8_1 := bel_step qqr2o1_6 hxqr2o1_2
      refine o_alloc (cs := [(.slice none 0 0)]) ha rfl Tryd.zeroValue50 rfl ?_; clear ha a; intro bqr2o8_1 wqr2o8_1 hBqr2o8_1 hxqr2o8_1 hloqr2o8_1 a ha
      have qqr2o8_2 := Zn.one hloqr2o8_1
      have qqr2o8_3 := Nq.new hB3.fpb qqr2o8_2
      have qqr2o8_4 := Nq.made1 hloqr2o8_1 hB3.bi
      have qqr2o8_5 := Nq.new hqr2o1_1.fpb qqr2o8_2
      have qqr2o8_6 := Nq.made1 hloqr2o8_1 hqr2o1_1.blt
      have qqr2o8_7 := Zn.upD qqr2o8_2 hEqr2o8_1
      have qqr2o8_8 := Zn.upB qqr2o8_2 qqr2o8_1
      replace hB3 := hB3.ext hxqr2o8_1
      replace hqr2o1_1 := hqr2o1_1.ext hxqr2o8_1
      have hEqr2o8_2 := Ext.trans hEqr2o8_1 hxqr2o8_1
      refine wpList_nil (e_sq ?_)
      have hStqr2o8_1 : RowKit.Below w12.heap.size wqr2o1_2 wqr2o8_1 := ext_bel qqr2o8_1.size hxqr2o8_1
      refine ⟨fun _ => hStqr2o8_1, ?_⟩
      have qqr2o8_9 := RowKit.Below.trans qqr2o8_1 hStqr2o8_1
      refine x_many [4, 7, 9] (by kernel_rfl) rfl fun wqr2o8_2 hxqr2o8_2 => ⟨⟨_, rfl, ?_⟩, ⟨_, rfl, ?_⟩, ⟨_, rfl, ?_⟩, trivial⟩
      · skip
        replace hB3 := hB3.ext hxqr2o8_2
        replace hqr2o1_1 := hqr2o1_1.ext hxqr2o8_2
        replace hBqr2o8_1 := hBqr2o8_1.ext hxqr2o8_2
        have hEqr2o4_1 := Ext.trans hEqr2o8_2 hxqr2o8_2
        have qqr2o4_1 := bel_step qqr2o8_9 hxqr2o8_2
        refine o_make (z0 := (0 : BitVec 32)) Rp.u32 ha rfl sl48 rfl (fun w => ⟨rfl, rfl⟩) rfl gqr2o4_1 gqr2o4_1b ?_; clear ha a; intro vqr2o4_1 wqr2o4_1 hqr2o4_1 hxqr2o4_1 a ha
        obtain ⟨bqr2o4_1, hbqr2o4_1⟩ : ∃ b : Int, b = wqr2o8_2.heap.size := ⟨_, rfl⟩; rw [← hbqr2o4_1] at hqr2o4_1
        have qqr2o4_2 := zn_of hbqr2o4_1
        have qqr2o4_3 := Nq.new hB3.fpb qqr2o4_2
        have qqr2o4_4 := Nq.madeO qqr2o4_2 hB3.bi
        have qqr2o4_5 := Nq.new hqr2o1_1.fpb qqr2o4_2
        have qqr2o4_6 := Nq.madeO qqr2o4_2 hqr2o1_1.blt
        have qqr2o4_7 := Nq.new hBqr2o8_1.fpb qqr2o4_2
        have qqr2o4_8 := Nq.madeO qqr2o4_2 hBqr2o8_1.bi
        have qqr2o4_9 := Zn.upD qqr2o4_2 hEqr2o4_1
        have qqr2o4_10 := Zn.upB qqr2o4_2 qqr2o4_1
        replace hB3 := hB3.ext hxqr2o4_1
        replace hqr2o1_1 := hqr2o1_1.ext hxqr2o4_1
        replace hBqr2o8_1 := hBqr2o8_1.ext hxqr2o4_1
        have hEqr2o4_2 := Ext.trans hEqr2o4_1 hxqr2o4_1
        refine wpList_nil (e_sq ?_)
        have hStqr2o4_1 : RowKit.Below w12.heap.size wqr2o8_2 wqr2o4_1 := ext_bel qqr2o4_1.size hxqr2o4_1
        refine ⟨fun _ => hStqr2o4_1, ?_⟩
        have qqr2o4_11 := RowKit.Below.trans qqr2o4_1 hStqr2o4_1
        refine x_many [7, 9] (by kernel_rfl) rfl fun wqr2o4_2 hxqr2o4_2 => ⟨⟨_, rfl, ?_⟩, ⟨_, rfl, ?_⟩, trivial⟩
        · skip
          replace hB3 := hB3.ext hxqr2o4_2
          replace hqr2o1_1 := hqr2o1_1.ext hxqr2o4_2
          replace hBqr2o8_1 := hBqr2o8_1.ext hxqr2o4_2
          replace hqr2o4_1 := hqr2o4_1.ext hxqr2o4_2
          have hEqr2o7_1 := Ext.trans hEqr2o4_2 hxqr2o4_2
          have qqr2o7_1 := bel_step qqr2o4_11 hxqr2o4_2
          refine o_make (z0 := (0 : Int)) Rp.int ha rfl sl31 rfl (fun w => ⟨rfl, by decide, rfl⟩) rfl gqr2o7_1 gqr2o7_1b ?_; clear ha a; intro vqr2o7_1 wqr2o7_1 hqr2o7_1 hxqr2o7_1 a ha
          obtain ⟨bqr2o7_1, hbqr2o7_1⟩ : ∃ b : Int, b = wqr2o4_2.heap.size := ⟨_, rfl⟩; rw [← hbqr2o7_1] at hqr2o7_1
          have qqr2o7_2 := zn_of hbqr2o7_1
          have qqr2o7_3 := Nq.new hB3.fpb qqr2o7_2
          have qqr2o7_4 := Nq.madeO qqr2o7_2 hB3.bi
          have qqr2o7_5 := Nq.new hqr2o1_1.fpb qqr2o7_2
          have qqr2o7_6 := Nq.madeO qqr2o7_2 hqr2o1_1.blt
          have qqr2o7_7 := Nq.new hBqr2o8_1.fpb qqr2o7_2
          have qqr2o7_8 := Nq.madeO qqr2o7_2 hBqr2o8_1.bi
          have qqr2o7_9 := Nq.new hqr2o4_1.fpb qqr2o7_2
          have qqr2o7_10 := Nq.madeO qqr2o7_2 hqr2o4_1.blt
          have qqr2o7_11 := Zn.upD qqr2o7_2 hEqr2o7_1
          have qqr2o7_12 := Zn.upB qqr2o7_2 qqr2o7_1
          replace hB3 := hB3.ext hxqr2o7_1
          replace hqr2o1_1 := hqr2o1_1.ext hxqr2o7_1
          replace hBqr2o8_1 := hBqr2o8_1.ext hxqr2o7_1
          replace hqr2o4_1 := hqr2o4_1.ext hxqr2o7_1
          have hEqr2o7_2 := Ext.trans hEqr2o7_1 hxqr2o7_1
          refine wpList_nil (e_sq ?_)
          have hStqr2o7_1 : RowKit.Below w12.heap.size wqr2o4_2 wqr2o7_1 := ext_bel qqr2o7_1.size hxqr2o7_1
          refine ⟨fun _ => hStqr2o7_1, ?_⟩
          have qqr2o7_13 := RowKit.Below.trans qqr2o7_1 hStqr2o7_1
          refine x_only 9 rfl (by kernel_rfl) ?_; intro wqr2o9_1 hxqr2o9_1
          replace hB3 := hB3.ext hxqr2o9_1
          replace hqr2o1_1 := hqr2o1_1.ext hxqr2o9_1
          replace hBqr2o8_1 := hBqr2o8_1.ext hxqr2o9_1
          replace hqr2o4_1 := hqr2o4_1.ext hxqr2o9_1
          replace hqr2o7_1 := hqr2o7_1.ext hxqr2o9_1
          have hEqr2o9_1 := Ext.trans hEqr2o7_2 hxqr2o9_1
          have qqr2o9_1 := bel_step qqr2o7_13 hxqr2o9_1
          refine o_storeB ha hBqr2o8_1 Tryd.sizeOf50 rfl rfl hqr2o1_1.cells hqr2o1_1.oneC (Nat.le_of_ble_eq_true rfl) ?_; intro wqr2o9_2 hBqr2o9_1 hcqr2o9_1
          replace hcqr2o9_1 := hcqr2o9_1.bl
          replace hBqr2o9_1 : Bx wqr2o9_2 bqr2o8_1 [vqr2o1_1] 50 := hBqr2o9_1
          replace hB3 := hB3.nq hcqr2o9_1 qqr2o8_3
          replace hqr2o1_1 := hqr2o1_1.nq hcqr2o9_1 qqr2o8_5
          replace hqr2o4_1 := hqr2o4_1.nq hcqr2o9_1 qqr2o4_8
          replace hqr2o7_1 := hqr2o7_1.nq hcqr2o9_1 qqr2o7_8
          have hEqr2o9_2 := Ext.then hEqr2o9_1 hcqr2o9_1 (Zn.bl qqr2o8_7)
          refine wpList_nil (e_sq ?_)
          have hStqr2o9_1 : RowKit.Below w12.heap.size wqr2o9_1 wqr2o9_2 := chg_bel hcqr2o9_1 qqr2o9_1.size (Zn.bl qqr2o8_8)
          refine ⟨fun _ => hStqr2o9_1, ?_⟩
          have qqr2o9_2 := RowKit.Below.trans qqr2o9_1 hStqr2o9_1
          refine x_g 10 rfl (by kernel_rfl) (want0 _) ha rfl qqr2o9_2 (g_assign rfl) ?_; clear ha a; intro a ha; refine x_g 11 rfl (by kernel_rfl) (want0 _) ha rfl qqr2o9_2 (g_assign rfl) ?_; clear ha a; intro a ha
          refine x_done (by kernel_rfl) ?_; intro w59 hx60
          replace hB3 := hB3.ext hx60
          replace hqr2o1_1 := hqr2o1_1.ext hx60
          replace hBqr2o9_1 := hBqr2o9_1.ext hx60
          replace hqr2o4_1 := hqr2o4_1.ext hx60
          replace hqr2o7_1 := hqr2o7_1.ext hx60
          have hE61 := Ext.trans hEqr2o9_2 hx60
          replace ha := ha.sub (σ' := [(1, va1), (5, (.pointer (some ⟨bqr2o8_1, 0, none⟩))), (6, vqr2o4_1), (7, vqr2o7_1)]) ⟨rfl, rfl, rfl, rfl, trivial⟩; refine e_sq ?_; obtain rfl := Option.some.inj hF
          exact ⟨xqr2o1_1, (List.replicate ((a1.length : Int) : Int).toNat (0 : BitVec 32)), (List.replicate ((a1.length : Int) : Int).toNat (0 : Int)), bqr2o8_1, vqr2o1_1, bqr2o1_1, vqr2o4_1, bqr2o4_1, vqr2o7_1, bqr2o7_1, ha.sub ⟨rfl, rfl, rfl, rfl, trivial⟩, hE61, hBqr2o9_1, qqr2o8_7, hqr2o1_1, qqr2o1_5, hqr2o4_1, qqr2o4_9, hqr2o7_1, qqr2o7_11, qqr2o8_6, qqr2o4_7, qqr2o7_7, qqr2o8_5, qqr2o4_5, qqr2o7_5, qqr2o4_8, qqr2o4_6, qqr2o7_9, qqr2o7_8, qqr2o7_6, qqr2o7_10, rfl⟩
        skip
        replace hB3 := hB3.ext hxqr2o4_2
        replace hqr2o1_1 := hqr2o1_1.ext hxqr2o4_2
        replace hBqr2o8_1 := hBqr2o8_1.ext hxqr2o4_2
        replace hqr2o4_1 := hqr2o4_1.ext hxqr2o4_2
        have hEqr2o9_1 := Ext.trans hEqr2o4_2 hxqr2o4_2
        have qqr2o9_1 := bel_step qqr2o4_11 hxqr2o4_2
        refine o_storeB ha hBqr2o8_1 Tryd.sizeOf50 rfl rfl hqr2o1_1.cells hqr2o1_1.oneC (Nat.le_of_ble_eq_true rfl) ?_; intro wqr2o9_1 hBqr2o9_1 hcqr2o9_1
        replace hcqr2o9_1 := hcqr2o9_1.bl
        replace hBqr2o9_1 : Bx wqr2o9_1 bqr2o8_1 [vqr2o1_1] 50 := hBqr2o9_1
        replace hB3 := hB3.nq hcqr2o9_1 qqr2o8_3
        replace hqr2o1_1 := hqr2o1_1.nq hcqr2o9_1 qqr2o8_5
        replace hqr2o4_1 := hqr2o4_1.nq hcqr2o9_1 qqr2o4_8
        have hEqr2o9_2 := Ext.then hEqr2o9_1 hcqr2o9_1 (Zn.bl qqr2o8_7)
        refine wpList_nil (e_sq ?_)
        have hStqr2o9_1 : RowKit.Below w12.heap.size wqr2o4_2 wqr2o9_1 := chg_bel hcqr2o9_1 qqr2o9_1.size (Zn.bl qqr2o8_8)
        refine ⟨fun _ => hStqr2o9_1, ?_⟩
        have qqr2o9_2 := RowKit.Below.trans qqr2o9_1 hStqr2o9_1
        refine x_g 10 rfl (by kernel_rfl) (want0 _) ha rfl qqr2o9_2 (g_assign rfl) ?_; clear ha a; intro a ha
        refine x_only 7 rfl (by kernel_rfl) ?_; intro wqr2o7_1 hxqr2o7_1
        replace hB3 := hB3.ext hxqr2o7_1
        replace hqr2o1_1 := hqr2o1_1.ext hxqr2o7_1
        replace hBqr2o9_1 := hBqr2o9_1.ext hxqr2o7_1
        replace hqr2o4_1 := hqr2o4_1.ext hxqr2o7_1
        have hEqr2o7_1 := Ext.trans hEqr2o9_2 hxqr2o7_1
        have qqr2o7_1 := bel_step qqr2o9_2 hxqr2o7_1
        refine o_make (z0 := (0 : Int)) Rp.int ha rfl sl31 rfl (fun w => ⟨rfl, by decide, rfl⟩) rfl gqr2o7_1 gqr2o7_1b ?_; clear ha a; intro vqr2o7_1 wqr2o7_2 hqr2o7_1 hxqr2o7_2 a ha
        obtain ⟨bqr2o7_1, hbqr2o7_1⟩ : ∃ b : Int, b = wqr2o7_1.heap.size := ⟨_, rfl⟩; rw [← hbqr2o7_1] at hqr2o7_1
        have qqr2o7_2 := zn_of hbqr2o7_1
        have qqr2o7_3 := Nq.new hB3.fpb qqr2o7_2
        have qqr2o7_4 := Nq.madeO qqr2o7_2 hB3.bi
        have qqr2o7_5 := Nq.new hqr2o1_1.fpb qqr2o7_2
        have qqr2o7_6 := Nq.madeO qqr2o7_2 hqr2o1_1.blt
        have qqr2o7_7 := Nq.new hBqr2o9_1.fpb qqr2o7_2
        have qqr2o7_8 := Nq.madeO qqr2o7_2 hBqr2o9_1.bi
        have qqr2o7_9 := Nq.new hqr2o4_1.fpb qqr2o7_2
        have qqr2o7_10 := Nq.madeO qqr2o7_2 hqr2o4_1.blt
        have qqr2o7_11 := Zn.upD qqr2o7_2 hEqr2o7_1
        have qqr2o7_12 := Zn.upB qqr2o7_2 qqr2o7_1
        replace hB3 := hB3.ext hxqr2o7_2
        replace hqr2o1_1 := hqr2o1_1.ext hxqr2o7_2
        replace hBqr2o9_1 := hBqr2o9_1.ext hxqr2o7_2
        replace hqr2o4_1 := hqr2o4_1.ext hxqr2o7_2
        have hEqr2o7_2 := Ext.trans hEqr2o7_1 hxqr2o7_2
        refine wpList_nil (e_sq ?_)
        have hStqr2o7_1 : RowKit.Below w12.heap.size wqr2o7_1 wqr2o7_2 := ext_bel qqr2o7_1.size hxqr2o7_2
        refine ⟨fun _ => hStqr2o7_1, ?_⟩
        have qqr2o7_13 := RowKit.Below.trans qqr2o7_1 hStqr2o7_1
        refine x_g 11 rfl (by kernel_rfl) (want0 _) ha rfl qqr2o7_13 (g_assign rfl) ?_; clear ha a; intro a ha
        refine x_done (by kernel_rfl) ?_; intro w59 hx60
        replace hB3 := hB3.ext hx60
        replace hqr2o1_1 := hqr2o1_1.ext hx60
        replace hBqr2o9_1 := hBqr2o9_1.ext hx60
        replace hqr2o4_1 := hqr2o4_1.ext hx60
        replace hqr2o7_1 := hqr2o7_1.ext hx60
        have hE61 := Ext.trans hEqr2o7_2 hx60
        replace ha := ha.sub (σ' := [(1, va1), (5, (.pointer (some ⟨bqr2o8_1, 0, none⟩))), (6, vqr2o4_1), (7, vqr2o7_1)]) ⟨rfl, rfl, rfl, rfl, trivial⟩; refine e_sq ?_; obtain rfl := Option.some.inj hF
        exact ⟨xqr2o1_1, (List.replicate ((a1.length : Int) : Int).toNat (0 : BitVec 32)), (List.replicate ((a1.length : Int) : Int).toNat (0 : Int)), bqr2o8_1, vqr2o1_1, bqr2o1_1, vqr2o4_1, bqr2o4_1, vqr2o7_1, bqr2o7_1, ha.sub ⟨rfl, rfl, rfl, rfl, trivial⟩, hE61, hBqr2o9_1, qqr2o8_7, hqr2o1_1, qqr2o1_5, hqr2o4_1, qqr2o4_9, hqr2o7_1, qqr2o7_11, qqr2o8_6, qqr2o4_7, qqr2o7_7, qqr2o8_5, qqr2o4_5, qqr2o7_5, qqr2o4_8, qqr2o4_6, qqr2o7_9, qqr2o7_8, qqr2o7_6, qqr2o7_10, rfl⟩
      · skip
        replace hB3 := hB3.ext hxqr2o8_2
        replace hqr2o1_1 := hqr2o1_1.ext hxqr2o8_2
        replace hBqr2o8_1 := hBqr2o8_1.ext hxqr2o8_2
        have hEqr2o7_1 := Ext.trans hEqr2o8_2 hxqr2o8_2
        have qqr2o7_1 := bel_step qqr2o8_9 hxqr2o8_2
        refine o_make (z0 := (0 : Int)) Rp.int ha rfl sl31 rfl (fun w => ⟨rfl, by decide, rfl⟩) rfl gqr2o7_1 gqr2o7_1b ?_; clear ha a; intro vqr2o7_1 wqr2o7_1 hqr2o7_1 hxqr2o7_1 a ha
        obtain ⟨bqr2o7_1, hbqr2o7_1⟩ : ∃ b : Int, b = wqr2o8_2.heap.size := ⟨_, rfl⟩; rw [← hbqr2o7_1] at hqr2o7_1
        have qqr2o7_2 := zn_of hbqr2o7_1
        have qqr2o7_3 := Nq.new hB3.fpb qqr2o7_2
        have qqr2o7_4 := Nq.madeO qqr2o7_2 hB3.bi
        have qqr2o7_5 := Nq.new hqr2o1_1.fpb qqr2o7_2
        have qqr2o7_6 := Nq.madeO qqr2o7_2 hqr2o1_1.blt
        have qqr2o7_7 := Nq.new hBqr2o8_1.fpb qqr2o7_2
        have qqr2o7_8 := Nq.madeO qqr2o7_2 hBqr2o8_1.bi
        have qqr2o7_9 := Zn.upD qqr2o7_2 hEqr2o7_1
        have qqr2o7_10 := Zn.upB qqr2o7_2 qqr2o7_1
        replace hB3 := hB3.ext hxqr2o7_1
        replace hqr2o1_1 := hqr2o1_1.ext hxqr2o7_1
        replace hBqr2o8_1 := hBqr2o8_1.ext hxqr2o7_1
        have hEqr2o7_2 := Ext.trans hEqr2o7_1 hxqr2o7_1
        refine wpList_nil (e_sq ?_)
        have hStqr2o7_1 : RowKit.Below w12.heap.size wqr2o8_2 wqr2o7_1 := ext_bel qqr2o7_1.size hxqr2o7_1
        refine ⟨fun _ => hStqr2o7_1, ?_⟩
        have qqr2o7_11 := RowKit.Below.trans qqr2o7_1 hStqr2o7_1
        refine x_many [4, 9] (by kernel_rfl) rfl fun wqr2o7_2 hxqr2o7_2 => ⟨⟨_, rfl, ?_⟩, ⟨_, rfl, ?_⟩, trivial⟩
        · skip
          replace hB3 := hB3.ext hxqr2o7_2
          replace hqr2o1_1 := hqr2o1_1.ext hxqr2o7_2
          replace hBqr2o8_1 := hBqr2o8_1.ext hxqr2o7_2
          replace hqr2o7_1 := hqr2o7_1.ext hxqr2o7_2
          have hEqr2o4_1 := Ext.trans hEqr2o7_2 hxqr2o7_2
          have qqr2o4_1 := bel_step qqr2o7_11 hxqr2o7_2
          refine o_make (z0 := (0 : BitVec 32)) Rp.u32 ha rfl sl48 rfl (fun w => ⟨rfl, rfl⟩) rfl gqr2o4_1 gqr2o4_1b ?_; clear ha a; intro vqr2o4_1 wqr2o4_1 hqr2o4_1 hxqr2o4_1 a ha
          obtain ⟨bqr2o4_1, hbqr2o4_1⟩ : ∃ b : Int, b = wqr2o7_2.heap.size := ⟨_, rfl⟩; rw [← hbqr2o4_1] at hqr2o4_1
          have qqr2o4_2 := zn_of hbqr2o4_1
          have qqr2o4_3 := Nq.new hB3.fpb qqr2o4_2
          have qqr2o4_4 := Nq.madeO qqr2o4_2 hB3.bi
          have qqr2o4_5 := Nq.new hqr2o1_1.fpb qqr2o4_2
          have qqr2o4_6 := Nq.madeO qqr2o4_2 hqr2o1_1.blt
          have qqr2o4_7 := Nq.new hBqr2o8_1.fpb qqr2o4_2
          have qqr2o4_8 := Nq.madeO qqr2o4_2 hBqr2o8_1.bi
          have qqr2o4_9 := Nq.new hqr2o7_1.fpb qqr2o4_2
          have qqr2o4_10 := Nq.madeO qqr2o4_2 hqr2o7_1.blt
          have qqr2o4_11 := Zn.upD qqr2o4_2 hEqr2o4_1
          have qqr2o4_12 := Zn.upB qqr2o4_2 qqr2o4_1
          replace hB3 := hB3.ext hxqr2o4_1
          replace hqr2o1_1 := hqr2o1_1.ext hxqr2o4_1
          replace hBqr2o8_1 := hBqr2o8_1.ext hxqr2o4_1
          replace hqr2o7_1 := hqr2o7_1.ext hxqr2o4_1
          have hEqr2o4_2 := Ext.trans hEqr2o4_1 hxqr2o4_1
          refine wpList_nil (e_sq ?_)
          have hStqr2o4_1 : RowKit.Below w12.heap.size wqr2o7_2 wqr2o4_1 := ext_bel qqr2o4_1.size hxqr2o4_1
          refine ⟨fun _ => hStqr2o4_1, ?_⟩
          have qqr2o4_13 := RowKit.Below.trans qqr2o4_1 hStqr2o4_1
          refine x_only 9 rfl (by kernel_rfl) ?_; intro wqr2o9_1 hxqr2o9_1
          replace hB3 := hB3.ext hxqr2o9_1
          replace hqr2o1_1 := hqr2o1_1.ext hxqr2o9_1
          replace hBqr2o8_1 := hBqr2o8_1.ext hxqr2o9_1
          replace hqr2o7_1 := hqr2o7_1.ext hxqr2o9_1
          replace hqr2o4_1 := hqr2o4_1.ext hxqr2o9_1
          have hEqr2o9_1 := Ext.trans hEqr2o4_2 hxqr2o9_1
          have qqr2o9_1 := bel_step qqr2o4_13 hxqr2o9_1
          refine o_storeB ha hBqr2o8_1 Tryd.sizeOf50 rfl rfl hqr2o1_1.cells hqr2o1_1.oneC (Nat.le_of_ble_eq_true rfl) ?_; intro wqr2o9_2 hBqr2o9_1 hcqr2o9_1
          replace hcqr2o9_1 := hcqr2o9_1.bl
          replace hBqr2o9_1 : Bx wqr2o9_2 bqr2o8_1 [vqr2o1_1] 50 := hBqr2o9_1
          replace hB3 := hB3.nq hcqr2o9_1 qqr2o8_3
          replace hqr2o1_1 := hqr2o1_1.nq hcqr2o9_1 qqr2o8_5
          replace hqr2o7_1 := hqr2o7_1.nq hcqr2o9_1 qqr2o7_8
          replace hqr2o4_1 := hqr2o4_1.nq hcqr2o9_1 qqr2o4_8
          have hEqr2o9_2 := Ext.then hEqr2o9_1 hcqr2o9_1 (Zn.bl qqr2o8_7)
          refine wpList_nil (e_sq ?_)
          have hStqr2o9_1 : RowKit.Below w12.heap.size wqr2o9_1 wqr2o9_2 := chg_bel hcqr2o9_1 qqr2o9_1.size (Zn.bl qqr2o8_8)
          refine ⟨fun _ => hStqr2o9_1, ?_⟩
          have qqr2o9_2 := RowKit.Below.trans qqr2o9_1 hStqr2o9_1
          refine x_g 10 rfl (by kernel_rfl) (want0 _) ha rfl qqr2o9_2 (g_assign rfl) ?_; clear ha a; intro a ha; refine x_g 11 rfl (by kernel_rfl) (want0 _) ha rfl qqr2o9_2 (g_assign rfl) ?_; clear ha a; intro a ha
          refine x_done (by kernel_rfl) ?_; intro w59 hx60
          replace hB3 := hB3.ext hx60
          replace hqr2o1_1 := hqr2o1_1.ext hx60
          replace hBqr2o9_1 := hBqr2o9_1.ext hx60
          replace hqr2o7_1 := hqr2o7_1.ext hx60
          replace hqr2o4_1 := hqr2o4_1.ext hx60
          have hE61 := Ext.trans hEqr2o9_2 hx60
          replace ha := ha.sub (σ' := [(1, va1), (5, (.pointer (some ⟨bqr2o8_1, 0, none⟩))), (6, vqr2o4_1), (7, vqr2o7_1)]) ⟨rfl, rfl, rfl, rfl, trivial⟩; refine e_sq ?_; obtain rfl := Option.some.inj hF
          exact ⟨xqr2o1_1, (List.replicate ((a1.length : Int) : Int).toNat (0 : BitVec 32)), (List.replicate ((a1.length : Int) : Int).toNat (0 : Int)), bqr2o8_1, vqr2o1_1, bqr2o1_1, vqr2o4_1, bqr2o4_1, vqr2o7_1, bqr2o7_1, ha.sub ⟨rfl, rfl, rfl, rfl, trivial⟩, hE61, hBqr2o9_1, qqr2o8_7, hqr2o1_1, qqr2o1_5, hqr2o4_1, qqr2o4_11, hqr2o7_1, qqr2o7_9, qqr2o8_6, qqr2o4_7, qqr2o7_7, qqr2o8_5, qqr2o4_5, qqr2o7_5, qqr2o4_8, qqr2o4_6, qqr2o4_10, qqr2o7_8, qqr2o7_6, qqr2o4_9, rfl⟩
        skip
        replace hB3 := hB3.ext hxqr2o7_2
        replace hqr2o1_1 := hqr2o1_1.ext hxqr2o7_2
        replace hBqr2o8_1 := hBqr2o8_1.ext hxqr2o7_2
        replace hqr2o7_1 := hqr2o7_1.ext hxqr2o7_2
        have hEqr2o9_1 := Ext.trans hEqr2o7_2 hxqr2o7_2
        have qqr2o9_1 := bel_step qqr2o7_11 hxqr2o7_2
        refine o_storeB ha hBqr2o8_1 Tryd.sizeOf50 rfl rfl hqr2o1_1.cells hqr2o1_1.oneC (Nat.le_of_ble_eq_true rfl) ?_; intro wqr2o9_1 hBqr2o9_1 hcqr2o9_1
        replace hcqr2o9_1 := hcqr2o9_1.bl
        replace hBqr2o9_1 : Bx wqr2o9_1 bqr2o8_1 [vqr2o1_1] 50 := hBqr2o9_1
        replace hB3 := hB3.nq hcqr2o9_1 qqr2o8_3
        replace hqr2o1_1 := hqr2o1_1.nq hcqr2o9_1 qqr2o8_5
        replace hqr2o7_1 := hqr2o7_1.nq hcqr2o9_1 qqr2o7_8
        have hEqr2o9_2 := Ext.then hEqr2o9_1 hcqr2o9_1 (Zn.bl qqr2o8_7)
        refine wpList_nil (e_sq ?_)
        have hStqr2o9_1 : RowKit.Below w12.heap.size wqr2o7_2 wqr2o9_1 := chg_bel hcqr2o9_1 qqr2o9_1.size (Zn.bl qqr2o8_8)
        refine ⟨fun _ => hStqr2o9_1, ?_⟩
        have qqr2o9_2 := RowKit.Below.trans qqr2o9_1 hStqr2o9_1
        refine x_only 4 rfl (by kernel_rfl) ?_; intro wqr2o4_1 hxqr2o4_1
        replace hB3 := hB3.ext hxqr2o4_1
        replace hqr2o1_1 := hqr2o1_1.ext hxqr2o4_1
        replace hBqr2o9_1 := hBqr2o9_1.ext hxqr2o4_1
        replace hqr2o7_1 := hqr2o7_1.ext hxqr2o4_1
        have hEqr2o4_1 := Ext.trans hEqr2o9_2 hxqr2o4_1
        have qqr2o4_1 := bel_step qqr2o9_2 hxqr2o4_1
        refine o_make (z0 := (0 : BitVec 32)) Rp.u32 ha rfl sl48 rfl (fun w => ⟨rfl, rfl⟩) rfl gqr2o4_1 gqr2o4_1b ?_; clear ha a; intro vqr2o4_1 wqr2o4_2 hqr2o4_1 hxqr2o4_2 a ha
        obtain ⟨bqr2o4_1, hbqr2o4_1⟩ : ∃ b : Int, b = wqr2o4_1.heap.size := ⟨_, rfl⟩; rw [← hbqr2o4_1] at hqr2o4_1
        have qqr2o4_2 := zn_of hbqr2o4_1
        have qqr2o4_3 := Nq.new hB3.fpb qqr2o4_2
        have qqr2o4_4 := Nq.madeO qqr2o4_2 hB3.bi
        have qqr2o4_5 := Nq.new hqr2o1_1.fpb qqr2o4_2
        have qqr2o4_6 := Nq.madeO qqr2o4_2 hqr2o1_1.blt
        have qqr2o4_7 := Nq.new hBqr2o9_1.fpb qqr2o4_2
        have qqr2o4_8 := Nq.madeO qqr2o4_2 hBqr2o9_1.bi
        have qqr2o4_9 := Nq.new hqr2o7_1.fpb qqr2o4_2
        have qqr2o4_10 := Nq.madeO qqr2o4_2 hqr2o7_1.blt
        have qqr2o4_11 := Zn.upD qqr2o4_2 hEqr2o4_1
        have qqr2o4_12 := Zn.upB qqr2o4_2 qqr2o4_1
        replace hB3 := hB3.ext hxqr2o4_2
        replace hqr2o1_1 := hqr2o1_1.ext hxqr2o4_2
        replace hBqr2o9_1 := hBqr2o9_1.ext hxqr2o4_2
        replace hqr2o7_1 := hqr2o7_1.ext hxqr2o4_2
        have hEqr2o4_2 := Ext.trans hEqr2o4_1 hxqr2o4_2
        refine wpList_nil (e_sq ?_)
        have hStqr2o4_1 : RowKit.Below w12.heap.size wqr2o4_1 wqr2o4_2 := ext_bel qqr2o4_1.size hxqr2o4_2
        refine ⟨fun _ => hStqr2o4_1, ?_⟩
        have qqr2o4_13 := RowKit.Below.trans qqr2o4_1 hStqr2o4_1
        refine x_g 10 rfl (by kernel_rfl) (want0 _) ha rfl qqr2o4_13 (g_assign rfl) ?_; clear ha a; intro a ha; refine x_g 11 rfl (by kernel_rfl) (want0 _) ha rfl qqr2o4_13 (g_assign rfl) ?_; clear ha a; intro a ha
        refine x_done (by kernel_rfl) ?_; intro w59 hx60
        replace hB3 := hB3.ext hx60
        replace hqr2o1_1 := hqr2o1_1.ext hx60
        replace hBqr2o9_1 := hBqr2o9_1.ext hx60
        replace hqr2o7_1 := hqr2o7_1.ext hx60
        replace hqr2o4_1 := hqr2o4_1.ext hx60
        have hE61 := Ext.trans hEqr2o4_2 hx60
        replace ha := ha.sub (σ' := [(1, va1), (5, (.pointer (some ⟨bqr2o8_1, 0, none⟩))), (6, vqr2o4_1), (7, vqr2o7_1)]) ⟨rfl, rfl, rfl, rfl, trivial⟩; refine e_sq ?_; obtain rfl := Option.some.inj hF
        exact ⟨xqr2o1_1, (List.replicate ((a1.length : Int) : Int).toNat (0 : BitVec 32)), (List.replicate ((a1.length : Int) : Int).toNat (0 : Int)), bqr2o8_1, vqr2o1_1, bqr2o1_1, vqr2o4_1, bqr2o4_1, vqr2o7_1, bqr2o7_1, ha.sub ⟨rfl, rfl, rfl, rfl, trivial⟩, hE61, hBqr2o9_1, qqr2o8_7, hqr2o1_1, qqr2o1_5, hqr2o4_1, qqr2o4_11, hqr2o7_1, qqr2o7_9, qqr2o8_6, qqr2o4_7, qqr2o7_7, qqr2o8_5, qqr2o4_5, qqr2o7_5, qqr2o4_8, qqr2o4_6, qqr2o4_10, qqr2o7_8, qqr2o7_6, qqr2o4_9, rfl⟩
      skip
      replace hB3 := hB3.ext hxqr2o8_2
      replace hqr2o1_1 := hqr2o1_1.ext hxqr2o8_2
      replace hBqr2o8_1 := hBqr2o8_1.ext hxqr2o8_2
      have hEqr2o9_1 := Ext.trans hEqr2o8_2 hxqr2o8_2
      have qqr2o9_1 := bel_step qqr2o8_9 hxqr2o8_2
      refine o_storeB ha hBqr2o8_1 Tryd.sizeOf50 rfl rfl hqr2o1_1.cells hqr2o1_1.oneC (Nat.le_of_ble_eq_true rfl) ?_; intro wqr2o9_1 hBqr2o9_1 hcqr2o9_1
      replace hcqr2o9_1 := hcqr2o9_1.bl
      replace hBqr2o9_1 : Bx wqr2o9_1 bqr2o8_1 [vqr2o1_1] 50 := hBqr2o9_1
      replace hB3 := hB3.nq hcqr2o9_1 qqr2o8_3
      replace hqr2o1_1 := hqr2o1_1.nq hcqr2o9_1 qqr2o8_5
      have hEqr2o9_2 := Ext.then hEqr2o9_1 hcqr2o9_1 (Zn.bl qqr2o8_7)
      refine wpList_nil (e_sq ?_)
      have hStqr2o9_1 : RowKit.Below w12.heap.size wqr2o8_2 wqr2o9_1 := chg_bel hcqr2o9_1 qqr2o9_1.size (Zn.bl qqr2o8_8)
      refine ⟨fun _ => hStqr2o9_1, ?_⟩
      have qqr2o9_2 := RowKit.Below.trans qqr2o9_1 hStqr2o9_1
      refine x_many [4, 7] (by kernel_rfl) rfl fun wqr2o9_2 hxqr2o9_1 => ⟨⟨_, rfl, ?_⟩, ⟨_, rfl, ?_⟩, trivial⟩
      · skip
        replace hB3 := hB3.ext hxqr2o9_1
        replace hqr2o1_1 := hqr2o1_1.ext hxqr2o9_1
        replace hBqr2o9_1 := hBqr2o9_1.ext hxqr2o9_1
        have hEqr2o4_1 := Ext.trans hEqr2o9_2 hxqr2o9_1
        have qqr2o4_1 := bel_step qqr2o9_2 hxqr2o9_1
        refine o_make (z0 := (0 : BitVec 32)) Rp.u32 ha rfl sl48 rfl (fun w => ⟨rfl, rfl⟩) rfl gqr2o4_1 gqr2o4_1b ?_; clear ha a; intro vqr2o4_1 wqr2o4_1 hqr2o4_1 hxqr2o4_1 a ha
        obtain ⟨bqr2o4_1, hbqr2o4_1⟩ : ∃ b : Int, b = wqr2o9_2.heap.size := ⟨_, rfl⟩; rw [← hbqr2o4_1] at hqr2o4_1
        have qqr2o4_2 := zn_of hbqr2o4_1
        have qqr2o4_3 := Nq.new hB3.fpb qqr2o4_2
        have qqr2o4_4 := Nq.madeO qqr2o4_2 hB3.bi
        have qqr2o4_5 := Nq.new hqr2o1_1.fpb qqr2o4_2
        have qqr2o4_6 := Nq.madeO qqr2o4_2 hqr2o1_1.blt
        have qqr2o4_7 := Nq.new hBqr2o9_1.fpb qqr2o4_2
        have qqr2o4_8 := Nq.madeO qqr2o4_2 hBqr2o9_1.bi
        have qqr2o4_9 := Zn.upD qqr2o4_2 hEqr2o4_1
        have qqr2o4_10 := Zn.upB qqr2o4_2 qqr2o4_1
        replace hB3 := hB3.ext hxqr2o4_1
        replace hqr2o1_1 := hqr2o1_1.ext hxqr2o4_1
        replace hBqr2o9_1 := hBqr2o9_1.ext hxqr2o4_1
        have hEqr2o4_2 := Ext.trans hEqr2o4_1 hxqr2o4_1
        refine wpList_nil (e_sq ?_)
        have hStqr2o4_1 : RowKit.Below w12.heap.size wqr2o9_2 wqr2o4_1 := ext_bel qqr2o4_1.size hxqr2o4_1
        refine ⟨fun _ => hStqr2o4_1, ?_⟩
        have qqr2o4_11 := RowKit.Below.trans qqr2o4_1 hStqr2o4_1
        refine x_g 10 rfl (by kernel_rfl) (want0 _) ha rfl qqr2o4_11 (g_assign rfl) ?_; clear ha a; intro a ha
        refine x_only 7 rfl (by kernel_rfl) ?_; intro wqr2o7_1 hxqr2o7_1
        replace hB3 := hB3.ext hxqr2o7_1
        replace hqr2o1_1 := hqr2o1_1.ext hxqr2o7_1
        replace hBqr2o9_1 := hBqr2o9_1.ext hxqr2o7_1
        replace hqr2o4_1 := hqr2o4_1.ext hxqr2o7_1
        have hEqr2o7_1 := Ext.trans hEqr2o4_2 hxqr2o7_1
        have qqr2o7_1 := bel_step qqr2o4_11 hxqr2o7_1
        refine o_make (z0 := (0 : Int)) Rp.int ha rfl sl31 rfl (fun w => ⟨rfl, by decide, rfl⟩) rfl gqr2o7_1 gqr2o7_1b ?_; clear ha a; intro vqr2o7_1 wqr2o7_2 hqr2o7_1 hxqr2o7_2 a ha
        obtain ⟨bqr2o7_1, hbqr2o7_1⟩ : ∃ b : Int, b = wqr2o7_1.heap.size := ⟨_, rfl⟩; rw [← hbqr2o7_1] at hqr2o7_1
        have qqr2o7_2 := zn_of hbqr2o7_1
        have qqr2o7_3 := Nq.new hB3.fpb qqr2o7_2
        have qqr2o7_4 := Nq.madeO qqr2o7_2 hB3.bi
        have qqr2o7_5 := Nq.new hqr2o1_1.fpb qqr2o7_2
        have qqr2o7_6 := Nq.madeO qqr2o7_2 hqr2o1_1.blt
        have qqr2o7_7 := Nq.new hBqr2o9_1.fpb qqr2o7_2
        have qqr2o7_8 := Nq.madeO qqr2o7_2 hBqr2o9_1.bi
        have qqr2o7_9 := Nq.new hqr2o4_1.fpb qqr2o7_2
        have qqr2o7_10 := Nq.madeO qqr2o7_2 hqr2o4_1.blt
        have qqr2o7_11 := Zn.upD qqr2o7_2 hEqr2o7_1
        have qqr2o7_12 := Zn.upB qqr2o7_2 qqr2o7_1
        replace hB3 := hB3.ext hxqr2o7_2
        replace hqr2o1_1 := hqr2o1_1.ext hxqr2o7_2
        replace hBqr2o9_1 := hBqr2o9_1.ext hxqr2o7_2
        replace hqr2o4_1 := hqr2o4_1.ext hxqr2o7_2
        have hEqr2o7_2 := Ext.trans hEqr2o7_1 hxqr2o7_2
        refine wpList_nil (e_sq ?_)
        have hStqr2o7_1 : RowKit.Below w12.heap.size wqr2o7_1 wqr2o7_2 := ext_bel qqr2o7_1.size hxqr2o7_2
        refine ⟨fun _ => hStqr2o7_1, ?_⟩
        have qqr2o7_13 := RowKit.Below.trans qqr2o7_1 hStqr2o7_1
        refine x_g 11 rfl (by kernel_rfl) (want0 _) ha rfl qqr2o7_13 (g_assign rfl) ?_; clear ha a; intro a ha
        refine x_done (by kernel_rfl) ?_; intro w59 hx60
        replace hB3 := hB3.ext hx60
        replace hqr2o1_1 := hqr2o1_1.ext hx60
        replace hBqr2o9_1 := hBqr2o9_1.ext hx60
        replace hqr2o4_1 := hqr2o4_1.ext hx60
        replace hqr2o7_1 := hqr2o7_1.ext hx60
        have hE61 := Ext.trans hEqr2o7_2 hx60
        replace ha := ha.sub (σ' := [(1, va1), (5, (.pointer (some ⟨bqr2o8_1, 0, none⟩))), (6, vqr2o4_1), (7, vqr2o7_1)]) ⟨rfl, rfl, rfl, rfl, trivial⟩; refine e_sq ?_; obtain rfl := Option.some.inj hF
        exact ⟨xqr2o1_1, (List.replicate ((a1.length : Int) : Int).toNat (0 : BitVec 32)), (List.replicate ((a1.length : Int) : Int).toNat (0 : Int)), bqr2o8_1, vqr2o1_1, bqr2o1_1, vqr2o4_1, bqr2o4_1, vqr2o7_1, bqr2o7_1, ha.sub ⟨rfl, rfl, rfl, rfl, trivial⟩, hE61, hBqr2o9_1, qqr2o8_7, hqr2o1_1, qqr2o1_5, hqr2o4_1, qqr2o4_9, hqr2o7_1, qqr2o7_11, qqr2o8_6, qqr2o4_7, qqr2o7_7, qqr2o8_5, qqr2o4_5, qqr2o7_5, qqr2o4_8, qqr2o4_6, qqr2o7_9, qqr2o7_8, qqr2o7_6, qqr2o7_10, rfl⟩
      skip
      replace hB3 := hB3.ext hxqr2o9_1
      replace hqr2o1_1 := hqr2o1_1.ext hxqr2o9_1
      replace hBqr2o9_1 := hBqr2o9_1.ext hxqr2o9_1
      have hEqr2o7_1 := Ext.trans hEqr2o9_2 hxqr2o9_1
      have qqr2o7_1 := bel_step qqr2o9_2 hxqr2o9_1
      refine o_make (z0 := (0 : Int)) Rp.int ha rfl sl31 rfl (fun w => ⟨rfl, by decide, rfl⟩) rfl gqr2o7_1 gqr2o7_1b ?_; clear ha a; intro vqr2o7_1 wqr2o7_1 hqr2o7_1 hxqr2o7_1 a ha
      obtain ⟨bqr2o7_1, hbqr2o7_1⟩ : ∃ b : Int, b = wqr2o9_2.heap.size := ⟨_, rfl⟩; rw [← hbqr2o7_1] at hqr2o7_1
      have qqr2o7_2 := zn_of hbqr2o7_1
      have qqr2o7_3 := Nq.new hB3.fpb qqr2o7_2
      have qqr2o7_4 := Nq.madeO qqr2o7_2 hB3.bi
      have qqr2o7_5 := Nq.new hqr2o1_1.fpb qqr2o7_2
      have qqr2o7_6 := Nq.madeO qqr2o7_2 hqr2o1_1.blt
      have qqr2o7_7 := Nq.new hBqr2o9_1.fpb qqr2o7_2
      have qqr2o7_8 := Nq.madeO qqr2o7_2 hBqr2o9_1.bi
      have qqr2o7_9 := Zn.upD qqr2o7_2 hEqr2o7_1
      have qqr2o7_10 := Zn.upB qqr2o7_2 qqr2o7_1
      replace hB3 := hB3.ext hxqr2o7_1
      replace hqr2o1_1 := hqr2o1_1.ext hxqr2o7_1
      replace hBqr2o9_1 := hBqr2o9_1.ext hxqr2o7_1
      have hEqr2o7_2 := Ext.trans hEqr2o7_1 hxqr2o7_1
      refine wpList_nil (e_sq ?_)
      have hStqr2o7_1 : RowKit.Below w12.heap.size wqr2o9_2 wqr2o7_1 := ext_bel qqr2o7_1.size hxqr2o7_1
      refine ⟨fun _ => hStqr2o7_1, ?_⟩
      have qqr2o7_11 := RowKit.Below.trans qqr2o7_1 hStqr2o7_1
      refine x_only 4 rfl (by kernel_rfl) ?_; intro wqr2o4_1 hxqr2o4_1
      replace hB3 := hB3.ext hxqr2o4_1
      replace hqr2o1_1 := hqr2o1_1.ext hxqr2o4_1
      replace hBqr2o9_1 := hBqr2o9_1.ext hxqr2o4_1
      replace hqr2o7_1 := hqr2o7_1.ext hxqr2o4_1
      have hEqr2o4_1 := Ext.trans hEqr2o7_2 hxqr2o4_1
      have qqr2o4_1 := bel_step qqr2o7_11 hxqr2o4_1
      refine o_make (z0 := (0 : BitVec 32)) Rp.u32 ha rfl sl48 rfl (fun w => ⟨rfl, rfl⟩) rfl gqr2o4_1 gqr2o4_1b ?_; clear ha a; intro vqr2o4_1 wqr2o4_2 hqr2o4_1 hxqr2o4_2 a ha
      obtain ⟨bqr2o4_1, hbqr2o4_1⟩ : ∃ b : Int, b = wqr2o4_1.heap.size := ⟨_, rfl⟩; rw [← hbqr2o4_1] at hqr2o4_1
      have qqr2o4_2 := zn_of hbqr2o4_1
      have qqr2o4_3 := Nq.new hB3.fpb qqr2o4_2
      have qqr2o4_4 := Nq.madeO qqr2o4_2 hB3.bi
      have qqr2o4_5 := Nq.new hqr2o1_1.fpb qqr2o4_2
      have qqr2o4_6 := Nq.madeO qqr2o4_2 hqr2o1_1.blt
      have qqr2o4_7 := Nq.new hBqr2o9_1.fpb qqr2o4_2
      have qqr2o4_8 := Nq.madeO qqr2o4_2 hBqr2o9_1.bi
      have qqr2o4_9 := Nq.new hqr2o7_1.fpb qqr2o4_2
      have qqr2o4_10 := Nq.madeO qqr2o4_2 hqr2o7_1.blt
      have qqr2o4_11 := Zn.upD qqr2o4_2 hEqr2o4_1
      have qqr2o4_12 := Zn.upB qqr2o4_2 qqr2o4_1
      replace hB3 := hB3.ext hxqr2o4_2
      replace hqr2o1_1 := hqr2o1_1.ext hxqr2o4_2
      replace hBqr2o9_1 := hBqr2o9_1.ext hxqr2o4_2
      replace hqr2o7_1 := hqr2o7_1.ext hxqr2o4_2
      have hEqr2o4_2 := Ext.trans hEqr2o4_1 hxqr2o4_2
      refine wpList_nil (e_sq ?_)
      have hStqr2o4_1 : RowKit.Below w12.heap.size wqr2o4_1 wqr2o4_2 := ext_bel qqr2o4_1.size hxqr2o4_2
      refine ⟨fun _ => hStqr2o4_1, ?_⟩
      have qqr2o4_13 := RowKit.Below.trans qqr2o4_1 hStqr2o4_1
      refine x_g 10 rfl (by kernel_rfl) (want0 _) ha rfl qqr2o4_13 (g_assign rfl) ?_; clear ha a; intro a ha; refine x_g 11 rfl (by kernel_rfl) (want0 _) ha rfl qqr2o4_13 (g_assign rfl) ?_; clear ha a; intro a ha
      refine x_done (by kernel_rfl) ?_; intro w59 hx60
      replace hB3 := hB3.ext hx60
      replace hqr2o1_1 := hqr2o1_1.ext hx60
      replace hBqr2o9_1 := hBqr2o9_1.ext hx60
      replace hqr2o7_1 := hqr2o7_1.ext hx60
      replace hqr2o4_1 := hqr2o4_1.ext hx60
      have hE61 := Ext.trans hEqr2o4_2 hx60
      replace ha := ha.sub (σ' := [(1, va1), (5, (.pointer (some ⟨bqr2o8_1, 0, none⟩))), (6, vqr2o4_1), (7, vqr2o7_1)]) ⟨rfl, rfl, rfl, rfl, trivial⟩; refine e_sq ?_; obtain rfl := Option.some.inj hF
      exact ⟨xqr2o1_1, (List.replicate ((a1.length : Int) : Int).toNat (0 : BitVec 32)), (List.replicate ((a1.length : Int) : Int).toNat (0 : Int)), bqr2o8_1, vqr2o1_1, bqr2o1_1, vqr2o4_1, bqr2o4_1, vqr2o7_1, bqr2o7_1, ha.sub ⟨rfl, rfl, rfl, rfl, trivial⟩, hE61, hBqr2o9_1, qqr2o8_7, hqr2o1_1, qqr2o1_5, hqr2o4_1, qqr2o4_11, hqr2o7_1, qqr2o7_9, qqr2o8_6, qqr2o4_7, qqr2o7_7, qqr2o8_5, qqr2o4_5, qqr2o7_5, qqr2o4_8, qqr2o4_6, qqr2o4_10, qqr2o7_8, qqr2o7_6, qqr2o4_9, rfl⟩
    · skip
      replace hB3 := hB3.ext hxqr2_1
      have hEqr2o4_1 := Ext.trans hE14 hxqr2_1
      have qqr2o4_1 := bel_step hS58 hxqr2_1
      refine o_make (z0 := (0 : BitVec 32)) Rp.u32 ha rfl sl48 rfl (fun w => ⟨rfl, rfl⟩) rfl gqr2o4_1 gqr2o4_1b ?_; clear ha a; intro vqr2o4_1 wqr2o4_1 hqr2o4_1 hxqr2o4_1 a ha
      obtain ⟨bqr2o4_1, hbqr2o4_1⟩ : ∃ b : Int, b = wqr2_1.heap.size := ⟨_, rfl⟩; rw [← hbqr2o4_1] at hqr2o4_1
      have qqr2o4_2 := zn_of hbqr2o4_1
      have qqr2o4_3 := Nq.new hB3.fpb qqr2o4_2
      have qqr2o4_4 := Nq.madeO qqr2o4_2 hB3.bi
      have qqr2o4_5 := Zn.upD qqr2o4_2 hEqr2o4_1
      have qqr2o4_6 := Zn.upB qqr2o4_2 qqr2o4_1
      replace hB3 := hB3.ext hxqr2o4_1
      have hEqr2o4_2 := Ext.trans hEqr2o4_1 hxqr2o4_1
      refine wpList_nil (e_sq ?_)
      have hStqr2o4_1 : RowKit.Below w12.heap.size wqr2_1 wqr2o4_1 := ext_bel qqr2o4_1.size hxqr2o4_1
      refine ⟨fun _ => hStqr2o4_1, ?_⟩
      have qqr2o4_7 := RowKit.Below.trans qqr2o4_1 hStqr2o4_1
      refine x_many [1, 7, 8] (by kernel_rfl) rfl fun wqr2o4_2 hxqr2o4_2 => ⟨⟨_, rfl, ?_⟩, ⟨_, rfl, ?_⟩, ⟨_, rfl, ?_⟩, trivial⟩
      · skip
        replace hB3 := hB3.ext hxqr2o4_2
        replace hqr2o4_1 := hqr2o4_1.ext hxqr2o4_2
        have hEqr2o1_1 := Ext.trans hEqr2o4_2 hxqr2o4_2
        have qqr2o1_1 := bel_step qqr2o4_7 hxqr2o4_2
        refine o_call ha rfl rfl Tryd.call31 (W_impl_netsOf (ha0_0.ext hEqr2o1_1) hcqr2o1_1) ?_; clear ha a; rintro vqr2o1_1 wqr2o1_1 ⟨bqr2o1_1, hqr2o1_1, zqr2o1_1, hxqr2o1_1⟩ a ha
        have qqr2o1_2 := Zn.upB zqr2o1_1 qqr2o1_1
        have qqr2o1_3 := Nq.new hB3.fpb zqr2o1_1
        have qqr2o1_4 := Nq.madeO zqr2o1_1 hB3.bi
        have qqr2o1_5 := Nq.new hqr2o4_1.fpb zqr2o1_1
        have qqr2o1_6 := Nq.madeO zqr2o1_1 hqr2o4_1.blt
        replace hB3 := hB3.ext hxqr2o1_1
        replace hqr2o4_1 := hqr2o4_1.ext hxqr2o1_1
        have hEqr2o1_2 := Ext.trans hEqr2o1_1 hxqr2o1_1
        have qqr2o1_7 := Zn.upD zqr2o1_1 hEqr2o1_1
        refine wpList_nil (e_sq ?_)
        have hStqr2o1_1 : RowKit.Below w12.heap.size wqr2o4_2 wqr2o1_1 := ext_bel qqr2o1_1.size hxqr2o1_1
        refine ⟨fun _ => hStqr2o1_1, ?_⟩
        have qqr2o1_8 := RowKit.Below.trans qqr2o1_1 hStqr2o1_1
        refine x_many [7, 8] (by kernel_rfl) rfl fun wqr2o1_2 hxqr2o1_2 => ⟨⟨_, rfl, ?_⟩, ⟨_, rfl, ?_⟩, trivial⟩
        · skip
          replace hB3 := hB3.ext hxqr2o1_2
          replace hqr2o4_1 := hqr2o4_1.ext hxqr2o1_2
          replace hqr2o1_1 := hqr2o1_1.ext hxqr2o1_2
          have hEqr2o7_1 := Ext.trans hEqr2o1_2 hxqr2o1_2
          have qqr2o7_1 := bel_step qqr2o1_8 hxqr2o1_2
          refine o_make (z0 := (0 : Int)) Rp.int ha rfl sl31 rfl (fun w => ⟨rfl, by decide, rfl⟩) rfl gqr2o7_1 gqr2o7_1b ?_; clear ha a; intro vqr2o7_1 wqr2o7_1 hqr2o7_1 hxqr2o7_1 a ha
          obtain ⟨bqr2o7_1, hbqr2o7_1⟩ : ∃ b : Int, b = wqr2o1_2.heap.size := ⟨_, rfl⟩; rw [← hbqr2o7_1] at hqr2o7_1
          have qqr2o7_2 := zn_of hbqr2o7_1
          have qqr2o7_3 := Nq.new hB3.fpb qqr2o7_2
          have qqr2o7_4 := Nq.madeO qqr2o7_2 hB3.bi
          have qqr2o7_5 := Nq.new hqr2o4_1.fpb qqr2o7_2
          have qqr2o7_6 := Nq.madeO qqr2o7_2 hqr2o4_1.blt
          have qqr2o7_7 := Nq.new hqr2o1_1.fpb qqr2o7_2
          have qqr2o7_8 := Nq.madeO qqr2o7_2 hqr2o1_1.blt
          have qqr2o7_9 := Zn.upD qqr2o7_2 hEqr2o7_1
          have qqr2o7_10 := Zn.upB qqr2o7_2 qqr2o7_1
          replace hB3 := hB3.ext hxqr2o7_1
          replace hqr2o4_1 := hqr2o4_1.ext hxqr2o7_1
          replace hqr2o1_1 := hqr2o1_1.ext hxqr2o7_1
          have hEqr2o7_2 := Ext.trans hEqr2o7_1 hxqr2o7_1
          refine wpList_nil (e_sq ?_)
          have hStqr2o7_1 : RowKit.Below w12.heap.size wqr2o1_2 wqr2o7_1 := ext_bel qqr2o7_1.size hxqr2o7_1
          refine ⟨fun _ => hStqr2o7_1, ?_⟩
          have qqr2o7_11 := RowKit.Below.trans qqr2o7_1 hStqr2o7_1
          refine x_only 8 rfl (by kernel_rfl) ?_; intro wqr2o8_1 hxqr2o8_1
          replace hB3 := hB3.ext hxqr2o8_1
          replace hqr2o4_1 := hqr2o4_1.ext hxqr2o8_1
          replace hqr2o1_1 := hqr2o1_1.ext hxqr2o8_1
          replace hqr2o7_1 := hqr2o7_1.ext hxqr2o8_1
          have hEqr2o8_1 := Ext.trans hEqr2o7_2 hxqr2o8_1
          have qqr2o8_1 := bel_step qqr2o7_11 hxqr2o8_1
          refine o_alloc (cs := [(.slice none 0 0)]) ha rfl Tryd.zeroValue50 rfl ?_; clear ha a; intro bqr2o8_1 wqr2o8_2 hBqr2o8_1 hxqr2o8_2 hloqr2o8_1 a ha
          have qqr2o8_2 := Zn.one hloqr2o8_1
          have qqr2o8_3 := Nq.new hB3.fpb qqr2o8_2
          have qqr2o8_4 := Nq.made1 hloqr2o8_1 hB3.bi
          have qqr2o8_5 := Nq.new hqr2o4_1.fpb qqr2o8_2
          have qqr2o8_6 := Nq.made1 hloqr2o8_1 hqr2o4_1.blt
          have qqr2o8_7 := Nq.new hqr2o1_1.fpb qqr2o8_2
          have qqr2o8_8 := Nq.made1 hloqr2o8_1 hqr2o1_1.blt
          have qqr2o8_9 := Nq.new hqr2o7_1.fpb qqr2o8_2
          have qqr2o8_10 := Nq.made1 hloqr2o8_1 hqr2o7_1.blt
          have qqr2o8_11 := Zn.upD qqr2o8_2 hEqr2o8_1
          have qqr2o8_12 := Zn.upB qqr2o8_2 qqr2o8_1
          replace hB3 := hB3.ext hxqr2o8_2
          replace hqr2o4_1 := hqr2o4_1.ext hxqr2o8_2
          replace hqr2o1_1 := hqr2o1_1.ext hxqr2o8_2
          replace hqr2o7_1 := hqr2o7_1.ext hxqr2o8_2
          have hEqr2o8_2 := Ext.trans hEqr2o8_1 hxqr2o8_2
          refine wpList_nil (e_sq ?_)
          have hStqr2o8_1 : RowKit.Below w12.heap.size wqr2o8_1 wqr2o8_2 := ext_bel qqr2o8_1.size hxqr2o8_2
          refine ⟨fun _ => hStqr2o8_1, ?_⟩
          have qqr2o8_13 := RowKit.Below.trans qqr2o8_1 hStqr2o8_1
          refine x_only 9 rfl (by kernel_rfl) ?_; intro wqr2o9_1 hxqr2o9_1
          replace hB3 := hB3.ext hxqr2o9_1
          replace hqr2o4_1 := hqr2o4_1.ext hxqr2o9_1
          replace hqr2o1_1 := hqr2o1_1.ext hxqr2o9_1
          replace hqr2o7_1 := hqr2o7_1.ext hxqr2o9_1
          replace hBqr2o8_1 := hBqr2o8_1.ext hxqr2o9_1
          have hEqr2o9_1 := Ext.trans hEqr2o8_2 hxqr2o9_1
          have qqr2o9_1 := bel_step qqr2o8_13 hxqr2o9_1
          refine o_storeB ha hBqr2o8_1 Tryd.sizeOf50 rfl rfl hqr2o1_1.cells hqr2o1_1.oneC (Nat.le_of_ble_eq_true rfl) ?_; intro wqr2o9_2 hBqr2o9_1 hcqr2o9_1
          replace hcqr2o9_1 := hcqr2o9_1.bl
          replace hBqr2o9_1 : Bx wqr2o9_2 bqr2o8_1 [vqr2o1_1] 50 := hBqr2o9_1
          replace hB3 := hB3.nq hcqr2o9_1 qqr2o8_3
          replace hqr2o4_1 := hqr2o4_1.nq hcqr2o9_1 qqr2o8_5
          replace hqr2o1_1 := hqr2o1_1.nq hcqr2o9_1 qqr2o8_7
          replace hqr2o7_1 := hqr2o7_1.nq hcqr2o9_1 qqr2o8_9
          have hEqr2o9_2 := Ext.then hEqr2o9_1 hcqr2o9_1 (Zn.bl qqr2o8_11)
          refine wpList_nil (e_sq ?_)
          have hStqr2o9_1 : RowKit.Below w12.heap.size wqr2o9_1 wqr2o9_2 := chg_bel hcqr2o9_1 qqr2o9_1.size (Zn.bl qqr2o8_12)
          refine ⟨fun _ => hStqr2o9_1, ?_⟩
          have qqr2o9_2 := RowKit.Below.trans qqr2o9_1 hStqr2o9_1
          refine x_g 10 rfl (by kernel_rfl) (want0 _) ha rfl qqr2o9_2 (g_assign rfl) ?_; clear ha a; intro a ha; refine x_g 11 rfl (by kernel_rfl) (want0 _) ha rfl qqr2o9_2 (g_assign rfl) ?_; clear ha a; intro a ha
          refine x_done (by kernel_rfl) ?_; intro w59 hx60
          replace hB3 := hB3.ext hx60
          replace hqr2o4_1 := hqr2o4_1.ext hx60
          replace hqr2o1_1 := hqr2o1_1.ext hx60
          replace hqr2o7_1 := hqr2o7_1.ext hx60
          replace hBqr2o9_1 := hBqr2o9_1.ext hx60
          have hE61 := Ext.trans hEqr2o9_2 hx60
          replace ha := ha.sub (σ' := [(1, va1), (5, (.pointer (some ⟨bqr2o8_1, 0, none⟩))), (6, vqr2o4_1), (7, vqr2o7_1)]) ⟨rfl, rfl, rfl, rfl, trivial⟩; refine e_sq ?_; obtain rfl := Option.some.inj hF
          exact ⟨xqr2o1_1, (List.replicate ((a1.length : Int) : Int).toNat (0 : BitVec 32)), (List.replicate ((a1.length : Int) : Int).toNat (0 : Int)), bqr2o8_1, vqr2o1_1, bqr2o1_1, vqr2o4_1, bqr2o4_1, vqr2o7_1, bqr2o7_1, ha.sub ⟨rfl, rfl, rfl, rfl, trivial⟩, hE61, hBqr2o9_1, qqr2o8_11, hqr2o1_1, qqr2o1_7, hqr2o4_1, qqr2o4_5, hqr2o7_1, qqr2o7_9, qqr2o8_8, qqr2o8_6, qqr2o8_10, qqr2o8_7, qqr2o1_6, qqr2o7_7, qqr2o8_5, qqr2o1_5, qqr2o7_5, qqr2o8_9, qqr2o7_8, qqr2o7_6, rfl⟩
        skip
        replace hB3 := hB3.ext hxqr2o1_2
        replace hqr2o4_1 := hqr2o4_1.ext hxqr2o1_2
        replace hqr2o1_1 := hqr2o1_1.ext hxqr2o1_2
        have hEqr2o8_1 := Ext.trans hEqr2o1_2 hxqr2o1_2
        have qqr2o8_1 := bel_step qqr2o1_8 hxqr2o1_2
        refine o_alloc (cs := [(.slice none 0 0)]) ha rfl Tryd.zeroValue50 rfl ?_; clear ha a; intro bqr2o8_1 wqr2o8_1 hBqr2o8_1 hxqr2o8_1 hloqr2o8_1 a ha
        have qqr2o8_2 := Zn.one hloqr2o8_1
        have qqr2o8_3 := Nq.new hB3.fpb qqr2o8_2
        have qqr2o8_4 := Nq.made1 hloqr2o8_1 hB3.bi
        have qqr2o8_5 := Nq.new hqr2o4_1.fpb qqr2o8_2
        have qqr2o8_6 := Nq.made1 hloqr2o8_1 hqr2o4_1.blt
        have qqr2o8_7 := Nq.new hqr2o1_1.fpb qqr2o8_2
        have qqr2o8_8 := Nq.made1 hloqr2o8_1 hqr2o1_1.blt
        have qqr2o8_9 := Zn.upD qqr2o8_2 hEqr2o8_1
        have qqr2o8_10 := Zn.upB qqr2o8_2 qqr2o8_1
        replace hB3 := hB3.ext hxqr2o8_1
        replace hqr2o4_1 := hqr2o4_1.ext hxqr2o8_1
        replace hqr2o1_1 := hqr2o1_1.ext hxqr2o8_1
        have hEqr2o8_2 := Ext.trans hEqr2o8_1 hxqr2o8_1
        refine wpList_nil (e_sq ?_)
        have hStqr2o8_1 : RowKit.Below w12.heap.size wqr2o1_2 wqr2o8_1 := ext_bel qqr2o8_1.size hxqr2o8_1
        refine ⟨fun _ => hStqr2o8_1, ?_⟩
        have qqr2o8_11 := RowKit.Below.trans qqr2o8_1 hStqr2o8_1
        refine x_many [7, 9] (by kernel_rfl) rfl fun wqr2o8_2 hxqr2o8_2 => ⟨⟨_, rfl, ?_⟩, ⟨_, rfl, ?_⟩, trivial⟩
        · skip
          replace hB3 := hB3.ext hxqr2o8_2
          replace hqr2o4_1 := hqr2o4_1.ext hxqr2o8_2
          replace hqr2o1_1 := hqr2o1_1.ext hxqr2o8_2
          replace hBqr2o8_1 := hBqr2o8_1.ext hxqr2o8_2
          have hEqr2o7_1 := Ext.trans hEqr2o8_2 hxqr2o8_2
          have qqr2o7_1 := bel_step qqr2o8_11 hxqr2o8_2
          refine o_make (z0 := (0 : Int)) Rp.int ha rfl sl31 rfl (fun w => ⟨rfl, by decide, rfl⟩) rfl gqr2o7_1 gqr2o7_1b ?_; clear ha a; intro vqr2o7_1 wqr2o7_1 hqr2o7_1 hxqr2o7_1 a ha
          obtain ⟨bqr2o7_1, hbqr2o7_1⟩ : ∃ b : Int, b = wqr2o8_2.heap.size := ⟨_, rfl⟩; rw [← hbqr2o7_1] at hqr2o7_1
          have qqr2o7_2 := zn_of hbqr2o7_1
          have qqr2o7_3 := Nq.new hB3.fpb qqr2o7_2
          have qqr2o7_4 := Nq.madeO qqr2o7_2 hB3.bi
          have qqr2o7_5 := Nq.new hqr2o4_1.fpb qqr2o7_2
          have qqr2o7_6 := Nq.madeO qqr2o7_2 hqr2o4_1.blt
          have qqr2o7_7 := Nq.new hqr2o1_1.fpb qqr2o7_2
          have qqr2o7_8 := Nq.madeO qqr2o7_2 hqr2o1_1.blt
          have qqr2o7_9 := Nq.new hBqr2o8_1.fpb qqr2o7_2
          have qqr2o7_10 := Nq.madeO qqr2o7_2 hBqr2o8_1.bi
          have qqr2o7_11 := Zn.upD qqr2o7_2 hEqr2o7_1
          have qqr2o7_12 := Zn.upB qqr2o7_2 qqr2o7_1
          replace hB3 := hB3.ext hxqr2o7_1
          replace hqr2o4_1 := hqr2o4_1.ext hxqr2o7_1
          replace hqr2o1_1 := hqr2o1_1.ext hxqr2o7_1
          replace hBqr2o8_1 := hBqr2o8_1.ext hxqr2o7_1
          have hEqr2o7_2 := Ext.trans hEqr2o7_1 hxqr2o7_1
          refine wpList_nil (e_sq ?_)
          have hStqr2o7_1 : RowKit.Below w12.heap.size wqr2o8_2 wqr2o7_1 := ext_bel qqr2o7_1.size hxqr2o7_1
          refine ⟨fun _ => hStqr2o7_1, ?_⟩
          have qqr2o7_13 := RowKit.Below.trans qqr2o7_1 hStqr2o7_1
          refine x_only 9 rfl (by kernel_rfl) ?_; intro wqr2o9_1 hxqr2o9_1
          replace hB3 := hB3.ext hxqr2o9_1
          replace hqr2o4_1 := hqr2o4_1.ext hxqr2o9_1
          replace hqr2o1_1 := hqr2o1_1.ext hxqr2o9_1
          replace hBqr2o8_1 := hBqr2o8_1.ext hxqr2o9_1
          replace hqr2o7_1 := hqr2o7_1.ext hxqr2o9_1
          have hEqr2o9_1 := Ext.trans hEqr2o7_2 hxqr2o9_1
          have qqr2o9_1 := bel_step qqr2o7_13 hxqr2o9_1
          refine o_storeB ha hBqr2o8_1 Tryd.sizeOf50 rfl rfl hqr2o1_1.cells hqr2o1_1.oneC (Nat.le_of_ble_eq_true rfl) ?_; intro wqr2o9_2 hBqr2o9_1 hcqr2o9_1
          replace hcqr2o9_1 := hcqr2o9_1.bl
          replace hBqr2o9_1 : Bx wqr2o9_2 bqr2o8_1 [vqr2o1_1] 50 := hBqr2o9_1
          replace hB3 := hB3.nq hcqr2o9_1 qqr2o8_3
          replace hqr2o4_1 := hqr2o4_1.nq hcqr2o9_1 qqr2o8_5
          replace hqr2o1_1 := hqr2o1_1.nq hcqr2o9_1 qqr2o8_7
          replace hqr2o7_1 := hqr2o7_1.nq hcqr2o9_1 qqr2o7_10
          have hEqr2o9_2 := Ext.then hEqr2o9_1 hcqr2o9_1 (Zn.bl qqr2o8_9)
          refine wpList_nil (e_sq ?_)
          have hStqr2o9_1 : RowKit.Below w12.heap.size wqr2o9_1 wqr2o9_2 := chg_bel hcqr2o9_1 qqr2o9_1.size (Zn.bl qqr2o8_10)
          refine ⟨fun _ => hStqr2o9_1, ?_⟩
          have qqr2o9_2 := RowKit.Below.trans qqr2o9_1 hStqr2o9_1
          refine x_g 10 rfl (by kernel_rfl) (want0 _) ha rfl qqr2o9_2 (g_assign rfl) ?_; clear ha a; intro a ha; refine x_g 11 rfl (by kernel_rfl) (want0 _) ha rfl qqr2o9_2 (g_assign rfl) ?_; clear ha a; intro a ha
          refine x_done (by kernel_rfl) ?_; intro w59 hx60
          replace hB3 := hB3.ext hx60
          replace hqr2o4_1 := hqr2o4_1.ext hx60
          replace hqr2o1_1 := hqr2o1_1.ext hx60
          replace hBqr2o9_1 := hBqr2o9_1.ext hx60
          replace hqr2o7_1 := hqr2o7_1.ext hx60
          have hE61 := Ext.trans hEqr2o9_2 hx60
          replace ha := ha.sub (σ' := [(1, va1), (5, (.pointer (some ⟨bqr2o8_1, 0, none⟩))), (6, vqr2o4_1), (7, vqr2o7_1)]) ⟨rfl, rfl, rfl, rfl, trivial⟩; refine e_sq ?_; obtain rfl := Option.some.inj hF
          exact ⟨xqr2o1_1, (List.replicate ((a1.length : Int) : Int).toNat (0 : BitVec 32)), (List.replicate ((a1.length : Int) : Int).toNat (0 : Int)), bqr2o8_1, vqr2o1_1, bqr2o1_1, vqr2o4_1, bqr2o4_1, vqr2o7_1, bqr2o7_1, ha.sub ⟨rfl, rfl, rfl, rfl, trivial⟩, hE61, hBqr2o9_1, qqr2o8_9, hqr2o1_1, qqr2o1_7, hqr2o4_1, qqr2o4_5, hqr2o7_1, qqr2o7_11, qqr2o8_8, qqr2o8_6, qqr2o7_9, qqr2o8_7, qqr2o1_6, qqr2o7_7, qqr2o8_5, qqr2o1_5, qqr2o7_5, qqr2o7_10, qqr2o7_8, qqr2o7_6, rfl⟩
        skip
        replace hB3 := hB3.ext hxqr2o8_2
        replace hqr2o4_1 := hqr2o4_1.ext hxqr2o8_2
        replace hqr2o1_1 := hqr2o1_1.ext hxqr2o8_2
        replace hBqr2o8_1 := hBqr2o8_1.ext hxqr2o8_2
        have hEqr2o9_1 := Ext.trans hEqr2o8_2 hxqr2o8_2
        have qqr2o9_1 := bel_step qqr2o8_11 hxqr2o8_2
        refine o_storeB ha hBqr2o8_1 Tryd.sizeOf50 rfl rfl hqr2o1_1.cells hqr2o1_1.oneC (Nat.le_of_ble_eq_true rfl) ?_; intro wqr2o9_1 hBqr2o9_1 hcqr2o9_1
        replace hcqr2o9_1 := hcqr2o9_1.bl
        replace hBqr2o9_1 : Bx wqr2o9_1 bqr2o8_1 [vqr2o1_1] 50 := hBqr2o9_1
        replace hB3 := hB3.nq hcqr2o9_1 qqr2o8_3
        replace hqr2o4_1 := hqr2o4_1.nq hcqr2o9_1 qqr2o8_5
        replace hqr2o1_1 := hqr2o1_1.nq hcqr2o9_1 qqr2o8_7
        have hEqr2o9_2 := Ext.then hEqr2o9_1 hcqr2o9_1 (Zn.bl qqr2o8_9)
        refine wpList_nil (e_sq ?_)
        have hStqr2o9_1 : RowKit.Below w12.heap.size wqr2o8_2 wqr2o9_1 := chg_bel hcqr2o9_1 qqr2o9_1.size (Zn.bl qqr2o8_10)
        refine ⟨fun _ => hStqr2o9_1, ?_⟩
        have qqr2o9_2 := RowKit.Below.trans qqr2o9_1 hStqr2o9_1
        refine x_g 10 rfl (by kernel_rfl) (want0 _) ha rfl qqr2o9_2 (g_assign rfl) ?_; clear ha a; intro a ha
        refine x_only 7 rfl (by kernel_rfl) ?_; intro wqr2o7_1 hxqr2o7_1
        replace hB3 := hB3.ext hxqr2o7_1
        replace hqr2o4_1 := hqr2o4_1.ext hxqr2o7_1
        replace hqr2o1_1 := hqr2o1_1.ext hxqr2o7_1
        replace hBqr2o9_1 := hBqr2o9_1.ext hxqr2o7_1
        have hEqr2o7_1 := Ext.trans hEqr2o9_2 hxqr2o7_1
        have qqr2o7_1 := bel_step qqr2o9_2 hxqr2o7_1
        refine o_make (z0 := (0 : Int)) Rp.int ha rfl sl31 rfl (fun w => ⟨rfl, by decide, rfl⟩) rfl gqr2o7_1 gqr2o7_1b ?_; clear ha a; intro vqr2o7_1 wqr2o7_2 hqr2o7_1 hxqr2o7_2 a ha
        obtain ⟨bqr2o7_1, hbqr2o7_1⟩ : ∃ b : Int, b = wqr2o7_1.heap.size := ⟨_, rfl⟩; rw [← hbqr2o7_1] at hqr2o7_1
        have qqr2o7_2 := zn_of hbqr2o7_1
        have qqr2o7_3 := Nq.new hB3.fpb qqr2o7_2
        have qqr2o7_4 := Nq.madeO qqr2o7_2 hB3.bi
        have qqr2o7_5 := Nq.new hqr2o4_1.fpb qqr2o7_2
        have qqr2o7_6 := Nq.madeO qqr2o7_2 hqr2o4_1.blt
        have qqr2o7_7 := Nq.new hqr2o1_1.fpb qqr2o7_2
        have qqr2o7_8 := Nq.madeO qqr2o7_2 hqr2o1_1.blt
        have qqr2o7_9 := Nq.new hBqr2o9_1.fpb qqr2o7_2
        have qqr2o7_10 := Nq.madeO qqr2o7_2 hBqr2o9_1.bi
        have qqr2o7_11 := Zn.upD qqr2o7_2 hEqr2o7_1
        have qqr2o7_12 := Zn.upB qqr2o7_2 qqr2o7_1
        replace hB3 := hB3.ext hxqr2o7_2
        replace hqr2o4_1 := hqr2o4_1.ext hxqr2o7_2
        replace hqr2o1_1 := hqr2o1_1.ext hxqr2o7_2
        replace hBqr2o9_1 := hBqr2o9_1.ext hxqr2o7_2
        have hEqr2o7_2 := Ext.trans hEqr2o7_1 hxqr2o7_2
        refine wpList_nil (e_sq ?_)
        have hStqr2o7_1 : RowKit.Below w12.heap.size wqr2o7_1 wqr2o7_2 := ext_bel qqr2o7_1.size hxqr2o7_2
        refine ⟨fun _ => hStqr2o7_1, ?_⟩
        have qqr2o7_13 := RowKit.Below.trans qqr2o7_1 hStqr2o7_1
        refine x_g 11 rfl (by kernel_rfl) (want0 _) ha rfl qqr2o7_13 (g_assign rfl) ?_; clear ha a; intro a ha
        refine x_done (by kernel_rfl) ?_; intro w59 hx60
        replace hB3 := hB3.ext hx60
        replace hqr2o4_1 := hqr2o4_1.ext hx60
        replace hqr2o1_1 := hqr2o1_1.ext hx60
        replace hBqr2o9_1 := hBqr2o9_1.ext hx60
        replace hqr2o7_1 := hqr2o7_1.ext hx60
        have hE61 := Ext.trans hEqr2o7_2 hx60
        replace ha := ha.sub (σ' := [(1, va1), (5, (.pointer (some ⟨bqr2o8_1, 0, none⟩))), (6, vqr2o4_1), (7, vqr2o7_1)]) ⟨rfl, rfl, rfl, rfl, trivial⟩; refine e_sq ?_; obtain rfl := Option.some.inj hF
        exact ⟨xqr2o1_1, (List.replicate ((a1.length : Int) : Int).toNat (0 : BitVec 32)), (List.replicate ((a1.length : Int) : Int).toNat (0 : Int)), bqr2o8_1, vqr2o1_1, bqr2o1_1, vqr2o4_1, bqr2o4_1, vqr2o7_1, bqr2o7_1, ha.sub ⟨rfl, rfl, rfl, rfl, trivial⟩, hE61, hBqr2o9_1, qqr2o8_9, hqr2o1_1, qqr2o1_7, hqr2o4_1, qqr2o4_5, hqr2o7_1, qqr2o7_11, qqr2o8_8, qqr2o8_6, qqr2o7_9, qqr2o8_7, qqr2o1_6, qqr2o7_7, qqr2o8_5, qqr2o1_5, qqr2o7_5, qqr2o7_10, qqr2o7_8, qqr2o7_6, rfl⟩
      · skip
        replace hB3 := hB3.ext hxqr2o4_2
        replace hqr2o4_1 := hqr2o4_1.ext hxqr2o4_2
        have hEqr2o7_1 := Ext.trans hEqr2o4_2 hxqr2o4_2
        have qqr2o7_1 := bel_step qqr2o4_7 hxqr2o4_2
        refine o_make (z0 := (0 : Int)) Rp.int ha rfl sl31 rfl (fun w => ⟨rfl, by decide, rfl⟩) rfl gqr2o7_1 gqr2o7_1b ?_; clear ha a; intro vqr2o7_1 wqr2o7_1 hqr2o7_1 hxqr2o7_1 a ha
        obtain ⟨bqr2o7_1, hbqr2o7_1⟩ : ∃ b : Int, b = wqr2o4_2.heap.size := ⟨_, rfl⟩; rw [← hbqr2o7_1] at hqr2o7_1
        have qqr2o7_2 := zn_of hbqr2o7_1
        have qqr2o7_3 := Nq.new hB3.fpb qqr2o7_2
        have qqr2o7_4 := Nq.madeO qqr2o7_2 hB3.bi
        have qqr2o7_5 := Nq.new hqr2o4_1.fpb qqr2o7_2
        have qqr2o7_6 := Nq.madeO qqr2o7_2 hqr2o4_1.blt
        have qqr2o7_7 := Zn.upD qqr2o7_2 hEqr2o7_1
        have qqr2o7_8 := Zn.upB qqr2o7_2 qqr2o7_1
        replace hB3 := hB3.ext hxqr2o7_1
        replace hqr2o4_1 := hqr2o4_1.ext hxqr2o7_1
        have hEqr2o7_2 := Ext.trans hEqr2o7_1 hxqr2o7_1
        refine wpList_nil (e_sq ?_)
        have hStqr2o7_1 : RowKit.Below w12.heap.size wqr2o4_2 wqr2o7_1 := ext_bel qqr2o7_1.size hxqr2o7_1
        refine ⟨fun _ => hStqr2o7_1, ?_⟩
        have qqr2o7_9 := RowKit.Below.trans qqr2o7_1 hStqr2o7_1
        refine x_many [1, 8] (by kernel_rfl) rfl fun wqr2o7_2 hxqr2o7_2 => ⟨⟨_, rfl, ?_⟩, ⟨_, rfl, ?_⟩, trivial⟩
        · skip
          replace hB3 := hB3.ext hxqr2o7_2
          replace hqr2o4_1 := hqr2o4_1.ext hxqr2o7_2
          replace hqr2o7_1 := hqr2o7_1.ext hxqr2o7_2
          have hEqr2o1_1 := Ext.trans hEqr2o7_2 hxqr2o7_2
          have qqr2o1_1 := bel_step qqr2o7_9 hxqr2o7_2
          refine o_call ha rfl rfl Tryd.call31 (W_impl_netsOf (ha0_0.ext hEqr2o1_1) hcqr2o1_1) ?_; clear ha a; rintro vqr2o1_1 wqr2o1_1 ⟨bqr2o1_1, hqr2o1_1, zqr2o1_1, hxqr2o1_1⟩ a ha
          have qqr2o1_2 := Zn.upB zqr2o1_1 qqr2o1_1
          have qqr2o1_3 := Nq.new hB3.fpb zqr2o1_1
          have qqr2o1_4 := Nq.madeO zqr2o1_1 hB3.bi
          have qqr2o1_5 := Nq.new hqr2o4_1.fpb zqr2o1_1
          have qqr2o1_6 := Nq.madeO zqr2o1_1 hqr2o4_1.blt
          have qqr2o1_7 := Nq.new hqr2o7_1.fpb zqr2o1_1
          have qqr2o1_8 := Nq.madeO zqr2o1_1 hqr2o7_1.blt
          replace hB3 := hB3.ext hxqr2o1_1
          replace hqr2o4_1 := hqr2o4_1.ext hxqr2o1_1
          replace hqr2o7_1 := hqr2o7_1.ext hxqr2o1_1
          have hEqr2o1_2 := Ext.trans hEqr2o1_1 hxqr2o1_1
          have qqr2o1_9 := Zn.upD zqr2o1_1 hEqr2o1_1
          refine wpList_nil (e_sq ?_)
          have hStqr2o1_1 : RowKit.Below w12.heap.size wqr2o7_2 wqr2o1_1 := ext_bel qqr2o1_1.size hxqr2o1_1
          refine ⟨fun _ => hStqr2o1_1, ?_⟩
          have qqr2o1_10 := RowKit.Below.trans qqr2o1_1 hStqr2o1_1
          refine x_only 8 rfl (by kernel_rfl) ?_; intro wqr2o8_1 hxqr2o8_1
          replace hB3 := hB3.ext hxqr2o8_1
          replace hqr2o4_1 := hqr2o4_1.ext hxqr2o8_1
          replace hqr2o7_1 := hqr2o7_1.ext hxqr2o8_1
          replace hqr2o1_1 := hqr2o1_1.ext hxqr2o8_1
          have hEqr2o8_1 := Ext.trans hEqr2o1_2 hxqr2o8_1
          have qqr2o8_1 := bel_step qqr2o1_10 hxqr2o8_1
          refine o_alloc (cs := [(.slice none 0 0)]) ha rfl Tryd.zeroValue50 rfl ?_; clear ha a; intro bqr2o8_1 wqr2o8_2 hBqr2o8_1 hxqr2o8_2 hloqr2o8_1 a ha
          have qqr2o8_2 := Zn.one hloqr2o8_1
          have qqr2o8_3 := Nq.new hB3.fpb qqr2o8_2
          have qqr2o8_4 := Nq.made1 hloqr2o8_1 hB3.bi
          have qqr2o8_5 := Nq.new hqr2o4_1.fpb qqr2o8_2
          have qqr2o8_6 := Nq.made1 hloqr2o8_1 hqr2o4_1.blt
          have qqr2o8_7 := Nq.new hqr2o7_1.fpb qqr2o8_2
          have qqr2o8_8 := Nq.made1 hloqr2o8_1 hqr2o7_1.blt
          have qqr2o8_9 := Nq.new hqr2o1_1.fpb qqr2o8_2
          have qqr2o8_10 := Nq.made1 hloqr2o8_1 hqr2o1_1.blt
          have qqr2o8_11 := Zn.upD qqr2o8_2 hEqr2o8_1
          have qqr2o8_12 := Zn.upB qqr2o8_2 qqr2o8_1
          replace hB3 := hB3.ext hxqr2o8_2
          replace hqr2o4_1 := hqr2o4_1.ext hxqr2o8_2
          replace hqr2o7_1 := hqr2o7_1.ext hxqr2o8_2
          replace hqr2o1_1 := hqr2o1_1.ext hxqr2o8_2
          have hEqr2o8_2 := Ext.trans hEqr2o8_1 hxqr2o8_2
          refine wpList_nil (e_sq ?_)
          have hStqr2o8_1 : RowKit.Below w12.heap.size wqr2o8_1 wqr2o8_2 := ext_bel qqr2o8_1.size hxqr2o8_2
          refine ⟨fun _ => hStqr2o8_1, ?_⟩
          have qqr2o8_13 := RowKit.Below.trans qqr2o8_1 hStqr2o8_1
          refine x_only 9 rfl (by kernel_rfl) ?_; intro wqr2o9_1 hxqr2o9_1
          replace hB3 := hB3.ext hxqr2o9_1
          replace hqr2o4_1 := hqr2o4_1.ext hxqr2o9_1
          replace hqr2o7_1 := hqr2o7_1.ext hxqr2o9_1
          replace hqr2o1_1 := hqr2o1_1.ext hxqr2o9_1
          replace hBqr2o8_1 := hBqr2o8_1.ext hxqr2o9_1
          have hEqr2o9_1 := Ext.trans hEqr2o8_2 hxqr2o9_1
          have qqr2o9_1 := bel_step qqr2o8_13 hxqr2o9_1
          refine o_storeB ha hBqr2o8_1 Tryd.sizeOf50 rfl rfl hqr2o1_1.cells hqr2o1_1.oneC (Nat.le_of_ble_eq_true rfl) ?_; intro wqr2o9_2 hBqr2o9_1 hcqr2o9_1
          replace hcqr2o9_1 := hcqr2o9_1.bl
          replace hBqr2o9_1 : Bx wqr2o9_2 bqr2o8_1 [vqr2o1_1] 50 := hBqr2o9_1
          replace hB3 := hB3.nq hcqr2o9_1 qqr2o8_3
          replace hqr2o4_1 := hqr2o4_1.nq hcqr2o9_1 qqr2o8_5
          replace hqr2o7_1 := hqr2o7_1.nq hcqr2o9_1 qqr2o8_7
          replace hqr2o1_1 := hqr2o1_1.nq hcqr2o9_1 qqr2o8_9
          have hEqr2o9_2 := Ext.then hEqr2o9_1 hcqr2o9_1 (Zn.bl qqr2o8_11)
          refine wpList_nil (e_sq ?_)
          have hStqr2o9_1 : RowKit.Below w12.heap.size wqr2o9_1 wqr2o9_2 := chg_bel hcqr2o9_1 qqr2o9_1.size (Zn.bl qqr2o8_12)
          refine ⟨fun _ => hStqr2o9_1, ?_⟩
          have qqr2o9_2 := RowKit.Below.trans qqr2o9_1 hStqr2o9_1
          refine x_g 10 rfl (by kernel_rfl) (want0 _) ha rfl qqr2o9_2 (g_assign rfl) ?_; clear ha a; intro a ha; refine x_g 11 rfl (by kernel_rfl) (want0 _) ha rfl qqr2o9_2 (g_assign rfl) ?_; clear ha a; intro a ha
          refine x_done (by kernel_rfl) ?_; intro w59 hx60
          replace hB3 := hB3.ext hx60
          replace hqr2o4_1 := hqr2o4_1.ext hx60
          replace hqr2o7_1 := hqr2o7_1.ext hx60
          replace hqr2o1_1 := hqr2o1_1.ext hx60
          replace hBqr2o9_1 := hBqr2o9_1.ext hx60
          have hE61 := Ext.trans hEqr2o9_2 hx60
          replace ha := ha.sub (σ' := [(1, va1), (5, (.pointer (some ⟨bqr2o8_1, 0, none⟩))), (6, vqr2o4_1), (7, vqr2o7_1)]) ⟨rfl, rfl, rfl, rfl, trivial⟩; refine e_sq ?_; obtain rfl := Option.some.inj hF
          exact ⟨xqr2o1_1, (List.replicate ((a1.length : Int) : Int).toNat (0 : BitVec 32)), (List.replicate ((a1.length : Int) : Int).toNat (0 : Int)), bqr2o8_1, vqr2o1_1, bqr2o1_1, vqr2o4_1, bqr2o4_1, vqr2o7_1, bqr2o7_1, ha.sub ⟨rfl, rfl, rfl, rfl, trivial⟩, hE61, hBqr2o9_1, qqr2o8_11, hqr2o1_1, qqr2o1_9, hqr2o4_1, qqr2o4_5, hqr2o7_1, qqr2o7_7, qqr2o8_10, qqr2o8_6, qqr2o8_8, qqr2o8_9, qqr2o1_6, qqr2o1_8, qqr2o8_5, qqr2o1_5, qqr2o7_5, qqr2o8_7, qqr2o1_7, qqr2o7_6, rfl⟩
        skip
        replace hB3 := hB3.ext hxqr2o7_2
        replace hqr2o4_1 := hqr2o4_1.ext hxqr2o7_2
        replace hqr2o7_1 := hqr2o7_1.ext hxqr2o7_2
        have hEqr2o8_1 := Ext.trans hEqr2o7_2 hxqr2o7_2
        have qqr2o8_1 := bel_step qqr2o7_9 hxqr2o7_2
        refine o_alloc (cs := [(.slice none 0 0)]) ha rfl Tryd.zeroValue50 rfl ?_; clear ha a; intro bqr2o8_1 wqr2o8_1 hBqr2o8_1 hxqr2o8_1 hloqr2o8_1 a ha
        have qqr2o8_2 := Zn.one hloqr2o8_1
        have qqr2o8_3 := Nq.new hB3.fpb qqr2o8_2
        have qqr2o8_4 := Nq.made1 hloqr2o8_1 hB3.bi
        have qqr2o8_5 := Nq.new hqr2o4_1.fpb qqr2o8_2
        have qqr2o8_6 := Nq.made1 hloqr2o8_1 hqr2o4_1.blt
        have qqr2o8_7 := Nq.new hqr2o7_1.fpb qqr2o8_2
        have qqr2o8_8 := Nq.made1 hloqr2o8_1 hqr2o7_1.blt
        have qqr2o8_9 := Zn.upD qqr2o8_2 hEqr2o8_1
        have qqr2o8_10 := Zn.upB qqr2o8_2 qqr2o8_1
        replace hB3 := hB3.ext hxqr2o8_1
        replace hqr2o4_1 := hqr2o4_1.ext hxqr2o8_1
        replace hqr2o7_1 := hqr2o7_1.ext hxqr2o8_1
        have hEqr2o8_2 := Ext.trans hEqr2o8_1 hxqr2o8_1
        refine wpList_nil (e_sq ?_)
        have hStqr2o8_1 : RowKit.Below w12.heap.size wqr2o7_2 wqr2o8_1 := ext_bel qqr2o8_1.size hxqr2o8_1
        refine ⟨fun _ => hStqr2o8_1, ?_⟩
        have qqr2o8_11 := RowKit.Below.trans qqr2o8_1 hStqr2o8_1
        refine x_only 1 rfl (by kernel_rfl) ?_; intro wqr2o1_1 hxqr2o1_1
        replace hB3 := hB3.ext hxqr2o1_1
        replace hqr2o4_1 := hqr2o4_1.ext hxqr2o1_1
        replace hqr2o7_1 := hqr2o7_1.ext hxqr2o1_1
        replace hBqr2o8_1 := hBqr2o8_1.ext hxqr2o1_1
        have hEqr2o1_1 := Ext.trans hEqr2o8_2 hxqr2o1_1
        have qqr2o1_1 := bel_step qqr2o8_11 hxqr2o1_1
        refine o_call ha rfl rfl Tryd.call31 (W_impl_netsOf (ha0_0.ext hEqr2o1_1) hcqr2o1_1) ?_; clear ha a; rintro vqr2o1_1 wqr2o1_2 ⟨bqr2o1_1, hqr2o1_1, zqr2o1_1, hxqr2o1_2⟩ a ha
        have qqr2o1_2 := Zn.upB zqr2o1_1 qqr2o1_1
        have qqr2o1_3 := Nq.new hB3.fpb zqr2o1_1
        have qqr2o1_4 := Nq.madeO zqr2o1_1 hB3.bi
        have qqr2o1_5 := Nq.new hqr2o4_1.fpb zqr2o1_1
        have qqr2o1_6 := Nq.madeO zqr2o1_1 hqr2o4_1.blt
        have qqr2o1_7 := Nq.new hqr2o7_1.fpb zqr2o1_1
        have qqr2o1_8 := Nq.madeO zqr2o1_1 hqr2o7_1.blt
        have qqr2o1_9 := Nq.new hBqr2o8_1.fpb zqr2o1_1
        have qqr2o1_10 := Nq.madeO zqr2o1_1 hBqr2o8_1.bi
        replace hB3 := hB3.ext hxqr2o1_2
        replace hqr2o4_1 := hqr2o4_1.ext hxqr2o1_2
        replace hqr2o7_1 := hqr2o7_1.ext hxqr2o1_2
        replace hBqr2o8_1 := hBqr2o8_1.ext hxqr2o1_2
        have hEqr2o1_2 := Ext.trans hEqr2o1_1 hxqr2o1_2
        have qqr2o1_11 := Zn.upD zqr2o1_1 hEqr2o1_1
        refine wpList_nil (e_sq ?_)
        have hStqr2o1_1 : RowKit.Below w12.heap.size wqr2o1_1 wqr2o1_2 := ext_bel qqr2o1_1.size hxqr2o1_2
        refine ⟨fun _ => hStqr2o1_1, ?_⟩
        have qqr2o1_12 := RowKit.Below.trans qqr2o1_1 hStqr2o1_1
        refine x_only 9 rfl (by kernel_rfl) ?_; intro wqr2o9_1 hxqr2o9_1
        replace hB3 := hB3.ext hxqr2o9_1
        replace hqr2o4_1 := hqr2o4_1.ext hxqr2o9_1
        replace hqr2o7_1 := hqr2o7_1.ext hxqr2o9_1
        replace hBqr2o8_1 := hBqr2o8_1.ext hxqr2o9_1
        replace hqr2o1_1 := hqr2o1_1.ext hxqr2o9_1
        have hEqr2o9_1 := Ext.trans hEqr2o1_2 hxqr2o9_1
        have qqr2o9_1 := bel_step qqr2o1_12 hxqr2o9_1
        refine o_storeB ha hBqr2o8_1 Tryd.sizeOf50 rfl rfl hqr2o1_1.cells hqr2o1_1.oneC (Nat.le_of_ble_eq_true rfl) ?_; intro wqr2o9_2 hBqr2o9_1 hcqr2o9_1
        replace hcqr2o9_1 := hcqr2o9_1.bl
        replace hBqr2o9_1 : Bx wqr2o9_2 bqr2o8_1 [vqr2o1_1] 50 := hBqr2o9_1
        replace hB3 := hB3.nq hcqr2o9_1 qqr2o8_3
        replace hqr2o4_1 := hqr2o4_1.nq hcqr2o9_1 qqr2o8_5
        replace hqr2o7_1 := hqr2o7_1.nq hcqr2o9_1 qqr2o8_7
        replace hqr2o1_1 := hqr2o1_1.nq hcqr2o9_1 qqr2o1_10
        have hEqr2o9_2 := Ext.then hEqr2o9_1 hcqr2o9_1 (Zn.bl qqr2o8_9)
        refine wpList_nil (e_sq ?_)
        have hStqr2o9_1 : RowKit.Below w12.heap.size wqr2o9_1 wqr2o9_2 := chg_bel hcqr2o9_1 qqr2o9_1.size (Zn.bl qqr2o8_10)
        refine ⟨fun _ => hStqr2o9_1, ?_⟩
        have qqr2o9_2 := RowKit.Below.trans qqr2o9_1 hStqr2o9_1
        refine x_g 10 rfl (by kernel_rfl) (want0 _) ha rfl qqr2o9_2 (g_assign rfl) ?_; clear ha a; intro a ha; refine x_g 11 rfl (by kernel_rfl) (want0 _) ha rfl qqr2o9_2 (g_assign rfl) ?_; clear ha a; intro a ha
        refine x_done (by kernel_rfl) ?_; intro w59 hx60
        replace hB3 := hB3.ext hx60
        replace hqr2o4_1 := hqr2o4_1.ext hx60
        replace hqr2o7_1 := hqr2o7_1.ext hx60
        replace hBqr2o9_1 := hBqr2o9_1.ext hx60
        replace hqr2o1_1 := hqr2o1_1.ext hx60
        have hE61 := Ext.trans hEqr2o9_2 hx60
        replace ha := ha.sub (σ' := [(1, va1), (5, (.pointer (some ⟨bqr2o8_1, 0, none⟩))), (6, vqr2o4_1), (7, vqr2o7_1)]) ⟨rfl, rfl, rfl, rfl, trivial⟩; refine e_sq ?_; obtain rfl := Option.some.inj hF
        exact ⟨xqr2o1_1, (List.replicate ((a1.length : Int) : Int).toNat (0 : BitVec 32)), (List.replicate ((a1.length : Int) : Int).toNat (0 : Int)), bqr2o8_1, vqr2o1_1, bqr2o1_1, vqr2o4_1, bqr2o4_1, vqr2o7_1, bqr2o7_1, ha.sub ⟨rfl, rfl, rfl, rfl, trivial⟩, hE61, hBqr2o9_1, qqr2o8_9, hqr2o1_1, qqr2o1_11, hqr2o4_1, qqr2o4_5, hqr2o7_1, qqr2o7_7, qqr2o1_9, qqr2o8_6, qqr2o8_8, qqr2o1_10, qqr2o1_6, qqr2o1_8, qqr2o8_5, qqr2o1_5, qqr2o7_5, qqr2o8_7, qqr2o1_7, qqr2o7_6, rfl⟩
      skip
      replace hB3 := hB3.ext hxqr2o4_2
      replace hqr2o4_1 := hqr2o4_1.ext hxqr2o4_2
      have hEqr2o8_1 := Ext.trans hEqr2o4_2 hxqr2o4_2
      have qqr2o8_1 := bel_step qqr2o4_7 hxqr2o4_2
      refine o_alloc (cs := [(.slice none 0 0)]) ha rfl Tryd.zeroValue50 rfl ?_; clear ha a; intro bqr2o8_1 wqr2o8_1 hBqr2o8_1 hxqr2o8_1 hloqr2o8_1 a ha
      have qqr2o8_2 := Zn.one hloqr2o8_1
      have qqr2o8_3 := Nq.new hB3.fpb qqr2o8_2
      have qqr2o8_4 := Nq.made1 hloqr2o8_1 hB3.bi
      have qqr2o8_5 := Nq.new hqr2o4_1.fpb qqr2o8_2
      have qqr2o8_6 := Nq.made1 hloqr2o8_1 hqr2o4_1.blt
      have qqr2o8_7 := Zn.upD qqr2o8_2 hEqr2o8_1
      have qqr2o8_8 := Zn.upB qqr2o8_2 qqr2o8_1
      replace hB3 := hB3.ext hxqr2o8_1
      replace hqr2o4_1 := hqr2o4_1.ext hxqr2o8_1
      have hEqr2o8_2 := Ext.trans hEqr2o8_1 hxqr2o8_1
      refine wpList_nil (e_sq ?_)
      have hStqr2o8_1 : RowKit.Below w12.heap.size wqr2o4_2 wqr2o8_1 := ext_bel qqr2o8_1.size hxqr2o8_1
      refine ⟨fun _ => hStqr2o8_1, ?_⟩
      have qqr2o8_9 := RowKit.Below.trans qqr2o8_1 hStqr2o8_1
      refine x_many [1, 7] (by kernel_rfl) rfl fun wqr2o8_2 hxqr2o8_2 => ⟨⟨_, rfl, ?_⟩, ⟨_, rfl, ?_⟩, trivial⟩
      · skip
        replace hB3 := hB3.ext hxqr2o8_2
        replace hqr2o4_1 := hqr2o4_1.ext hxqr2o8_2
        replace hBqr2o8_1 := hBqr2o8_1.ext hxqr2o8_2
        have hEqr2o1_1 := Ext.trans hEqr2o8_2 hxqr2o8_2
        have qqr2o1_1 := bel_step qqr2o8_9 hxqr2o8_2
        refine o_call ha rfl rfl Tryd.call31 (W_impl_netsOf (ha0_0.ext hEqr2o1_1) hcqr2o1_1) ?_; clear ha a; rintro vqr2o1_1 wqr2o1_1 ⟨bqr2o1_1, hqr2o1_1, zqr2o1_1, hxqr2o1_1⟩ a ha
        have qqr2o1_2 := Zn.upB zqr2o1_1 qqr2o1_1
        have qqr2o1_3 := Nq.new hB3.fpb zqr2o1_1
        have qqr2o1_4 := Nq.madeO zqr2o1_1 hB3.bi
        have qqr2o1_5 := Nq.new hqr2o4_1.fpb zqr2o1_1
        have qqr2o1_6 := Nq.madeO zqr2o1_1 hqr2o4_1.blt
        have qqr2o1_7 := Nq.new hBqr2o8_1.fpb zqr2o1_1
        have qqr2o1_8 := Nq.madeO zqr2o1_1 hBqr2o8_1.bi
        replace hB3 := hB3.ext hxqr2o1_1
        replace hqr2o4_1 := hqr2o4_1.ext hxqr2o1_1
        replace hBqr2o8_1 := hBqr2o8_1.ext hxqr2o1_1
        have hEqr2o1_2 := Ext.trans hEqr2o1_1 hxqr2o1_1
        have qqr2o1_9 := Zn.upD zqr2o1_1 hEqr2o1_1
        refine wpList_nil (e_sq ?_)
        have hStqr2o1_1 : RowKit.Below w12.heap.size wqr2o8_2 wqr2o1_1 := ext_bel qqr2o1_1.size hxqr2o1_1
        refine ⟨fun _ => hStqr2o1_1, ?_⟩
        have qqr2o1_10 := RowKit.Below.trans qqr2o1_1 hStqr2o1_1
        refine x_many [7, 9] (by kernel_rfl) rfl fun wqr2o1_2 hxqr2o1_2 => ⟨⟨_, rfl, ?_⟩, ⟨_, rfl, ?_⟩, trivial⟩
        · skip
          replace hB3 := hB3.ext hxqr2o1_2
          replace hqr2o4_1 := hqr2o4_1.ext hxqr2o1_2
          replace hBqr2o8_1 := hBqr2o8_1.ext hxqr2o1_2
          replace hqr2o1_1 := hqr2o1_1.ext hxqr2o1_2
          have hEqr2o7_1 := Ext.trans hEqr2o1_2 hxqr2o1_2
          have qqr2o7_1 := bel_step qqr2o1_10 hxqr2o1_2
          refine o_make (z0 := (0 : Int)) Rp.int ha rfl sl31 rfl (fun w => ⟨rfl, by decide, rfl⟩) rfl gqr2o7_1 gqr2o7_1b ?_; clear ha a; intro vqr2o7_1 wqr2o7_1 hqr2o7_1 hxqr2o7_1 a ha
          obtain ⟨bqr2o7_1, hbqr2o7_1⟩ : ∃ b : Int, b = wqr2o1_2.heap.size := ⟨_, rfl⟩; rw [← hbqr2o7_1] at hqr2o7_1
          have qqr2o7_2 := zn_of hbqr2o7_1
          have qqr2o7_3 := Nq.new hB3.fpb qqr2o7_2
          have qqr2o7_4 := Nq.madeO qqr2o7_2 hB3.bi
          have qqr2o7_5 := Nq.new hqr2o4_1.fpb qqr2o7_2
          have qqr2o7_6 := Nq.madeO qqr2o7_2 hqr2o4_1.blt
          have qqr2o7_7 := Nq.new hBqr2o8_1.fpb qqr2o7_2
          have qqr2o7_8 := Nq.madeO qqr2o7_2 hBqr2o8_1.bi
          have qqr2o7_9 := Nq.new hqr2o1_1.fpb qqr2o7_2
          have qqr2o7_10 := Nq.madeO qqr2o7_2 hqr2o1_1.blt
          have qqr2o7_11 := Zn.upD qqr2o7_2 hEqr2o7_1
          have qqr2o7_12 := Zn.upB qqr2o7_2 qqr2o7_1
          replace hB3 := hB3.ext hxqr2o7_1
          replace hqr2o4_1 := hqr2o4_1.ext hxqr2o7_1
          replace hBqr2o8_1 := hBqr2o8_1.ext hxqr2o7_1
          replace hqr2o1_1 := hqr2o1_1.ext hxqr2o7_1
          have hEqr2o7_2 := Ext.trans hEqr2o7_1 hxqr2o7_1
          refine wpList_nil (e_sq ?_)
          have hStqr2o7_1 : RowKit.Below w12.heap.size wqr2o1_2 wqr2o7_1 := ext_bel qqr2o7_1.size hxqr2o7_1
          refine ⟨fun _ => hStqr2o7_1, ?_⟩
          have qqr2o7_13 := RowKit.Below.trans qqr2o7_1 hStqr2o7_1
          refine x_only 9 rfl (by kernel_rfl) ?_; intro wqr2o9_1 hxqr2o9_1
          replace hB3 := hB3.ext hxqr2o9_1
          replace hqr2o4_1 := hqr2o4_1.ext hxqr2o9_1
          replace hBqr2o8_1 := hBqr2o8_1.ext hxqr2o9_1
          replace hqr2o1_1 := hqr2o1_1.ext hxqr2o9_1
          replace hqr2o7_1 := hqr2o7_1.ext hxqr2o9_1
          have hEqr2o9_1 := Ext.trans hEqr2o7_2 hxqr2o9_1
          have qqr2o9_1 := bel_step qqr2o7_13 hxqr2o9_1
          refine o_storeB ha hBqr2o8_1 Tryd.sizeOf50 rfl rfl hqr2o1_1.cells hqr2o1_1.oneC (Nat.le_of_ble_eq_true rfl) ?_; intro wqr2o9_2 hBqr2o9_1 hcqr2o9_1
          replace hcqr2o9_1 := hcqr2o9_1.bl
          replace hBqr2o9_1 : Bx wqr2o9_2 bqr2o8_1 [vqr2o1_1] 50 := hBqr2o9_1
          replace hB3 := hB3.nq hcqr2o9_1 qqr2o8_3
          replace hqr2o4_1 := hqr2o4_1.nq hcqr2o9_1 qqr2o8_5
          replace hqr2o1_1 := hqr2o1_1.nq hcqr2o9_1 qqr2o1_8
          replace hqr2o7_1 := hqr2o7_1.nq hcqr2o9_1 qqr2o7_8
          have hEqr2o9_2 := Ext.then hEqr2o9_1 hcqr2o9_1 (Zn.bl qqr2o8_7)
          refine wpList_nil (e_sq ?_)
          have hStqr2o9_1 : RowKit.Below w12.heap.size wqr2o9_1 wqr2o9_2 := chg_bel hcqr2o9_1 qqr2o9_1.size (Zn.bl qqr2o8_8)
          refine ⟨fun _ => hStqr2o9_1, ?_⟩
          have qqr2o9_2 := RowKit.Below.trans qqr2o9_1 hStqr2o9_1
          refine x_g 10 rfl (by kernel_rfl) (want0 _) ha rfl qqr2o9_2 (g_assign rfl) ?_; clear ha a; intro a ha; refine x_g 11 rfl (by kernel_rfl) (want0 _) ha rfl qqr2o9_2 (g_assign rfl) ?_; clear ha a; intro a ha
          refine x_done (by kernel_rfl) ?_; intro w59 hx60
          replace hB3 := hB3.ext hx60
          replace hqr2o4_1 := hqr2o4_1.ext hx60
          replace hBqr2o9_1 := hBqr2o9_1.ext hx60
          replace hqr2o1_1 := hqr2o1_1.ext hx60
          replace hqr2o7_1 := hqr2o7_1.ext hx60
          have hE61 := Ext.trans hEqr2o9_2 hx60
          replace ha := ha.sub (σ' := [(1, va1), (5, (.pointer (some ⟨bqr2o8_1, 0, none⟩))), (6, vqr2o4_1), (7, vqr2o7_1)]) ⟨rfl, rfl, rfl, rfl, trivial⟩; refine e_sq ?_; obtain rfl := Option.some.inj hF
          exact ⟨xqr2o1_1, (List.replicate ((a1.length : Int) : Int).toNat (0 : BitVec 32)), (List.replicate ((a1.length : Int) : Int).toNat (0 : Int)), bqr2o8_1, vqr2o1_1, bqr2o1_1, vqr2o4_1, bqr2o4_1, vqr2o7_1, bqr2o7_1, ha.sub ⟨rfl, rfl, rfl, rfl, trivial⟩, hE61, hBqr2o9_1, qqr2o8_7, hqr2o1_1, qqr2o1_9, hqr2o4_1, qqr2o4_5, hqr2o7_1, qqr2o7_11, qqr2o1_7, qqr2o8_6, qqr2o7_7, qqr2o1_8, qqr2o1_6, qqr2o7_9, qqr2o8_5, qqr2o1_5, qqr2o7_5, qqr2o7_8, qqr2o7_10, qqr2o7_6, rfl⟩
        skip
        replace hB3 := hB3.ext hxqr2o1_2
        replace hqr2o4_1 := hqr2o4_1.ext hxqr2o1_2
        replace hBqr2o8_1 := hBqr2o8_1.ext hxqr2o1_2
        replace hqr2o1_1 := hqr2o1_1.ext hxqr2o1_2
        have hEqr2o9_1 := Ext.trans hEqr2o1_2 hxqr2o1_2
        have qqr2o9_1 := bel_step qqr2o1_10 hxqr2o1_2
        refine o_storeB ha hBqr2o8_1 Tryd.sizeOf50 rfl rfl hqr2o1_1.cells hqr2o1_1.oneC (Nat.le_of_ble_eq_true rfl) ?_; intro wqr2o9_1 hBqr2o9_1 hcqr2o9_1
        replace hcqr2o9_1 := hcqr2o9_1.bl
        replace hBqr2o9_1 : Bx wqr2o9_1 bqr2o8_1 [vqr2o1_1] 50 := hBqr2o9_1
        replace hB3 := hB3.nq hcqr2o9_1 qqr2o8_3
        replace hqr2o4_1 := hqr2o4_1.nq hcqr2o9_1 qqr2o8_5
        replace hqr2o1_1 := hqr2o1_1.nq hcqr2o9_1 qqr2o1_8
        have hEqr2o9_2 := Ext.then hEqr2o9_1 hcqr2o9_1 (Zn.bl qqr2o8_7)
        refine wpList_nil (e_sq ?_)
        have hStqr2o9_1 : RowKit.Below w12.heap.size wqr2o1_2 wqr2o9_1 := chg_bel hcqr2o9_1 qqr2o9_1.size (Zn.bl qqr2o8_8)
        refine ⟨fun _ => hStqr2o9_1, ?_⟩
        have qqr2o9_2 := RowKit.Below.trans qqr2o9_1 hStqr2o9_1
        refine x_g 10 rfl (by kernel_rfl) (want0 _) ha rfl qqr2o9_2 (g_assign rfl) ?_; clear ha a; intro a ha
        refine x_only 7 rfl (by kernel_rfl) ?_; intro wqr2o7_1 hxqr2o7_1
        replace hB3 := hB3.ext hxqr2o7_1
        replace hqr2o4_1 := hqr2o4_1.ext hxqr2o7_1
        replace hBqr2o9_1 := hBqr2o9_1.ext hxqr2o7_1
        replace hqr2o1_1 := hqr2o1_1.ext hxqr2o7_1
        have hEqr2o7_1 := Ext.trans hEqr2o9_2 hxqr2o7_1
        have qqr2o7_1 := bel_step qqr2o9_2 hxqr2o7_1
        refine o_make (z0 := (0 : Int)) Rp.int ha rfl sl31 rfl (fun w => ⟨rfl, by decide, rfl⟩) rfl gqr2o7_1 gqr2o7_1b ?_; clear ha a; intro vqr2o7_1 wqr2o7_2 hqr2o7_1 hxqr2o7_2 a ha
        obtain ⟨bqr2o7_1, hbqr2o7_1⟩ : ∃ b : Int, b = wqr2o7_1.heap.size := ⟨_, rfl⟩; rw [← hbqr2o7_1] at hqr2o7_1
        have qqr2o7_2 := zn_of hbqr2o7_1
        have qqr2o7_3 := Nq.new hB3.fpb qqr2o7_2
        have qqr2o7_4 := Nq.madeO qqr2o7_2 hB3.bi
        have qqr2o7_5 := Nq.new hqr2o4_1.fpb qqr2o7_2
        have qqr2o7_6 := Nq.madeO qqr2o7_2 hqr2o4_1.blt
        have qqr2o7_7 := Nq.new hBqr2o9_1.fpb qqr2o7_2
        have qqr2o7_8 := Nq.madeO qqr2o7_2 hBqr2o9_1.bi
        have qqr2o7_9 := Nq.new hqr2o1_1.fpb qqr2o7_2
        have qqr2o7_10 := Nq.madeO qqr2o7_2 hqr2o1_1.blt
        have qqr2o7_11 := Zn.upD qqr2o7_2 hEqr2o7_1
        have qqr2o7_12 := Zn.upB qqr2o7_2 qqr2o7_1
        replace hB3 := hB3.ext hxqr2o7_2
        replace hqr2o4_1 := hqr2o4_1.ext hxqr2o7_2
        replace hBqr2o9_1 := hBqr2o9_1.ext hxqr2o7_2
        replace hqr2o1_1 := hqr2o1_1.ext hxqr2o7_2
        have hEqr2o7_2 := Ext.trans hEqr2o7_1 hxqr2o7_2
        refine wpList_nil (e_sq ?_)
        have hStqr2o7_1 : RowKit.Below w12.heap.size wqr2o7_1 wqr2o7_2 := ext_bel qqr2o7_1.size hxqr2o7_2
        refine ⟨fun _ => hStqr2o7_1, ?_⟩
        have qqr2o7_13 := RowKit.Below.trans qqr2o7_1 hStqr2o7_1
        refine x_g 11 rfl (by kernel_rfl) (want0 _) ha rfl qqr2o7_13 (g_assign rfl) ?_; clear ha a; intro a ha
        refine x_done (by kernel_rfl) ?_; intro w59 hx60
        replace hB3 := hB3.ext hx60
        replace hqr2o4_1 := hqr2o4_1.ext hx60
        replace hBqr2o9_1 := hBqr2o9_1.ext hx60
        replace hqr2o1_1 := hqr2o1_1.ext hx60
        replace hqr2o7_1 := hqr2o7_1.ext hx60
        have hE61 := Ext.trans hEqr2o7_2 hx60
        replace ha := ha.sub (σ' := [(1, va1), (5, (.pointer (some ⟨bqr2o8_1, 0, none⟩))), (6, vqr2o4_1), (7, vqr2o7_1)]) ⟨rfl, rfl, rfl, rfl, trivial⟩; refine e_sq ?_; obtain rfl := Option.some.inj hF
        exact ⟨xqr2o1_1, (List.replicate ((a1.length : Int) : Int).toNat (0 : BitVec 32)), (List.replicate ((a1.length : Int) : Int).toNat (0 : Int)), bqr2o8_1, vqr2o1_1, bqr2o1_1, vqr2o4_1, bqr2o4_1, vqr2o7_1, bqr2o7_1, ha.sub ⟨rfl, rfl, rfl, rfl, trivial⟩, hE61, hBqr2o9_1, qqr2o8_7, hqr2o1_1, qqr2o1_9, hqr2o4_1, qqr2o4_5, hqr2o7_1, qqr2o7_11, qqr2o1_7, qqr2o8_6, qqr2o7_7, qqr2o1_8, qqr2o1_6, qqr2o7_9, qqr2o8_5, qqr2o1_5, qqr2o7_5, qqr2o7_8, qqr2o7_10, qqr2o7_6, rfl⟩
      skip
      replace hB3 := hB3.ext hxqr2o8_2
      replace hqr2o4_1 := hqr2o4_1.ext hxqr2o8_2
      replace hBqr2o8_1 := hBqr2o8_1.ext hxqr2o8_2
      have hEqr2o7_1 := Ext.trans hEqr2o8_2 hxqr2o8_2
      have qqr2o7_1 := bel_step qqr2o8_9 hxqr2o8_2
      refine o_make (z0 := (0 : Int)) Rp.int ha rfl sl31 rfl (fun w => ⟨rfl, by decide, rfl⟩) rfl gqr2o7_1 gqr2o7_1b ?_; clear ha a; intro vqr2o7_1 wqr2o7_1 hqr2o7_1 hxqr2o7_1 a ha
      obtain ⟨bqr2o7_1, hbqr2o7_1⟩ : ∃ b : Int, b = wqr2o8_2.heap.size := ⟨_, rfl⟩; rw [← hbqr2o7_1] at hqr2o7_1
      have qqr2o7_2 := zn_of hbqr2o7_1
      have qqr2o7_3 := Nq.new hB3.fpb qqr2o7_2
      have qqr2o7_4 := Nq.madeO qqr2o7_2 hB3.bi
      have qqr2o7_5 := Nq.new hqr2o4_1.fpb qqr2o7_2
      have qqr2o7_6 := Nq.madeO qqr2o7_2 hqr2o4_1.blt
      have qqr2o7_7 := Nq.new hBqr2o8_1.fpb qqr2o7_2
      have qqr2o7_8 := Nq.madeO qqr2o7_2 hBqr2o8_1.bi
      have qqr2o7_9 := Zn.upD qqr2o7_2 hEqr2o7_1
      have qqr2o7_10 := Zn.upB qqr2o7_2 qqr2o7_1
      replace hB3 := hB3.ext hxqr2o7_1
      replace hqr2o4_1 := hqr2o4_1.ext hxqr2o7_1
      replace hBqr2o8_1 := hBqr2o8_1.ext hxqr2o7_1
      have hEqr2o7_2 := Ext.trans hEqr2o7_1 hxqr2o7_1
      refine wpList_nil (e_sq ?_)
      have hStqr2o7_1 : RowKit.Below w12.heap.size wqr2o8_2 wqr2o7_1 := ext_bel qqr2o7_1.size hxqr2o7_1
      refine ⟨fun _ => hStqr2o7_1, ?_⟩
      have qqr2o7_11 := RowKit.Below.trans qqr2o7_1 hStqr2o7_1
      refine x_only 1 rfl (by kernel_rfl) ?_; intro wqr2o1_1 hxqr2o1_1
      replace hB3 := hB3.ext hxqr2o1_1
      replace hqr2o4_1 := hqr2o4_1.ext hxqr2o1_1
      replace hBqr2o8_1 := hBqr2o8_1.ext hxqr2o1_1
      replace hqr2o7_1 := hqr2o7_1.ext hxqr2o1_1
      have hEqr2o1_1 := Ext.trans hEqr2o7_2 hxqr2o1_1
      have qqr2o1_1 := bel_step qqr2o7_11 hxqr2o1_1
      refine o_call ha rfl rfl Tryd.call31 (W_impl_netsOf (ha0_0.ext hEqr2o1_1) hcqr2o1_1) ?_; clear ha a; rintro vqr2o1_1 wqr2o1_2 ⟨bqr2o1_1, hqr2o1_1, zqr2o1_1, hxqr2o1_2⟩ a ha
      have qqr2o1_2 := Zn.upB zqr2o1_1 qqr2o1_1
      have qqr2o1_3 := Nq.new hB3.fpb zqr2o1_1
      have qqr2o1_4 := Nq.madeO zqr2o1_1 hB3.bi
      have qqr2o1_5 := Nq.new hqr2o4_1.fpb zqr2o1_1
      have qqr2o1_6 := Nq.madeO zqr2o1_1 hqr2o4_1.blt
      have qqr2o1_7 := Nq.new hBqr2o8_1.fpb zqr2o1_1
      have qqr2o1_8 := Nq.madeO zqr2o1_1 hBqr2o8_1.bi
      have qqr2o1_9 := Nq.new hqr2o7_1.fpb zqr2o1_1
      have qqr2o1_10 := Nq.madeO zqr2o1_1 hqr2o7_1.blt
      replace hB3 := hB3.ext hxqr2o1_2
      replace hqr2o4_1 := hqr2o4_1.ext hxqr2o1_2
      replace hBqr2o8_1 := hBqr2o8_1.ext hxqr2o1_2
      replace hqr2o7_1 := hqr2o7_1.ext hxqr2o1_2
      have hEqr2o1_2 := Ext.trans hEqr2o1_1 hxqr2o1_2
      have qqr2o1_11 := Zn.upD zqr2o1_1 hEqr2o1_1
      refine wpList_nil (e_sq ?_)
      have hStqr2o1_1 : RowKit.Below w12.heap.size wqr2o1_1 wqr2o1_2 := ext_bel qqr2o1_1.size hxqr2o1_2
      refine ⟨fun _ => hStqr2o1_1, ?_⟩
      have qqr2o1_12 := RowKit.Below.trans qqr2o1_1 hStqr2o1_1
      refine x_only 9 rfl (by kernel_rfl) ?_; intro wqr2o9_1 hxqr2o9_1
      replace hB3 := hB3.ext hxqr2o9_1
      replace hqr2o4_1 := hqr2o4_1.ext hxqr2o9_1
      replace hBqr2o8_1 := hBqr2o8_1.ext hxqr2o9_1
      replace hqr2o7_1 := hqr2o7_1.ext hxqr2o9_1
      replace hqr2o1_1 := hqr2o1_1.ext hxqr2o9_1
      have hEqr2o9_1 := Ext.trans hEqr2o1_2 hxqr2o9_1
      have qqr2o9_1 := bel_step qqr2o1_12 hxqr2o9_1
      refine o_storeB ha hBqr2o8_1 Tryd.sizeOf50 rfl rfl hqr2o1_1.cells hqr2o1_1.oneC (Nat.le_of_ble_eq_true rfl) ?_; intro wqr2o9_2 hBqr2o9_1 hcqr2o9_1
      replace hcqr2o9_1 := hcqr2o9_1.bl
      replace hBqr2o9_1 : Bx wqr2o9_2 bqr2o8_1 [vqr2o1_1] 50 := hBqr2o9_1
      replace hB3 := hB3.nq hcqr2o9_1 qqr2o8_3
      replace hqr2o4_1 := hqr2o4_1.nq hcqr2o9_1 qqr2o8_5
      replace hqr2o7_1 := hqr2o7_1.nq hcqr2o9_1 qqr2o7_8
      replace hqr2o1_1 := hqr2o1_1.nq hcqr2o9_1 qqr2o1_8
      have hEqr2o9_2 := Ext.then hEqr2o9_1 hcqr2o9_1 (Zn.bl qqr2o8_7)
      refine wpList_nil (e_sq ?_)
      have hStqr2o9_1 : RowKit.Below w12.heap.size wqr2o9_1 wqr2o9_2 := chg_bel hcqr2o9_1 qqr2o9_1.size (Zn.bl qqr2o8_8)
      refine ⟨fun _ => hStqr2o9_1, ?_⟩
      have qqr2o9_2 := RowKit.Below.trans qqr2o9_1 hStqr2o9_1
      refine x_g 10 rfl (by kernel_rfl) (want0 _) ha rfl qqr2o9_2 (g_assign rfl) ?_; clear ha a; intro a ha; refine x_g 11 rfl (by kernel_rfl) (want0 _) ha rfl qqr2o9_2 (g_assign rfl) ?_; clear ha a; intro a ha
      refine x_done (by kernel_rfl) ?_; intro w59 hx60
      replace hB3 := hB3.ext hx60
      replace hqr2o4_1 := hqr2o4_1.ext hx60
      replace hBqr2o9_1 := hBqr2o9_1.ext hx60
      replace hqr2o7_1 := hqr2o7_1.ext hx60
      replace hqr2o1_1 := hqr2o1_1.ext hx60
      have hE61 := Ext.trans hEqr2o9_2 hx60
      replace ha := ha.sub (σ' := [(1, va1), (5, (.pointer (some ⟨bqr2o8_1, 0, none⟩))), (6, vqr2o4_1), (7, vqr2o7_1)]) ⟨rfl, rfl, rfl, rfl, trivial⟩; refine e_sq ?_; obtain rfl := Option.some.inj hF
      exact ⟨xqr2o1_1, (List.replicate ((a1.length : Int) : Int).toNat (0 : BitVec 32)), (List.replicate ((a1.length : Int) : Int).toNat (0 : Int)), bqr2o8_1, vqr2o1_1, bqr2o1_1, vqr2o4_1, bqr2o4_1, vqr2o7_1, bqr2o7_1, ha.sub ⟨rfl, rfl, rfl, rfl, trivial⟩, hE61, hBqr2o9_1, qqr2o8_7, hqr2o1_1, qqr2o1_11, hqr2o4_1, qqr2o4_5, hqr2o7_1, qqr2o7_9, qqr2o1_7, qqr2o8_6, qqr2o7_7, qqr2o1_8, qqr2o1_6, qqr2o1_10, qqr2o8_5, qqr2o1_5, qqr2o7_5, qqr2o7_8, qqr2o1_9, qqr2o7_6, rfl⟩
    · skip
      replace hB3 := hB3.ext hxqr2_1
      have hEqr2o7_1 := Ext.trans hE14 hxqr2_1
      have qqr2o7_1 := bel_step hS58 hxqr2_1
      refine o_make (z0 := (0 : Int)) Rp.int ha rfl sl31 rfl (fun w => ⟨rfl, by decide, rfl⟩) rfl gqr2o7_1 gqr2o7_1b ?_; clear ha a; intro vqr2o7_1 wqr2o7_1 hqr2o7_1 hxqr2o7_1 a ha
      obtain ⟨bqr2o7_1, hbqr2o7_1⟩ : ∃ b : Int, b = wqr2_1.heap.size := ⟨_, rfl⟩; rw [← hbqr2o7_1] at hqr2o7_1
      have qqr2o7_2 := zn_of hbqr2o7_1
      have qqr2o7_3 := Nq.new hB3.fpb qqr2o7_2
      have qqr2o7_4 := Nq.madeO qqr2o7_2 hB3.bi
      have qqr2o7_5 := Zn.upD qqr2o7_2 hEqr2o7_1
      have qqr2o7_6 := Zn.upB qqr2o7_2 qqr2o7_1
      replace hB3 := hB3.ext hxqr2o7_1
      have hEqr2o7_2 := Ext.trans hEqr2o7_1 hxqr2o7_1
      refine wpList_nil (e_sq ?_)
      have hStqr2o7_1 : RowKit.Below w12.heap.size wqr2_1 wqr2o7_1 := ext_bel qqr2o7_1.size hxqr2o7_1
      refine ⟨fun _ => hStqr2o7_1, ?_⟩
      have qqr2o7_7 := RowKit.Below.trans qqr2o7_1 hStqr2o7_1
      refine x_many [1, 4, 8] (by kernel_rfl) rfl fun wqr2o7_2 hxqr2o7_2 => ⟨⟨_, rfl, ?_⟩, ⟨_, rfl, ?_⟩, ⟨_, rfl, ?_⟩, trivial⟩
      · skip
        replace hB3 := hB3.ext hxqr2o7_2
        replace hqr2o7_1 := hqr2o7_1.ext hxqr2o7_2
        have hEqr2o1_1 := Ext.trans hEqr2o7_2 hxqr2o7_2
        have qqr2o1_1 := bel_step qqr2o7_7 hxqr2o7_2
        refine o_call ha rfl rfl Tryd.call31 (W_impl_netsOf (ha0_0.ext hEqr2o1_1) hcqr2o1_1) ?_; clear ha a; rintro vqr2o1_1 wqr2o1_1 ⟨bqr2o1_1, hqr2o1_1, zqr2o1_1, hxqr2o1_1⟩ a ha
        have qqr2o1_2 := Zn.upB zqr2o1_1 qqr2o1_1
        have qqr2o1_3 := Nq.new hB3.fpb zqr2o1_1
        have qqr2o1_4 := Nq.madeO zqr2o1_1 hB3.bi
        have qqr2o1_5 := Nq.new hqr2o7_1.fpb zqr2o1_1
        have qqr2o1_6 := Nq.madeO zqr2o1_1 hqr2o7_1.blt
        replace hB3 := hB3.ext hxqr2o1_1
        replace hqr2o7_1 := hqr2o7_1.ext hxqr2o1_1
        have hEqr2o1_2 := Ext.trans hEqr2o1_1 hxqr2o1_1
        have qqr2o1_7 := Zn.upD zqr2o1_1 hEqr2o1_1
        refine wpList_nil (e_sq ?_)
        have hStqr2o1_1 : RowKit.Below w12.heap.size wqr2o7_2 wqr2o1_1 := ext_bel qqr2o1_1.size hxqr2o1_1
        refine ⟨fun _ => hStqr2o1_1, ?_⟩
        have qqr2o1_8 := RowKit.Below.trans qqr2o1_1 hStqr2o1_1
        refine x_many [4, 8] (by kernel_rfl) rfl fun wqr2o1_2 hxqr2o1_2 => ⟨⟨_, rfl, ?_⟩, ⟨_, rfl, ?_⟩, trivial⟩
        · skip
          replace hB3 := hB3.ext hxqr2o1_2
          replace hqr2o7_1 := hqr2o7_1.ext hxqr2o1_2
          replace hqr2o1_1 := hqr2o1_1.ext hxqr2o1_2
          have hEqr2o4_1 := Ext.trans hEqr2o1_2 hxqr2o1_2
          have qqr2o4_1 := bel_step qqr2o1_8 hxqr2o1_2
          refine o_make (z0 := (0 : BitVec 32)) Rp.u32 ha rfl sl48 rfl (fun w => ⟨rfl, rfl⟩) rfl gqr2o4_1 gqr2o4_1b ?_; clear ha a; intro vqr2o4_1 wqr2o4_1 hqr2o4_1 hxqr2o4_1 a ha
          obtain ⟨bqr2o4_1, hbqr2o4_1⟩ : ∃ b : Int, b = wqr2o1_2.heap.size := ⟨_, rfl⟩; rw [← hbqr2o4_1] at hqr2o4_1
          have qqr2o4_2 := zn_of hbqr2o4_1
          have qqr2o4_3 := Nq.new hB3.fpb qqr2o4_2
          have qqr2o4_4 := Nq.madeO qqr2o4_2 hB3.bi
          have qqr2o4_5 := Nq.new hqr2o7_1.fpb qqr2o4_2
          have qqr2o4_6 := Nq.madeO qqr2o4_2 hqr2o7_1.blt
          have qqr2o4_7 := Nq.new hqr2o1_1.fpb qqr2o4_2
          have qqr2o4_8 := Nq.madeO qqr2o4_2 hqr2o1_1.blt
          have qqr2o4_9 := Zn.upD qqr2o4_2 hEqr2o4_1
          have qqr2o4_10 := Zn.upB qqr2o4_2 qqr2o4_1
          replace hB3 := hB3.ext hxqr2o4_1
          replace hqr2o7_1 := hqr2o7_1.ext hxqr2o4_1
          replace hqr2o1_1 := hqr2o1_1.ext hxqr2o4_1
          have hEqr2o4_2 := Ext.trans hEqr2o4_1 hxqr2o4_1
          refine wpList_nil (e_sq ?_)
          have hStqr2o4_1 : RowKit.Below w12.heap.size wqr2o1_2 wqr2o4_1 := ext_bel qqr2o4_1.size hxqr2o4_1
          refine ⟨fun _ => hStqr2o4_1, ?_⟩
          have qqr2o4_11 := RowKit.Below.trans qqr2o4_1 hStqr2o4_1
          refine x_only 8 rfl (by kernel_rfl) ?_; intro wqr2o8_1 hxqr2o8_1
          replace hB3 := hB3.ext hxqr2o8_1
          replace hqr2o7_1 := hqr2o7_1.ext hxqr2o8_1
          replace hqr2o1_1 := hqr2o1_1.ext hxqr2o8_1
          replace hqr2o4_1 := hqr2o4_1.ext hxqr2o8_1
          have hEqr2o8_1 := Ext.trans hEqr2o4_2 hxqr2o8_1
          have qqr2o8_1 := bel_step qqr2o4_11 hxqr2o8_1
          refine o_alloc (cs := [(.slice none 0 0)]) ha rfl Tryd.zeroValue50 rfl ?_; clear ha a; intro bqr2o8_1 wqr2o8_2 hBqr2o8_1 hxqr2o8_2 hloqr2o8_1 a ha
          have qqr2o8_2 := Zn.one hloqr2o8_1
          have qqr2o8_3 := Nq.new hB3.fpb qqr2o8_2
          have qqr2o8_4 := Nq.made1 hloqr2o8_1 hB3.bi
          have qqr2o8_5 := Nq.new hqr2o7_1.fpb qqr2o8_2
          have qqr2o8_6 := Nq.made1 hloqr2o8_1 hqr2o7_1.blt
          have qqr2o8_7 := Nq.new hqr2o1_1.fpb qqr2o8_2
          have qqr2o8_8 := Nq.made1 hloqr2o8_1 hqr2o1_1.blt
          have qqr2o8_9 := Nq.new hqr2o4_1.fpb qqr2o8_2
          have qqr2o8_10 := Nq.made1 hloqr2o8_1 hqr2o4_1.blt
          have qqr2o8_11 := Zn.upD qqr2o8_2 hEqr2o8_1
          have qqr2o8_12 := Zn.upB qqr2o8_2 qqr2o8_1
          replace hB3 := hB3.ext hxqr2o8_2
          replace hqr2o7_1 := hqr2o7_1.ext hxqr2o8_2
          replace hqr2o1_1 := hqr2o1_1.ext hxqr2o8_2
          replace hqr2o4_1 := hqr2o4_1.ext hxqr2o8_2
          have hEqr2o8_2 := Ext.trans hEqr2o8_1 hxqr2o8_2
          refine wpList_nil (e_sq ?_)
          have hStqr2o8_1 : RowKit.Below w12.heap.size wqr2o8_1 wqr2o8_2 := ext_bel qqr2o8_1.size hxqr2o8_2
          refine ⟨fun _ => hStqr2o8_1, ?_⟩
          have qqr2o8_13 := RowKit.Below.trans qqr2o8_1 hStqr2o8_1
          refine x_only 9 rfl (by kernel_rfl) ?_; intro wqr2o9_1 hxqr2o9_1
          replace hB3 := hB3.ext hxqr2o9_1
          replace hqr2o7_1 := hqr2o7_1.ext hxqr2o9_1
          replace hqr2o1_1 := hqr2o1_1.ext hxqr2o9_1
          replace hqr2o4_1 := hqr2o4_1.ext hxqr2o9_1
          replace hBqr2o8_1 := hBqr2o8_1.ext hxqr2o9_1
          have hEqr2o9_1 := Ext.trans hEqr2o8_2 hxqr2o9_1
          have qqr2o9_1 := bel_step qqr2o8_13 hxqr2o9_1
          refine o_storeB ha hBqr2o8_1 Tryd.sizeOf50 rfl rfl hqr2o1_1.cells hqr2o1_1.oneC (Nat.le_of_ble_eq_true rfl) ?_; intro wqr2o9_2 hBqr2o9_1 hcqr2o9_1
          replace hcqr2o9_1 := hcqr2o9_1.bl
          replace hBqr2o9_1 : Bx wqr2o9_2 bqr2o8_1 [vqr2o1_1] 50 := hBqr2o9_1
          replace hB3 := hB3.nq hcqr2o9_1 qqr2o8_3
          replace hqr2o7_1 := hqr2o7_1.nq hcqr2o9_1 qqr2o8_5
          replace hqr2o1_1 := hqr2o1_1.nq hcqr2o9_1 qqr2o8_7
          replace hqr2o4_1 := hqr2o4_1.nq hcqr2o9_1 qqr2o8_9
          have hEqr2o9_2 := Ext.then hEqr2o9_1 hcqr2o9_1 (Zn.bl qqr2o8_11)
          refine wpList_nil (e_sq ?_)
          have hStqr2o9_1 : RowKit.Below w12.heap.size wqr2o9_1 wqr2o9_2 := chg_bel hcqr2o9_1 qqr2o9_1.size (Zn.bl qqr2o8_12)
          refine ⟨fun _ => hStqr2o9_1, ?_⟩
          have qqr2o9_2 := RowKit.Below.trans qqr2o9_1 hStqr2o9_1
          refine x_g 10 rfl (by kernel_rfl) (want0 _) ha rfl qqr2o9_2 (g_assign rfl) ?_; clear ha a; intro a ha; refine x_g 11 rfl (by kernel_rfl) (want0 _) ha rfl qqr2o9_2 (g_assign rfl) ?_; clear ha a; intro a ha
          refine x_done (by kernel_rfl) ?_; intro w59 hx60
          replace hB3 := hB3.ext hx60
          replace hqr2o7_1 := hqr2o7_1.ext hx60
          replace hqr2o1_1 := hqr2o1_1.ext hx60
          replace hqr2o4_1 := hqr2o4_1.ext hx60
          replace hBqr2o9_1 := hBqr2o9_1.ext hx60
          have hE61 := Ext.trans hEqr2o9_2 hx60
          replace ha := ha.sub (σ' := [(1, va1), (5, (.pointer (some ⟨bqr2o8_1, 0, none⟩))), (6, vqr2o4_1), (7, vqr2o7_1)]) ⟨rfl, rfl, rfl, rfl, trivial⟩; refine e_sq ?_; obtain rfl := Option.some.inj hF
          exact ⟨xqr2o1_1, (List.replicate ((a1.length : Int) : Int).toNat (0 : BitVec 32)), (List.replicate ((a1.length : Int) : Int).toNat (0 : Int)), bqr2o8_1, vqr2o1_1, bqr2o1_1, vqr2o4_1, bqr2o4_1, vqr2o7_1, bqr2o7_1, ha.sub ⟨rfl, rfl, rfl, rfl, trivial⟩, hE61, hBqr2o9_1, qqr2o8_11, hqr2o1_1, qqr2o1_7, hqr2o4_1, qqr2o4_9, hqr2o7_1, qqr2o7_5, qqr2o8_8, qqr2o8_10, qqr2o8_6, qqr2o8_7, qqr2o4_7, qqr2o1_6, qqr2o8_9, qqr2o4_8, qqr2o4_6, qqr2o8_5, qqr2o1_5, qqr2o4_5, rfl⟩
        skip
        replace hB3 := hB3.ext hxqr2o1_2
        replace hqr2o7_1 := hqr2o7_1.ext hxqr2o1_2
        replace hqr2o1_1 := hqr2o1_1.ext hxqr2o1_2
        have hEqr2o8_1 := Ext.trans hEqr2o1_2 hxqr2o1_2
        have qqr2o8_1 := bel_step qqr2o1_8 hxqr2o1_2
        refine o_alloc (cs := [(.slice none 0 0)]) ha rfl Tryd.zeroValue50 rfl ?_; clear ha a; intro bqr2o8_1 wqr2o8_1 hBqr2o8_1 hxqr2o8_1 hloqr2o8_1 a ha
        have qqr2o8_2 := Zn.one hloqr2o8_1
        have qqr2o8_3 := Nq.new hB3.fpb qqr2o8_2
        have qqr2o8_4 := Nq.made1 hloqr2o8_1 hB3.bi
        have qqr2o8_5 := Nq.new hqr2o7_1.fpb qqr2o8_2
        have qqr2o8_6 := Nq.made1 hloqr2o8_1 hqr2o7_1.blt
        have qqr2o8_7 := Nq.new hqr2o1_1.fpb qqr2o8_2
        have qqr2o8_8 := Nq.made1 hloqr2o8_1 hqr2o1_1.blt
        have qqr2o8_9 := Zn.upD qqr2o8_2 hEqr2o8_1
        have qqr2o8_10 := Zn.upB qqr2o8_2 qqr2o8_1
        replace hB3 := hB3.ext hxqr2o8_1
        replace hqr2o7_1 := hqr2o7_1.ext hxqr2o8_1
        replace hqr2o1_1 := hqr2o1_1.ext hxqr2o8_1
        have hEqr2o8_2 := Ext.trans hEqr2o8_1 hxqr2o8_1
        refine wpList_nil (e_sq ?_)
        have hStqr2o8_1 : RowKit.Below w12.heap.size wqr2o1_2 wqr2o8_1 := ext_bel qqr2o8_1.size hxqr2o8_1
        refine ⟨fun _ => hStqr2o8_1, ?_⟩
        have qqr2o8_11 := RowKit.Below.trans qqr2o8_1 hStqr2o8_1
        refine x_many [4, 9] (by kernel_rfl) rfl fun wqr2o8_2 hxqr2o8_2 => ⟨⟨_, rfl, ?_⟩, ⟨_, rfl, ?_⟩, trivial⟩
        · skip
          replace hB3 := hB3.ext hxqr2o8_2
          replace hqr2o7_1 := hqr2o7_1.ext hxqr2o8_2
          replace hqr2o1_1 := hqr2o1_1.ext hxqr2o8_2
          replace hBqr2o8_1 := hBqr2o8_1.ext hxqr2o8_2
          have hEqr2o4_1 := Ext.trans hEqr2o8_2 hxqr2o8_2
          have qqr2o4_1 := bel_step qqr2o8_11 hxqr2o8_2
          refine o_make (z0 := (0 : BitVec 32)) Rp.u32 ha rfl sl48 rfl (fun w => ⟨rfl, rfl⟩) rfl gqr2o4_1 gqr2o4_1b ?_; clear ha a; intro vqr2o4_1 wqr2o4_1 hqr2o4_1 hxqr2o4_1 a ha
          obtain ⟨bqr2o4_1, hbqr2o4_1⟩ : ∃ b : Int, b = wqr2o8_2.heap.size := ⟨_, rfl⟩; rw [← hbqr2o4_1] at hqr2o4_1
          have qqr2o4_2 := zn_of hbqr2o4_1
          have qqr2o4_3 := Nq.new hB3.fpb qqr2o4_2
          have qqr2o4_4 := Nq.madeO qqr2o4_2 hB3.bi
          have qqr2o4_5 := Nq.new hqr2o7_1.fpb qqr2o4_2
          have qqr2o4_6 := Nq.madeO qqr2o4_2 hqr2o7_1.blt
          have qqr2o4_7 := Nq.new hqr2o1_1.fpb qqr2o4_2
          have qqr2o4_8 := Nq.madeO qqr2o4_2 hqr2o1_1.blt
          have qqr2o4_9 := Nq.new hBqr2o8_1.fpb qqr2o4_2
          have qqr2o4_10 := Nq.madeO qqr2o4_2 hBqr2o8_1.bi
          have qqr2o4_11 := Zn.upD qqr2o4_2 hEqr2o4_1
          have qqr2o4_12 := Zn.upB qqr2o4_2 qqr2o4_1
          replace hB3 := hB3.ext hxqr2o4_1
          replace hqr2o7_1 := hqr2o7_1.ext hxqr2o4_1
          replace hqr2o1_1 := hqr2o1_1.ext hxqr2o4_1
          replace hBqr2o8_1 := hBqr2o8_1.ext hxqr2o4_1
          have hEqr2o4_2 := Ext.trans hEqr2o4_1 hxqr2o4_1
          refine wpList_nil (e_sq ?_)
          have hStqr2o4_1 : RowKit.Below w12.heap.size wqr2o8_2 wqr2o4_1 := ext_bel qqr2o4_1.size hxqr2o4_1
          refine ⟨fun _ => hStqr2o4_1, ?_⟩
          have qqr2o4_13 := RowKit.Below.trans qqr2o4_1 hStqr2o4_1
          refine x_only 9 rfl (by kernel_rfl) ?_; intro wqr2o9_1 hxqr2o9_1
          replace hB3 := hB3.ext hxqr2o9_1
          replace hqr2o7_1 := hqr2o7_1.ext hxqr2o9_1
          replace hqr2o1_1 := hqr2o1_1.ext hxqr2o9_1
          replace hBqr2o8_1 := hBqr2o8_1.ext hxqr2o9_1
          replace hqr2o4_1 := hqr2o4_1.ext hxqr2o9_1
          have hEqr2o9_1 := Ext.trans hEqr2o4_2 hxqr2o9_1
          have qqr2o9_1 := bel_step qqr2o4_13 hxqr2o9_1
          refine o_storeB ha hBqr2o8_1 Tryd.sizeOf50 rfl rfl hqr2o1_1.cells hqr2o1_1.oneC (Nat.le_of_ble_eq_true rfl) ?_; intro wqr2o9_2 hBqr2o9_1 hcqr2o9_1
          replace hcqr2o9_1 := hcqr2o9_1.bl
          replace hBqr2o9_1 : Bx wqr2o9_2 bqr2o8_1 [vqr2o1_1] 50 := hBqr2o9_1
          replace hB3 := hB3.nq hcqr2o9_1 qqr2o8_3
          replace hqr2o7_1 := hqr2o7_1.nq hcqr2o9_1 qqr2o8_5
          replace hqr2o1_1 := hqr2o1_1.nq hcqr2o9_1 qqr2o8_7
          replace hqr2o4_1 := hqr2o4_1.nq hcqr2o9_1 qqr2o4_10
          have hEqr2o9_2 := Ext.then hEqr2o9_1 hcqr2o9_1 (Zn.bl qqr2o8_9)
          refine wpList_nil (e_sq ?_)
          have hStqr2o9_1 : RowKit.Below w12.heap.size wqr2o9_1 wqr2o9_2 := chg_bel hcqr2o9_1 qqr2o9_1.size (Zn.bl qqr2o8_10)
          refine ⟨fun _ => hStqr2o9_1, ?_⟩
          have qqr2o9_2 := RowKit.Below.trans qqr2o9_1 hStqr2o9_1
          refine x_g 10 rfl (by kernel_rfl) (want0 _) ha rfl qqr2o9_2 (g_assign rfl) ?_; clear ha a; intro a ha; refine x_g 11 rfl (by kernel_rfl) (want0 _) ha rfl qqr2o9_2 (g_assign rfl) ?_; clear ha a; intro a ha
          refine x_done (by kernel_rfl) ?_; intro w59 hx60
          replace hB3 := hB3.ext hx60
          replace hqr2o7_1 := hqr2o7_1.ext hx60
          replace hqr2o1_1 := hqr2o1_1.ext hx60
          replace hBqr2o9_1 := hBqr2o9_1.ext hx60
          replace hqr2o4_1 := hqr2o4_1.ext hx60
          have hE61 := Ext.trans hEqr2o9_2 hx60
          replace ha := ha.sub (σ' := [(1, va1), (5, (.pointer (some ⟨bqr2o8_1, 0, none⟩))), (6, vqr2o4_1), (7, vqr2o7_1)]) ⟨rfl, rfl, rfl, rfl, trivial⟩; refine e_sq ?_; obtain rfl := Option.some.inj hF
          exact ⟨xqr2o1_1, (List.replicate ((a1.length : Int) : Int).toNat (0 : BitVec 32)), (List.replicate ((a1.length : Int) : Int).toNat (0 : Int)), bqr2o8_1, vqr2o1_1, bqr2o1_1, vqr2o4_1, bqr2o4_1, vqr2o7_1, bqr2o7_1, ha.sub ⟨rfl, rfl, rfl, rfl, trivial⟩, hE61, hBqr2o9_1, qqr2o8_9, hqr2o1_1, qqr2o1_7, hqr2o4_1, qqr2o4_11, hqr2o7_1, qqr2o7_5, qqr2o8_8, qqr2o4_9, qqr2o8_6, qqr2o8_7, qqr2o4_7, qqr2o1_6, qqr2o4_10, qqr2o4_8, qqr2o4_6, qqr2o8_5, qqr2o1_5, qqr2o4_5, rfl⟩
        skip
        replace hB3 := hB3.ext hxqr2o8_2
        replace hqr2o7_1 := hqr2o7_1.ext hxqr2o8_2
        replace hqr2o1_1 := hqr2o1_1.ext hxqr2o8_2
        replace hBqr2o8_1 := hBqr2o8_1.ext hxqr2o8_2
        have hEqr2o9_1 := Ext.trans hEqr2o8_2 hxqr2o8_2
        have qqr2o9_1 := bel_step qqr2o8_11 hxqr2o8_2
        refine o_storeB ha hBqr2o8_1 Tryd.sizeOf50 rfl rfl hqr2o1_1.cells hqr2o1_1.oneC (Nat.le_of_ble_eq_true rfl) ?_; intro wqr2o9_1 hBqr2o9_1 hcqr2o9_1
        replace hcqr2o9_1 := hcqr2o9_1.bl
        replace hBqr2o9_1 : Bx wqr2o9_1 bqr2o8_1 [vqr2o1_1] 50 := hBqr2o9_1
        replace hB3 := hB3.nq hcqr2o9_1 qqr2o8_3
        replace hqr2o7_1 := hqr2o7_1.nq hcqr2o9_1 qqr2o8_5
        replace hqr2o1_1 := hqr2o1_1.nq hcqr2o9_1 qqr2o8_7
        have hEqr2o9_2 := Ext.then hEqr2o9_1 hcqr2o9_1 (Zn.bl qqr2o8_9)
        refine wpList_nil (e_sq ?_)
        have hStqr2o9_1 : RowKit.Below w12.heap.size wqr2o8_2 wqr2o9_1 := chg_bel hcqr2o9_1 qqr2o9_1.size (Zn.bl qqr2o8_10)
        refine ⟨fun _ => hStqr2o9_1, ?_⟩
        have qqr2o9_2 := RowKit.Below.trans qqr2o9_1 hStqr2o9_1
        refine x_only 4 rfl (by kernel_rfl) ?_; intro wqr2o4_1 hxqr2o4_1
        replace hB3 := hB3.ext hxqr2o4_1
        replace hqr2o7_1 := hqr2o7_1.ext hxqr2o4_1
        replace hqr2o1_1 := hqr2o1_1.ext hxqr2o4_1
        replace hBqr2o9_1 := hBqr2o9_1.ext hxqr2o4_1
        have hEqr2o4_1 := Ext.trans hEqr2o9_2 hxqr2o4_1
        have qqr2o4_1 := bel_step qqr2o9_2 hxqr2o4_1
        refine o_make (z0 := (0 : BitVec 32)) Rp.u32 ha rfl sl48 rfl (fun w => ⟨rfl, rfl⟩) rfl gqr2o4_1 gqr2o4_1b ?_; clear ha a; intro vqr2o4_1 wqr2o4_2 hqr2o4_1 hxqr2o4_2 a ha
        obtain ⟨bqr2o4_1, hbqr2o4_1⟩ : ∃ b : Int, b = wqr2o4_1.heap.size := ⟨_, rfl⟩; rw [← hbqr2o4_1] at hqr2o4_1
        have qqr2o4_2 := zn_of hbqr2o4_1
        have qqr2o4_3 := Nq.new hB3.fpb qqr2o4_2
        have qqr2o4_4 := Nq.madeO qqr2o4_2 hB3.bi
        have qqr2o4_5 := Nq.new hqr2o7_1.fpb qqr2o4_2
        have qqr2o4_6 := Nq.madeO qqr2o4_2 hqr2o7_1.blt
        have qqr2o4_7 := Nq.new hqr2o1_1.fpb qqr2o4_2
        have qqr2o4_8 := Nq.madeO qqr2o4_2 hqr2o1_1.blt
        have qqr2o4_9 := Nq.new hBqr2o9_1.fpb qqr2o4_2
        have qqr2o4_10 := Nq.madeO qqr2o4_2 hBqr2o9_1.bi
        have qqr2o4_11 := Zn.upD qqr2o4_2 hEqr2o4_1
        have qqr2o4_12 := Zn.upB qqr2o4_2 qqr2o4_1
        replace hB3 := hB3.ext hxqr2o4_2
        replace hqr2o7_1 := hqr2o7_1.ext hxqr2o4_2
        replace hqr2o1_1 := hqr2o1_1.ext hxqr2o4_2
        replace hBqr2o9_1 := hBqr2o9_1.ext hxqr2o4_2
        have hEqr2o4_2 := Ext.trans hEqr2o4_1 hxqr2o4_2
        refine wpList_nil (e_sq ?_)
        have hStqr2o4_1 : RowKit.Below w12.heap.size wqr2o4_1 wqr2o4_2 := ext_bel qqr2o4_1.size hxqr2o4_2
        refine ⟨fun _ => hStqr2o4_1, ?_⟩
        have qqr2o4_13 := RowKit.Below.trans qqr2o4_1 hStqr2o4_1
        refine x_g 10 rfl (by kernel_rfl) (want0 _) ha rfl qqr2o4_13 (g_assign rfl) ?_; clear ha a; intro a ha; refine x_g 11 rfl (by kernel_rfl) (want0 _) ha rfl qqr2o4_13 (g_assign rfl) ?_; clear ha a; intro a ha
        refine x_done (by kernel_rfl) ?_; intro w59 hx60
        replace hB3 := hB3.ext hx60
        replace hqr2o7_1 := hqr2o7_1.ext hx60
        replace hqr2o1_1 := hqr2o1_1.ext hx60
        replace hBqr2o9_1 := hBqr2o9_1.ext hx60
        replace hqr2o4_1 := hqr2o4_1.ext hx60
        have hE61 := Ext.trans hEqr2o4_2 hx60
        replace ha := ha.sub (σ' := [(1, va1), (5, (.pointer (some ⟨bqr2o8_1, 0, none⟩))), (6, vqr2o4_1), (7, vqr2o7_1)]) ⟨rfl, rfl, rfl, rfl, trivial⟩; refine e_sq ?_; obtain rfl := Option.some.inj hF
        exact ⟨xqr2o1_1, (List.replicate ((a1.length : Int) : Int).toNat (0 : BitVec 32)), (List.replicate ((a1.length : Int) : Int).toNat (0 : Int)), bqr2o8_1, vqr2o1_1, bqr2o1_1, vqr2o4_1, bqr2o4_1, vqr2o7_1, bqr2o7_1, ha.sub ⟨rfl, rfl, rfl, rfl, trivial⟩, hE61, hBqr2o9_1, qqr2o8_9, hqr2o1_1, qqr2o1_7, hqr2o4_1, qqr2o4_11, hqr2o7_1, qqr2o7_5, qqr2o8_8, qqr2o4_9, qqr2o8_6, qqr2o8_7, qqr2o4_7, qqr2o1_6, qqr2o4_10, qqr2o4_8, qqr2o4_6, qqr2o8_5, qqr2o1_5, qqr2o4_5, rfl⟩
      · skip
        replace hB3 := hB3.ext hxqr2o7_2
        replace hqr2o7_1 := hqr2o7_1.ext hxqr2o7_2
        have hEqr2o4_1 := Ext.trans hEqr2o7_2 hxqr2o7_2
        have qqr2o4_1 := bel_step qqr2o7_7 hxqr2o7_2
        refine o_make (z0 := (0 : BitVec 32)) Rp.u32 ha rfl sl48 rfl (fun w => ⟨rfl, rfl⟩) rfl gqr2o4_1 gqr2o4_1b ?_; clear ha a; intro vqr2o4_1 wqr2o4_1 hqr2o4_1 hxqr2o4_1 a ha
        obtain ⟨bqr2o4_1, hbqr2o4_1⟩ : ∃ b : Int, b = wqr2o7_2.heap.size := ⟨_, rfl⟩; rw [← hbqr2o4_1] at hqr2o4_1
        have qqr2o4_2 := zn_of hbqr2o4_1
        have qqr2o4_3 := Nq.new hB3.fpb qqr2o4_2
        have qqr2o4_4 := Nq.madeO qqr2o4_2 hB3.bi
        have qqr2o4_5 := Nq.new hqr2o7_1.fpb qqr2o4_2
        have qqr2o4_6 := Nq.madeO qqr2o4_2 hqr2o7_1.blt
        have qqr2o4_7 := Zn.upD qqr2o4_2 hEqr2o4_1
        have qqr2o4_8 := Zn.upB qqr2o4_2 qqr2o4_1
        replace hB3 := hB3.ext hxqr2o4_1
        replace hqr2o7_1 := hqr2o7_1.ext hxqr2o4_1
        have hEqr2o4_2 := Ext.trans hEqr2o4_1 hxqr2o4_1
        refine wpList_nil (e_sq ?_)
        have hStqr2o4_1 : RowKit.Below w12.heap.size wqr2o7_2 wqr2o4_1 := ext_bel qqr2o4_1.size hxqr2o4_1
        refine ⟨fun _ => hStqr2o4_1, ?_⟩
        have qqr2o4_9 := RowKit.Below.trans qqr2o4_1 hStqr2o4_1
        refine x_many [1, 8] (by kernel_rfl) rfl fun wqr2o4_2 hxqr2o4_2 => ⟨⟨_, rfl, ?_⟩, ⟨_, rfl, ?_⟩, trivial⟩
        · skip
          replace hB3 := hB3.ext hxqr2o4_2
          replace hqr2o7_1 := hqr2o7_1.ext hxqr2o4_2
          replace hqr2o4_1 := hqr2o4_1.ext hxqr2o4_2
          have hEqr2o1_1 := Ext.trans hEqr2o4_2 hxqr2o4_2
          have qqr2o1_1 := bel_step qqr2o4_9 hxqr2o4_2
          refine o_call ha rfl rfl Tryd.call31 (W_impl_netsOf (ha0_0.ext hEqr2o1_1) hcqr2o1_1) ?_; clear ha a; rintro vqr2o1_1 wqr2o1_1 ⟨bqr2o1_1, hqr2o1_1, zqr2o1_1, hxqr2o1_1⟩ a ha
          have qqr2o1_2 := Zn.upB zqr2o1_1 qqr2o1_1
          have qqr2o1_3 := Nq.new hB3.fpb zqr2o1_1
          have qqr2o1_4 := Nq.madeO zqr2o1_1 hB3.bi
          have qqr2o1_5 := Nq.new hqr2o7_1.fpb zqr2o1_1
          have qqr2o1_6 := Nq.madeO zqr2o1_1 hqr2o7_1.blt
          have qqr2o1_7 := Nq.new hqr2o4_1.fpb zqr2o1_1
          have qqr2o1_8 := Nq.madeO zqr2o1_1 hqr2o4_1.blt
          replace hB3 := hB3.ext hxqr2o1_1
          replace hqr2o7_1 := hqr2o7_1.ext hxqr2o1_1
          replace hqr2o4_1 := hqr2o4_1.ext hxqr2o1_1
          have hEqr2o1_2 := Ext.trans hEqr2o1_1 hxqr2o1_1
          have qqr2o1_9 := Zn.upD zqr2o1_1 hEqr2o1_1
          refine wpList_nil (e_sq ?_)
          have hStqr2o1_1 : RowKit.Below w12.heap.size wqr2o4_2 wqr2o1_1 := ext_bel qqr2o1_1.size hxqr2o1_1
          refine ⟨fun _ => hStqr2o1_1, ?_⟩
          have qqr2o1_10 := RowKit.Below.trans qqr2o1_1 hStqr2o1_1
          refine x_only 8 rfl (by kernel_rfl) ?_; intro wqr2o8_1 hxqr2o8_1
          replace hB3 := hB3.ext hxqr2o8_1
          replace hqr2o7_1 := hqr2o7_1.ext hxqr2o8_1
          replace hqr2o4_1 := hqr2o4_1.ext hxqr2o8_1
          replace hqr2o1_1 := hqr2o1_1.ext hxqr2o8_1
          have hEqr2o8_1 := Ext.trans hEqr2o1_2 hxqr2o8_1
          have qqr2o8_1 := bel_step qqr2o1_10 hxqr2o8_1
          refine o_alloc (cs := [(.slice none 0 0)]) ha rfl Tryd.zeroValue50 rfl ?_; clear ha a; intro bqr2o8_1 wqr2o8_2 hBqr2o8_1 hxqr2o8_2 hloqr2o8_1 a ha
          have qqr2o8_2 := Zn.one hloqr2o8_1
          have qqr2o8_3 := Nq.new hB3.fpb qqr2o8_2
          have qqr2o8_4 := Nq.made1 hloqr2o8_1 hB3.bi
          have qqr2o8_5 := Nq.new hqr2o7_1.fpb qqr2o8_2
          have qqr2o8_6 := Nq.made1 hloqr2o8_1 hqr2o7_1.blt
          have qqr2o8_7 := Nq.new hqr2o4_1.fpb qqr2o8_2
          have qqr2o8_8 := Nq.made1 hloqr2o8_1 hqr2o4_1.blt
          have qqr2o8_9 := Nq.new hqr2o1_1.fpb qqr2o8_2
          have qqr2o8_10 := Nq.made1 hloqr2o8_1 hqr2o1_1.blt
          have qqr2o8_11 := Zn.upD qqr2o8_2 hEqr2o8_1
          have qqr2o8_12 := Zn.upB qqr2o8_2 qqr2o8_1
          replace hB3 := hB3.ext hxqr2o8_2
          replace hqr2o7_1 := hqr2o7_1.ext hxqr2o8_2
          replace hqr2o4_1 := hqr2o4_1.ext hxqr2o8_2
          replace hqr2o1_1 := hqr2o1_1.ext hxqr2o8_2
          have hEqr2o8_2 := Ext.trans hEqr2o8_1 hxqr2o8_2
          refine wpList_nil (e_sq ?_)
          have hStqr2o8_1 : RowKit.Below w12.heap.size wqr2o8_1 wqr2o8_2 := ext_bel qqr2o8_1.size hxqr2o8_2
          refine ⟨fun _ => hStqr2o8_1, ?_⟩
          have qqr2o8_13 := RowKit.Below.trans qqr2o8_1 hStqr2o8_1
          refine x_only 9 rfl (by kernel_rfl) ?_; intro wqr2o9_1 hxqr2o9_1
          replace hB3 := hB3.ext hxqr2o9_1
          replace hqr2o7_1 := hqr2o7_1.ext hxqr2o9_1
          replace hqr2o4_1 := hqr2o4_1.ext hxqr2o9_1
          replace hqr2o1_1 := hqr2o1_1.ext hxqr2o9_1
          replace hBqr2o8_1 := hBqr2o8_1.ext hxqr2o9_1
          have hEqr2o9_1 := Ext.trans hEqr2o8_2 hxqr2o9_1
          have qqr2o9_1 := bel_step qqr2o8_13 hxqr2o9_1
          refine o_storeB ha hBqr2o8_1 Tryd.sizeOf50 rfl rfl hqr2o1_1.cells hqr2o1_1.oneC (Nat.le_of_ble_eq_true rfl) ?_; intro wqr2o9_2 hBqr2o9_1 hcqr2o9_1
          replace hcqr2o9_1 := hcqr2o9_1.bl
          replace hBqr2o9_1 : Bx wqr2o9_2 bqr2o8_1 [vqr2o1_1] 50 := hBqr2o9_1
          replace hB3 := hB3.nq hcqr2o9_1 qqr2o8_3
          replace hqr2o7_1 := hqr2o7_1.nq hcqr2o9_1 qqr2o8_5
          replace hqr2o4_1 := hqr2o4_1.nq hcqr2o9_1 qqr2o8_7
          replace hqr2o1_1 := hqr2o1_1.nq hcqr2o9_1 qqr2o8_9
          have hEqr2o9_2 := Ext.then hEqr2o9_1 hcqr2o9_1 (Zn.bl qqr2o8_11)
          refine wpList_nil (e_sq ?_)
          have hStqr2o9_1 : RowKit.Below w12.heap.size wqr2o9_1 wqr2o9_2 := chg_bel hcqr2o9_1 qqr2o9_1.size (Zn.bl qqr2o8_12)
          refine ⟨fun _ => hStqr2o9_1, ?_⟩
          have qqr2o9_2 := RowKit.Below.trans qqr2o9_1 hStqr2o9_1
          refine x_g 10 rfl (by kernel_rfl) (want0 _) ha rfl qqr2o9_2 (g_assign rfl) ?_; clear ha a; intro a ha; refine x_g 11 rfl (by kernel_rfl) (want0 _) ha rfl qqr2o9_2 (g_assign rfl) ?_; clear ha a; intro a ha
          refine x_done (by kernel_rfl) ?_; intro w59 hx60
          replace hB3 := hB3.ext hx60
          replace hqr2o7_1 := hqr2o7_1.ext hx60
          replace hqr2o4_1 := hqr2o4_1.ext hx60
          replace hqr2o1_1 := hqr2o1_1.ext hx60
          replace hBqr2o9_1 := hBqr2o9_1.ext hx60
          have hE61 := Ext.trans hEqr2o9_2 hx60
          replace ha := ha.sub (σ' := [(1, va1), (5, (.pointer (some ⟨bqr2o8_1, 0, none⟩))), (6, vqr2o4_1), (7, vqr2o7_1)]) ⟨rfl, rfl, rfl, rfl, trivial⟩; refine e_sq ?_; obtain rfl := Option.some.inj hF
          exact ⟨xqr2o1_1, (List.replicate ((a1.length : Int) : Int).toNat (0 : BitVec 32)), (List.replicate ((a1.length : Int) : Int).toNat (0 : Int)), bqr2o8_1, vqr2o1_1, bqr2o1_1, vqr2o4_1, bqr2o4_1, vqr2o7_1, bqr2o7_1, ha.sub ⟨rfl, rfl, rfl, rfl, trivial⟩, hE61, hBqr2o9_1, qqr2o8_11, hqr2o1_1, qqr2o1_9, hqr2o4_1, qqr2o4_7, hqr2o7_1, qqr2o7_5, qqr2o8_10, qqr2o8_8, qqr2o8_6, qqr2o8_9, qqr2o1_8, qqr2o1_6, qqr2o8_7, qqr2o1_7, qqr2o4_6, qqr2o8_5, qqr2o1_5, qqr2o4_5, rfl⟩
        skip
        replace hB3 := hB3.ext hxqr2o4_2
        replace hqr2o7_1 := hqr2o7_1.ext hxqr2o4_2
        replace hqr2o4_1 := hqr2o4_1.ext hxqr2o4_2
        have hEqr2o8_1 := Ext.trans hEqr2o4_2 hxqr2o4_2
        have qqr2o8_1 := bel_step qqr2o4_9 hxqr2o4_2
        refine o_alloc (cs := [(.slice none 0 0)]) ha rfl Tryd.zeroValue50 rfl ?_; clear ha a; intro bqr2o8_1 wqr2o8_1 hBqr2o8_1 hxqr2o8_1 hloqr2o8_1 a ha
        have qqr2o8_2 := Zn.one hloqr2o8_1
        have qqr2o8_3 := Nq.new hB3.fpb qqr2o8_2
        have qqr2o8_4 := Nq.made1 hloqr2o8_1 hB3.bi
        have qqr2o8_5 := Nq.new hqr2o7_1.fpb qqr2o8_2
        have qqr2o8_6 := Nq.made1 hloqr2o8_1 hqr2o7_1.blt
        have qqr2o8_7 := Nq.new hqr2o4_1.fpb qqr2o8_2
        have qqr2o8_8 := Nq.made1 hloqr2o8_1 hqr2o4_1.blt
        have qqr2o8_9 := Zn.upD qqr2o8_2 hEqr2o8_1
        have qqr2o8_10 := Zn.upB qqr2o8_2 qqr2o8_1
        replace hB3 := hB3.ext hxqr2o8_1
        replace hqr2o7_1 := hqr2o7_1.ext hxqr2o8_1
        replace hqr2o4_1 := hqr2o4_1.ext hxqr2o8_1
        have hEqr2o8_2 := Ext.trans hEqr2o8_1 hxqr2o8_1
        refine wpList_nil (e_sq ?_)
        have hStqr2o8_1 : RowKit.Below w12.heap.size wqr2o4_2 wqr2o8_1 := ext_bel qqr2o8_1.size hxqr2o8_1
        refine ⟨fun _ => hStqr2o8_1, ?_⟩
        have qqr2o8_11 := RowKit.Below.trans qqr2o8_1 hStqr2o8_1
        refine x_only 1 rfl (by kernel_rfl) ?_; intro wqr2o1_1 hxqr2o1_1
        replace hB3 := hB3.ext hxqr2o1_1
        replace hqr2o7_1 := hqr2o7_1.ext hxqr2o1_1
        replace hqr2o4_1 := hqr2o4_1.ext hxqr2o1_1
        replace hBqr2o8_1 := hBqr2o8_1.ext hxqr2o1_1
        have hEqr2o1_1 := Ext.trans hEqr2o8_2 hxqr2o1_1
        have qqr2o1_1 := bel_step qqr2o8_11 hxqr2o1_1
        refine o_call ha rfl rfl Tryd.call31 (W_impl_netsOf (ha0_0.ext hEqr2o1_1) hcqr2o1_1) ?_; clear ha a; rintro vqr2o1_1 wqr2o1_2 ⟨bqr2o1_1, hqr2o1_1, zqr2o1_1, hxqr2o1_2⟩ a ha
        have qqr2o1_2 := Zn.upB zqr2o1_1 qqr2o1_1
        have qqr2o1_3 := Nq.new hB3.fpb zqr2o1_1
        have qqr2o1_4 := Nq.madeO zqr2o1_1 hB3.bi
        have qqr2o1_5 := Nq.new hqr2o7_1.fpb zqr2o1_1
        have qqr2o1_6 := Nq.madeO zqr2o1_1 hqr2o7_1.blt
        have qqr2o1_7 := Nq.new hqr2o4_1.fpb zqr2o1_1
        have qqr2o1_8 := Nq.madeO zqr2o1_1 hqr2o4_1.blt
        have qqr2o1_9 := Nq.new hBqr2o8_1.fpb zqr2o1_1
        have qqr2o1_10 := Nq.madeO zqr2o1_1 hBqr2o8_1.bi
        replace hB3 := hB3.ext hxqr2o1_2
        replace hqr2o7_1 := hqr2o7_1.ext hxqr2o1_2
        replace hqr2o4_1 := hqr2o4_1.ext hxqr2o1_2
        replace hBqr2o8_1 := hBqr2o8_1.ext hxqr2o1_2
        have hEqr2o1_2 := Ext.trans hEqr2o1_1 hxqr2o1_2
        have qqr2o1_11 := Zn.upD zqr2o1_1 hEqr2o1_1
        refine wpList_nil (e_sq ?_)
        have hStqr2o1_1 : RowKit.Below w12.heap.size wqr2o1_1 wqr2o1_2 := ext_bel qqr2o1_1.size hxqr2o1_2
        refine ⟨fun _ => hStqr2o1_1, ?_⟩
        have qqr2o1_12 := RowKit.Below.trans qqr2o1_1 hStqr2o1_1
        refine x_only 9 rfl (by kernel_rfl) ?_; intro wqr2o9_1 hxqr2o9_1
        replace hB3 := hB3.ext hxqr2o9_1
        replace hqr2o7_1 := hqr2o7_1.ext hxqr2o9_1
        replace hqr2o4_1 := hqr2o4_1.ext hxqr2o9_1
        replace hBqr2o8_1 := hBqr2o8_1.ext hxqr2o9_1
        replace hqr2o1_1 := hqr2o1_1.ext hxqr2o9_1
        have hEqr2o9_1 := Ext.trans hEqr2o1_2 hxqr2o9_1
        have qqr2o9_1 := bel_step qqr2o1_12 hxqr2o9_1
        refine o_storeB ha hBqr2o8_1 Tryd.sizeOf50 rfl rfl hqr2o1_1.cells hqr2o1_1.oneC (Nat.le_of_ble_eq_true rfl) ?_; intro wqr2o9_2 hBqr2o9_1 hcqr2o9_1
        replace hcqr2o9_1 := hcqr2o9_1.bl
        replace hBqr2o9_1 : Bx wqr2o9_2 bqr2o8_1 [vqr2o1_1] 50 := hBqr2o9_1
        replace hB3 := hB3.nq hcqr2o9_1 qqr2o8_3
        replace hqr2o7_1 := hqr2o7_1.nq hcqr2o9_1 qqr2o8_5
        replace hqr2o4_1 := hqr2o4_1.nq hcqr2o9_1 qqr2o8_7
        replace hqr2o1_1 := hqr2o1_1.nq hcqr2o9_1 qqr2o1_10
        have hEqr2o9_2 := Ext.then hEqr2o9_1 hcqr2o9_1 (Zn.bl qqr2o8_9)
        refine wpList_nil (e_sq ?_)
        have hStqr2o9_1 : RowKit.Below w12.heap.size wqr2o9_1 wqr2o9_2 := chg_bel hcqr2o9_1 qqr2o9_1.size (Zn.bl qqr2o8_10)
        refine ⟨fun _ => hStqr2o9_1, ?_⟩
        have qqr2o9_2 := RowKit.Below.trans qqr2o9_1 hStqr2o9_1
        refine x_g 10 rfl (by kernel_rfl) (want0 _) ha rfl qqr2o9_2 (g_assign rfl) ?_; clear ha a; intro a ha; refine x_g 11 rfl (by kernel_rfl) (want0 _) ha rfl qqr2o9_2 (g_assign rfl) ?_; clear ha a; intro a ha
        refine x_done (by kernel_rfl) ?_; intro w59 hx60
        replace hB3 := hB3.ext hx60
        replace hqr2o7_1 := hqr2o7_1.ext hx60
        replace hqr2o4_1 := hqr2o4_1.ext hx60
        replace hBqr2o9_1 := hBqr2o9_1.ext hx60
        replace hqr2o1_1 := hqr2o1_1.ext hx60
        have hE61 := Ext.trans hEqr2o9_2 hx60
        replace ha := ha.sub (σ' := [(1, va1), (5, (.pointer (some ⟨bqr2o8_1, 0, none⟩))), (6, vqr2o4_1), (7, vqr2o7_1)]) ⟨rfl, rfl, rfl, rfl, trivial⟩; refine e_sq ?_; obtain rfl := Option.some.inj hF
        exact ⟨xqr2o1_1, (List.replicate ((a1.length : Int) : Int).toNat (0 : BitVec 32)), (List.replicate ((a1.length : Int) : Int).toNat (0 : Int)), bqr2o8_1, vqr2o1_1, bqr2o1_1, vqr2o4_1, bqr2o4_1, vqr2o7_1, bqr2o7_1, ha.sub ⟨rfl, rfl, rfl, rfl, trivial⟩, hE61, hBqr2o9_1, qqr2o8_9, hqr2o1_1, qqr2o1_11, hqr2o4_1, qqr2o4_7, hqr2o7_1, qqr2o7_5, qqr2o1_9, qqr2o8_8, qqr2o8_6, qqr2o1_10, qqr2o1_8, qqr2o1_6, qqr2o8_7, qqr2o1_7, qqr2o4_6, qqr2o8_5, qqr2o1_5, qqr2o4_5, rfl⟩
      skip
      replace hB3 := hB3.ext hxqr2o7_2
      replace hqr2o7_1 := hqr2o7_1.ext hxqr2o7_2
      have hEqr2o8_1 := Ext.trans hEqr2o7_2 hxqr2o7_2
      have qqr2o8_1 := bel_step qqr2o7_7 hxqr2o7_2
      refine o_alloc (cs := [(.slice none 0 0)]) ha rfl Tryd.zeroValue50 rfl ?_; clear ha a; intro bqr2o8_1 wqr2o8_1 hBqr2o8_1 hxqr2o8_1 hloqr2o8_1 a ha
      have qqr2o8_2 := Zn.one hloqr2o8_1
      have qqr2o8_3 := Nq.new hB3.fpb qqr2o8_2
      have qqr2o8_4 := Nq.made1 hloqr2o8_1 hB3.bi
      have qqr2o8_5 := Nq.new hqr2o7_1.fpb qqr2o8_2
      have qqr2o8_6 := Nq.made1 hloqr2o8_1 hqr2o7_1.blt
      have qqr2o8_7 := Zn.upD qqr2o8_2 hEqr2o8_1
      have qqr2o8_8 := Zn.upB qqr2o8_2 qqr2o8_1
      replace hB3 := hB3.ext hxqr2o8_1
      replace hqr2o7_1 := hqr2o7_1.ext hxqr2o8_1
      have hEqr2o8_2 := Ext.trans hEqr2o8_1 hxqr2o8_1
      refine wpList_nil (e_sq ?_)
      have hStqr2o8_1 : RowKit.Below w12.heap.size wqr2o7_2 wqr2o8_1 := ext_bel qqr2o8_1.size hxqr2o8_1
      refine ⟨fun _ => hStqr2o8_1, ?_⟩
      have qqr2o8_9 := RowKit.Below.trans qqr2o8_1 hStqr2o8_1
      refine x_many [1, 4] (by kernel_rfl) rfl fun wqr2o8_2 hxqr2o8_2 => ⟨⟨_, rfl, ?_⟩, ⟨_, rfl, ?_⟩, trivial⟩
      · skip
        replace hB3 := hB3.ext hxqr2o8_2
        replace hqr2o7_1 := hqr2o7_1.ext hxqr2o8_2
        replace hBqr2o8_1 := hBqr2o8_1.ext hxqr2o8_2
        have hEqr2o1_1 := Ext.trans hEqr2o8_2 hxqr2o8_2
        have qqr2o1_1 := bel_step qqr2o8_9 hxqr2o8_2
        refine o_call ha rfl rfl Tryd.call31 (W_impl_netsOf (ha0_0.ext hEqr2o1_1) hcqr2o1_1) ?_; clear ha a; rintro vqr2o1_1 wqr2o1_1 ⟨bqr2o1_1, hqr2o1_1, zqr2o1_1, hxqr2o1_1⟩ a ha
        have qqr2o1_2 := Zn.upB zqr2o1_1 qqr2o1_1
        have qqr2o1_3 := Nq.new hB3.fpb zqr2o1_1
        have qqr2o1_4 := Nq.madeO zqr2o1_1 hB3.bi
        have qqr2o1_5 := Nq.new hqr2o7_1.fpb zqr2o1_1
        have qqr2o1_6 := Nq.madeO zqr2o1_1 hqr2o7_1.blt
        have qqr2o1_7 := Nq.new hBqr2o8_1.fpb zqr2o1_1
        have qqr2o1_8 := Nq.madeO zqr2o1_1 hBqr2o8_1.bi
        replace hB3 := hB3.ext hxqr2o1_1
        replace hqr2o7_1 := hqr2o7_1.ext hxqr2o1_1
        replace hBqr2o8_1 := hBqr2o8_1.ext hxqr2o1_1
        have hEqr2o1_2 := Ext.trans hEqr2o1_1 hxqr2o1_1
        have qqr2o1_9 := Zn.upD zqr2o1_1 hEqr2o1_1
        refine wpList_nil (e_sq ?_)
        have hStqr2o1_1 : RowKit.Below w12.heap.size wqr2o8_2 wqr2o1_1 := ext_bel qqr2o1_1.size hxqr2o1_1
        refine ⟨fun _ => hStqr2o1_1, ?_⟩
        have qqr2o1_10 := RowKit.Below.trans qqr2o1_1 hStqr2o1_1
        refine x_many [4, 9] (by kernel_rfl) rfl fun wqr2o1_2 hxqr2o1_2 => ⟨⟨_, rfl, ?_⟩, ⟨_, rfl, ?_⟩, trivial⟩
        · skip
          replace hB3 := hB3.ext hxqr2o1_2
          replace hqr2o7_1 := hqr2o7_1.ext hxqr2o1_2
          replace hBqr2o8_1 := hBqr2o8_1.ext hxqr2o1_2
          replace hqr2o1_1 := hqr2o1_1.ext hxqr2o1_2
          have hEqr2o4_1 := Ext.trans hEqr2o1_2 hxqr2o1_2
          have qqr2o4_1 := bel_step qqr2o1_10 hxqr2o1_2
          refine o_make (z0 := (0 : BitVec 32)) Rp.u32 ha rfl sl48 rfl (fun w => ⟨rfl, rfl⟩) rfl gqr2o4_1 gqr2o4_1b ?_; clear ha a; intro vqr2o4_1 wqr2o4_1 hqr2o4_1 hxqr2o4_1 a ha
          obtain ⟨bqr2o4_1, hbqr2o4_1⟩ : ∃ b : Int, b = wqr2o1_2.heap.size := ⟨_, rfl⟩; rw [← hbqr2o4_1] at hqr2o4_1
          have qqr2o4_2 := zn_of hbqr2o4_1
          have qqr2o4_3 := Nq.new hB3.fpb qqr2o4_2
          have qqr2o4_4 := Nq.madeO qqr2o4_2 hB3.bi
          have qqr2o4_5 := Nq.new hqr2o7_1.fpb qqr2o4_2
          have qqr2o4_6 := Nq.madeO qqr2o4_2 hqr2o7_1.blt
          have qqr2o4_7 := Nq.new hBqr2o8_1.fpb qqr2o4_2
          have qqr2o4_8 := Nq.madeO qqr2o4_2 hBqr2o8_1.bi
          have qqr2o4_9 := Nq.new hqr2o1_1.fpb qqr2o4_2
          have qqr2o4_10 := Nq.madeO qqr2o4_2 hqr2o1_1.blt
          have qqr2o4_11 := Zn.upD qqr2o4_2 hEqr2o4_1
          have qqr2o4_12 := Zn.upB qqr2o4_2 qqr2o4_1
          replace hB3 := hB3.ext hxqr2o4_1
          replace hqr2o7_1 := hqr2o7_1.ext hxqr2o4_1
          replace hBqr2o8_1 := hBqr2o8_1.ext hxqr2o4_1
          replace hqr2o1_1 := hqr2o1_1.ext hxqr2o4_1
          have hEqr2o4_2 := Ext.trans hEqr2o4_1 hxqr2o4_1
          refine wpList_nil (e_sq ?_)
          have hStqr2o4_1 : RowKit.Below w12.heap.size wqr2o1_2 wqr2o4_1 := ext_bel qqr2o4_1.size hxqr2o4_1
          refine ⟨fun _ => hStqr2o4_1, ?_⟩
          have qqr2o4_13 := RowKit.Below.trans qqr2o4_1 hStqr2o4_1
          refine x_only 9 rfl (by kernel_rfl) ?_; intro wqr2o9_1 hxqr2o9_1
          replace hB3 := hB3.ext hxqr2o9_1
          replace hqr2o7_1 := hqr2o7_1.ext hxqr2o9_1
          replace hBqr2o8_1 := hBqr2o8_1.ext hxqr2o9_1
          replace hqr2o1_1 := hqr2o1_1.ext hxqr2o9_1
          replace hqr2o4_1 := hqr2o4_1.ext hxqr2o9_1
          have hEqr2o9_1 := Ext.trans hEqr2o4_2 hxqr2o9_1
          have qqr2o9_1 := bel_step qqr2o4_13 hxqr2o9_1
          refine o_storeB ha hBqr2o8_1 Tryd.sizeOf50 rfl rfl hqr2o1_1.cells hqr2o1_1.oneC (Nat.le_of_ble_eq_true rfl) ?_; intro wqr2o9_2 hBqr2o9_1 hcqr2o9_1
          replace hcqr2o9_1 := hcqr2o9_1.bl
          replace hBqr2o9_1 : Bx wqr2o9_2 bqr2o8_1 [vqr2o1_1] 50 := hBqr2o9_1
          replace hB3 := hB3.nq hcqr2o9_1 qqr2o8_3
          replace hqr2o7_1 := hqr2o7_1.nq hcqr2o9_1 qqr2o8_5
          replace hqr2o1_1 := hqr2o1_1.nq hcqr2o9_1 qqr2o1_8
          replace hqr2o4_1 := hqr2o4_1.nq hcqr2o9_1 qqr2o4_8
          have hEqr2o9_2 := Ext.then hEqr2o9_1 hcqr2o9_1 (Zn.bl qqr2o8_7)
          refine wpList_nil (e_sq ?_)
          have hStqr2o9_1 : RowKit.Below w12.heap.size wqr2o9_1 wqr2o9_2 := chg_bel hcqr2o9_1 qqr2o9_1.size (Zn.bl qqr2o8_8)
          refine ⟨fun _ => hStqr2o9_1, ?_⟩
          have qqr2o9_2 := RowKit.Below.trans qqr2o9_1 hStqr2o9_1
          refine x_g 10 rfl (by kernel_rfl) (want0 _) ha rfl qqr2o9_2 (g_assign rfl) ?_; clear ha a; intro a ha; refine x_g 11 rfl (by kernel_rfl) (want0 _) ha rfl qqr2o9_2 (g_assign rfl) ?_; clear ha a; intro a ha
          refine x_done (by kernel_rfl) ?_; intro w59 hx60
          replace hB3 := hB3.ext hx60
          replace hqr2o7_1 := hqr2o7_1.ext hx60
          replace hBqr2o9_1 := hBqr2o9_1.ext hx60
          replace hqr2o1_1 := hqr2o1_1.ext hx60
          replace hqr2o4_1 := hqr2o4_1.ext hx60
          have hE61 := Ext.trans hEqr2o9_2 hx60
          replace ha := ha.sub (σ' := [(1, va1), (5, (.pointer (some ⟨bqr2o8_1, 0, none⟩))), (6, vqr2o4_1), (7, vqr2o7_1)]) ⟨rfl, rfl, rfl, rfl, trivial⟩; refine e_sq ?_; obtain rfl := Option.some.inj hF
          exact ⟨xqr2o1_1, (List.replicate ((a1.length : Int) : Int).toNat (0 : BitVec 32)), (List.replicate ((a1.length : Int) : Int).toNat (0 : Int)), bqr2o8_1, vqr2o1_1, bqr2o1_1, vqr2o4_1, bqr2o4_1, vqr2o7_1, bqr2o7_1, ha.sub ⟨rfl, rfl, rfl, rfl, trivial⟩, hE61, hBqr2o9_1, qqr2o8_7, hqr2o1_1, qqr2o1_9, hqr2o4_1, qqr2o4_11, hqr2o7_1, qqr2o7_5, qqr2o1_7, qqr2o4_7, qqr2o8_6, qqr2o1_8, qqr2o4_9, qqr2o1_6, qqr2o4_8, qqr2o4_10, qqr2o4_6, qqr2o8_5, qqr2o1_5, qqr2o4_5, rfl⟩
        skip
        replace hB3 := hB3.ext hxqr2o1_2
        replace hqr2o7_1 := hqr2o7_1.ext hxqr2o1_2
        replace hBqr2o8_1 := hBqr2o8_1.ext hxqr2o1_2
        replace hqr2o1_1 := hqr2o1_1.ext hxqr2o1_2
        have hEqr2o9_1 := Ext.trans hEqr2o1_2 hxqr2o1_2
        have qqr2o9_1 := bel_step qqr2o1_10 hxqr2o1_2
        refine o_storeB ha hBqr2o8_1 Tryd.sizeOf50 rfl rfl hqr2o1_1.cells hqr2o1_1.oneC (Nat.le_of_ble_eq_true rfl) ?_; intro wqr2o9_1 hBqr2o9_1 hcqr2o9_1
        replace hcqr2o9_1 := hcqr2o9_1.bl
        replace hBqr2o9_1 : Bx wqr2o9_1 bqr2o8_1 [vqr2o1_1] 50 := hBqr2o9_1
        replace hB3 := hB3.nq hcqr2o9_1 qqr2o8_3
        replace hqr2o7_1 := hqr2o7_1.nq hcqr2o9_1 qqr2o8_5
        replace hqr2o1_1 := hqr2o1_1.nq hcqr2o9_1 qqr2o1_8
        have hEqr2o9_2 := Ext.then hEqr2o9_1 hcqr2o9_1 (Zn.bl qqr2o8_7)
        refine wpList_nil (e_sq ?_)
        have hStqr2o9_1 : RowKit.Below w12.heap.size wqr2o1_2 wqr2o9_1 := chg_bel hcqr2o9_1 qqr2o9_1.size (Zn.bl qqr2o8_8)
        refine ⟨fun _ => hStqr2o9_1, ?_⟩
        have qqr2o9_2 := RowKit.Below.trans qqr2o9_1 hStqr2o9_1
        refine x_only 4 rfl (by kernel_rfl) ?_; intro wqr2o4_1 hxqr2o4_1
        replace hB3 := hB3.ext hxqr2o4_1
        replace hqr2o7_1 := hqr2o7_1.ext hxqr2o4_1
        replace hBqr2o9_1 := hBqr2o9_1.ext hxqr2o4_1
        replace hqr2o1_1 := hqr2o1_1.ext hxqr2o4_1
        have hEqr2o4_1 := Ext.trans hEqr2o9_2 hxqr2o4_1
        have qqr2o4_1 := bel_step qqr2o9_2 hxqr2o4_1
        refine o_make (z0 := (0 : BitVec 32)) Rp.u32 ha rfl sl48 rfl (fun w => ⟨rfl, rfl⟩) rfl gqr2o4_1 gqr2o4_1b ?_; clear ha a; intro vqr2o4_1 wqr2o4_2 hqr2o4_1 hxqr2o4_2 a ha
        obtain ⟨bqr2o4_1, hbqr2o4_1⟩ : ∃ b : Int, b = wqr2o4_1.heap.size := ⟨_, rfl⟩; rw [← hbqr2o4_1] at hqr2o4_1
        have qqr2o4_2 := zn_of hbqr2o4_1
        have qqr2o4_3 := Nq.new hB3.fpb qqr2o4_2
        have qqr2o4_4 := Nq.madeO qqr2o4_2 hB3.bi
        have qqr2o4_5 := Nq.new hqr2o7_1.fpb qqr2o4_2
        have qqr2o4_6 := Nq.madeO qqr2o4_2 hqr2o7_1.blt
        have qqr2o4_7 := Nq.new hBqr2o9_1.fpb qqr2o4_2
        have qqr2o4_8 := Nq.madeO qqr2o4_2 hBqr2o9_1.bi
        have qqr2o4_9 := Nq.new hqr2o1_1.fpb qqr2o4_2
        have qqr2o4_10 := Nq.madeO qqr2o4_2 hqr2o1_1.blt
        have qqr2o4_11 := Zn.upD qqr2o4_2 hEqr2o4_1
        have qqr2o4_12 := Zn.upB qqr2o4_2 qqr2o4_1
        replace hB3 := hB3.ext hxqr2o4_2
        replace hqr2o7_1 := hqr2o7_1.ext hxqr2o4_2
        replace hBqr2o9_1 := hBqr2o9_1.ext hxqr2o4_2
        replace hqr2o1_1 := hqr2o1_1.ext hxqr2o4_2
        have hEqr2o4_2 := Ext.trans hEqr2o4_1 hxqr2o4_2
        refine wpList_nil (e_sq ?_)
        have hStqr2o4_1 : RowKit.Below w12.heap.size wqr2o4_1 wqr2o4_2 := ext_bel qqr2o4_1.size hxqr2o4_2
        refine ⟨fun _ => hStqr2o4_1, ?_⟩
        have qqr2o4_13 := RowKit.Below.trans qqr2o4_1 hStqr2o4_1
        refine x_g 10 rfl (by kernel_rfl) (want0 _) ha rfl qqr2o4_13 (g_assign rfl) ?_; clear ha a; intro a ha; refine x_g 11 rfl (by kernel_rfl) (want0 _) ha rfl qqr2o4_13 (g_assign rfl) ?_; clear ha a; intro a ha
        refine x_done (by kernel_rfl) ?_; intro w59 hx60
        replace hB3 := hB3.ext hx60
        replace hqr2o7_1 := hqr2o7_1.ext hx60
        replace hBqr2o9_1 := hBqr2o9_1.ext hx60
        replace hqr2o1_1 := hqr2o1_1.ext hx60
        replace hqr2o4_1 := hqr2o4_1.ext hx60
        have hE61 := Ext.trans hEqr2o4_2 hx60
        replace ha := ha.sub (σ' := [(1, va1), (5, (.pointer (some ⟨bqr2o8_1, 0, none⟩))), (6, vqr2o4_1), (7, vqr2o7_1)]) ⟨rfl, rfl, rfl, rfl, trivial⟩; refine e_sq ?_; obtain rfl := Option.some.inj hF
        exact ⟨xqr2o1_1, (List.replicate ((a1.length : Int) : Int).toNat (0 : BitVec 32)), (List.replicate ((a1.length : Int) : Int).toNat (0 : Int)), bqr2o8_1, vqr2o1_1, bqr2o1_1, vqr2o4_1, bqr2o4_1, vqr2o7_1, bqr2o7_1, ha.sub ⟨rfl, rfl, rfl, rfl, trivial⟩, hE61, hBqr2o9_1, qqr2o8_7, hqr2o1_1, qqr2o1_9, hqr2o4_1, qqr2o4_11, hqr2o7_1, qqr2o7_5, qqr2o1_7, qqr2o4_7, qqr2o8_6, qqr2o1_8, qqr2o4_9, qqr2o1_6, qqr2o4_8, qqr2o4_10, qqr2o4_6, qqr2o8_5, qqr2o1_5, qqr2o4_5, rfl⟩
      skip
      replace hB3 := hB3.ext hxqr2o8_2
      replace hqr2o7_1 := hqr2o7_1.ext hxqr2o8_2
      replace hBqr2o8_1 := hBqr2o8_1.ext hxqr2o8_2
      have hEqr2o4_1 := Ext.trans hEqr2o8_2 hxqr2o8_2
      have qqr2o4_1 := bel_step qqr2o8_9 hxqr2o8_2
      refine o_make (z0 := (0 : BitVec 32)) Rp.u32 ha rfl sl48 rfl (fun w => ⟨rfl, rfl⟩) rfl gqr2o4_1 gqr2o4_1b ?_; clear ha a; intro vqr2o4_1 wqr2o4_1 hqr2o4_1 hxqr2o4_1 a ha
      obtain ⟨bqr2o4_1, hbqr2o4_1⟩ : ∃ b : Int, b = wqr2o8_2.heap.size := ⟨_, rfl⟩; rw [← hbqr2o4_1] at hqr2o4_1
      have qqr2o4_2 := zn_of hbqr2o4_1
      have qqr2o4_3 := Nq.new hB3.fpb qqr2o4_2
      have qqr2o4_4 := Nq.madeO qqr2o4_2 hB3.bi
      have qqr2o4_5 := Nq.new hqr2o7_1.fpb qqr2o4_2
      have qqr2o4_6 := Nq.madeO qqr2o4_2 hqr2o7_1.blt
      have qqr2o4_7 := Nq.new hBqr2o8_1.fpb qqr2o4_2
      have qqr2o4_8 := Nq.madeO qqr2o4_2 hBqr2o8_1.bi
      have qqr2o4_9 := Zn.upD qqr2o4_2 hEqr2o4_1
      have qqr2o4_10 := Zn.upB qqr2o4_2 qqr2o4_1
      replace hB3 := hB3.ext hxqr2o4_1
      replace hqr2o7_1 := hqr2o7_1.ext hxqr2o4_1
      replace hBqr2o8_1 := hBqr2o8_1.ext hxqr2o4_1
      have hEqr2o4_2 := Ext.trans hEqr2o4_1 hxqr2o4_1
      refine wpList_nil (e_sq ?_)
      have hStqr2o4_1 : RowKit.Below w12.heap.size wqr2o8_2 wqr2o4_1 := ext_bel qqr2o4_1.size hxqr2o4_1
      refine ⟨fun _ => hStqr2o4_1, ?_⟩
      have qqr2o4_11 := RowKit.Below.trans qqr2o4_1 hStqr2o4_1
      refine x_only 1 rfl (by kernel_rfl) ?_; intro wqr2o1_1 hxqr2o1_1
      replace hB3 := hB3.ext hxqr2o1_1
      replace hqr2o7_1 := hqr2o7_1.ext hxqr2o1_1
      replace hBqr2o8_1 := hBqr2o8_1.ext hxqr2o1_1
      replace hqr2o4_1 := hqr2o4_1.ext hxqr2o1_1
      have hEqr2o1_1 := Ext.trans hEqr2o4_2 hxqr2o1_1
      have qqr2o1_1 := bel_step qqr2o4_11 hxqr2o1_1
      refine o_call ha rfl rfl Tryd.call31 (W_impl_netsOf (ha0_0.ext hEqr2o1_1) hcqr2o1_1) ?_; clear ha a; rintro vqr2o1_1 wqr2o1_2 ⟨bqr2o1_1, hqr2o1_1, zqr2o1_1, hxqr2o1_2⟩ a ha
      have qqr2o1_2 := Zn.upB zqr2o1_1 qqr2o1_1
      have qqr2o1_3 := Nq.new hB3.fpb zqr2o1_1
      have qqr2o1_4 := Nq.madeO zqr2o1_1 hB3.bi
      have qqr2o1_5 := Nq.new hqr2o7_1.fpb zqr2o1_1
      have qqr2o1_6 := Nq.madeO zqr2o1_1 hqr2o7_1.blt
      have qqr2o1_7 := Nq.new hBqr2o8_1.fpb zqr2o1_1
      have qqr2o1_8 := Nq.madeO zqr2o1_1 hBqr2o8_1.bi
      have qqr2o1_9 := Nq.new hqr2o4_1.fpb zqr2o1_1
      have qqr2o1_10 := Nq.madeO zqr2o1_1 hqr2o4_1.blt
      replace hB3 := hB3.ext hxqr2o1_2
      replace hqr2o7_1 := hqr2o7_1.ext hxqr2o1_2
      replace hBqr2o8_1 := hBqr2o8_1.ext hxqr2o1_2
      replace hqr2o4_1 := hqr2o4_1.ext hxqr2o1_2
      have hEqr2o1_2 := Ext.trans hEqr2o1_1 hxqr2o1_2
      have qqr2o1_11 := Zn.upD zqr2o1_1 hEqr2o1_1
      refine wpList_nil (e_sq ?_)
      have hStqr2o1_1 : RowKit.Below w12.heap.size wqr2o1_1 wqr2o1_2 := ext_bel qqr2o1_1.size hxqr2o1_2
      refine ⟨fun _ => hStqr2o1_1, ?_⟩
      have qqr2o1_12 := RowKit.Below.trans qqr2o1_1 hStqr2o1_1
      refine x_only 9 rfl (by kernel_rfl) ?_; intro wqr2o9_1 hxqr2o9_1
      replace hB3 := hB3.ext hxqr2o9_1
      replace hqr2o7_1 := hqr2o7_1.ext hxqr2o9_1
      replace hBqr2o8_1 := hBqr2o8_1.ext hxqr2o9_1
      replace hqr2o4_1 := hqr2o4_1.ext hxqr2o9_1
      replace hqr2o1_1 := hqr2o1_1.ext hxqr2o9_1
      have hEqr2o9_1 := Ext.trans hEqr2o1_2 hxqr2o9_1
      have qqr2o9_1 := bel_step qqr2o1_12 hxqr2o9_1
      refine o_storeB ha hBqr2o8_1 Tryd.sizeOf50 rfl rfl hqr2o1_1.cells hqr2o1_1.oneC (Nat.le_of_ble_eq_true rfl) ?_; intro wqr2o9_2 hBqr2o9_1 hcqr2o9_1
      replace hcqr2o9_1 := hcqr2o9_1.bl
      replace hBqr2o9_1 : Bx wqr2o9_2 bqr2o8_1 [vqr2o1_1] 50 := hBqr2o9_1
      replace hB3 := hB3.nq hcqr2o9_1 qqr2o8_3
      replace hqr2o7_1 := hqr2o7_1.nq hcqr2o9_1 qqr2o8_5
      replace hqr2o4_1 := hqr2o4_1.nq hcqr2o9_1 qqr2o4_8
      replace hqr2o1_1 := hqr2o1_1.nq hcqr2o9_1 qqr2o1_8
      have hEqr2o9_2 := Ext.then hEqr2o9_1 hcqr2o9_1 (Zn.bl qqr2o8_7)
      refine wpList_nil (e_sq ?_)
      have hStqr2o9_1 : RowKit.Below w12.heap.size wqr2o9_1 wqr2o9_2 := chg_bel hcqr2o9_1 qqr2o9_1.size (Zn.bl qqr2o8_8)
      refine ⟨fun _ => hStqr2o9_1, ?_⟩
      have qqr2o9_2 := RowKit.Below.trans qqr2o9_1 hStqr2o9_1
      refine x_g 10 rfl (by kernel_rfl) (want0 _) ha rfl qqr2o9_2 (g_assign rfl) ?_; clear ha a; intro a ha; refine x_g 11 rfl (by kernel_rfl) (want0 _) ha rfl qqr2o9_2 (g_assign rfl) ?_; clear ha a; intro a ha
      refine x_done (by kernel_rfl) ?_; intro w59 hx60
      replace hB3 := hB3.ext hx60
      replace hqr2o7_1 := hqr2o7_1.ext hx60
      replace hBqr2o9_1 := hBqr2o9_1.ext hx60
      replace hqr2o4_1 := hqr2o4_1.ext hx60
      replace hqr2o1_1 := hqr2o1_1.ext hx60
      have hE61 := Ext.trans hEqr2o9_2 hx60
      replace ha := ha.sub (σ' := [(1, va1), (5, (.pointer (some ⟨bqr2o8_1, 0, none⟩))), (6, vqr2o4_1), (7, vqr2o7_1)]) ⟨rfl, rfl, rfl, rfl, trivial⟩; refine e_sq ?_; obtain rfl := Option.some.inj hF
      exact ⟨xqr2o1_1, (List.replicate ((a1.length : Int) : Int).toNat (0 : BitVec 32)), (List.replicate ((a1.length : Int) : Int).toNat (0 : Int)), bqr2o8_1, vqr2o1_1, bqr2o1_1, vqr2o4_1, bqr2o4_1, vqr2o7_1, bqr2o7_1, ha.sub ⟨rfl, rfl, rfl, rfl, trivial⟩, hE61, hBqr2o9_1, qqr2o8_7, hqr2o1_1, qqr2o1_11, hqr2o4_1, qqr2o4_9, hqr2o7_1, qqr2o7_5, qqr2o1_7, qqr2o4_7, qqr2o8_6, qqr2o1_8, qqr2o1_10, qqr2o1_6, qqr2o4_8, qqr2o1_9, qqr2o4_6, qqr2o8_5, qqr2o1_5, qqr2o4_5, rfl⟩
    skip
    replace hB3 := hB3.ext hxqr2_1
    have hEqr2o8_1 := Ext.trans hE14 hxqr2_1
    have qqr2o8_1 := bel_step hS58 hxqr2_1
    refine o_alloc (cs := [(.slice none 0 0)]) ha rfl Tryd.zeroValue50 rfl ?_; clear ha a; intro bqr2o8_1 wqr2o8_1 hBqr2o8_1 hxqr2o8_1 hloqr2o8_1 a ha
    have qqr2o8_2 := Zn.one hloqr2o8_1
    have qqr2o8_3 := Nq.new hB3.fpb qqr2o8_2
    have qqr2o8_4 := Nq.made1 hloqr2o8_1 hB3.bi
    have qqr2o8_5 := Zn.upD qqr2o8_2 hEqr2o8_1
    have qqr2o8_6 := Zn.upB qqr2o8_2 qqr2o8_1
    replace hB3 := hB3.ext hxqr2o8_1
    have hEqr2o8_2 := Ext.trans hEqr2o8_1 hxqr2o8_1
    refine wpList_nil (e_sq ?_)
    have hStqr2o8_1 : RowKit.Below w12.heap.size wqr2_1 wqr2o8_1 := ext_bel qqr2o8_1.size hxqr2o8_1
    refine ⟨fun _ => hStqr2o8_1, ?_⟩
    have qqr2o8_7 := RowKit.Below.trans qqr2o8_1 hStqr2o8_1
    refine x_many [1, 4, 7] (by kernel_rfl) rfl fun wqr2o8_2 hxqr2o8_2 => ⟨⟨_, rfl, ?_⟩, ⟨_, rfl, ?_⟩, ⟨_, rfl, ?_⟩, trivial⟩
    · skip
      replace hB3 := hB3.ext hxqr2o8_2
      replace hBqr2o8_1 := hBqr2o8_1.ext hxqr2o8_2
      have hEqr2o1_1 := Ext.trans hEqr2o8_2 hxqr2o8_2
      have qqr2o1_1 := bel_step qqr2o8_7 hxqr2o8_2
      refine o_call ha rfl rfl Tryd.call31 (W_impl_netsOf (ha0_0.ext hEqr2o1_1) hcqr2o1_1) ?_; clear ha a; rintro vqr2o1_1 wqr2o1_1 ⟨bqr2o1_1, hqr2o1_1, zqr2o1_1, hxqr2o1_1⟩ a ha
      have qqr2o1_2 := Zn.upB zqr2o1_1 qqr2o1_1
      have qqr2o1_3 := Nq.new hB3.fpb zqr2o1_1
      have qqr2o1_4 := Nq.madeO zqr2o1_1 hB3.bi
      have qqr2o1_5 := Nq.new hBqr2o8_1.fpb zqr2o1_1
      have qqr2o1_6 := Nq.madeO zqr2o1_1 hBqr2o8_1.bi
      replace hB3 := hB3.ext hxqr2o1_1
      replace hBqr2o8_1 := hBqr2o8_1.ext hxqr2o1_1
      have hEqr2o1_2 := Ext.trans hEqr2o1_1 hxqr2o1_1
      have qqr2o1_7 := Zn.upD zqr2o1_1 hEqr2o1_1
      refine wpList_nil (e_sq ?_)
      have hStqr2o1_1 : RowKit.Below w12.heap.size wqr2o8_2 wqr2o1_1 := ext_bel qqr2o1_1.size hxqr2o1_1
      refine ⟨fun _ => hStqr2o1_1, ?_⟩
      have qqr2o1_8 := RowKit.Below.trans qqr2o1_1 hStqr2o1_1
      refine x_many [4, 7, 9] (by kernel_rfl) rfl fun wqr2o1_2 hxqr2o1_2 => ⟨⟨_, rfl, ?_⟩, ⟨_, rfl, ?_⟩, ⟨_, rfl, ?_⟩, trivial⟩
      · skip
        replace hB3 := hB3.ext hxqr2o1_2
        replace hBqr2o8_1 := hBqr2o8_1.ext hxqr2o1_2
        replace hqr2o1_1 := hqr2o1_1.ext hxqr2o1_2
        have hEqr2o4_1 := Ext.trans hEqr2o1_2 hxqr2o1_2
        have qqr2o4_1 := bel_step qqr2o1_8 hxqr2o1_2
        refine o_make (z0 := (0 : BitVec 32)) Rp.u32 ha rfl sl48 rfl (fun w => ⟨rfl, rfl⟩) rfl gqr2o4_1 gqr2o4_1b ?_; clear ha a; intro vqr2o4_1 wqr2o4_1 hqr2o4_1 hxqr2o4_1 a ha
        obtain ⟨bqr2o4_1, hbqr2o4_1⟩ : ∃ b : Int, b = wqr2o1_2.heap.size := ⟨_, rfl⟩; rw [← hbqr2o4_1] at hqr2o4_1
        have qqr2o4_2 := zn_of hbqr2o4_1
        have qqr2o4_3 := Nq.new hB3.fpb qqr2o4_2
        have qqr2o4_4 := Nq.madeO qqr2o4_2 hB3.bi
        have qqr2o4_5 := Nq.new hBqr2o8_1.fpb qqr2o4_2
        have qqr2o4_6 := Nq.madeO qqr2o4_2 hBqr2o8_1.bi
        have qqr2o4_7 := Nq.new hqr2o1_1.fpb qqr2o4_2
        have qqr2o4_8 := Nq.madeO qqr2o4_2 hqr2o1_1.blt
        have qqr2o4_9 := Zn.upD qqr2o4_2 hEqr2o4_1
        have qqr2o4_10 := Zn.upB qqr2o4_2 qqr2o4_1
        replace hB3 := hB3.ext hxqr2o4_1
        replace hBqr2o8_1 := hBqr2o8_1.ext hxqr2o4_1
        replace hqr2o1_1 := hqr2o1_1.ext hxqr2o4_1
        have hEqr2o4_2 := Ext.trans hEqr2o4_1 hxqr2o4_1
        refine wpList_nil (e_sq ?_)
        have hStqr2o4_1 : RowKit.Below w12.heap.size wqr2o1_2 wqr2o4_1 := ext_bel qqr2o4_1.size hxqr2o4_1
        refine ⟨fun _ => hStqr2o4_1, ?_⟩
        have qqr2o4_11 := RowKit.Below.trans qqr2o4_1 hStqr2o4_1
        refine x_many [7, 9] (by kernel_rfl) rfl fun wqr2o4_2 hxqr2o4_2 => ⟨⟨_, rfl, ?_⟩, ⟨_, rfl, ?_⟩, trivial⟩
        · skip
          replace hB3 := hB3.ext hxqr2o4_2
          replace hBqr2o8_1 := hBqr2o8_1.ext hxqr2o4_2
          replace hqr2o1_1 := hqr2o1_1.ext hxqr2o4_2
          replace hqr2o4_1 := hqr2o4_1.ext hxqr2o4_2
          have hEqr2o7_1 := Ext.trans hEqr2o4_2 hxqr2o4_2
          have qqr2o7_1 := bel_step qqr2o4_11 hxqr2o4_2
          refine o_make (z0 := (0 : Int)) Rp.int ha rfl sl31 rfl (fun w => ⟨rfl, by decide, rfl⟩) rfl gqr2o7_1 gqr2o7_1b ?_; clear ha a; intro vqr2o7_1 wqr2o7_1 hqr2o7_1 hxqr2o7_1 a ha
          obtain ⟨bqr2o7_1, hbqr2o7_1⟩ : ∃ b : Int, b = wqr2o4_2.heap.size := ⟨_, rfl⟩; rw [← hbqr2o7_1] at hqr2o7_1
          have qqr2o7_2 := zn_of hbqr2o7_1
          have qqr2o7_3 := Nq.new hB3.fpb qqr2o7_2
          have qqr2o7_4 := Nq.madeO qqr2o7_2 hB3.bi
          have qqr2o7_5 := Nq.new hBqr2o8_1.fpb qqr2o7_2
          have qqr2o7_6 := Nq.madeO qqr2o7_2 hBqr2o8_1.bi
          have qqr2o7_7 := Nq.new hqr2o1_1.fpb qqr2o7_2
          have qqr2o7_8 := Nq.madeO qqr2o7_2 hqr2o1_1.blt
          have qqr2o7_9 := Nq.new hqr2o4_1.fpb qqr2o7_2
          have qqr2o7_10 := Nq.madeO qqr2o7_2 hqr2o4_1.blt
          have qqr2o7_11 := Zn.upD qqr2o7_2 hEqr2o7_1
          have qqr2o7_12 := Zn.upB qqr2o7_2 qqr2o7_1
          replace hB3 := hB3.ext hxqr2o7_1
          replace hBqr2o8_1 := hBqr2o8_1.ext hxqr2o7_1
          replace hqr2o1_1 := hqr2o1_1.ext hxqr2o7_1
          replace hqr2o4_1 := hqr2o4_1.ext hxqr2o7_1
          have hEqr2o7_2 := Ext.trans hEqr2o7_1 hxqr2o7_1
          refine wpList_nil (e_sq ?_)
          have hStqr2o7_1 : RowKit.Below w12.heap.size wqr2o4_2 wqr2o7_1 := ext_bel qqr2o7_1.size hxqr2o7_1
          refine ⟨fun _ => hStqr2o7_1, ?_⟩
          have qqr2o7_13 := RowKit.Below.trans qqr2o7_1 hStqr2o7_1
          refine x_only 9 rfl (by kernel_rfl) ?_; intro wqr2o9_1 hxqr2o9_1
          replace hB3 := hB3.ext hxqr2o9_1
          replace hBqr2o8_1 := hBqr2o8_1.ext hxqr2o9_1
          replace hqr2o1_1 := hqr2o1_1.ext hxqr2o9_1
          replace hqr2o4_1 := hqr2o4_1.ext hxqr2o9_1
          replace hqr2o7_1 := hqr2o7_1.ext hxqr2o9_1
          have hEqr2o9_1 := Ext.trans hEqr2o7_2 hxqr2o9_1
          have qqr2o9_1 := bel_step qqr2o7_13 hxqr2o9_1
          refine o_storeB ha hBqr2o8_1 Tryd.sizeOf50 rfl rfl hqr2o1_1.cells hqr2o1_1.oneC (Nat.le_of_ble_eq_true rfl) ?_; intro wqr2o9_2 hBqr2o9_1 hcqr2o9_1
          replace hcqr2o9_1 := hcqr2o9_1.bl
          replace hBqr2o9_1 : Bx wqr2o9_2 bqr2o8_1 [vqr2o1_1] 50 := hBqr2o9_1
          replace hB3 := hB3.nq hcqr2o9_1 qqr2o8_3
          replace hqr2o1_1 := hqr2o1_1.nq hcqr2o9_1 qqr2o1_6
          replace hqr2o4_1 := hqr2o4_1.nq hcqr2o9_1 qqr2o4_6
          replace hqr2o7_1 := hqr2o7_1.nq hcqr2o9_1 qqr2o7_6
          have hEqr2o9_2 := Ext.then hEqr2o9_1 hcqr2o9_1 (Zn.bl qqr2o8_5)
          refine wpList_nil (e_sq ?_)
          have hStqr2o9_1 : RowKit.Below w12.heap.size wqr2o9_1 wqr2o9_2 := chg_bel hcqr2o9_1 qqr2o9_1.size (Zn.bl qqr2o8_6)
          refine ⟨fun _ => hStqr2o9_1, ?_⟩
          have qqr2o9_2 := RowKit.Below.trans qqr2o9_1 hStqr2o9_1
          refine x_g 10 rfl (by kernel_rfl) (want0 _) ha rfl qqr2o9_2 (g_assign rfl) ?_; clear ha a; intro a ha; refine x_g 11 rfl (by kernel_rfl) (want0 _) ha rfl qqr2o9_2 (g_assign rfl) ?_; clear ha a; intro a ha
          refine x_done (by kernel_rfl) ?_; intro w59 hx60
          replace hB3 := hB3.ext hx60
          replace hBqr2o9_1 := hBqr2o9_1.ext hx60
          replace hqr2o1_1 := hqr2o1_1.ext hx60
          replace hqr2o4_1 := hqr2o4_1.ext hx60
          replace hqr2o7_1 := hqr2o7_1.ext hx60
          have hE61 := Ext.trans hEqr2o9_2 hx60
          replace ha := ha.sub (σ' := [(1, va1), (5, (.pointer (some ⟨bqr2o8_1, 0, none⟩))), (6, vqr2o4_1), (7, vqr2o7_1)]) ⟨rfl, rfl, rfl, rfl, trivial⟩; refine e_sq ?_; obtain rfl := Option.some.inj hF
          exact ⟨xqr2o1_1, (List.replicate ((a1.length : Int) : Int).toNat (0 : BitVec 32)), (List.replicate ((a1.length : Int) : Int).toNat (0 : Int)), bqr2o8_1, vqr2o1_1, bqr2o1_1, vqr2o4_1, bqr2o4_1, vqr2o7_1, bqr2o7_1, ha.sub ⟨rfl, rfl, rfl, rfl, trivial⟩, hE61, hBqr2o9_1, qqr2o8_5, hqr2o1_1, qqr2o1_7, hqr2o4_1, qqr2o4_9, hqr2o7_1, qqr2o7_11, qqr2o1_5, qqr2o4_5, qqr2o7_5, qqr2o1_6, qqr2o4_7, qqr2o7_7, qqr2o4_6, qqr2o4_8, qqr2o7_9, qqr2o7_6, qqr2o7_8, qqr2o7_10, rfl⟩
        skip
        replace hB3 := hB3.ext hxqr2o4_2
        replace hBqr2o8_1 := hBqr2o8_1.ext hxqr2o4_2
        replace hqr2o1_1 := hqr2o1_1.ext hxqr2o4_2
        replace hqr2o4_1 := hqr2o4_1.ext hxqr2o4_2
        have hEqr2o9_1 := Ext.trans hEqr2o4_2 hxqr2o4_2
        have qqr2o9_1 := bel_step qqr2o4_11 hxqr2o4_2
        refine o_storeB ha hBqr2o8_1 Tryd.sizeOf50 rfl rfl hqr2o1_1.cells hqr2o1_1.oneC (Nat.le_of_ble_eq_true rfl) ?_; intro wqr2o9_1 hBqr2o9_1 hcqr2o9_1
        replace hcqr2o9_1 := hcqr2o9_1.bl
        replace hBqr2o9_1 : Bx wqr2o9_1 bqr2o8_1 [vqr2o1_1] 50 := hBqr2o9_1
        replace hB3 := hB3.nq hcqr2o9_1 qqr2o8_3
        replace hqr2o1_1 := hqr2o1_1.nq hcqr2o9_1 qqr2o1_6
        replace hqr2o4_1 := hqr2o4_1.nq hcqr2o9_1 qqr2o4_6
        have hEqr2o9_2 := Ext.then hEqr2o9_1 hcqr2o9_1 (Zn.bl qqr2o8_5)
        refine wpList_nil (e_sq ?_)
        have hStqr2o9_1 : RowKit.Below w12.heap.size wqr2o4_2 wqr2o9_1 := chg_bel hcqr2o9_1 qqr2o9_1.size (Zn.bl qqr2o8_6)
        refine ⟨fun _ => hStqr2o9_1, ?_⟩
        have qqr2o9_2 := RowKit.Below.trans qqr2o9_1 hStqr2o9_1
        refine x_g 10 rfl (by kernel_rfl) (want0 _) ha rfl qqr2o9_2 (g_assign rfl) ?_; clear ha a; intro a ha
        refine x_only 7 rfl (by kernel_rfl) ?_; intro wqr2o7_1 hxqr2o7_1
        replace hB3 := hB3.ext hxqr2o7_1
        replace hBqr2o9_1 := hBqr2o9_1.ext hxqr2o7_1
        replace hqr2o1_1 := hqr2o1_1.ext hxqr2o7_1
        replace hqr2o4_1 := hqr2o4_1.ext hxqr2o7_1
        have hEqr2o7_1 := Ext.trans hEqr2o9_2 hxqr2o7_1
        have qqr2o7_1 := bel_step qqr2o9_2 hxqr2o7_1
        refine o_make (z0 := (0 : Int)) Rp.int ha rfl sl31 rfl (fun w => ⟨rfl, by decide, rfl⟩) rfl gqr2o7_1 gqr2o7_1b ?_; clear ha a; intro vqr2o7_1 wqr2o7_2 hqr2o7_1 hxqr2o7_2 a ha
        obtain ⟨bqr2o7_1, hbqr2o7_1⟩ : ∃ b : Int, b = wqr2o7_1.heap.size := ⟨_, rfl⟩; rw [← hbqr2o7_1] at hqr2o7_1
        have qqr2o7_2 := zn_of hbqr2o7_1
        have qqr2o7_3 := Nq.new hB3.fpb qqr2o7_2
        have qqr2o7_4 := Nq.madeO qqr2o7_2 hB3.bi
        have qqr2o7_5 := Nq.new hBqr2o9_1.fpb qqr2o7_2
        have qqr2o7_6 := Nq.madeO qqr2o7_2 hBqr2o9_1.bi
        have qqr2o7_7 := Nq.new hqr2o1_1.fpb qqr2o7_2
        have qqr2o7_8 := Nq.madeO qqr2o7_2 hqr2o1_1.blt
        have qqr2o7_9 := Nq.new hqr2o4_1.fpb qqr2o7_2
        have qqr2o7_10 := Nq.madeO qqr2o7_2 hqr2o4_1.blt
        have qqr2o7_11 := Zn.upD qqr2o7_2 hEqr2o7_1
        have qqr2o7_12 := Zn.upB qqr2o7_2 qqr2o7_1
        replace hB3 := hB3.ext hxqr2o7_2
        replace hBqr2o9_1 := hBqr2o9_1.ext hxqr2o7_2
        replace hqr2o1_1 := hqr2o1_1.ext hxqr2o7_2
        replace hqr2o4_1 := hqr2o4_1.ext hxqr2o7_2
        have hEqr2o7_2 := Ext.trans hEqr2o7_1 hxqr2o7_2
        refine wpList_nil (e_sq ?_)
        have hStqr2o7_1 : RowKit.Below w12.heap.size wqr2o7_1 wqr2o7_2 := ext_bel qqr2o7_1.size hxqr2o7_2
        refine ⟨fun _ => hStqr2o7_1, ?_⟩
        have qqr2o7_13 := RowKit.Below.trans qqr2o7_1 hStqr2o7_1
        refine x_g 11 rfl (by kernel_rfl) (want0 _) ha rfl qqr2o7_13 (g_assign rfl) ?_; clear ha a; intro a ha
        refine x_done (by kernel_rfl) ?_; intro w59 hx60
        replace hB3 := hB3.ext hx60
        replace hBqr2o9_1 := hBqr2o9_1.ext hx60
        replace hqr2o1_1 := hqr2o1_1.ext hx60
        replace hqr2o4_1 := hqr2o4_1.ext hx60
        replace hqr2o7_1 := hqr2o7_1.ext hx60
        have hE61 := Ext.trans hEqr2o7_2 hx60
        replace ha := ha.sub (σ' := [(1, va1), (5, (.pointer (some ⟨bqr2o8_1, 0, none⟩))), (6, vqr2o4_1), (7, vqr2o7_1)]) ⟨rfl, rfl, rfl, rfl, trivial⟩; refine e_sq ?_; obtain rfl := Option.some.inj hF
        exact ⟨xqr2o1_1, (List.replicate ((a1.length : Int) : Int).toNat (0 : BitVec 32)), (List.replicate ((a1.length : Int) : Int).toNat (0 : Int)), bqr2o8_1, vqr2o1_1, bqr2o1_1, vqr2o4_1, bqr2o4_1, vqr2o7_1, bqr2o7_1, ha.sub ⟨rfl, rfl, rfl, rfl, trivial⟩, hE61, hBqr2o9_1, qqr2o8_5, hqr2o1_1, qqr2o1_7, hqr2o4_1, qqr2o4_9, hqr2o7_1, qqr2o7_11, qqr2o1_5, qqr2o4_5, qqr2o7_5, qqr2o1_6, qqr2o4_7, qqr2o7_7, qqr2o4_6, qqr2o4_8, qqr2o7_9, qqr2o7_6, qqr2o7_8, qqr2o7_10, rfl⟩
      · skip
        replace hB3 := hB3.ext hxqr2o1_2
        replace hBqr2o8_1 := hBqr2o8_1.ext hxqr2o1_2
        replace hqr2o1_1 := hqr2o1_1.ext hxqr2o1_2
        have hEqr2o7_1 := Ext.trans hEqr2o1_2 hxqr2o1_2
        have qqr2o7_1 := bel_step qqr2o1_8 hxqr2o1_2
        refine o_make (z0 := (0 : Int)) Rp.int ha rfl sl31 rfl (fun w => ⟨rfl, by decide, rfl⟩) rfl gqr2o7_1 gqr2o7_1b ?_; clear ha a; intro vqr2o7_1 wqr2o7_1 hqr2o7_1 hxqr2o7_1 a ha
        obtain ⟨bqr2o7_1, hbqr2o7_1⟩ : ∃ b : Int, b = wqr2o1_2.heap.size := ⟨_, rfl⟩; rw [← hbqr2o7_1] at hqr2o7_1
        have qqr2o7_2 := zn_of hbqr2o7_1
        have qqr2o7_3 := Nq.new hB3.fpb qqr2o7_2
        have qqr2o7_4 := Nq.madeO qqr2o7_2 hB3.bi
        have qqr2o7_5 := Nq.new hBqr2o8_1.fpb qqr2o7_2
        have qqr2o7_6 := Nq.madeO qqr2o7_2 hBqr2o8_1.bi
        have qqr2o7_7 := Nq.new hqr2o1_1.fpb qqr2o7_2
        have qqr2o7_8 := Nq.madeO qqr2o7_2 hqr2o1_1.blt
        have qqr2o7_9 := Zn.upD qqr2o7_2 hEqr2o7_1
        have qqr2o7_10 := Zn.upB qqr2o7_2 qqr2o7_1
        replace hB3 := hB3.ext hxqr2o7_1
        replace hBqr2o8_1 := hBqr2o8_1.ext hxqr2o7_1
        replace hqr2o1_1 := hqr2o1_1.ext hxqr2o7_1
        have hEqr2o7_2 := Ext.trans hEqr2o7_1 hxqr2o7_1
        refine wpList_nil (e_sq ?_)
        have hStqr2o7_1 : RowKit.Below w12.heap.size wqr2o1_2 wqr2o7_1 := ext_bel qqr2o7_1.size hxqr2o7_1
        refine ⟨fun _ => hStqr2o7_1, ?_⟩
        have qqr2o7_11 := RowKit.Below.trans qqr2o7_1 hStqr2o7_1
        refine x_many [4, 9] (by kernel_rfl) rfl fun wqr2o7_2 hxqr2o7_2 => ⟨⟨_, rfl, ?_⟩, ⟨_, rfl, ?_⟩, trivial⟩
        · skip
          replace hB3 := hB3.ext hxqr2o7_2
          replace hBqr2o8_1 := hBqr2o8_1.ext hxqr2o7_2
          replace hqr2o1_1 := hqr2o1_1.ext hxqr2o7_2
          replace hqr2o7_1 := hqr2o7_1.ext hxqr2o7_2
          have hEqr2o4_1 := Ext.trans hEqr2o7_2 hxqr2o7_2
          have qqr2o4_1 := bel_step qqr2o7_11 hxqr2o7_2
          refine o_make (z0 := (0 : BitVec 32)) Rp.u32 ha rfl sl48 rfl (fun w => ⟨rfl, rfl⟩) rfl gqr2o4_1 gqr2o4_1b ?_; clear ha a; intro vqr2o4_1 wqr2o4_1 hqr2o4_1 hxqr2o4_1 a ha
          obtain ⟨bqr2o4_1, hbqr2o4_1⟩ : ∃ b : Int, b = wqr2o7_2.heap.size := ⟨_, rfl⟩; rw [← hbqr2o4_1] at hqr2o4_1
          have qqr2o4_2 := zn_of hbqr2o4_1
          have qqr2o4_3 := Nq.new hB3.fpb qqr2o4_2
          have qqr2o4_4 := Nq.madeO qqr2o4_2 hB3.bi
          have qqr2o4_5 := Nq.new hBqr2o8_1.fpb qqr2o4_2
          have qqr2o4_6 := Nq.madeO qqr2o4_2 hBqr2o8_1.bi
          have qqr2o4_7 := Nq.new hqr2o1_1.fpb qqr2o4_2
          have qqr2o4_8 := Nq.madeO qqr2o4_2 hqr2o1_1.blt
          have qqr2o4_9 := Nq.new hqr2o7_1.fpb qqr2o4_2
          have qqr2o4_10 := Nq.madeO qqr2o4_2 hqr2o7_1.blt
          have qqr2o4_11 := Zn.upD qqr2o4_2 hEqr2o4_1
          have qqr2o4_12 := Zn.upB qqr2o4_2 qqr2o4_1
          replace hB3 := hB3.ext hxqr2o4_1
          replace hBqr2o8_1 := hBqr2o8_1.ext hxqr2o4_1
          replace hqr2o1_1 := hqr2o1_1.ext hxqr2o4_1
          replace hqr2o7_1 := hqr2o7_1.ext hxqr2o4_1
          have hEqr2o4_2 := Ext.trans hEqr2o4_1 hxqr2o4_1
          refine wpList_nil (e_sq ?_)
          have hStqr2o4_1 : RowKit.Below w12.heap.size wqr2o7_2 wqr2o4_1 := ext_bel qqr2o4_1.size hxqr2o4_1
          refine ⟨fun _ => hStqr2o4_1, ?_⟩
          have qqr2o4_13 := RowKit.Below.trans qqr2o4_1 hStqr2o4_1
          refine x_only 9 rfl (by kernel_rfl) ?_; intro wqr2o9_1 hxqr2o9_1
          replace hB3 := hB3.ext hxqr2o9_1
          replace hBqr2o8_1 := hBqr2o8_1.ext hxqr2o9_1
          replace hqr2o1_1 := hqr2o1_1.ext hxqr2o9_1
          replace hqr2o7_1 := hqr2o7_1.ext hxqr2o9_1
          replace hqr2o4_1 := hqr2o4_1.ext hxqr2o9_1
          have hEqr2o9_1 := Ext.trans hEqr2o4_2 hxqr2o9_1
          have qqr2o9_1 := bel_step qqr2o4_13 hxqr2o9_1
          refine o_storeB ha hBqr2o8_1 Tryd.sizeOf50 rfl rfl hqr2o1_1.cells hqr2o1_1.oneC (Nat.le_of_ble_eq_true rfl) ?_; intro wqr2o9_2 hBqr2o9_1 hcqr2o9_1
          replace hcqr2o9_1 := hcqr2o9_1.bl
          replace hBqr2o9_1 : Bx wqr2o9_2 bqr2o8_1 [vqr2o1_1] 50 := hBqr2o9_1
          replace hB3 := hB3.nq hcqr2o9_1 qqr2o8_3
          replace hqr2o1_1 := hqr2o1_1.nq hcqr2o9_1 qqr2o1_6
          replace hqr2o7_1 := hqr2o7_1.nq hcqr2o9_1 qqr2o7_6
          replace hqr2o4_1 := hqr2o4_1.nq hcqr2o9_1 qqr2o4_6
          have hEqr2o9_2 := Ext.then hEqr2o9_1 hcqr2o9_1 (Zn.bl qqr2o8_5)
          refine wpList_nil (e_sq ?_)
          have hStqr2o9_1 : RowKit.Below w12.heap.size wqr2o9_1 wqr2o9_2 := chg_bel hcqr2o9_1 qqr2o9_1.size (Zn.bl qqr2o8_6)
          refine ⟨fun _ => hStqr2o9_1, ?_⟩
          have qqr2o9_2 := RowKit.Below.trans qqr2o9_1 hStqr2o9_1
          refine x_g 10 rfl (by kernel_rfl) (want0 _) ha rfl qqr2o9_2 (g_assign rfl) ?_; clear ha a; intro a ha; refine x_g 11 rfl (by kernel_rfl) (want0 _) ha rfl qqr2o9_2 (g_assign rfl) ?_; clear ha a; intro a ha
          refine x_done (by kernel_rfl) ?_; intro w59 hx60
          replace hB3 := hB3.ext hx60
          replace hBqr2o9_1 := hBqr2o9_1.ext hx60
          replace hqr2o1_1 := hqr2o1_1.ext hx60
          replace hqr2o7_1 := hqr2o7_1.ext hx60
          replace hqr2o4_1 := hqr2o4_1.ext hx60
          have hE61 := Ext.trans hEqr2o9_2 hx60
          replace ha := ha.sub (σ' := [(1, va1), (5, (.pointer (some ⟨bqr2o8_1, 0, none⟩))), (6, vqr2o4_1), (7, vqr2o7_1)]) ⟨rfl, rfl, rfl, rfl, trivial⟩; refine e_sq ?_; obtain rfl := Option.some.inj hF
          exact ⟨xqr2o1_1, (List.replicate ((a1.length : Int) : Int).toNat (0 : BitVec 32)), (List.replicate ((a1.length : Int) : Int).toNat (0 : Int)), bqr2o8_1, vqr2o1_1, bqr2o1_1, vqr2o4_1, bqr2o4_1, vqr2o7_1, bqr2o7_1, ha.sub ⟨rfl, rfl, rfl, rfl, trivial⟩, hE61, hBqr2o9_1, qqr2o8_5, hqr2o1_1, qqr2o1_7, hqr2o4_1, qqr2o4_11, hqr2o7_1, qqr2o7_9, qqr2o1_5, qqr2o4_5, qqr2o7_5, qqr2o1_6, qqr2o4_7, qqr2o7_7, qqr2o4_6, qqr2o4_8, qqr2o4_10, qqr2o7_6, qqr2o7_8, qqr2o4_9, rfl⟩
        skip
        replace hB3 := hB3.ext hxqr2o7_2
        replace hBqr2o8_1 := hBqr2o8_1.ext hxqr2o7_2
        replace hqr2o1_1 := hqr2o1_1.ext hxqr2o7_2
        replace hqr2o7_1 := hqr2o7_1.ext hxqr2o7_2
        have hEqr2o9_1 := Ext.trans hEqr2o7_2 hxqr2o7_2
        have qqr2o9_1 := bel_step qqr2o7_11 hxqr2o7_2
        refine o_storeB ha hBqr2o8_1 Tryd.sizeOf50 rfl rfl hqr2o1_1.cells hqr2o1_1.oneC (Nat.le_of_ble_eq_true rfl) ?_; intro wqr2o9_1 hBqr2o9_1 hcqr2o9_1
        replace hcqr2o9_1 := hcqr2o9_1.bl
        replace hBqr2o9_1 : Bx wqr2o9_1 bqr2o8_1 [vqr2o1_1] 50 := hBqr2o9_1
        replace hB3 := hB3.nq hcqr2o9_1 qqr2o8_3
        replace hqr2o1_1 := hqr2o1_1.nq hcqr2o9_1 qqr2o1_6
        replace hqr2o7_1 := hqr2o7_1.nq hcqr2o9_1 qqr2o7_6
        have hEqr2o9_2 := Ext.then hEqr2o9_1 hcqr2o9_1 (Zn.bl qqr2o8_5)
        refine wpList_nil (e_sq ?_)
        have hStqr2o9_1 : RowKit.Below w12.heap.size wqr2o7_2 wqr2o9_1 := chg_bel hcqr2o9_1 qqr2o9_1.size (Zn.bl qqr2o8_6)
        refine ⟨fun _ => hStqr2o9_1, ?_⟩
        have qqr2o9_2 := RowKit.Below.trans qqr2o9_1 hStqr2o9_1
        refine x_only 4 rfl (by kernel_rfl) ?_; intro wqr2o4_1 hxqr2o4_1
        replace hB3 := hB3.ext hxqr2o4_1
        replace hBqr2o9_1 := hBqr2o9_1.ext hxqr2o4_1
        replace hqr2o1_1 := hqr2o1_1.ext hxqr2o4_1
        replace hqr2o7_1 := hqr2o7_1.ext hxqr2o4_1
        have hEqr2o4_1 := Ext.trans hEqr2o9_2 hxqr2o4_1
        have qqr2o4_1 := bel_step qqr2o9_2 hxqr2o4_1
        refine o_make (z0 := (0 : BitVec 32)) Rp.u32 ha rfl sl48 rfl (fun w => ⟨rfl, rfl⟩) rfl gqr2o4_1 gqr2o4_1b ?_; clear ha a; intro vqr2o4_1 wqr2o4_2 hqr2o4_1 hxqr2o4_2 a ha
        obtain ⟨bqr2o4_1, hbqr2o4_1⟩ : ∃ b : Int, b = wqr2o4_1.heap.size := ⟨_, rfl⟩; rw [← hbqr2o4_1] at hqr2o4_1
        have qqr2o4_2 := zn_of hbqr2o4_1
        have qqr2o4_3 := Nq.new hB3.fpb qqr2o4_2
        have qqr2o4_4 := Nq.madeO qqr2o4_2 hB3.bi
        have qqr2o4_5 := Nq.new hBqr2o9_1.fpb qqr2o4_2
        have qqr2o4_6 := Nq.madeO qqr2o4_2 hBqr2o9_1.bi
        have qqr2o4_7 := Nq.new hqr2o1_1.fpb qqr2o4_2
        have qqr2o4_8 := Nq.madeO qqr2o4_2 hqr2o1_1.blt
        have qqr2o4_9 := Nq.new hqr2o7_1.fpb qqr2o4_2
        have qqr2o4_10 := Nq.madeO qqr2o4_2 hqr2o7_1.blt
        have qqr2o4_11 := Zn.upD qqr2o4_2 hEqr2o4_1
        have qqr2o4_12 := Zn.upB qqr2o4_2 qqr2o4_1
        replace hB3 := hB3.ext hxqr2o4_2
        replace hBqr2o9_1 := hBqr2o9_1.ext hxqr2o4_2
        replace hqr2o1_1 := hqr2o1_1.ext hxqr2o4_2
        replace hqr2o7_1 := hqr2o7_1.ext hxqr2o4_2
        have hEqr2o4_2 := Ext.trans hEqr2o4_1 hxqr2o4_2
        refine wpList_nil (e_sq ?_)
        have hStqr2o4_1 : RowKit.Below w12.heap.size wqr2o4_1 wqr2o4_2 := ext_bel qqr2o4_1.size hxqr2o4_2
        refine ⟨fun _ => hStqr2o4_1, ?_⟩
        have qqr2o4_13 := RowKit.Below.trans qqr2o4_1 hStqr2o4_1
        refine x_g 10 rfl (by kernel_rfl) (want0 _) ha rfl qqr2o4_13 (g_assign rfl) ?_; clear ha a; intro a ha; refine x_g 11 rfl (by kernel_rfl) (want0 _) ha rfl qqr2o4_13 (g_assign rfl) ?_; clear ha a; intro a ha
        refine x_done (by kernel_rfl) ?_; intro w59 hx60
        replace hB3 := hB3.ext hx60
        replace hBqr2o9_1 := hBqr2o9_1.ext hx60
        replace hqr2o1_1 := hqr2o1_1.ext hx60
        replace hqr2o7_1 := hqr2o7_1.ext hx60
        replace hqr2o4_1 := hqr2o4_1.ext hx60
        have hE61 := Ext.trans hEqr2o4_2 hx60
        replace ha := ha.sub (σ' := [(1, va1), (5, (.pointer (some ⟨bqr2o8_1, 0, none⟩))), (6, vqr2o4_1), (7, vqr2o7_1)]) ⟨rfl, rfl, rfl, rfl, trivial⟩; refine e_sq ?_; obtain rfl := Option.some.inj hF
        exact ⟨xqr2o1_1, (List.replicate ((a1.length : Int) : Int).toNat (0 : BitVec 32)), (List.replicate ((a1.length : Int) : Int).toNat (0 : Int)), bqr2o8_1, vqr2o1_1, bqr2o1_1, vqr2o4_1, bqr2o4_1, vqr2o7_1, bqr2o7_1, ha.sub ⟨rfl, rfl, rfl, rfl, trivial⟩, hE61, hBqr2o9_1, qqr2o8_5, hqr2o1_1, qqr2o1_7, hqr2o4_1, qqr2o4_11, hqr2o7_1, qqr2o7_9, qqr2o1_5, qqr2o4_5, qqr2o7_5, qqr2o1_6, qqr2o4_7, qqr2o7_7, qqr2o4_6, qqr2o4_8, qqr2o4_10, qqr2o7_6, qqr2o7_8, qqr2o4_9, rfl⟩
      skip
      replace hB3 := hB3.ext hxqr2o1_2
      replace hBqr2o8_1 := hBqr2o8_1.ext hxqr2o1_2
      replace hqr2o1_1 := hqr2o1_1.ext hxqr2o1_2
      have hEqr2o9_1 := Ext.trans hEqr2o1_2 hxqr2o1_2
      have qqr2o9_1 := bel_step qqr2o1_8 hxqr2o1_2
      refine o_storeB ha hBqr2o8_1 Tryd.sizeOf50 rfl rfl hqr2o1_1.cells hqr2o1_1.oneC (Nat.le_of_ble_eq_true rfl) ?_; intro wqr2o9_1 hBqr2o9_1 hcqr2o9_1
      replace hcqr2o9_1 := hcqr2o9_1.bl
      replace hBqr2o9_1 : Bx wqr2o9_1 bqr2o8_1 [vqr2o1_1] 50 := hBqr2o9_1
      replace hB3 := hB3.nq hcqr2o9_1 qqr2o8_3
      replace hqr2o1_1 := hqr2o1_1.nq hcqr2o9_1 qqr2o1_6
      have hEqr2o9_2 := Ext.then hEqr2o9_1 hcqr2o9_1 (Zn.bl qqr2o8_5)
      refine wpList_nil (e_sq ?_)
      have hStqr2o9_1 : RowKit.Below w12.heap.size wqr2o1_2 wqr2o9_1 := chg_bel hcqr2o9_1 qqr2o9_1.size (Zn.bl qqr2o8_6)
      refine ⟨fun _ => hStqr2o9_1, ?_⟩
      have qqr2o9_2 := RowKit.Below.trans qqr2o9_1 hStqr2o9_1
      refine x_many [4, 7] (by kernel_rfl) rfl fun wqr2o9_2 hxqr2o9_1 => ⟨⟨_, rfl, ?_⟩, ⟨_, rfl, ?_⟩, trivial⟩
      · skip
        replace hB3 := hB3.ext hxqr2o9_1
        replace hBqr2o9_1 := hBqr2o9_1.ext hxqr2o9_1
        replace hqr2o1_1 := hqr2o1_1.ext hxqr2o9_1
        have hEqr2o4_1 := Ext.trans hEqr2o9_2 hxqr2o9_1
        have qqr2o4_1 := bel_step qqr2o9_2 hxqr2o9_1
        refine o_make (z0 := (0 : BitVec 32)) Rp.u32 ha rfl sl48 rfl (fun w => ⟨rfl, rfl⟩) rfl gqr2o4_1 gqr2o4_1b ?_; clear ha a; intro vqr2o4_1 wqr2o4_1 hqr2o4_1 hxqr2o4_1 a ha
        obtain ⟨bqr2o4_1, hbqr2o4_1⟩ : ∃ b : Int, b = wqr2o9_2.heap.size := ⟨_, rfl⟩; rw [← hbqr2o4_1] at hqr2o4_1
        have qqr2o4_2 := zn_of hbqr2o4_1
        have qqr2o4_3 := Nq.new hB3.fpb qqr2o4_2
        have qqr2o4_4 := Nq.madeO qqr2o4_2 hB3.bi
        have qqr2o4_5 := Nq.new hBqr2o9_1.fpb qqr2o4_2
        have qqr2o4_6 := Nq.madeO qqr2o4_2 hBqr2o9_1.bi
        have qqr2o4_7 := Nq.new hqr2o1_1.fpb qqr2o4_2
        have qqr2o4_8 := Nq.madeO qqr2o4_2 hqr2o1_1.blt
        have qqr2o4_9 := Zn.upD qqr2o4_2 hEqr2o4_1
        have qqr2o4_10 := Zn.upB qqr2o4_2 qqr2o4_1
        replace hB3 := hB3.ext hxqr2o4_1
        replace hBqr2o9_1 := hBqr2o9_1.ext hxqr2o4_1
        replace hqr2o1_1 := hqr2o1_1.ext hxqr2o4_1
        have hEqr2o4_2 := Ext.trans hEqr2o4_1 hxqr2o4_1
        refine wpList_nil (e_sq ?_)
        have hStqr2o4_1 : RowKit.Below w12.heap.size wqr2o9_2 wqr2o4_1 := ext_bel qqr2o4_1.size hxqr2o4_1
        refine ⟨fun _ => hStqr2o4_1, ?_⟩
        have qqr2o4_11 := RowKit.Below.trans qqr2o4_1 hStqr2o4_1
        refine x_g 10 rfl (by kernel_rfl) (want0 _) ha rfl qqr2o4_11 (g_assign rfl) ?_; clear ha a; intro a ha
        refine x_only 7 rfl (by kernel_rfl) ?_; intro wqr2o7_1 hxqr2o7_1
        replace hB3 := hB3.ext hxqr2o7_1
        replace hBqr2o9_1 := hBqr2o9_1.ext hxqr2o7_1
        replace hqr2o1_1 := hqr2o1_1.ext hxqr2o7_1
        replace hqr2o4_1 := hqr2o4_1.ext hxqr2o7_1
        have hEqr2o7_1 := Ext.trans hEqr2o4_2 hxqr2o7_1
        have qqr2o7_1 := bel_step qqr2o4_11 hxqr2o7_1
        refine o_make (z0 := (0 : Int)) Rp.int ha rfl sl31 rfl (fun w => ⟨rfl, by decide, rfl⟩) rfl gqr2o7_1 gqr2o7_1b ?_; clear ha a; intro vqr2o7_1 wqr2o7_2 hqr2o7_1 hxqr2o7_2 a ha
        obtain ⟨bqr2o7_1, hbqr2o7_1⟩ : ∃ b : Int, b = wqr2o7_1.heap.size := ⟨_, rfl⟩; rw [← hbqr2o7_1] at hqr2o7_1
        have qqr2o7_2 := zn_of hbqr2o7_1
        have qqr2o7_3 := Nq.new hB3.fpb qqr2o7_2
        have qqr2o7_4 := Nq.madeO qqr2o7_2 hB3.bi
        have qqr2o7_5 := Nq.new hBqr2o9_1.fpb qqr2o7_2
        have qqr2o7_6 := Nq.madeO qqr2o7_2 hBqr2o9_1.bi
        have qqr2o7_7 := Nq.new hqr2o1_1.fpb qqr2o7_2
        have qqr2o7_8 := Nq.madeO qqr2o7_2 hqr2o1_1.blt
        have qqr2o7_9 := Nq.new hqr2o4_1.fpb qqr2o7_2
        have qqr2o7_10 := Nq.madeO qqr2o7_2 hqr2o4_1.blt
        have qqr2o7_11 := Zn.upD qqr2o7_2 hEqr2o7_1
        have qqr2o7_12 := Zn.upB qqr2o7_2 qqr2o7_1
        replace hB3 := hB3.ext hxqr2o7_2
        replace hBqr2o9_1 := hBqr2o9_1.ext hxqr2o7_2
        replace hqr2o1_1 := hqr2o1_1.ext hxqr2o7_2
        replace hqr2o4_1 := hqr2o4_1.ext hxqr2o7_2
        have hEqr2o7_2 := Ext.trans hEqr2o7_1 hxqr2o7_2
        refine wpList_nil (e_sq ?_)
        have hStqr2o7_1 : RowKit.Below w12.heap.size wqr2o7_1 wqr2o7_2 := ext_bel qqr2o7_1.size hxqr2o7_2
        refine ⟨fun _ => hStqr2o7_1, ?_⟩
        have qqr2o7_13 := RowKit.Below.trans qqr2o7_1 hStqr2o7_1
        refine x_g 11 rfl (by kernel_rfl) (want0 _) ha rfl qqr2o7_13 (g_assign rfl) ?_; clear ha a; intro a ha
        refine x_done (by kernel_rfl) ?_; intro w59 hx60
        replace hB3 := hB3.ext hx60
        replace hBqr2o9_1 := hBqr2o9_1.ext hx60
        replace hqr2o1_1 := hqr2o1_1.ext hx60
        replace hqr2o4_1 := hqr2o4_1.ext hx60
        replace hqr2o7_1 := hqr2o7_1.ext hx60
        have hE61 := Ext.trans hEqr2o7_2 hx60
        replace ha := ha.sub (σ' := [(1, va1), (5, (.pointer (some ⟨bqr2o8_1, 0, none⟩))), (6, vqr2o4_1), (7, vqr2o7_1)]) ⟨rfl, rfl, rfl, rfl, trivial⟩; refine e_sq ?_; obtain rfl := Option.some.inj hF
        exact ⟨xqr2o1_1, (List.replicate ((a1.length : Int) : Int).toNat (0 : BitVec 32)), (List.replicate ((a1.length : Int) : Int).toNat (0 : Int)), bqr2o8_1, vqr2o1_1, bqr2o1_1, vqr2o4_1, bqr2o4_1, vqr2o7_1, bqr2o7_1, ha.sub ⟨rfl, rfl, rfl, rfl, trivial⟩, hE61, hBqr2o9_1, qqr2o8_5, hqr2o1_1, qqr2o1_7, hqr2o4_1, qqr2o4_9, hqr2o7_1, qqr2o7_11, qqr2o1_5, qqr2o4_5, qqr2o7_5, qqr2o1_6, qqr2o4_7, qqr2o7_7, qqr2o4_6, qqr2o4_8, qqr2o7_9, qqr2o7_6, qqr2o7_8, qqr2o7_10, rfl⟩
      skip
      replace hB3 := hB3.ext hxqr2o9_1
      replace hBqr2o9_1 := hBqr2o9_1.ext hxqr2o9_1
      replace hqr2o1_1 := hqr2o1_1.ext hxqr2o9_1
      have hEqr2o7_1 := Ext.trans hEqr2o9_2 hxqr2o9_1
      have qqr2o7_1 := bel_step qqr2o9_2 hxqr2o9_1
      refine o_make (z0 := (0 : Int)) Rp.int ha rfl sl31 rfl (fun w => ⟨rfl, by decide, rfl⟩) rfl gqr2o7_1 gqr2o7_1b ?_; clear ha a; intro vqr2o7_1 wqr2o7_1 hqr2o7_1 hxqr2o7_1 a ha
      obtain ⟨bqr2o7_1, hbqr2o7_1⟩ : ∃ b : Int, b = wqr2o9_2.heap.size := ⟨_, rfl⟩; rw [← hbqr2o7_1] at hqr2o7_1
      have qqr2o7_2 := zn_of hbqr2o7_1
      have qqr2o7_3 := Nq.new hB3.fpb qqr2o7_2
      have qqr2o7_4 := Nq.madeO qqr2o7_2 hB3.bi
      have qqr2o7_5 := Nq.new hBqr2o9_1.fpb qqr2o7_2
      have qqr2o7_6 := Nq.madeO qqr2o7_2 hBqr2o9_1.bi
      have qqr2o7_7 := Nq.new hqr2o1_1.fpb qqr2o7_2
      have qqr2o7_8 := Nq.madeO qqr2o7_2 hqr2o1_1.blt
      have qqr2o7_9 := Zn.upD qqr2o7_2 hEqr2o7_1
      have qqr2o7_10 := Zn.upB qqr2o7_2 qqr2o7_1
      replace hB3 := hB3.ext hxqr2o7_1
      replace hBqr2o9_1 := hBqr2o9_1.ext hxqr2o7_1
      replace hqr2o1_1 := hqr2o1_1.ext hxqr2o7_1
      have hEqr2o7_2 := Ext.trans hEqr2o7_1 hxqr2o7_1
      refine wpList_nil (e_sq ?_)
      have hStqr2o7_1 : RowKit.Below w12.heap.size wqr2o9_2 wqr2o7_1 := ext_bel qqr2o7_1.size hxqr2o7_1
      refine ⟨fun _ => hStqr2o7_1, ?_⟩
      have qqr2o7_11 := RowKit.Below.trans qqr2o7_1 hStqr2o7_1
      refine x_only 4 rfl (by kernel_rfl) ?_; intro wqr2o4_1 hxqr2o4_1
      replace hB3 := hB3.ext hxqr2o4_1
      replace hBqr2o9_1 := hBqr2o9_1.ext hxqr2o4_1
      replace hqr2o1_1 := hqr2o1_1.ext hxqr2o4_1
      replace hqr2o7_1 := hqr2o7_1.ext hxqr2o4_1
      have hEqr2o4_1 := Ext.trans hEqr2o7_2 hxqr2o4_1
      have qqr2o4_1 := bel_step qqr2o7_11 hxqr2o4_1
      refine o_make (z0 := (0 : BitVec 32)) Rp.u32 ha rfl sl48 rfl (fun w => ⟨rfl, rfl⟩) rfl gqr2o4_1 gqr2o4_1b ?_; clear ha a; intro vqr2o4_1 wqr2o4_2 hqr2o4_1 hxqr2o4_2 a ha
      obtain ⟨bqr2o4_1, hbqr2o4_1⟩ : ∃ b : Int, b = wqr2o4_1.heap.size := ⟨_, rfl⟩; rw [← hbqr2o4_1] at hqr2o4_1
      have qqr2o4_2 := zn_of hbqr2o4_1
      have qqr2o4_3 := Nq.new hB3.fpb qqr2o4_2
      have qqr2o4_4 := Nq.madeO qqr2o4_2 hB3.bi
      have qqr2o4_5 := Nq.new hBqr2o9_1.fpb qqr2o4_2
      have qqr2o4_6 := Nq.madeO qqr2o4_2 hBqr2o9_1.bi
      have qqr2o4_7 := Nq.new hqr2o1_1.fpb qqr2o4_2
      have qqr2o4_8 := Nq.madeO qqr2o4_2 hqr2o1_1.blt
      have qqr2o4_9 := Nq.new hqr2o7_1.fpb qqr2o4_2
      have qqr2o4_10 := Nq.madeO qqr2o4_2 hqr2o7_1.blt
      have qqr2o4_11 := Zn.upD qqr2o4_2 hEqr2o4_1
      have qqr2o4_12 := Zn.upB qqr2o4_2 qqr2o4_1
      replace hB3 := hB3.ext hxqr2o4_2
      replace hBqr2o9_1 := hBqr2o9_1.ext hxqr2o4_2
      replace hqr2o1_1 := hqr2o1_1.ext hxqr2o4_2
      replace hqr2o7_1 := hqr2o7_1.ext hxqr2o4_2
      have hEqr2o4_2 := Ext.trans hEqr2o4_1 hxqr2o4_2
      refine wpList_nil (e_sq ?_)
      have hStqr2o4_1 : RowKit.Below w12.heap.size wqr2o4_1 wqr2o4_2 := ext_bel qqr2o4_1.size hxqr2o4_2
      refine ⟨fun _ => hStqr2o4_1, ?_⟩
      have qqr2o4_13 := RowKit.Below.trans qqr2o4_1 hStqr2o4_1
      refine x_g 10 rfl (by kernel_rfl) (want0 _) ha rfl qqr2o4_13 (g_assign rfl) ?_; clear ha a; intro a ha; refine x_g 11 rfl (by kernel_rfl) (want0 _) ha rfl qqr2o4_13 (g_assign rfl) ?_; clear ha a; intro a ha
      refine x_done (by kernel_rfl) ?_; intro w59 hx60
      replace hB3 := hB3.ext hx60
      replace hBqr2o9_1 := hBqr2o9_1.ext hx60
      replace hqr2o1_1 := hqr2o1_1.ext hx60
      replace hqr2o7_1 := hqr2o7_1.ext hx60
      replace hqr2o4_1 := hqr2o4_1.ext hx60
      have hE61 := Ext.trans hEqr2o4_2 hx60
      replace ha := ha.sub (σ' := [(1, va1), (5, (.pointer (some ⟨bqr2o8_1, 0, none⟩))), (6, vqr2o4_1), (7, vqr2o7_1)]) ⟨rfl, rfl, rfl, rfl, trivial⟩; refine e_sq ?_; obtain rfl := Option.some.inj hF
      exact ⟨xqr2o1_1, (List.replicate ((a1.length : Int) : Int).toNat (0 : BitVec 32)), (List.replicate ((a1.length : Int) : Int).toNat (0 : Int)), bqr2o8_1, vqr2o1_1, bqr2o1_1, vqr2o4_1, bqr2o4_1, vqr2o7_1, bqr2o7_1, ha.sub ⟨rfl, rfl, rfl, rfl, trivial⟩, hE61, hBqr2o9_1, qqr2o8_5, hqr2o1_1, qqr2o1_7, hqr2o4_1, qqr2o4_11, hqr2o7_1, qqr2o7_9, qqr2o1_5, qqr2o4_5, qqr2o7_5, qqr2o1_6, qqr2o4_7, qqr2o7_7, qqr2o4_6, qqr2o4_8, qqr2o4_10, qqr2o7_6, qqr2o7_8, qqr2o4_9, rfl⟩
    · skip
      replace hB3 := hB3.ext hxqr2o8_2
      replace hBqr2o8_1 := hBqr2o8_1.ext hxqr2o8_2
      have hEqr2o4_1 := Ext.trans hEqr2o8_2 hxqr2o8_2
      have qqr2o4_1 := bel_step qqr2o8_7 hxqr2o8_2
      refine o_make (z0 := (0 : BitVec 32)) Rp.u32 ha rfl sl48 rfl (fun w => ⟨rfl, rfl⟩) rfl gqr2o4_1 gqr2o4_1b ?_; clear ha a; intro vqr2o4_1 wqr2o4_1 hqr2o4_1 hxqr2o4_1 a ha
      obtain ⟨bqr2o4_1, hbqr2o4_1⟩ : ∃ b : Int, b = wqr2o8_2.heap.size := ⟨_, rfl⟩; rw [← hbqr2o4_1] at hqr2o4_1
      have qqr2o4_2 := zn_of hbqr2o4_1
      have qqr2o4_3 := Nq.new hB3.fpb qqr2o4_2
      have qqr2o4_4 := Nq.madeO qqr2o4_2 hB3.bi
      have qqr2o4_5 := Nq.new hBqr2o8_1.fpb qqr2o4_2
      have qqr2o4_6 := Nq.madeO qqr2o4_2 hBqr2o8_1.bi
      have qqr2o4_7 := Zn.upD qqr2o4_2 hEqr2o4_1
      have qqr2o4_8 := Zn.upB qqr2o4_2 qqr2o4_1
      replace hB3 := hB3.ext hxqr2o4_1
      replace hBqr2o8_1 := hBqr2o8_1.ext hxqr2o4_1
      have hEqr2o4_2 := Ext.trans hEqr2o4_1 hxqr2o4_1
      refine wpList_nil (e_sq ?_)
      have hStqr2o4_1 : RowKit.Below w12.heap.size wqr2o8_2 wqr2o4_1 := ext_bel qqr2o4_1.size hxqr2o4_1
      refine ⟨fun _ => hStqr2o4_1, ?_⟩
      have qqr2o4_9 := RowKit.Below.trans qqr2o4_1 hStqr2o4_1
      refine x_many [1, 7] (by kernel_rfl) rfl fun wqr2o4_2 hxqr2o4_2 => ⟨⟨_, rfl, ?_⟩, ⟨_, rfl, ?_⟩, trivial⟩
      · skip
        replace hB3 := hB3.ext hxqr2o4_2
        replace hBqr2o8_1 := hBqr2o8_1.ext hxqr2o4_2
        replace hqr2o4_1 := hqr2o4_1.ext hxqr2o4_2
        have hEqr2o1_1 := Ext.trans hEqr2o4_2 hxqr2o4_2
        have qqr2o1_1 := bel_step qqr2o4_9 hxqr2o4_2
        refine o_call ha rfl rfl Tryd.call31 (W_impl_netsOf (ha0_0.ext hEqr2o1_1) hcqr2o1_1) ?_; clear ha a; rintro vqr2o1_1 wqr2o1_1 ⟨bqr2o1_1, hqr2o1_1, zqr2o1_1, hxqr2o1_1⟩ a ha
        have qqr2o1_2 := Zn.upB zqr2o1_1 qqr2o1_1
        have qqr2o1_3 := Nq.new hB3.fpb zqr2o1_1
        have qqr2o1_4 := Nq.madeO zqr2o1_1 hB3.bi
        have qqr2o1_5 := Nq.new hBqr2o8_1.fpb zqr2o1_1
        have qqr2o1_6 := Nq.madeO zqr2o1_1 hBqr2o8_1.bi
        have qqr2o1_7 := Nq.new hqr2o4_1.fpb zqr2o1_1
        have qqr2o1_8 := Nq.madeO zqr2o1_1 hqr2o4_1.blt
        replace hB3 := hB3.ext hxqr2o1_1
        replace hBqr2o8_1 := hBqr2o8_1.ext hxqr2o1_1
        replace hqr2o4_1 := hqr2o4_1.ext hxqr2o1_1
        have hEqr2o1_2 := Ext.trans hEqr2o1_1 hxqr2o1_1
        have qqr2o1_9 := Zn.upD zqr2o1_1 hEqr2o1_1
        refine wpList_nil (e_sq ?_)
        have hStqr2o1_1 : RowKit.Below w12.heap.size wqr2o4_2 wqr2o1_1 := ext_bel qqr2o1_1.size hxqr2o1_1
        refine ⟨fun _ => hStqr2o1_1, ?_⟩
        have qqr2o1_10 := RowKit.Below.trans qqr2o1_1 hStqr2o1_1
        refine x_many [7, 9] (by kernel_rfl) rfl fun wqr2o1_2 hxqr2o1_2 => ⟨⟨_, rfl, ?_⟩, ⟨_, rfl, ?_⟩, trivial⟩
        · skip
          replace hB3 := hB3.ext hxqr2o1_2
          replace hBqr2o8_1 := hBqr2o8_1.ext hxqr2o1_2
          replace hqr2o4_1 := hqr2o4_1.ext hxqr2o1_2
          replace hqr2o1_1 := hqr2o1_1.ext hxqr2o1_2
          have hEqr2o7_1 := Ext.trans hEqr2o1_2 hxqr2o1_2
          have qqr2o7_1 := bel_step qqr2o1_10 hxqr2o1_2
          refine o_make (z0 := (0 : Int)) Rp.int ha rfl sl31 rfl (fun w => ⟨rfl, by decide, rfl⟩) rfl gqr2o7_1 gqr2o7_1b ?_; clear ha a; intro vqr2o7_1 wqr2o7_1 hqr2o7_1 hxqr2o7_1 a ha
          obtain ⟨bqr2o7_1, hbqr2o7_1⟩ : ∃ b : Int, b = wqr2o1_2.heap.size := ⟨_, rfl⟩; rw [← hbqr2o7_1] at hqr2o7_1
          have qqr2o7_2 := zn_of hbqr2o7_1
          have qqr2o7_3 := Nq.new hB3.fpb qqr2o7_2
          have qqr2o7_4 := Nq.madeO qqr2o7_2 hB3.bi
          have qqr2o7_5 := Nq.new hBqr2o8_1.fpb qqr2o7_2
          have qqr2o7_6 := Nq.madeO qqr2o7_2 hBqr2o8_1.bi
          have qqr2o7_7 := Nq.new hqr2o4_1.fpb qqr2o7_2
          have qqr2o7_8 := Nq.madeO qqr2o7_2 hqr2o4_1.blt
          have qqr2o7_9 := Nq.new hqr2o1_1.fpb qqr2o7_2
          have qqr2o7_10 := Nq.madeO qqr2o7_2 hqr2o1_1.blt
          have qqr2o7_11 := Zn.upD qqr2o7_2 hEqr2o7_1
          have qqr2o7_12 := Zn.upB qqr2o7_2 qqr2o7_1
          replace hB3 := hB3.ext hxqr2o7_1
          replace hBqr2o8_1 := hBqr2o8_1.ext hxqr2o7_1
          replace hqr2o4_1 := hqr2o4_1.ext hxqr2o7_1
          replace hqr2o1_1 := hqr2o1_1.ext hxqr2o7_1
          have hEqr2o7_2 := Ext.trans hEqr2o7_1 hxqr2o7_1
          refine wpList_nil (e_sq ?_)
          have hStqr2o7_1 : RowKit.Below w12.heap.size wqr2o1_2 wqr2o7_1 := ext_bel qqr2o7_1.size hxqr2o7_1
          refine ⟨fun _ => hStqr2o7_1, ?_⟩
          have qqr2o7_13 := RowKit.Below.trans qqr2o7_1 hStqr2o7_1
          refine x_only 9 rfl (by kernel_rfl) ?_; intro wqr2o9_1 hxqr2o9_1
          replace hB3 := hB3.ext hxqr2o9_1
          replace hBqr2o8_1 := hBqr2o8_1.ext hxqr2o9_1
          replace hqr2o4_1 := hqr2o4_1.ext hxqr2o9_1
          replace hqr2o1_1 := hqr2o1_1.ext hxqr2o9_1
          replace hqr2o7_1 := hqr2o7_1.ext hxqr2o9_1
          have hEqr2o9_1 := Ext.trans hEqr2o7_2 hxqr2o9_1
          have qqr2o9_1 := bel_step qqr2o7_13 hxqr2o9_1
          refine o_storeB ha hBqr2o8_1 Tryd.sizeOf50 rfl rfl hqr2o1_1.cells hqr2o1_1.oneC (Nat.le_of_ble_eq_true rfl) ?_; intro wqr2o9_2 hBqr2o9_1 hcqr2o9_1
          replace hcqr2o9_1 := hcqr2o9_1.bl
          replace hBqr2o9_1 : Bx wqr2o9_2 bqr2o8_1 [vqr2o1_1] 50 := hBqr2o9_1
          replace hB3 := hB3.nq hcqr2o9_1 qqr2o8_3
          replace hqr2o4_1 := hqr2o4_1.nq hcqr2o9_1 qqr2o4_6
          replace hqr2o1_1 := hqr2o1_1.nq hcqr2o9_1 qqr2o1_6
          replace hqr2o7_1 := hqr2o7_1.nq hcqr2o9_1 qqr2o7_6
          have hEqr2o9_2 := Ext.then hEqr2o9_1 hcqr2o9_1 (Zn.bl qqr2o8_5)
          refine wpList_nil (e_sq ?_)
          have hStqr2o9_1 : RowKit.Below w12.heap.size wqr2o9_1 wqr2o9_2 := chg_bel hcqr2o9_1 qqr2o9_1.size (Zn.bl qqr2o8_6)
          refine ⟨fun _ => hStqr2o9_1, ?_⟩
          have qqr2o9_2 := RowKit.Below.trans qqr2o9_1 hStqr2o9_1
          refine x_g 10 rfl (by kernel_rfl) (want0 _) ha rfl qqr2o9_2 (g_assign rfl) ?_; clear ha a; intro a ha; refine x_g 11 rfl (by kernel_rfl) (want0 _) ha rfl qqr2o9_2 (g_assign rfl) ?_; clear ha a; intro a ha
          refine x_done (by kernel_rfl) ?_; intro w59 hx60
          replace hB3 := hB3.ext hx60
          replace hBqr2o9_1 := hBqr2o9_1.ext hx60
          replace hqr2o4_1 := hqr2o4_1.ext hx60
          replace hqr2o1_1 := hqr2o1_1.ext hx60
          replace hqr2o7_1 := hqr2o7_1.ext hx60
          have hE61 := Ext.trans hEqr2o9_2 hx60
          replace ha := ha.sub (σ' := [(1, va1), (5, (.pointer (some ⟨bqr2o8_1, 0, none⟩))), (6, vqr2o4_1), (7, vqr2o7_1)]) ⟨rfl, rfl, rfl, rfl, trivial⟩; refine e_sq ?_; obtain rfl := Option.some.inj hF
          exact ⟨xqr2o1_1, (List.replicate ((a1.length : Int) : Int).toNat (0 : BitVec 32)), (List.replicate ((a1.length : Int) : Int).toNat (0 : Int)), bqr2o8_1, vqr2o1_1, bqr2o1_1, vqr2o4_1, bqr2o4_1, vqr2o7_1, bqr2o7_1, ha.sub ⟨rfl, rfl, rfl, rfl, trivial⟩, hE61, hBqr2o9_1, qqr2o8_5, hqr2o1_1, qqr2o1_9, hqr2o4_1, qqr2o4_7, hqr2o7_1, qqr2o7_11, qqr2o1_5, qqr2o4_5, qqr2o7_5, qqr2o1_6, qqr2o1_8, qqr2o7_9, qqr2o4_6, qqr2o1_7, qqr2o7_7, qqr2o7_6, qqr2o7_10, qqr2o7_8, rfl⟩
        skip
        replace hB3 := hB3.ext hxqr2o1_2
        replace hBqr2o8_1 := hBqr2o8_1.ext hxqr2o1_2
        replace hqr2o4_1 := hqr2o4_1.ext hxqr2o1_2
        replace hqr2o1_1 := hqr2o1_1.ext hxqr2o1_2
        have hEqr2o9_1 := Ext.trans hEqr2o1_2 hxqr2o1_2
        have qqr2o9_1 := bel_step qqr2o1_10 hxqr2o1_2
        refine o_storeB ha hBqr2o8_1 Tryd.sizeOf50 rfl rfl hqr2o1_1.cells hqr2o1_1.oneC (Nat.le_of_ble_eq_true rfl) ?_; intro wqr2o9_1 hBqr2o9_1 hcqr2o9_1
        replace hcqr2o9_1 := hcqr2o9_1.bl
        replace hBqr2o9_1 : Bx wqr2o9_1 bqr2o8_1 [vqr2o1_1] 50 := hBqr2o9_1
        replace hB3 := hB3.nq hcqr2o9_1 qqr2o8_3
        replace hqr2o4_1 := hqr2o4_1.nq hcqr2o9_1 qqr2o4_6
        replace hqr2o1_1 := hqr2o1_1.nq hcqr2o9_1 qqr2o1_6
        have hEqr2o9_2 := Ext.then hEqr2o9_1 hcqr2o9_1 (Zn.bl qqr2o8_5)
        refine wpList_nil (e_sq ?_)
        have hStqr2o9_1 : RowKit.Below w12.heap.size wqr2o1_2 wqr2o9_1 := chg_bel hcqr2o9_1 qqr2o9_1.size (Zn.bl qqr2o8_6)
        refine ⟨fun _ => hStqr2o9_1, ?_⟩
        have qqr2o9_2 := RowKit.Below.trans qqr2o9_1 hStqr2o9_1
        refine x_g 10 rfl (by kernel_rfl) (want0 _) ha rfl qqr2o9_2 (g_assign rfl) ?_; clear ha a; intro a ha
        refine x_only 7 rfl (by kernel_rfl) ?_; intro wqr2o7_1 hxqr2o7_1
        replace hB3 := hB3.ext hxqr2o7_1
        replace hBqr2o9_1 := hBqr2o9_1.ext hxqr2o7_1
        replace hqr2o4_1 := hqr2o4_1.ext hxqr2o7_1
        replace hqr2o1_1 := hqr2o1_1.ext hxqr2o7_1
        have hEqr2o7_1 := Ext.trans hEqr2o9_2 hxqr2o7_1
        have qqr2o7_1 := bel_step qqr2o9_2 hxqr2o7_1
        refine o_make (z0 := (0 : Int)) Rp.int ha rfl sl31 rfl (fun w => ⟨rfl, by decide, rfl⟩) rfl gqr2o7_1 gqr2o7_1b ?_; clear ha a; intro vqr2o7_1 wqr2o7_2 hqr2o7_1 hxqr2o7_2 a ha
        obtain ⟨bqr2o7_1, hbqr2o7_1⟩ : ∃ b : Int, b = wqr2o7_1.heap.size := ⟨_, rfl⟩; rw [← hbqr2o7_1] at hqr2o7_1
        have qqr2o7_2 := zn_of hbqr2o7_1
        have qqr2o7_3 := Nq.new hB3.fpb qqr2o7_2
        have qqr2o7_4 := Nq.madeO qqr2o7_2 hB3.bi
        have qqr2o7_5 := Nq.new hBqr2o9_1.fpb qqr2o7_2
        have qqr2o7_6 := Nq.madeO qqr2o7_2 hBqr2o9_1.bi
        have qqr2o7_7 := Nq.new hqr2o4_1.fpb qqr2o7_2
        have qqr2o7_8 := Nq.madeO qqr2o7_2 hqr2o4_1.blt
        have qqr2o7_9 := Nq.new hqr2o1_1.fpb qqr2o7_2
        have qqr2o7_10 := Nq.madeO qqr2o7_2 hqr2o1_1.blt
        have qqr2o7_11 := Zn.upD qqr2o7_2 hEqr2o7_1
        have qqr2o7_12 := Zn.upB qqr2o7_2 qqr2o7_1
        replace hB3 := hB3.ext hxqr2o7_2
        replace hBqr2o9_1 := hBqr2o9_1.ext hxqr2o7_2
        replace hqr2o4_1 := hqr2o4_1.ext hxqr2o7_2
        replace hqr2o1_1 := hqr2o1_1.ext hxqr2o7_2
        have hEqr2o7_2 := Ext.trans hEqr2o7_1 hxqr2o7_2
        refine wpList_nil (e_sq ?_)
        have hStqr2o7_1 : RowKit.Below w12.heap.size wqr2o7_1 wqr2o7_2 := ext_bel qqr2o7_1.size hxqr2o7_2
        refine ⟨fun _ => hStqr2o7_1, ?_⟩
        have qqr2o7_13 := RowKit.Below.trans qqr2o7_1 hStqr2o7_1
        refine x_g 11 rfl (by kernel_rfl) (want0 _) ha rfl qqr2o7_13 (g_assign rfl) ?_; clear ha a; intro a ha
        refine x_done (by kernel_rfl) ?_; intro w59 hx60
        replace hB3 := hB3.ext hx60
        replace hBqr2o9_1 := hBqr2o9_1.ext hx60
        replace hqr2o4_1 := hqr2o4_1.ext hx60
        replace hqr2o1_1 := hqr2o1_1.ext hx60
        replace hqr2o7_1 := hqr2o7_1.ext hx60
        have hE61 := Ext.trans hEqr2o7_2 hx60
        replace ha := ha.sub (σ' := [(1, va1), (5, (.pointer (some ⟨bqr2o8_1, 0, none⟩))), (6, vqr2o4_1), (7, vqr2o7_1)]) ⟨rfl, rfl, rfl, rfl, trivial⟩; refine e_sq ?_; obtain rfl := Option.some.inj hF
        exact ⟨xqr2o1_1, (List.replicate ((a1.length : Int) : Int).toNat (0 : BitVec 32)), (List.replicate ((a1.length : Int) : Int).toNat (0 : Int)), bqr2o8_1, vqr2o1_1, bqr2o1_1, vqr2o4_1, bqr2o4_1, vqr2o7_1, bqr2o7_1, ha.sub ⟨rfl, rfl, rfl, rfl, trivial⟩, hE61, hBqr2o9_1, qqr2o8_5, hqr2o1_1, qqr2o1_9, hqr2o4_1, qqr2o4_7, hqr2o7_1, qqr2o7_11, qqr2o1_5, qqr2o4_5, qqr2o7_5, qqr2o1_6, qqr2o1_8, qqr2o7_9, qqr2o4_6, qqr2o1_7, qqr2o7_7, qqr2o7_6, qqr2o7_10, qqr2o7_8, rfl⟩
      skip
      replace hB3 := hB3.ext hxqr2o4_2
      replace hBqr2o8_1 := hBqr2o8_1.ext hxqr2o4_2
      replace hqr2o4_1 := hqr2o4_1.ext hxqr2o4_2
      have hEqr2o7_1 := Ext.trans hEqr2o4_2 hxqr2o4_2
      have qqr2o7_1 := bel_step qqr2o4_9 hxqr2o4_2
      refine o_make (z0 := (0 : Int)) Rp.int ha rfl sl31 rfl (fun w => ⟨rfl, by decide, rfl⟩) rfl gqr2o7_1 gqr2o7_1b ?_; clear ha a; intro vqr2o7_1 wqr2o7_1 hqr2o7_1 hxqr2o7_1 a ha
      obtain ⟨bqr2o7_1, hbqr2o7_1⟩ : ∃ b : Int, b = wqr2o4_2.heap.size := ⟨_, rfl⟩; rw [← hbqr2o7_1] at hqr2o7_1
      have qqr2o7_2 := zn_of hbqr2o7_1
      have qqr2o7_3 := Nq.new hB3.fpb qqr2o7_2
      have qqr2o7_4 := Nq.madeO qqr2o7_2 hB3.bi
      have qqr2o7_5 := Nq.new hBqr2o8_1.fpb qqr2o7_2
      have qqr2o7_6 := Nq.madeO qqr2o7_2 hBqr2o8_1.bi
      have qqr2o7_7 := Nq.new hqr2o4_1.fpb qqr2o7_2
      have qqr2o7_8 := Nq.madeO qqr2o7_2 hqr2o4_1.blt
      have qqr2o7_9 := Zn.upD qqr2o7_2 hEqr2o7_1
      have qqr2o7_10 := Zn.upB qqr2o7_2 qqr2o7_1
      replace hB3 := hB3.ext hxqr2o7_1
      replace hBqr2o8_1 := hBqr2o8_1.ext hxqr2o7_1
      replace hqr2o4_1 := hqr2o4_1.ext hxqr2o7_1
      have hEqr2o7_2 := Ext.trans hEqr2o7_1 hxqr2o7_1
      refine wpList_nil (e_sq ?_)
      have hStqr2o7_1 : RowKit.Below w12.heap.size wqr2o4_2 wqr2o7_1 := ext_bel qqr2o7_1.size hxqr2o7_1
      refine ⟨fun _ => hStqr2o7_1, ?_⟩
      have qqr2o7_11 := RowKit.Below.trans qqr2o7_1 hStqr2o7_1
      refine x_only 1 rfl (by kernel_rfl) ?_; intro wqr2o1_1 hxqr2o1_1
      replace hB3 := hB3.ext hxqr2o1_1
      replace hBqr2o8_1 := hBqr2o8_1.ext hxqr2o1_1
      replace hqr2o4_1 := hqr2o4_1.ext hxqr2o1_1
      replace hqr2o7_1 := hqr2o7_1.ext hxqr2o1_1
      have hEqr2o1_1 := Ext.trans hEqr2o7_2 hxqr2o1_1
      have qqr2o1_1 := bel_step qqr2o7_11 hxqr2o1_1
      refine o_call ha rfl rfl Tryd.call31 (W_impl_netsOf (ha0_0.ext hEqr2o1_1) hcqr2o1_1) ?_; clear ha a; rintro vqr2o1_1 wqr2o1_2 ⟨bqr2o1_1, hqr2o1_1, zqr2o1_1, hxqr2o1_2⟩ a ha
      have qqr2o1_2 := Zn.upB zqr2o1_1 qqr2o1_1
      have qqr2o1_3 := Nq.new hB3.fpb zqr2o1_1
      have qqr2o1_4 := Nq.madeO zqr2o1_1 hB3.bi
      have qqr2o1_5 := Nq.new hBqr2o8_1.fpb zqr2o1_1
      have qqr2o1_6 := Nq.madeO zqr2o1_1 hBqr2o8_1.bi
      have qqr2o1_7 := Nq.new hqr2o4_1.fpb zqr2o1_1
      have qqr2o1_8 := Nq.madeO zqr2o1_1 hqr2o4_1.blt
      have qqr2o1_9 := Nq.new hqr2o7_1.fpb zqr2o1_1
      have qqr2o1_10 := Nq.madeO zqr2o1_1 hqr2o7_1.blt
      replace hB3 := hB3.ext hxqr2o1_2
      replace hBqr2o8_1 := hBqr2o8_1.ext hxqr2o1_2
      replace hqr2o4_1 := hqr2o4_1.ext hxqr2o1_2
      replace hqr2o7_1 := hqr2o7_1.ext hxqr2o1_2
      have hEqr2o1_2 := Ext.trans hEqr2o1_1 hxqr2o1_2
      have qqr2o1_11 := Zn.upD zqr2o1_1 hEqr2o1_1
      refine wpList_nil (e_sq ?_)
      have hStqr2o1_1 : RowKit.Below w12.heap.size wqr2o1_1 wqr2o1_2 := ext_bel qqr2o1_1.size hxqr2o1_2
      refine ⟨fun _ => hStqr2o1_1, ?_⟩
      have qqr2o1_12 := RowKit.Below.trans qqr2o1_1 hStqr2o1_1
      refine x_only 9 rfl (by kernel_rfl) ?_; intro wqr2o9_1 hxqr2o9_1
      replace hB3 := hB3.ext hxqr2o9_1
      replace hBqr2o8_1 := hBqr2o8_1.ext hxqr2o9_1
      replace hqr2o4_1 := hqr2o4_1.ext hxqr2o9_1
      replace hqr2o7_1 := hqr2o7_1.ext hxqr2o9_1
      replace hqr2o1_1 := hqr2o1_1.ext hxqr2o9_1
      have hEqr2o9_1 := Ext.trans hEqr2o1_2 hxqr2o9_1
      have qqr2o9_1 := bel_step qqr2o1_12 hxqr2o9_1
      refine o_storeB ha hBqr2o8_1 Tryd.sizeOf50 rfl rfl hqr2o1_1.cells hqr2o1_1.oneC (Nat.le_of_ble_eq_true rfl) ?_; intro wqr2o9_2 hBqr2o9_1 hcqr2o9_1
      replace hcqr2o9_1 := hcqr2o9_1.bl
      replace hBqr2o9_1 : Bx wqr2o9_2 bqr2o8_1 [vqr2o1_1] 50 := hBqr2o9_1
      replace hB3 := hB3.nq hcqr2o9_1 qqr2o8_3
      replace hqr2o4_1 := hqr2o4_1.nq hcqr2o9_1 qqr2o4_6
      replace hqr2o7_1 := hqr2o7_1.nq hcqr2o9_1 qqr2o7_6
      replace hqr2o1_1 := hqr2o1_1.nq hcqr2o9_1 qqr2o1_6
      have hEqr2o9_2 := Ext.then hEqr2o9_1 hcqr2o9_1 (Zn.bl qqr2o8_5)
      refine wpList_nil (e_sq ?_)
      have hStqr2o9_1 : RowKit.Below w12.heap.size wqr2o9_1 wqr2o9_2 := chg_bel hcqr2o9_1 qqr2o9_1.size (Zn.bl qqr2o8_6)
      refine ⟨fun _ => hStqr2o9_1, ?_⟩
      have qqr2o9_2 := RowKit.Below.trans qqr2o9_1 hStqr2o9_1
      refine x_g 10 rfl (by kernel_rfl) (want0 _) ha rfl qqr2o9_2 (g_assign rfl) ?_; clear ha a; intro a ha; refine x_g 11 rfl (by kernel_rfl) (want0 _) ha rfl qqr2o9_2 (g_assign rfl) ?_; clear ha a; intro a ha
      refine x_done (by kernel_rfl) ?_; intro w59 hx60
      replace hB3 := hB3.ext hx60
      replace hBqr2o9_1 := hBqr2o9_1.ext hx60
      replace hqr2o4_1 := hqr2o4_1.ext hx60
      replace hqr2o7_1 := hqr2o7_1.ext hx60
      replace hqr2o1_1 := hqr2o1_1.ext hx60
      have hE61 := Ext.trans hEqr2o9_2 hx60
      replace ha := ha.sub (σ' := [(1, va1), (5, (.pointer (some ⟨bqr2o8_1, 0, none⟩))), (6, vqr2o4_1), (7, vqr2o7_1)]) ⟨rfl, rfl, rfl, rfl, trivial⟩; refine e_sq ?_; obtain rfl := Option.some.inj hF
      exact ⟨xqr2o1_1, (List.replicate ((a1.length : Int) : Int).toNat (0 : BitVec 32)), (List.replicate ((a1.length : Int) : Int).toNat (0 : Int)), bqr2o8_1, vqr2o1_1, bqr2o1_1, vqr2o4_1, bqr2o4_1, vqr2o7_1, bqr2o7_1, ha.sub ⟨rfl, rfl, rfl, rfl, trivial⟩, hE61, hBqr2o9_1, qqr2o8_5, hqr2o1_1, qqr2o1_11, hqr2o4_1, qqr2o4_7, hqr2o7_1, qqr2o7_9, qqr2o1_5, qqr2o4_5, qqr2o7_5, qqr2o1_6, qqr2o1_8, qqr2o1_10, qqr2o4_6, qqr2o1_7, qqr2o7_7, qqr2o7_6, qqr2o1_9, qqr2o7_8, rfl⟩
    skip
    replace hB3 := hB3.ext hxqr2o8_2
    replace hBqr2o8_1 := hBqr2o8_1.ext hxqr2o8_2
    have hEqr2o7_1 := Ext.trans hEqr2o8_2 hxqr2o8_2
    have qqr2o7_1 := bel_step qqr2o8_7 hxqr2o8_2
    refine o_make (z0 := (0 : Int)) Rp.int ha rfl sl31 rfl (fun w => ⟨rfl, by decide, rfl⟩) rfl gqr2o7_1 gqr2o7_1b ?_; clear ha a; intro vqr2o7_1 wqr2o7_1 hqr2o7_1 hxqr2o7_1 a ha
    obtain ⟨bqr2o7_1, hbqr2o7_1⟩ : ∃ b : Int, b = wqr2o8_2.heap.size := ⟨_, rfl⟩; rw [← hbqr2o7_1] at hqr2o7_1
    have qqr2o7_2 := zn_of hbqr2o7_1
    have qqr2o7_3 := Nq.new hB3.fpb qqr2o7_2
    have qqr2o7_4 := Nq.madeO qqr2o7_2 hB3.bi
    have qqr2o7_5 := Nq.new hBqr2o8_1.fpb qqr2o7_2
    have qqr2o7_6 := Nq.madeO qqr2o7_2 hBqr2o8_1.bi
    have qqr2o7_7 := Zn.upD qqr2o7_2 hEqr2o7_1
    have qqr2o7_8 := Zn.upB qqr2o7_2 qqr2o7_1
    replace hB3 := hB3.ext hxqr2o7_1
    replace hBqr2o8_1 := hBqr2o8_1.ext hxqr2o7_1
    have hEqr2o7_2 := Ext.trans hEqr2o7_1 hxqr2o7_1
    refine wpList_nil (e_sq ?_)
    have hStqr2o7_1 : RowKit.Below w12.heap.size wqr2o8_2 wqr2o7_1 := ext_bel qqr2o7_1.size hxqr2o7_1
    refine ⟨fun _ => hStqr2o7_1, ?_⟩
    have qqr2o7_9 := RowKit.Below.trans qqr2o7_1 hStqr2o7_1
    refine x_many [1, 4] (by kernel_rfl) rfl fun wqr2o7_2 hxqr2o7_2 => ⟨⟨_, rfl, ?_⟩, ⟨_, rfl, ?_⟩, trivial⟩
    · skip
      replace hB3 := hB3.ext hxqr2o7_2
      replace hBqr2o8_1 := hBqr2o8_1.ext hxqr2o7_2
      replace hqr2o7_1 := hqr2o7_1.ext hxqr2o7_2
      have hEqr2o1_1 := Ext.trans hEqr2o7_2 hxqr2o7_2
      have qqr2o1_1 := bel_step qqr2o7_9 hxqr2o7_2
      refine o_call ha rfl rfl Tryd.call31 (W_impl_netsOf (ha0_0.ext hEqr2o1_1) hcqr2o1_1) ?_; clear ha a; rintro vqr2o1_1 wqr2o1_1 ⟨bqr2o1_1, hqr2o1_1, zqr2o1_1, hxqr2o1_1⟩ a ha
      have qqr2o1_2 := Zn.upB zqr2o1_1 qqr2o1_1
      have qqr2o1_3 := Nq.new hB3.fpb zqr2o1_1
      have qqr2o1_4 := Nq.madeO zqr2o1_1 hB3.bi
      have qqr2o1_5 := Nq.new hBqr2o8_1.fpb zqr2o1_1
      have qqr2o1_6 := Nq.madeO zqr2o1_1 hBqr2o8_1.bi
      have qqr2o1_7 := Nq.new hqr2o7_1.fpb zqr2o1_1
      have qqr2o1_8 := Nq.madeO zqr2o1_1 hqr2o7_1.blt
      replace hB3 := hB3.ext hxqr2o1_1
      replace hBqr2o8_1 := hBqr2o8_1.ext hxqr2o1_1
      replace hqr2o7_1 := hqr2o7_1.ext hxqr2o1_1
      have hEqr2o1_2 := Ext.trans hEqr2o1_1 hxqr2o1_1
      have qqr2o1_9 := Zn.upD zqr2o1_1 hEqr2o1_1
      refine wpList_nil (e_sq ?_)
      have hStqr2o1_1 : RowKit.Below w12.heap.size wqr2o7_2 wqr2o1_1 := ext_bel qqr2o1_1.size hxqr2o1_1
      refine ⟨fun _ => hStqr2o1_1, ?_⟩
      have qqr2o1_10 := RowKit.Below.trans qqr2o1_1 hStqr2o1_1
      refine x_many [4, 9] (by kernel_rfl) rfl fun wqr2o1_2 hxqr2o1_2 => ⟨⟨_, rfl, ?_⟩, ⟨_, rfl, ?_⟩, trivial⟩
      · skip
        replace hB3 := hB3.ext hxqr2o1_2
        replace hBqr2o8_1 := hBqr2o8_1.ext hxqr2o1_2
        replace hqr2o7_1 := hqr2o7_1.ext hxqr2o1_2
        replace hqr2o1_1 := hqr2o1_1.ext hxqr2o1_2
        have hEqr2o4_1 := Ext.trans hEqr2o1_2 hxqr2o1_2
        have qqr2o4_1 := bel_step qqr2o1_10 hxqr2o1_2
        refine o_make (z0 := (0 : BitVec 32)) Rp.u32 ha rfl sl48 rfl (fun w => ⟨rfl, rfl⟩) rfl gqr2o4_1 gqr2o4_1b ?_; clear ha a; intro vqr2o4_1 wqr2o4_1 hqr2o4_1 hxqr2o4_1 a ha
        obtain ⟨bqr2o4_1, hbqr2o4_1⟩ : ∃ b : Int, b = wqr2o1_2.heap.size := ⟨_, rfl⟩; rw [← hbqr2o4_1] at hqr2o4_1
        have qqr2o4_2 := zn_of hbqr2o4_1
        have qqr2o4_3 := Nq.new hB3.fpb qqr2o4_2
        have qqr2o4_4 := Nq.madeO qqr2o4_2 hB3.bi
        have qqr2o4_5 := Nq.new hBqr2o8_1.fpb qqr2o4_2
        have qqr2o4_6 := Nq.madeO qqr2o4_2 hBqr2o8_1.bi
        have qqr2o4_7 := Nq.new hqr2o7_1.fpb qqr2o4_2
        have qqr2o4_8 := Nq.madeO qqr2o4_2 hqr2o7_1.blt
        have qqr2o4_9 := Nq.new hqr2o1_1.fpb qqr2o4_2
        have qqr2o4_10 := Nq.madeO qqr2o4_2 hqr2o1_1.blt
        have qqr2o4_11 := Zn.upD qqr2o4_2 hEqr2o4_1
        have qqr2o4_12 := Zn.upB qqr2o4_2 qqr2o4_1
        replace hB3 := hB3.ext hxqr2o4_1
        replace hBqr2o8_1 := hBqr2o8_1.ext hxqr2o4_1
        replace hqr2o7_1 := hqr2o7_1.ext hxqr2o4_1
        replace hqr2o1_1 := hqr2o1_1.ext hxqr2o4_1
        have hEqr2o4_2 := Ext.trans hEqr2o4_1 hxqr2o4_1
        refine wpList_nil (e_sq ?_)
        have hStqr2o4_1 : RowKit.Below w12.heap.size wqr2o1_2 wqr2o4_1 := ext_bel qqr2o4_1.size hxqr2o4_1
        refine ⟨fun _ => hStqr2o4_1, ?_⟩
        have qqr2o4_13 := RowKit.Below.trans qqr2o4_1 hStqr2o4_1
        refine x_only 9 rfl (by kernel_rfl) ?_; intro wqr2o9_1 hxqr2o9_1
        replace hB3 := hB3.ext hxqr2o9_1
        replace hBqr2o8_1 := hBqr2o8_1.ext hxqr2o9_1
        replace hqr2o7_1 := hqr2o7_1.ext hxqr2o9_1
        replace hqr2o1_1 := hqr2o1_1.ext hxqr2o9_1
        replace hqr2o4_1 := hqr2o4_1.ext hxqr2o9_1
        have hEqr2o9_1 := Ext.trans hEqr2o4_2 hxqr2o9_1
        have qqr2o9_1 := bel_step qqr2o4_13 hxqr2o9_1
        refine o_storeB ha hBqr2o8_1 Tryd.sizeOf50 rfl rfl hqr2o1_1.cells hqr2o1_1.oneC (Nat.le_of_ble_eq_true rfl) ?_; intro wqr2o9_2 hBqr2o9_1 hcqr2o9_1
        replace hcqr2o9_1 := hcqr2o9_1.bl
        replace hBqr2o9_1 : Bx wqr2o9_2 bqr2o8_1 [vqr2o1_1] 50 := hBqr2o9_1
        replace hB3 := hB3.nq hcqr2o9_1 qqr2o8_3
        replace hqr2o7_1 := hqr2o7_1.nq hcqr2o9_1 qqr2o7_6
        replace hqr2o1_1 := hqr2o1_1.nq hcqr2o9_1 qqr2o1_6
        replace hqr2o4_1 := hqr2o4_1.nq hcqr2o9_1 qqr2o4_6
        have hEqr2o9_2 := Ext.then hEqr2o9_1 hcqr2o9_1 (Zn.bl qqr2o8_5)
        refine wpList_nil (e_sq ?_)
        have hStqr2o9_1 : RowKit.Below w12.heap.size wqr2o9_1 wqr2o9_2 := chg_bel hcqr2o9_1 qqr2o9_1.size (Zn.bl qqr2o8_6)
        refine ⟨fun _ => hStqr2o9_1, ?_⟩
        have qqr2o9_2 := RowKit.Below.trans qqr2o9_1 hStqr2o9_1
        refine x_g 10 rfl (by kernel_rfl) (want0 _) ha rfl qqr2o9_2 (g_assign rfl) ?_; clear ha a; intro a ha; refine x_g 11 rfl (by kernel_rfl) (want0 _) ha rfl qqr2o9_2 (g_assign rfl) ?_; clear ha a; intro a ha
        refine x_done (by kernel_rfl) ?_; intro w59 hx60
        replace hB3 := hB3.ext hx60
        replace hBqr2o9_1 := hBqr2o9_1.ext hx60
        replace hqr2o7_1 := hqr2o7_1.ext hx60
        replace hqr2o1_1 := hqr2o1_1.ext hx60
        replace hqr2o4_1 := hqr2o4_1.ext hx60
        have hE61 := Ext.trans hEqr2o9_2 hx60
        replace ha := ha.sub (σ' := [(1, va1), (5, (.pointer (some ⟨bqr2o8_1, 0, none⟩))), (6, vqr2o4_1), (7, vqr2o7_1)]) ⟨rfl, rfl, rfl, rfl, trivial⟩; refine e_sq ?_; obtain rfl := Option.some.inj hF
        exact ⟨xqr2o1_1, (List.replicate ((a1.length : Int) : Int).toNat (0 : BitVec 32)), (List.replicate ((a1.length : Int) : Int).toNat (0 : Int)), bqr2o8_1, vqr2o1_1, bqr2o1_1, vqr2o4_1, bqr2o4_1, vqr2o7_1, bqr2o7_1, ha.sub ⟨rfl, rfl, rfl, rfl, trivial⟩, hE61, hBqr2o9_1, qqr2o8_5, hqr2o1_1, qqr2o1_9, hqr2o4_1, qqr2o4_11, hqr2o7_1, qqr2o7_7, qqr2o1_5, qqr2o4_5, qqr2o7_5, qqr2o1_6, qqr2o4_9, qqr2o1_8, qqr2o4_6, qqr2o4_10, qqr2o4_8, qqr2o7_6, qqr2o1_7, qqr2o4_7, rfl⟩
      skip
      replace hB3 := hB3.ext hxqr2o1_2
      replace hBqr2o8_1 := hBqr2o8_1.ext hxqr2o1_2
      replace hqr2o7_1 := hqr2o7_1.ext hxqr2o1_2
      replace hqr2o1_1 := hqr2o1_1.ext hxqr2o1_2
      have hEqr2o9_1 := Ext.trans hEqr2o1_2 hxqr2o1_2
      have qqr2o9_1 := bel_step qqr2o1_10 hxqr2o1_2
      refine o_storeB ha hBqr2o8_1 Tryd.sizeOf50 rfl rfl hqr2o1_1.cells hqr2o1_1.oneC (Nat.le_of_ble_eq_true rfl) ?_; intro wqr2o9_1 hBqr2o9_1 hcqr2o9_1
      replace hcqr2o9_1 := hcqr2o9_1.bl
      replace hBqr2o9_1 : Bx wqr2o9_1 bqr2o8_1 [vqr2o1_1] 50 := hBqr2o9_1
      replace hB3 := hB3.nq hcqr2o9_1 qqr2o8_3
      replace hqr2o7_1 := hqr2o7_1.nq hcqr2o9_1 qqr2o7_6
      replace hqr2o1_1 := hqr2o1_1.nq hcqr2o9_1 qqr2o1_6
      have hEqr2o9_2 := Ext.then hEqr2o9_1 hcqr2o9_1 (Zn.bl qqr2o8_5)
      refine wpList_nil (e_sq ?_)
      have hStqr2o9_1 : RowKit.Below w12.heap.size wqr2o1_2 wqr2o9_1 := chg_bel hcqr2o9_1 qqr2o9_1.size (Zn.bl qqr2o8_6)
      refine ⟨fun _ => hStqr2o9_1, ?_⟩
      have qqr2o9_2 := RowKit.Below.trans qqr2o9_1 hStqr2o9_1
      refine x_only 4 rfl (by kernel_rfl) ?_; intro wqr2o4_1 hxqr2o4_1
      replace hB3 := hB3.ext hxqr2o4_1
      replace hBqr2o9_1 := hBqr2o9_1.ext hxqr2o4_1
      replace hqr2o7_1 := hqr2o7_1.ext hxqr2o4_1
      replace hqr2o1_1 := hqr2o1_1.ext hxqr2o4_1
      have hEqr2o4_1 := Ext.trans hEqr2o9_2 hxqr2o4_1
      have qqr2o4_1 := bel_step qqr2o9_2 hxqr2o4_1
      refine o_make (z0 := (0 : BitVec 32)) Rp.u32 ha rfl sl48 rfl (fun w => ⟨rfl, rfl⟩) rfl gqr2o4_1 gqr2o4_1b ?_; clear ha a; intro vqr2o4_1 wqr2o4_2 hqr2o4_1 hxqr2o4_2 a ha
      obtain ⟨bqr2o4_1, hbqr2o4_1⟩ : ∃ b : Int, b = wqr2o4_1.heap.size := ⟨_, rfl⟩; rw [← hbqr2o4_1] at hqr2o4_1
      have qqr2o4_2 := zn_of hbqr2o4_1
      have qqr2o4_3 := Nq.new hB3.fpb qqr2o4_2
      have qqr2o4_4 := Nq.madeO qqr2o4_2 hB3.bi
      have qqr2o4_5 := Nq.new hBqr2o9_1.fpb qqr2o4_2
      have qqr2o4_6 := Nq.madeO qqr2o4_2 hBqr2o9_1.bi
      have qqr2o4_7 := Nq.new hqr2o7_1.fpb qqr2o4_2
      have qqr2o4_8 := Nq.madeO qqr2o4_2 hqr2o7_1.blt
      have qqr2o4_9 := Nq.new hqr2o1_1.fpb qqr2o4_2
      have qqr2o4_10 := Nq.madeO qqr2o4_2 hqr2o1_1.blt
      have qqr2o4_11 := Zn.upD qqr2o4_2 hEqr2o4_1
      have qqr2o4_12 := Zn.upB qqr2o4_2 qqr2o4_1
      replace hB3 := hB3.ext hxqr2o4_2
      replace hBqr2o9_1 := hBqr2o9_1.ext hxqr2o4_2
      replace hqr2o7_1 := hqr2o7_1.ext hxqr2o4_2
      replace hqr2o1_1 := hqr2o1_1.ext hxqr2o4_2
      have hEqr2o4_2 := Ext.trans hEqr2o4_1 hxqr2o4_2
      refine wpList_nil (e_sq ?_)
      have hStqr2o4_1 : RowKit.Below w12.heap.size wqr2o4_1 wqr2o4_2 := ext_bel qqr2o4_1.size hxqr2o4_2
      refine ⟨fun _ => hStqr2o4_1, ?_⟩
      have qqr2o4_13 := RowKit.Below.trans qqr2o4_1 hStqr2o4_1
      refine x_g 10 rfl (by kernel_rfl) (want0 _) ha rfl qqr2o4_13 (g_assign rfl) ?_; clear ha a; intro a ha; refine x_g 11 rfl (by kernel_rfl) (want0 _) ha rfl qqr2o4_13 (g_assign rfl) ?_; clear ha a; intro a ha
      refine x_done (by kernel_rfl) ?_; intro w59 hx60
      replace hB3 := hB3.ext hx60
      replace hBqr2o9_1 := hBqr2o9_1.ext hx60
      replace hqr2o7_1 := hqr2o7_1.ext hx60
      replace hqr2o1_1 := hqr2o1_1.ext hx60
      replace hqr2o4_1 := hqr2o4_1.ext hx60
      have hE61 := Ext.trans hEqr2o4_2 hx60
      replace ha := ha.sub (σ' := [(1, va1), (5, (.pointer (some ⟨bqr2o8_1, 0, none⟩))), (6, vqr2o4_1), (7, vqr2o7_1)]) ⟨rfl, rfl, rfl, rfl, trivial⟩; refine e_sq ?_; obtain rfl := Option.some.inj hF
      exact ⟨xqr2o1_1, (List.replicate ((a1.length : Int) : Int).toNat (0 : BitVec 32)), (List.replicate ((a1.length : Int) : Int).toNat (0 : Int)), bqr2o8_1, vqr2o1_1, bqr2o1_1, vqr2o4_1, bqr2o4_1, vqr2o7_1, bqr2o7_1, ha.sub ⟨rfl, rfl, rfl, rfl, trivial⟩, hE61, hBqr2o9_1, qqr2o8_5, hqr2o1_1, qqr2o1_9, hqr2o4_1, qqr2o4_11, hqr2o7_1, qqr2o7_7, qqr2o1_5, qqr2o4_5, qqr2o7_5, qqr2o1_6, qqr2o4_9, qqr2o1_8, qqr2o4_6, qqr2o4_10, qqr2o4_8, qqr2o7_6, qqr2o1_7, qqr2o4_7, rfl⟩
    skip
    replace hB3 := hB3.ext hxqr2o7_2
    replace hBqr2o8_1 := hBqr2o8_1.ext hxqr2o7_2
    replace hqr2o7_1 := hqr2o7_1.ext hxqr2o7_2
    have hEqr2o4_1 := Ext.trans hEqr2o7_2 hxqr2o7_2
    have qqr2o4_1 := bel_step qqr2o7_9 hxqr2o7_2
    refine o_make (z0 := (0 : BitVec 32)) Rp.u32 ha rfl sl48 rfl (fun w => ⟨rfl, rfl⟩) rfl gqr2o4_1 gqr2o4_1b ?_; clear ha a; intro vqr2o4_1 wqr2o4_1 hqr2o4_1 hxqr2o4_1 a ha
    obtain ⟨bqr2o4_1, hbqr2o4_1⟩ : ∃ b : Int, b = wqr2o7_2.heap.size := ⟨_, rfl⟩; rw [← hbqr2o4_1] at hqr2o4_1
    have qqr2o4_2 := zn_of hbqr2o4_1
    have qqr2o4_3 := Nq.new hB3.fpb qqr2o4_2
    have qqr2o4_4 := Nq.madeO qqr2o4_2 hB3.bi
    have qqr2o4_5 := Nq.new hBqr2o8_1.fpb qqr2o4_2
    have qqr2o4_6 := Nq.madeO qqr2o4_2 hBqr2o8_1.bi
    have qqr2o4_7 := Nq.new hqr2o7_1.fpb qqr2o4_2
    have qqr2o4_8 := Nq.madeO qqr2o4_2 hqr2o7_1.blt
    have qqr2o4_9 := Zn.upD qqr2o4_2 hEqr2o4_1
    have qqr2o4_10 := Zn.upB qqr2o4_2 qqr2o4_1
    replace hB3 := hB3.ext hxqr2o4_1
    replace hBqr2o8_1 := hBqr2o8_1.ext hxqr2o4_1
    replace hqr2o7_1 := hqr2o7_1.ext hxqr2o4_1
    have hEqr2o4_2 := Ext.trans hEqr2o4_1 hxqr2o4_1
    refine wpList_nil (e_sq ?_)
    have hStqr2o4_1 : RowKit.Below w12.heap.size wqr2o7_2 wqr2o4_1 := ext_bel qqr2o4_1.size hxqr2o4_1
    refine ⟨fun _ => hStqr2o4_1, ?_⟩
    have qqr2o4_11 := RowKit.Below.trans qqr2o4_1 hStqr2o4_1
    refine x_only 1 rfl (by kernel_rfl) ?_; intro wqr2o1_1 hxqr2o1_1
    replace hB3 := hB3.ext hxqr2o1_1
    replace hBqr2o8_1 := hBqr2o8_1.ext hxqr2o1_1
    replace hqr2o7_1 := hqr2o7_1.ext hxqr2o1_1
    replace hqr2o4_1 := hqr2o4_1.ext hxqr2o1_1
    have hEqr2o1_1 := Ext.trans hEqr2o4_2 hxqr2o1_1
    have qqr2o1_1 := bel_step qqr2o4_11 hxqr2o1_1
    refine o_call ha rfl rfl Tryd.call31 (W_impl_netsOf (ha0_0.ext hEqr2o1_1) hcqr2o1_1) ?_; clear ha a; rintro vqr2o1_1 wqr2o1_2 ⟨bqr2o1_1, hqr2o1_1, zqr2o1_1, hxqr2o1_2⟩ a ha
    have qqr2o1_2 := Zn.upB zqr2o1_1 qqr2o1_1
    have qqr2o1_3 := Nq.new hB3.fpb zqr2o1_1
    have qqr2o1_4 := Nq.madeO zqr2o1_1 hB3.bi
    have qqr2o1_5 := Nq.new hBqr2o8_1.fpb zqr2o1_1
    have qqr2o1_6 := Nq.madeO zqr2o1_1 hBqr2o8_1.bi
    have qqr2o1_7 := Nq.new hqr2o7_1.fpb zqr2o1_1
    have qqr2o1_8 := Nq.madeO zqr2o1_1 hqr2o7_1.blt
    have qqr2o1_9 := Nq.new hqr2o4_1.fpb zqr2o1_1
    have qqr2o1_10 := Nq.madeO zqr2o1_1 hqr2o4_1.blt
    replace hB3 := hB3.ext hxqr2o1_2
    replace hBqr2o8_1 := hBqr2o8_1.ext hxqr2o1_2
    replace hqr2o7_1 := hqr2o7_1.ext hxqr2o1_2
    replace hqr2o4_1 := hqr2o4_1.ext hxqr2o1_2
    have hEqr2o1_2 := Ext.trans hEqr2o1_1 hxqr2o1_2
    have qqr2o1_11 := Zn.upD zqr2o1_1 hEqr2o1_1
    refine wpList_nil (e_sq ?_)
    have hStqr2o1_1 : RowKit.Below w12.heap.size wqr2o1_1 wqr2o1_2 := ext_bel qqr2o1_1.size hxqr2o1_2
    refine ⟨fun _ => hStqr2o1_1, ?_⟩
    have qqr2o1_12 := RowKit.Below.trans qqr2o1_1 hStqr2o1_1
    refine x_only 9 rfl (by kernel_rfl) ?_; intro wqr2o9_1 hxqr2o9_1
    replace hB3 := hB3.ext hxqr2o9_1
    replace hBqr2o8_1 := hBqr2o8_1.ext hxqr2o9_1
    replace hqr2o7_1 := hqr2o7_1.ext hxqr2o9_1
    replace hqr2o4_1 := hqr2o4_1.ext hxqr2o9_1
    replace hqr2o1_1 := hqr2o1_1.ext hxqr2o9_1
    have hEqr2o9_1 := Ext.trans hEqr2o1_2 hxqr2o9_1
    have qqr2o9_1 := bel_step qqr2o1_12 hxqr2o9_1
    refine o_storeB ha hBqr2o8_1 Tryd.sizeOf50 rfl rfl hqr2o1_1.cells hqr2o1_1.oneC (Nat.le_of_ble_eq_true rfl) ?_; intro wqr2o9_2 hBqr2o9_1 hcqr2o9_1
    replace hcqr2o9_1 := hcqr2o9_1.bl
    replace hBqr2o9_1 : Bx wqr2o9_2 bqr2o8_1 [vqr2o1_1] 50 := hBqr2o9_1
    replace hB3 := hB3.nq hcqr2o9_1 qqr2o8_3
    replace hqr2o7_1 := hqr2o7_1.nq hcqr2o9_1 qqr2o7_6
    replace hqr2o4_1 := hqr2o4_1.nq hcqr2o9_1 qqr2o4_6
    replace hqr2o1_1 := hqr2o1_1.nq hcqr2o9_1 qqr2o1_6
    have hEqr2o9_2 := Ext.then hEqr2o9_1 hcqr2o9_1 (Zn.bl qqr2o8_5)
    refine wpList_nil (e_sq ?_)
    have hStqr2o9_1 : RowKit.Below w12.heap.size wqr2o9_1 wqr2o9_2 := chg_bel hcqr2o9_1 qqr2o9_1.size (Zn.bl qqr2o8_6)
    refine ⟨fun _ => hStqr2o9_1, ?_⟩
    have qqr2o9_2 := RowKit.Below.trans qqr2o9_1 hStqr2o9_1
    refine x_g 10 rfl (by kernel_rfl) (want0 _) ha rfl qqr2o9_2 (g_assign rfl) ?_; clear ha a; intro a ha; refine x_g 11 rfl (by kernel_rfl) (want0 _) ha rfl qqr2o9_2 (g_assign rfl) ?_; clear ha a; intro a ha
    refine x_done (by kernel_rfl) ?_; intro w59 hx60
    replace hB3 := hB3.ext hx60
    replace hBqr2o9_1 := hBqr2o9_1.ext hx60
    replace hqr2o7_1 := hqr2o7_1.ext hx60
    replace hqr2o4_1 := hqr2o4_1.ext hx60
    replace hqr2o1_1 := hqr2o1_1.ext hx60
    have hE61 := Ext.trans hEqr2o9_2 hx60
    replace ha := ha.sub (σ' := [(1, va1), (5, (.pointer (some ⟨bqr2o8_1, 0, none⟩))), (6, vqr2o4_1), (7, vqr2o7_1)]) ⟨rfl, rfl, rfl, rfl, trivial⟩; refine e_sq ?_; obtain rfl := Option.some.inj hF
    exact ⟨xqr2o1_1, (List.replicate ((a1.length : Int) : Int).toNat (0 : BitVec 32)), (List.replicate ((a1.length : Int) : Int).toNat (0 : Int)), bqr2o8_1, vqr2o1_1, bqr2o1_1, vqr2o4_1, bqr2o4_1, vqr2o7_1, bqr2o7_1, ha.sub ⟨rfl, rfl, rfl, rfl, trivial⟩, hE61, hBqr2o9_1, qqr2o8_5, hqr2o1_1, qqr2o1_11, hqr2o4_1, qqr2o4_9, hqr2o7_1, qqr2o7_7, qqr2o1_5, qqr2o4_5, qqr2o7_5, qqr2o1_6, qqr2o1_10, qqr2o1_8, qqr2o4_6, qqr2o1_9, qqr2o4_8, qqr2o7_6, qqr2o1_7, qqr2o4_7, rfl⟩
  rintro a w23 ⟨l30, l36, l42, b24, v31, b32, v37, b38, v43, b44, ha, hE57, hB25, z26, h28, z29, h34, z35, h40, z41, q45, q46, q47, q48, q49, q50, q51, q52, q53, q54, q55, q56, rfl⟩
  have hF : F_impl_InTurn_k1 a1 l30 l36 l42 = some _ := hK22; clear hK22; unfold F_impl_InTurn_k1 at hF
  refine wp_seq ?_; refine wp_seq ?_; refine wp_region_lit ?_; refine op_g ha rfl (g_move rfl) ?_; clear ha a; intro a ha; refine op_g ha rfl (g_lenR sl31.und ha1 rfl) ?_; clear ha a; intro a ha; refine op_g ha rfl (g_move rfl) ?_; clear ha a; intro a ha; refine wpList_nil ?_; replace ha := ha.sub (σ' := [(5, (.pointer (some ⟨b24, 0, none⟩))), (6, v37), (7, v43), (23, va1), (24, (.int .i64 (a1.length : Int))), (25, (.int .i64 0))]) ⟨rfl, rfl, rfl, rfl, rfl, rfl, trivial⟩; refine e_then ?_; obtain ⟨o403, ho404, hK405⟩ := bnd_some hF
  obtain ⟨n406, hn407⟩ := lp_some ho404; clear ho404
  refine c_loop (fun a w => ∃ (l400 : (List Int)) (v401 : Value) (b402 : Int), Fr 46 [(7, v401)] a ∧ Chg [] W w ∧ Ow Rp.int 2 true w [] b402 v401 l400 ∧ Zn W b402 ∧ o403 = .inl l400) (fun n a w => ∃ (l234 : (List (BitVec 32))) (l240 : (List Int)) (i243 : Int) (v235 : Value) (b236 : Int) (v241 : Value) (b242 : Int), Fr 46 [(5, (.pointer (some ⟨b24, 0, none⟩))), (6, v235), (7, v241), (23, va1), (24, (.int .i64 (a1.length : Int))), (25, (.int .i64 i243))] a ∧ Chg [] W w ∧ InI i243 ∧ Bx w b24 [v31] 50 ∧ Zn W (b24 : Int) ∧ Ow Rp.u32 53 true w [] b32 v31 l30 ∧ Zn W b32 ∧ Ow Rp.u32 53 true w [] b236 v235 l234 ∧ Zn W b236 ∧ Ow Rp.int 2 true w [] b242 v241 l240 ∧ Zn W b242 ∧ Nq ([b24]) b32 ∧ Nq ([b24]) b236 ∧ Nq ([b24]) b242 ∧ Nq (bl b32 ++ []) (b24 : Int) ∧ Nq (bl b32 ++ []) b236 ∧ Nq (bl b32 ++ []) b242 ∧ Nq (bl b236 ++ []) (b24 : Int) ∧ Nq (bl b236 ++ []) b32 ∧ Nq (bl b236 ++ []) b242 ∧ Nq (bl b242 ++ []) (b24 : Int) ∧ Nq (bl b242 ++ []) b32 ∧ Nq (bl b242 ++ []) b236 ∧ lpN (fun s => F_impl_InTurn_l2 a1 l30 s.1 s.2.1 s.2.2) n (l234, l240, i243) = some o403) n406 ⟨l36, l42, 0, v37, b38, v43, b44, ha.sub ⟨rfl, rfl, rfl, rfl, rfl, rfl, trivial⟩, hE57, (show InI 0 from by decide), hB25, z26, h28, z29, h34, z35, h40, z41, q45, q46, q47, q48, q49, q50, q51, q52, q53, q54, q55, q56, hn407⟩ ?_ ?_
  · rintro m411 a w225 ⟨l234, l240, i243, v235, b236, v241, b242, ha, hE257, hI244, hB226, z227, h229, z230, h232, z233, h238, z239, q245, q246, q247, q248, q249, q250, q251, q252, q253, q254, q255, q256, hF⟩
    cases m411 with
    | zero => exact (lpN_zero hF).elim
    | succ m411 =>
      obtain ⟨z410, hF, hN409⟩ := lpN_succ hF
      have hF : F_impl_InTurn_l2 a1 l30 l234 l240 i243 = some z410 := hF; unfold F_impl_InTurn_l2 at hF
      refine wp_seq ?_; refine wp_region_lit ?_; refine op_g ha rfl (g_lss rfl rfl) ?_; clear ha a; intro a ha; refine wpList_nil ?_; replace ha := ha.sub (σ' := [(5, (.pointer (some ⟨b24, 0, none⟩))), (6, v235), (7, v241), (23, va1), (24, (.int .i64 (a1.length : Int))), (25, (.int .i64 i243)), (26, (.bool (decide (i243 < (a1.length : Int)))))]) ⟨rfl, rfl, rfl, rfl, rfl, rfl, rfl, trivial⟩; refine e_then ?_; refine wp_seq ?_; refine c_cond (i243 < (a1.length : Int)) ha rfl (decide_eq_true_iff) (fun hp412 => ?_) (fun hp412 => ?_)
      · replace hF := if_t hp412 hF
        refine wp_skip ?_; refine e_then ?_; refine wp_seq ?_; refine wp_block ?_; refine wp_seq ?_; refine wp_region_lit ?_; obtain ⟨x413, g414, gx415, hF⟩ := idx_some hF
        obtain ⟨p416, cs417, f418, hf419, hpb420, hat421, hr422, hi423⟩ := ha1.at g414 gx415
        obtain ⟨rfl, hI424, rfl⟩ := hr422
        refine op_g ha rfl (hi423.gives sl31 rfl rfl) ?_; clear ha a; intro a ha; refine op_g ha rfl (g_load0 hE257 Tryd.isAgg2 rfl hat421.one) ?_; clear ha a; intro a ha
        refine o_alloc (cs := [(.int .i64 0)]) ha rfl Tryd.zeroValue2 rfl ?_; clear ha a; intro b425 w426 hB427 hx428 hlo429 a ha
        have q430 := Zn.one hlo429
        have q431 := Nq.new hB226.fpb q430
        have q432 := Nq.made1 hlo429 hB226.bi
        have q433 := Nq.new h229.fpb q430
        have q434 := Nq.made1 hlo429 h229.blt
        have q435 := Nq.new h232.fpb q430
        have q436 := Nq.made1 hlo429 h232.blt
        have q437 := Nq.new h238.fpb q430
        have q438 := Nq.made1 hlo429 h238.blt
        have q439 := Zn.upD q430 hE257
        replace hB226 := hB226.ext hx428
        replace h229 := h229.ext hx428
        replace h232 := h232.ext hx428
        replace h238 := h238.ext hx428
        have hE440 := Ext.trans hE257 hx428
        refine o_storeB ha hB427 Tryd.sizeOf2 rfl rfl rfl rfl (Nat.le_of_ble_eq_true rfl) ?_; intro w441 hB442 hc443
        replace hc443 := hc443.bl
        replace hB442 : Bx w441 b425 [(.int .i64 x413)] 2 := hB442
        replace hB226 := hB226.nq hc443 q431
        replace h229 := h229.nq hc443 q433
        replace h232 := h232.nq hc443 q435
        replace h238 := h238.nq hc443 q437
        have hE444 := Ext.then hE440 hc443 (Zn.bl q439)
        refine wpList_nil ?_; replace ha := ha.sub (σ' := [(5, (.pointer (some ⟨b24, 0, none⟩))), (6, v235), (7, v241), (9, (.pointer (some ⟨b425, 0, none⟩))), (23, va1), (24, (.int .i64 (a1.length : Int))), (25, (.int .i64 i243))]) ⟨rfl, rfl, rfl, rfl, rfl, rfl, rfl, trivial⟩; refine e_then ?_; refine wp_seq ?_; refine wp_region_lit ?_; refine op_g ha rfl (g_move rfl) ?_; clear ha a; intro a ha; refine op_g ha rfl (g_func rfl rfl) ?_; clear ha a; intro a ha
        obtain ⟨fp445, hro446, hs447⟩ := h232.roF
        obtain ⟨fp450, hro451, hs452⟩ := h229.roF
        obtain ⟨x453, hc454, hF⟩ := cal_some hF
        refine o_call ha rfl rfl Tryd.call44 (W_slices_IndexFunc_implvset hro446 (by intro _ hy449 z448 r hr; exact W_impl_InTurn_1 (hro451.ext hy449) (hB226.ext hy449) hI424 (hB442.ext hy449) hr) Tryd.call45 hc454) ?_; clear ha a; rintro v455 w456 ⟨⟨rfl, hI458⟩, hx457⟩ a ha
        replace hB226 := hB226.ext hx457
        replace h229 := h229.ext hx457
        replace h232 := h232.ext hx457
        replace h238 := h238.ext hx457
        replace hB442 := hB442.ext hx457
        have hE459 := Ext.trans hE444 hx457
        refine op_g ha rfl (g_assign rfl) ?_; clear ha a; intro a ha; refine wpList_nil ?_; replace ha := ha.sub (σ' := [(5, (.pointer (some ⟨b24, 0, none⟩))), (6, v235), (7, v241), (9, (.pointer (some ⟨b425, 0, none⟩))), (10, (.int .i64 x453)), (23, va1), (24, (.int .i64 (a1.length : Int))), (25, (.int .i64 i243))]) ⟨rfl, rfl, rfl, rfl, rfl, rfl, rfl, rfl, trivial⟩; refine e_then ?_; refine wp_seq ?_; refine d_region [0, 1, 2, 3, 4, 5, 6, 7] hmix ?_; refine u_g 0 rfl (by kernel_rfl) (want0 _) ha rfl (g_move rfl) ?_; clear ha a; intro a ha; refine u_g 1 rfl (by kernel_rfl) (want0 _) ha rfl (g_move rfl) ?_; clear ha a; intro a ha
        obtain ⟨x460, g461, gx462, hF⟩ := idx_some hF
        obtain ⟨p463, cs464, f465, hf466, hpb467, hat468, hr469, hi470⟩ := h232.at g461 gx462
        obtain ⟨rfl, rfl⟩ := hr469
        refine u_g 2 rfl (by kernel_rfl) (want0 _) ha rfl (hi470.gives sl48 rfl rfl) ?_; clear ha a; intro a ha; refine u_g 3 rfl (by kernel_rfl) (want0 _) ha rfl (g_load Tryd.isAgg53 rfl hat468.one) ?_; clear ha a; intro a ha; refine u_g 4 rfl (by kernel_rfl) (want0 _) ha rfl (g_load Tryd.isAgg2 rfl (hB442.cell rfl)) ?_; clear ha a; intro a ha; obtain ⟨x473, hc474, hF⟩ := cal_some hF; refine u_call (.int .u32 (BitVec.toNat x473 : Int)) 5 rfl (by kernel_rfl) (want0 _) ha rfl rfl Tryd.call46 (fun w472 hx471 => W_impl_one hI424 hc474) (fun _ _ _ h => ⟨h.1, h.2⟩) ?_; clear ha a; intro a ha; refine u_g 6 rfl (by kernel_rfl) (want0 _) ha rfl (g32_or (m := x460) (n := x473) rfl rfl) ?_; clear ha a; intro a ha
        obtain ⟨x475, g476, gx477, hF⟩ := idx_some hF
        obtain ⟨p478, cs479, f480, hf481, hpb482, hat483, hr484, hi485⟩ := h232.at g476 gx477
        obtain ⟨rfl, rfl⟩ := hr484
        refine u_g 7 rfl (by kernel_rfl) (want0 _) ha rfl (hi485.gives sl48 rfl rfl) ?_; clear ha a; intro a ha
        refine u_only 8 rfl (by kernel_rfl) ?_; intro w486 hx487
        replace hB226 := hB226.ext hx487
        replace h229 := h229.ext hx487
        replace h232 := h232.ext hx487
        replace h238 := h238.ext hx487
        replace hB442 := hB442.ext hx487
        have hE488 := Ext.trans hE459 hx487
        refine o_storeE (f := []) (q := x460 ||| x473) ha Tryd.sizeOf53 rfl rfl rfl h232 hi485 ⟨rfl, rfl⟩ (Nq.nil _) ?_; intro w489 fs490 h491 hc492 hs493
        obtain rfl := Subst.nil hs493
        replace hB226 := hB226.nq hc492 q246
        replace h229 := h229.nq hc492 q249
        replace h238 := h238.nq hc492 q256
        replace hB442 := hB442.nq hc492 q436
        have hE494 := Ext.then hE488 hc492 (Zn.bl z233)
        refine wpList_nil (e_sq ?_)
        refine ⟨fun h => absurd h (by decide), ?_⟩
        refine u_done (by kernel_rfl) ?_; intro w495 hx496
        replace hB226 := hB226.ext hx496
        replace h229 := h229.ext hx496
        replace h491 := h491.ext hx496
        replace h238 := h238.ext hx496
        replace hB442 := hB442.ext hx496
        have hE497 := Ext.trans hE494 hx496
        replace ha := ha.sub (σ' := [(5, (.pointer (some ⟨b24, 0, none⟩))), (6, v235), (7, v241), (9, (.pointer (some ⟨b425, 0, none⟩))), (10, (.int .i64 x453)), (23, va1), (24, (.int .i64 (a1.length : Int))), (25, (.int .i64 i243))]) ⟨rfl, rfl, rfl, rfl, rfl, rfl, rfl, rfl, trivial⟩; refine e_then ?_; refine wp_region_lit ?_; refine op_g ha rfl (g_move rfl) ?_; clear ha a; intro a ha; refine op_g ha rfl (g_load Tryd.isAgg2 rfl (hB442.cell rfl)) ?_; clear ha a; intro a ha; refine op_g ha rfl (g_move rfl) ?_; clear ha a; intro a ha; obtain ⟨x498, g499, gx500, hF⟩ := idx_some hF
        obtain ⟨p501, cs502, f503, hf504, hpb505, hat506, hr507, hi508⟩ := h238.at g499 gx500
        obtain ⟨rfl, hI509, rfl⟩ := hr507
        refine op_g ha rfl (hi508.gives sl31 rfl rfl) ?_; clear ha a; intro a ha
        refine o_storeE (f := []) (q := x453) ha Tryd.sizeOf2 rfl rfl rfl h238 hi508 ⟨rfl, hI458, rfl⟩ (Nq.nil _) ?_; intro w510 fs511 h512 hc513 hs514
        obtain rfl := Subst.nil hs514
        replace hB226 := hB226.nq hc513 q247
        replace h229 := h229.nq hc513 q250
        replace h491 := h491.nq hc513 q253
        replace hB442 := hB442.nq hc513 q438
        have hE515 := Ext.then hE497 hc513 (Zn.bl z239)
        refine wpList_nil ?_; replace ha := ha.sub (σ' := [(5, (.pointer (some ⟨b24, 0, none⟩))), (6, v235), (7, v241), (23, va1), (24, (.int .i64 (a1.length : Int))), (25, (.int .i64 i243))]) ⟨rfl, rfl, rfl, rfl, rfl, rfl, trivial⟩; refine e_blk ?_; refine e_then ?_; refine wp_region_lit ?_; obtain ⟨hI516, hF⟩ := ck_some hF; refine op_g ha rfl (g_add rfl rfl hI516) ?_; clear ha a; intro a ha; refine op_g ha rfl (g_move rfl) ?_; clear ha a; intro a ha; refine wpList_nil ?_; replace ha := ha.sub (σ' := [(5, (.pointer (some ⟨b24, 0, none⟩))), (6, v235), (7, v241), (23, va1), (24, (.int .i64 (a1.length : Int))), (25, (.int .i64 (i243 + 1)))]) ⟨rfl, rfl, rfl, rfl, rfl, rfl, trivial⟩
        refine e_lq ?_; obtain rfl := Option.some.inj hF
        exact ⟨_, Nat.lt_succ_self _, (l234.set ((x453 : Int).toNat) (x460 ||| x473)), (l240.set ((x413 : Int).toNat) x453), i243 + 1, v235, b236, v241, b242, ha.sub ⟨rfl, rfl, rfl, rfl, rfl, rfl, trivial⟩, hE515, hI516, hB226, z227, h229, z230, h491, z233, h512, z239, q245, q246, q247, q248, q249, q250, q251, q252, q253, q254, q255, q256, hN409⟩
      replace hF := if_f hp412 hF; refine wp_exit ?_; refine e_then_exit ?_; refine e_lq_eq ?_; obtain rfl := Option.some.inj hF
      exact ⟨l240, v241, b242, ha.sub ⟨rfl, trivial⟩, hE257, h238, z239, (LK_inr hN409).symm⟩
  rintro a w396 ⟨l400, v401, b402, ha, hE408, h398, z399, rfl⟩
  have hF : F_impl_InTurn_k3 l400 = some _ := hK405; clear hK405; unfold F_impl_InTurn_k3 at hF
  refine e_then ?_; refine wp_seq ?_; refine wp_region_lit ?_; refine op_g ha rfl (g_move rfl) ?_; clear ha a; intro a ha; refine op_g ha rfl (g_assign rfl) ?_; clear ha a; intro a ha; refine wpList_nil ?_; replace ha := ha.sub (σ' := [(4, v401)]) ⟨rfl, trivial⟩; refine e_then ?_; refine wp_ret ?_; obtain rfl := Option.some.inj hF
  exact f_ret1 ha rfl rfl ⟨_, h398, z399, hE408⟩
end Go.Proofs.YtadjcnllmkdgiaaDoor
