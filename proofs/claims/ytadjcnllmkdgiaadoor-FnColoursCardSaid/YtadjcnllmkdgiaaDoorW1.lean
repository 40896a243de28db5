/- Walks, printed by gen.py. -/
import Derived.Test.YtadjcnllmkdgiaaDoorF
import Derived.Test.YtadjcnllmkdgiaaDoorDeep
import Derived.Test.YtadjcnllmkdgiaaDoorSorts
import Derived.Test.YtadjcnllmkdgiaaDoorDice
import Derived.Test.YtadjcnllmkdgiaaDoorDrawE
import Derived.Test.YtadjcnllmkdgiaaDoorProg
import Derived.KernelRfl
set_option maxRecDepth 100000
namespace Go.Proofs.YtadjcnllmkdgiaaDoor
open Go Go.RowKit

theorem hmix : Tryd.prog.follows .mixedOrders = true := by kernel_rfl
theorem sl22 : SlT Tryd.prog 22 5 1 1 (.int .u8 0) := ⟨by kernel_rfl, by kernel_rfl, by rfl⟩
theorem un3 : Tryd.prog.underlying 3 = some (.int .i64) := by kernel_rfl
theorem un26 : Tryd.prog.underlying 26 = some (.int .u64) := by kernel_rfl
theorem st45_2 : stF Tryd.prog 45 2 = some 2 := by kernel_rfl
theorem un5 : Tryd.prog.underlying 5 = some (.int .u8) := by kernel_rfl
theorem un2 : Tryd.prog.underlying 2 = some (.int .i64) := by kernel_rfl
theorem st45_1 : stF Tryd.prog 45 1 = some 1 := by kernel_rfl
theorem st45_0 : stF Tryd.prog 45 0 = some 0 := by kernel_rfl
theorem sl27 : SlT Tryd.prog 27 31 1 24 (.slice none 0 0) := ⟨by kernel_rfl, by kernel_rfl, by rfl⟩
theorem sl31 : SlT Tryd.prog 31 2 1 8 (.int .i64 0) := ⟨by kernel_rfl, by kernel_rfl, by rfl⟩
theorem st29_0 : stF Tryd.prog 29 0 = some 0 := by kernel_rfl
theorem sl50 : SlT Tryd.prog 50 53 1 4 (.int .u32 0) := ⟨by kernel_rfl, by kernel_rfl, by rfl⟩
theorem sl48 : SlT Tryd.prog 48 53 1 4 (.int .u32 0) := ⟨by kernel_rfl, by kernel_rfl, by rfl⟩
theorem sl54 : SlT Tryd.prog 54 3 1 8 (.int .i64 0) := ⟨by kernel_rfl, by kernel_rfl, by rfl⟩
theorem un100 : Tryd.prog.underlying 100 = some (.array 32 5) := by kernel_rfl
theorem un73 : Tryd.prog.underlying 73 = some (.int .u64) := by kernel_rfl
set_option maxHeartbeats 2000000 in
theorem W_laws_big {W : World} {va0 : Value} {fa0 : List Nat} {a0 : (List (BitVec 8))} (ha0 : Ro Rp.u8 W fa0 va0 a0) {r : Bool} (hF : F_laws_big a0 = some r) :
    Calls Tryd.prog 5 [va0].toArray W (Ret fun u w' => u = .bool r ∧ Ext W w') := by
  refine f_enter Tryd.func5 rfl Tryd.ntmps5 rfl ?_
  intro a ha
  replace ha : Fr 6 [(0, va0)] a := ha
  have hE : Chg [] W W := Chg.refl _ _
  unfold F_laws_big at hF
  refine wp_seq ?_; refine wp_region_lit ?_; refine op_g ha rfl (g_assign rfl) ?_; clear ha a; intro a ha; refine wpList_nil ?_; replace ha := ha.sub (σ' := [(0, va0)]) ⟨rfl, trivial⟩; refine e_then ?_; refine wp_seq ?_; refine wp_region_lit ?_; refine op_g ha rfl (g_move rfl) ?_; clear ha a; intro a ha; refine op_g ha rfl (g_lenR sl22.und ha0 rfl) ?_; clear ha a; intro a ha; refine op_g ha rfl (g_gtr rfl rfl) ?_; clear ha a; intro a ha; refine op_g ha rfl (g_assign rfl) ?_; clear ha a; intro a ha; refine wpList_nil ?_; replace ha := ha.sub (σ' := [(2, (.bool (decide (4096 < (a0.length : Int)))))]) ⟨rfl, trivial⟩
  refine e_then ?_; refine wp_ret ?_; obtain rfl := Option.some.inj hF
  exact f_ret1 ha rfl rfl ⟨rfl, hE⟩
set_option maxHeartbeats 2000000 in
theorem W_laws_roll {W : World} {va0 : Value} {fa0 : List Nat} {a0 : (List (BitVec 8))} (ha0 : Ro Rp.u8 W fa0 va0 a0) {a1 : Int} (ha1 : InU a1) {r : ((List (BitVec 8)) × Int × Int)} (hF : F_laws_roll a0 a1 = some r) :
    Calls Tryd.prog 6 [va0, .int .u64 a1].toArray W (Ret fun u w' => ∃ (b_u : Int) (fs_u : List Nat), Dc 45 w' fs_u b_u u r ∧ Zn W b_u ∧ (∀ k ∈ fs_u, k < W.heap.size) ∧ Ext W w') := by
  refine f_enter Tryd.func6 rfl Tryd.ntmps6 rfl ?_
  intro a ha
  replace ha : Fr 38 [(0, va0), (1, (.int .u64 a1))] a := ha
  have hE : Chg [] W W := Chg.refl _ _
  unfold F_laws_roll at hF
  refine wp_seq ?_; refine wp_region_lit ?_; refine op_g ha rfl (g_assign rfl) ?_; clear ha a; intro a ha; refine wpList_nil ?_; replace ha := ha.sub (σ' := [(0, va0), (1, (.int .u64 a1))]) ⟨rfl, rfl, trivial⟩; refine e_then ?_; refine wp_seq ?_; refine wp_region_lit ?_; (iterate 2 refine op_g ha rfl (g_move rfl) ?_; clear ha a; intro a ha); refine op_g ha rfl (gu_mul rfl rfl) ?_; clear ha a; intro a ha; refine op_g ha rfl (g_move rfl) ?_; clear ha a; intro a ha; refine op_g ha rfl (g_lenR sl22.und ha0 rfl) ?_; clear ha a; intro a ha; obtain ⟨h01, hF⟩ := grd_some hF; refine op_g ha rfl (g_conv6u un3 un26 rfl ha0.len h01) ?_; clear ha a; intro a ha
  refine op_g ha rfl (gu_add rfl rfl) ?_; clear ha a; intro a ha; refine op_g ha rfl (g_build (vs := [(0, va0), (2, (.int .u64 ((((a1 * 7919) % 18446744073709551616) + (a0.length : Int)) % 18446744073709551616)))]) (cells := #[va0, (.int .i64 0), (.int .u64 ((((a1 * 7919) % 18446744073709551616) + (a0.length : Int)) % 18446744073709551616))]) rfl (by obtain ⟨_, _, rfl⟩ := ha0.shape ; rfl)) ?_; clear ha a; intro a ha
  refine o_box ha rfl rfl rfl ?_; clear ha a; intro b2 w3 hB4 hx5 hlo6 a ha
  have q7 := Zn.one hlo6
  have q8 := Zn.upD q7 hE
  have hE9 := Ext.trans hE hx5
  refine op_g ha rfl (g_assign rfl) ?_; clear ha a; intro a ha; refine wpList_nil ?_; replace ha := ha.sub (σ' := [(0, va0), (5, (.pointer (some ⟨b2, 0, none⟩)))]) ⟨rfl, rfl, trivial⟩; refine e_then ?_; refine wp_seq ?_; refine wp_seq ?_; refine wp_region_lit ?_; refine op_g ha rfl (g_assign rfl) ?_; clear ha a; intro a ha; refine wpList_nil ?_; refine e_then ?_; obtain ⟨o89, ho90, hK91⟩ := bnd_some hF
  obtain ⟨n92, hn93⟩ := lp_some ho90; clear ho90
  refine c_loop (fun a w => ∃ (i87 : Int), Fr 38 [(5, (.pointer (some ⟨b2, 0, none⟩)))] a ∧ Chg [] W w ∧ InU i87 ∧ Bx w b2 [va0, (.int .i64 0), (.int .u64 i87)] 45 ∧ Zn W (b2 : Int) ∧ o89 = .inl i87) (fun n a w => ∃ (i48 : Int) (i50 : Int), Fr 38 [(0, va0), (5, (.pointer (some ⟨b2, 0, none⟩))), (6, (.int .i64 i50))] a ∧ Chg [] W w ∧ InU i48 ∧ InI i50 ∧ Bx w b2 [va0, (.int .i64 0), (.int .u64 i48)] 45 ∧ Zn W (b2 : Int) ∧ lpN (fun s => F_laws_roll_l1 a0 s.1 s.2) n (i48, i50) = some o89) n92 ⟨(((a1 * 7919) % 18446744073709551616) + (a0.length : Int)) % 18446744073709551616, 0, ha.sub ⟨rfl, rfl, rfl, trivial⟩, hE9, (inU_mod _), (show InI 0 from by decide), hB4, q8, hn93⟩ ?_ ?_
  · rintro m97 a w45 ⟨i48, i50, ha, hE52, hI49, hI51, hB46, z47, hF⟩
    cases m97 with
    | zero => exact (lpN_zero hF).elim
    | succ m97 =>
      obtain ⟨z96, hF, hN95⟩ := lpN_succ hF
      have hF : F_laws_roll_l1 a0 i48 i50 = some z96 := hF; unfold F_laws_roll_l1 at hF
      refine wp_seq ?_; refine wp_seq ?_; refine wp_region_lit ?_; (iterate 2 refine op_g ha rfl (g_move rfl) ?_; clear ha a; intro a ha); refine op_g ha rfl (g_lenR sl22.und ha0 rfl) ?_; clear ha a; intro a ha; refine op_g ha rfl (g_lss rfl rfl) ?_; clear ha a; intro a ha; refine wpList_nil ?_; replace ha := ha.sub (σ' := [(0, va0), (5, (.pointer (some ⟨b2, 0, none⟩))), (6, (.int .i64 i50)), (19, (.bool (decide (i50 < (a0.length : Int)))))]) ⟨rfl, rfl, rfl, rfl, trivial⟩; refine e_then ?_; refine c_cond (i50 < (a0.length : Int)) ha rfl (decide_eq_true_iff) (fun hp98 => ?_) (fun hp98 => ?_)
      · replace hF := if_t hp98 hF
        refine wp_skip ?_; refine e_then ?_; refine wp_seq ?_; refine wp_block ?_; refine d_region [0, 1, 2, 3, 4, 5, 6, 7, 8, 9, 10, 11, 12, 13, 14] hmix ?_; refine u_g 0 rfl (by kernel_rfl) (want0 _) ha rfl (g_move rfl) ?_; clear ha a; intro a ha; refine u_g 1 rfl (by kernel_rfl) (want0 _) ha rfl (g_move rfl) ?_; clear ha a; intro a ha; refine u_g 2 rfl (by kernel_rfl) (want0 _) ha rfl (g_nilCheck rfl) ?_; clear ha a; intro a ha; refine u_g 3 rfl (by kernel_rfl) (want0 _) ha rfl (g_field0 st45_2 rfl) ?_; clear ha a; intro a ha; refine u_g 4 rfl (by kernel_rfl) (want0 _) ha rfl (g_load Tryd.isAgg26 rfl (hB46.cell rfl)) ?_; clear ha a; intro a ha
        refine u_g 5 rfl (by kernel_rfl) (want0 _) ha rfl (gu_mul rfl rfl) ?_; clear ha a; intro a ha; refine u_g 6 rfl (by kernel_rfl) (want0 _) ha rfl (g_move rfl) ?_; clear ha a; intro a ha; refine u_g 7 rfl (by kernel_rfl) (want0 _) ha rfl (g_move rfl) ?_; clear ha a; intro a ha; obtain ⟨x99, g100, gx101, hF⟩ := idx_some hF
        obtain ⟨p102, cs103, f104, hf105, hpb106, hat107, hr108, hi109⟩ := ha0.at g100 gx101
        obtain ⟨rfl, rfl⟩ := hr108
        refine u_g 8 rfl (by kernel_rfl) (want0 _) ha rfl (hi109.gives sl22 rfl rfl) ?_; clear ha a; intro a ha; refine u_g 9 rfl (by kernel_rfl) (want0 _) ha rfl (g_load0 hE52 Tryd.isAgg5 rfl hat107.one) ?_; clear ha a; intro a ha; refine u_g 10 rfl (by kernel_rfl) (want0 _) ha rfl (gu_conv8 (m := x99) un5 un26 rfl) ?_; clear ha a; intro a ha; refine u_g 11 rfl (by kernel_rfl) (want0 _) ha rfl (gu_add rfl rfl) ?_; clear ha a; intro a ha; refine u_g 12 rfl (by kernel_rfl) (want0 _) ha rfl (gu_add rfl rfl) ?_; clear ha a; intro a ha; refine u_g 13 rfl (by kernel_rfl) (want0 _) ha rfl (g_nilCheck rfl) ?_; clear ha a; intro a ha
        refine u_g 14 rfl (by kernel_rfl) (want0 _) ha rfl (g_field0 st45_2 rfl) ?_; clear ha a; intro a ha
        refine u_only 15 rfl (by kernel_rfl) ?_; intro w110 hx111
        replace hB46 := hB46.ext hx111
        have hE112 := Ext.trans hE52 hx111
        refine o_storeB ha hB46 Tryd.sizeOf26 rfl rfl rfl rfl (Nat.le_of_ble_eq_true rfl) ?_; intro w113 hB114 hc115
        replace hc115 := hc115.bl
        replace hB114 : Bx w113 b2 [va0, (.int .i64 0), (.int .u64 ((((((i48 * 1099511628211) % 18446744073709551616) + (BitVec.toNat x99 : Int)) % 18446744073709551616) + 3) % 18446744073709551616))] 45 := hB114
        have hE116 := Ext.then hE112 hc115 (Zn.bl z47)
        refine wpList_nil (e_sq ?_)
        refine ⟨fun h => absurd h (by decide), ?_⟩
        refine u_done (by kernel_rfl) ?_; intro w117 hx118
        replace hB114 := hB114.ext hx118
        have hE119 := Ext.trans hE116 hx118
        replace ha := ha.sub (σ' := [(0, va0), (5, (.pointer (some ⟨b2, 0, none⟩))), (6, (.int .i64 i50))]) ⟨rfl, rfl, rfl, trivial⟩; refine e_blk ?_; refine e_then ?_; refine wp_region_lit ?_; refine op_g ha rfl (g_move rfl) ?_; clear ha a; intro a ha; obtain ⟨hI120, hF⟩ := ck_some hF; refine op_g ha rfl (g_add rfl rfl hI120) ?_; clear ha a; intro a ha; refine op_g ha rfl (g_assign rfl) ?_; clear ha a; intro a ha; refine wpList_nil ?_; replace ha := ha.sub (σ' := [(0, va0), (5, (.pointer (some ⟨b2, 0, none⟩))), (6, (.int .i64 (i50 + 1)))]) ⟨rfl, rfl, rfl, trivial⟩; refine e_lq ?_; obtain rfl := Option.some.inj hF
        exact ⟨_, Nat.lt_succ_self _, (((((i48 * 1099511628211) % 18446744073709551616) + (BitVec.toNat x99 : Int)) % 18446744073709551616) + 3) % 18446744073709551616, i50 + 1, ha.sub ⟨rfl, rfl, rfl, trivial⟩, hE119, (inU_mod _), hI120, hB114, z47, hN95⟩
      replace hF := if_f hp98 hF; refine wp_exit ?_; refine e_then_exit ?_; refine e_lq_eq ?_; obtain rfl := Option.some.inj hF
      exact ⟨i48, ha.sub ⟨rfl, trivial⟩, hE52, hI49, hB46, z47, (LK_inr hN95).symm⟩
  rintro a w84 ⟨i87, ha, hE94, hI88, hB85, z86, rfl⟩
  have hF : F_laws_roll_k2 a0 i87 = some _ := hK91; clear hK91; unfold F_laws_roll_k2 at hF
  refine e_then ?_; refine wp_seq ?_; refine wp_region_lit ?_; refine op_g ha rfl (g_move rfl) ?_; clear ha a; intro a ha; refine op_g ha rfl (g_assign rfl) ?_; clear ha a; intro a ha; refine wpList_nil ?_; replace ha := ha.sub (σ' := [(4, (.pointer (some ⟨b2, 0, none⟩)))]) ⟨rfl, trivial⟩; refine e_then ?_; refine wp_ret ?_; obtain rfl := Option.some.inj hF
  exact f_ret1 ha rfl rfl ⟨_, _, ⟨_, _, rfl, rfl, hB85, (ha0.ext hE94), (show InI 0 from by decide), hI88, (Nq.new ha0.bnd z86)⟩, z86, ha0.bnd, hE94⟩
set_option maxHeartbeats 2000000 in
theorem W_laws_dice_below {W : World} {va0 : Value} {ba0 : Int} {fa0 : List Nat} {a0 : ((List (BitVec 8)) × Int × Int)} (ha0 : Dc 45 W fa0 ba0 va0 a0) {a1 : Int} (ha1 : InI a1) {r : (Int × ((List (BitVec 8)) × Int × Int))} (hF : F_laws_dice_below a0 a1 = some r) :
    Calls Tryd.prog 21 [va0, .int .i64 a1].toArray W (Ret fun u w' => (u = .int .i64 r.1 ∧ InI r.1) ∧ Dc 45 w' fa0 ba0 va0 r.2 ∧ Chg (bl ba0) W w') := by
  obtain ⟨na0, wa0, rfl, rfl, hBa0, hRa0, hia0, hua0, hna0⟩ := ha0
  refine f_enter Tryd.func21 rfl Tryd.ntmps21 rfl ?_
  intro a ha
  replace ha : Fr 56 [(0, (.pointer (some ⟨na0, 0, none⟩))), (1, (.int .i64 a1))] a := ha
  have hE : Chg (bl (na0 : Int)) W W := Chg.refl _ _
  unfold F_laws_dice_below at hF
  refine wp_seq ?_; refine wp_region_lit ?_; refine op_g ha rfl (g_assign rfl) ?_; clear ha a; intro a ha; refine wpList_nil ?_; replace ha := ha.sub (σ' := [(0, (.pointer (some ⟨na0, 0, none⟩))), (1, (.int .i64 a1))]) ⟨rfl, rfl, trivial⟩; refine e_then ?_; refine wp_seq ?_; refine wp_region_lit ?_; (iterate 2 refine op_g ha rfl (g_move rfl) ?_; clear ha a; intro a ha); refine op_g ha rfl (g_nilCheck rfl) ?_; clear ha a; intro a ha; refine op_g ha rfl (g_field0 st45_2 rfl) ?_; clear ha a; intro a ha; refine op_g ha rfl (g_load Tryd.isAgg26 rfl (hBa0.cell rfl)) ?_; clear ha a; intro a ha; refine op_g ha rfl (gu_mul rfl rfl) ?_; clear ha a; intro a ha
  refine op_g ha rfl (gu_add rfl rfl) ?_; clear ha a; intro a ha; refine op_g ha rfl (g_nilCheck rfl) ?_; clear ha a; intro a ha; refine op_g ha rfl (g_field0 st45_2 rfl) ?_; clear ha a; intro a ha
  refine o_storeB ha hBa0 Tryd.sizeOf26 rfl rfl rfl rfl (Nat.le_of_ble_eq_true rfl) ?_; intro w1 hB2 hc3
  replace hc3 := hc3.bl
  replace hB2 : Bx w1 na0 [wa0, (.int .i64 a0.2.1), (.int .u64 ((((a0.2.2 * 6364136223846793005) % 18446744073709551616) + 1442695040888963407) % 18446744073709551616))] 45 := hB2
  replace hRa0 := hRa0.nq hc3 hna0
  have hE4 := Chg.same hE hc3
  refine wpList_nil ?_; replace ha := ha.sub (σ' := [(0, (.pointer (some ⟨na0, 0, none⟩))), (1, (.int .i64 a1))]) ⟨rfl, rfl, trivial⟩; refine e_then ?_; refine wp_seq ?_; refine wp_region_lit ?_; refine op_g ha rfl (g_move rfl) ?_; clear ha a; intro a ha; refine op_g ha rfl (g_nilCheck rfl) ?_; clear ha a; intro a ha; refine op_g ha rfl (g_field0 st45_2 rfl) ?_; clear ha a; intro a ha; refine op_g ha rfl (g_load Tryd.isAgg26 rfl (hB2.cell rfl)) ?_; clear ha a; intro a ha; refine op_g ha rfl (gu_shr rfl rfl (inU_mod _) (show InU 33 from by decide).1) ?_; clear ha a; intro a ha; refine op_g ha rfl (gu_and rfl rfl) ?_; clear ha a; intro a ha
  obtain ⟨hI5, hF⟩ := ck_some hF; refine op_g ha rfl (gu_convI un26 un2 rfl hI5) ?_; clear ha a; intro a ha; refine op_g ha rfl (g_assign rfl) ?_; clear ha a; intro a ha; refine wpList_nil ?_; replace ha := ha.sub (σ' := [(0, (.pointer (some ⟨na0, 0, none⟩))), (1, (.int .i64 a1)), (5, (.int .i64 ((BitVec.ofInt 64 (((((a0.2.2 * 6364136223846793005) % 18446744073709551616) + 1442695040888963407) % 18446744073709551616) / 2 ^ (33 : Int).toNat) &&& BitVec.ofInt 64 16777215).toNat : Int)))]) ⟨rfl, rfl, rfl, trivial⟩; refine e_then ?_; refine wp_seq ?_; refine wp_seq ?_; refine d_quiet hmix (by kernel_rfl) ?_
  refine q_g ha rfl (g_move rfl) ?_; clear ha a; intro a ha; refine q_g ha rfl (g_nilCheck rfl) ?_; clear ha a; intro a ha; refine q_g ha rfl (g_field0 st45_1 rfl) ?_; clear ha a; intro a ha; refine q_g ha rfl (g_load Tryd.isAgg3 rfl (hB2.cell rfl)) ?_; clear ha a; intro a ha; refine q_g ha rfl (g_move rfl) ?_; clear ha a; intro a ha; refine q_g ha rfl (g_nilCheck rfl) ?_; clear ha a; intro a ha; refine q_g ha rfl (g_field0 st45_0 rfl) ?_; clear ha a; intro a ha; refine q_g ha rfl (g_load Tryd.isAgg22 rfl (hB2.cell rfl)) ?_; clear ha a; intro a ha; refine q_g ha rfl (g_lenR sl22.und hRa0 rfl) ?_; clear ha a; intro a ha
  refine q_g ha rfl (g_lss rfl rfl) ?_; clear ha a; intro a ha
  refine q_nil ?_; intro w7 hx8
  replace hRa0 := hRa0.ext hx8
  replace hB2 := hB2.ext hx8
  have hE9 := Chg.more hE4 hx8
  replace ha := ha.sub (σ' := [(0, (.pointer (some ⟨na0, 0, none⟩))), (1, (.int .i64 a1)), (5, (.int .i64 ((BitVec.ofInt 64 (((((a0.2.2 * 6364136223846793005) % 18446744073709551616) + 1442695040888963407) % 18446744073709551616) / 2 ^ (33 : Int).toNat) &&& BitVec.ofInt 64 16777215).toNat : Int))), (31, (.bool (decide (a0.2.1 < (a0.1.length : Int)))))]) ⟨rfl, rfl, rfl, rfl, trivial⟩; refine e_then ?_; refine c_cond (a0.2.1 < (a0.1.length : Int)) ha rfl (decide_eq_true_iff) (fun hp10 => ?_) (fun hp10 => ?_)
  · replace hF := if_t hp10 hF
    refine wp_seq ?_; refine d_quiet hmix (by kernel_rfl) ?_; (iterate 2 refine q_g ha rfl (g_move rfl) ?_; clear ha a; intro a ha); refine q_g ha rfl (g_nilCheck rfl) ?_; clear ha a; intro a ha; refine q_g ha rfl (g_field0 st45_0 rfl) ?_; clear ha a; intro a ha; refine q_g ha rfl (g_load Tryd.isAgg22 rfl (hB2.cell rfl)) ?_; clear ha a; intro a ha; refine q_g ha rfl (g_move rfl) ?_; clear ha a; intro a ha; refine q_g ha rfl (g_nilCheck rfl) ?_; clear ha a; intro a ha; refine q_g ha rfl (g_field0 st45_1 rfl) ?_; clear ha a; intro a ha; refine q_g ha rfl (g_load Tryd.isAgg3 rfl (hB2.cell rfl)) ?_; clear ha a; intro a ha
    obtain ⟨x11, g12, gx13, hF⟩ := idx_some hF
    obtain ⟨p14, cs15, f16, hf17, hpb18, hat19, hr20, hi21⟩ := hRa0.at g12 gx13
    obtain ⟨rfl, rfl⟩ := hr20
    refine q_g ha rfl (hi21.gives sl22 rfl rfl) ?_; clear ha a; intro a ha; refine q_g ha rfl (g_load Tryd.isAgg5 rfl hat19.one) ?_; clear ha a; intro a ha; refine q_g ha rfl (g_conv8 (m := x11) un5 un2 rfl) ?_; clear ha a; intro a ha; obtain ⟨hI22, hF⟩ := ck_some hF; refine q_g ha rfl (g_add rfl rfl hI22) ?_; clear ha a; intro a ha; refine q_g ha rfl (g_assign rfl) ?_; clear ha a; intro a ha
    refine q_nil ?_; intro w24 hx25
    replace hRa0 := hRa0.ext hx25
    replace hB2 := hB2.ext hx25
    have hE26 := Chg.more hE9 hx25
    replace ha := ha.sub (σ' := [(0, (.pointer (some ⟨na0, 0, none⟩))), (1, (.int .i64 a1)), (5, (.int .i64 (((BitVec.ofInt 64 (((((a0.2.2 * 6364136223846793005) % 18446744073709551616) + 1442695040888963407) % 18446744073709551616) / 2 ^ (33 : Int).toNat) &&& BitVec.ofInt 64 16777215).toNat : Int) + (BitVec.toNat x11 : Int))))]) ⟨rfl, rfl, rfl, trivial⟩; refine e_then ?_; refine wp_region_lit ?_; (iterate 2 refine op_g ha rfl (g_move rfl) ?_; clear ha a; intro a ha); refine op_g ha rfl (g_nilCheck rfl) ?_; clear ha a; intro a ha; refine op_g ha rfl (g_field0 st45_1 rfl) ?_; clear ha a; intro a ha
    refine op_g ha rfl (g_load Tryd.isAgg3 rfl (hB2.cell rfl)) ?_; clear ha a; intro a ha; obtain ⟨hI27, hF⟩ := ck_some hF; refine op_g ha rfl (g_add rfl rfl hI27) ?_; clear ha a; intro a ha; refine op_g ha rfl (g_nilCheck rfl) ?_; clear ha a; intro a ha; refine op_g ha rfl (g_field0 st45_1 rfl) ?_; clear ha a; intro a ha
    refine o_storeB ha hB2 Tryd.sizeOf3 rfl rfl rfl rfl (Nat.le_of_ble_eq_true rfl) ?_; intro w29 hB30 hc31
    replace hc31 := hc31.bl
    replace hB30 : Bx w29 na0 [wa0, (.int .i64 (a0.2.1 + 1)), (.int .u64 ((((a0.2.2 * 6364136223846793005) % 18446744073709551616) + 1442695040888963407) % 18446744073709551616))] 45 := hB30
    replace hRa0 := hRa0.nq hc31 hna0
    have hE32 := Chg.same hE26 hc31
    refine wpList_nil ?_; replace ha := ha.sub (σ' := [(1, (.int .i64 a1)), (5, (.int .i64 (((BitVec.ofInt 64 (((((a0.2.2 * 6364136223846793005) % 18446744073709551616) + 1442695040888963407) % 18446744073709551616) / 2 ^ (33 : Int).toNat) &&& BitVec.ofInt 64 16777215).toNat : Int) + (BitVec.toNat x11 : Int))))]) ⟨rfl, rfl, trivial⟩; refine e_then ?_; refine wp_seq ?_; refine wp_region_lit ?_; (iterate 2 refine op_g ha rfl (g_move rfl) ?_; clear ha a; intro a ha); obtain ⟨hq33, hF⟩ := grd_some hF
    have hI34 := in_rem hI22 hq33.1 hq33.2
    refine op_g ha rfl (g_rem rfl rfl hI22 hq33.1 hq33.2) ?_; clear ha a; intro a ha; refine op_g ha rfl (g_assign rfl) ?_; clear ha a; intro a ha; refine wpList_nil ?_; replace ha := ha.sub (σ' := [(4, (.int .i64 ((((BitVec.ofInt 64 (((((a0.2.2 * 6364136223846793005) % 18446744073709551616) + 1442695040888963407) % 18446744073709551616) / 2 ^ (33 : Int).toNat) &&& BitVec.ofInt 64 16777215).toNat : Int) + (BitVec.toNat x11 : Int)) % a1)))]) ⟨rfl, trivial⟩; refine e_then ?_; refine wp_ret ?_; obtain rfl := Option.some.inj hF
    exact f_ret1 ha rfl rfl ⟨⟨rfl, hI34⟩, ⟨_, _, rfl, rfl, hB30, hRa0, hI27, (inU_mod _), hna0⟩, hE32⟩
  replace hF := if_f hp10 hF; refine wp_skip ?_; refine e_then ?_; refine wp_seq ?_; refine wp_region_lit ?_; (iterate 2 refine op_g ha rfl (g_move rfl) ?_; clear ha a; intro a ha); obtain ⟨hq35, hF⟩ := grd_some hF
  have hI36 := in_rem hI5 hq35.1 hq35.2
  refine op_g ha rfl (g_rem rfl rfl hI5 hq35.1 hq35.2) ?_; clear ha a; intro a ha; refine op_g ha rfl (g_assign rfl) ?_; clear ha a; intro a ha; refine wpList_nil ?_; replace ha := ha.sub (σ' := [(4, (.int .i64 (((BitVec.ofInt 64 (((((a0.2.2 * 6364136223846793005) % 18446744073709551616) + 1442695040888963407) % 18446744073709551616) / 2 ^ (33 : Int).toNat) &&& BitVec.ofInt 64 16777215).toNat : Int) % a1)))]) ⟨rfl, trivial⟩; refine e_then ?_; refine wp_ret ?_; obtain rfl := Option.some.inj hF
  exact f_ret1 ha rfl rfl ⟨⟨rfl, hI36⟩, ⟨_, _, rfl, rfl, hB2, hRa0, hia0, (inU_mod _), hna0⟩, hE9⟩
set_option maxHeartbeats 2000000 in
theorem W_spec_l1In {W : World} {a0 : Int} (ha0 : InI a0) {a1 : Int} (ha1 : InI a1) {a2 : Int} (ha2 : InI a2) {r : Bool} (hF : F_spec_l1In a0 a1 a2 = some r) :
    Calls Tryd.prog 34 [.int .i64 a0, .int .i64 a1, .int .i64 a2].toArray W (Ret fun u w' => u = .bool r ∧ Ext W w') := by
  refine f_enter Tryd.func34 rfl Tryd.ntmps34 rfl ?_
  intro a ha
  replace ha : Fr 15 [(0, (.int .i64 a0)), (1, (.int .i64 a1)), (2, (.int .i64 a2))] a := ha
  have hE : Chg [] W W := Chg.refl _ _
  unfold F_spec_l1In at hF
  refine wp_seq ?_; refine wp_region_lit ?_; refine op_g ha rfl (g_assign rfl) ?_; clear ha a; intro a ha; refine wpList_nil ?_; replace ha := ha.sub (σ' := [(0, (.int .i64 a0)), (1, (.int .i64 a1)), (2, (.int .i64 a2))]) ⟨rfl, rfl, rfl, trivial⟩; refine e_then ?_; refine wp_seq ?_; refine wp_region_lit ?_; (iterate 2 refine op_g ha rfl (g_move rfl) ?_; clear ha a; intro a ha); refine op_g ha rfl (g_geq rfl rfl) ?_; clear ha a; intro a ha; refine op_g ha rfl (g_move rfl) ?_; clear ha a; intro a ha
  by_cases hp1 : a1 ≤ a0
  · replace hF := if_t hp1 hF
    rw [show (decide (a1 ≤ a0)) = true from (decide_eq_true_iff).2 hp1] at ha
    refine op_want (yields ha rfl rfl) ?_; refine op_g ha rfl (g_move rfl) ?_; clear ha a; intro a ha; refine op_want (yields ha rfl rfl) ?_; refine op_g ha rfl (g_move rfl) ?_; clear ha a; intro a ha; refine op_want (yields ha rfl rfl) ?_; refine op_g ha rfl (g_leq rfl rfl) ?_; clear ha a; intro a ha; refine op_g ha rfl (g_pick rfl rfl) ?_; clear ha a; intro a ha; refine op_g ha rfl (g_assign rfl) ?_; clear ha a; intro a ha; refine wpList_nil ?_; replace ha := ha.sub (σ' := [(6, (.bool (decide (a0 ≤ a2))))]) ⟨rfl, trivial⟩; refine e_then ?_; refine wp_ret ?_; obtain rfl := Option.some.inj hF
    exact f_ret1 ha rfl rfl ⟨rfl, hE⟩
  replace hF := if_f hp1 hF
  rw [show (decide (a1 ≤ a0)) = false from b_false (decide_eq_true_iff) hp1] at ha
  (iterate 3 refine op_unwant ha rfl (yields ha rfl rfl) rfl ?_; clear ha a; intro a ha); refine op_g ha rfl (g_pick rfl rfl) ?_; clear ha a; intro a ha; refine op_g ha rfl (g_assign rfl) ?_; clear ha a; intro a ha; refine wpList_nil ?_; replace ha := ha.sub (σ' := [(6, (.bool false))]) ⟨rfl, trivial⟩; refine e_then ?_; refine wp_ret ?_; obtain rfl := Option.some.inj hF
  exact f_ret1 ha rfl rfl ⟨rfl, hE⟩
set_option maxHeartbeats 2000000 in
theorem W_spec_l1Empty {W : World} {a0 : Int} (ha0 : InI a0) {r : (List (List Int))} (hF : F_spec_l1Empty a0 = some r) :
    Calls Tryd.prog 69 [.int .i64 a0].toArray W (Ret fun u w' => ∃ (u_0 : Value) (b_u_0 : Int) (fs_u_0 : List Nat), u = .agg #[u_0] ∧ Ow (Rp.sl 2 Rp.int) 31 true w' fs_u_0 b_u_0 u_0 r ∧ Zn W b_u_0 ∧ (∀ k ∈ fs_u_0, W.heap.size ≤ k) ∧ (bl b_u_0 ++ fs_u_0).Nodup ∧ Ext W w') := by
  refine f_enter Tryd.func69 rfl Tryd.ntmps69 rfl ?_
  intro a ha
  replace ha : Fr 18 [(0, (.int .i64 a0))] a := ha
  have hE : Chg [] W W := Chg.refl _ _
  unfold F_spec_l1Empty at hF
  refine wp_seq ?_; refine wp_region_lit ?_
  refine o_alloc (cs := [(.slice none 0 0)]) ha rfl Tryd.zeroValue29 rfl ?_; clear ha a; intro b1 w2 hB3 hx4 hlo5 a ha
  have q6 := Zn.one hlo5
  have q7 := Zn.upD q6 hE
  have hE8 := Ext.trans hE hx4
  refine wpList_nil ?_; refine e_then ?_; refine wp_seq ?_; refine wp_region_lit ?_; refine op_g ha rfl (g_build (vs := []) (cells := #[(.slice none 0 0)]) rfl (by rfl)) ?_; clear ha a; intro a ha
  refine o_alloc (cs := [(.slice none 0 0)]) ha rfl Tryd.zeroValue29 rfl ?_; clear ha a; intro b9 w10 hB11 hx12 hlo13 a ha
  have q14 := Zn.one hlo13
  have q15 := Nq.new hB3.fpb q14
  have q16 := Nq.made1 hlo13 hB3.bi
  have q17 := Zn.upD q14 hE8
  replace hB3 := hB3.ext hx12
  have hE18 := Ext.trans hE8 hx12
  refine o_storeA (vs := [(.slice none 0 0)]) ha hB11 Tryd.sizeOf29 rfl rfl (by intro c hc; simp only [List.mem_cons, List.not_mem_nil, or_false] at hc; rcases hc with hc <;> subst hc <;> first | rfl | exact rfl) rfl ?_; intro w19 hB20 hc21
  replace hc21 := hc21.bl
  replace hB20 : Bx w19 b9 [(.slice none 0 0)] 29 := hB20
  replace hB3 := hB3.nq hc21 q15
  have hE22 := Ext.then hE18 hc21 (Zn.bl q17)
  refine wpList_nil ?_; replace ha := ha.sub (σ' := [(0, (.int .i64 a0)), (2, (.pointer (some ⟨b1, 0, none⟩))), (3, (.pointer (some ⟨b9, 0, none⟩)))]) ⟨rfl, rfl, rfl, trivial⟩; refine e_then ?_; refine wp_seq ?_; refine wp_seq ?_; refine wp_region_lit ?_; refine op_g ha rfl (g_assign rfl) ?_; clear ha a; intro a ha; refine wpList_nil ?_; replace ha := ha.sub (σ' := [(0, (.int .i64 a0)), (2, (.pointer (some ⟨b1, 0, none⟩))), (3, (.pointer (some ⟨b9, 0, none⟩))), (4, (.int .i64 0))]) ⟨rfl, rfl, rfl, rfl, trivial⟩; refine e_then ?_; obtain ⟨o240, ho241, hK242⟩ := bnd_some hF
  obtain ⟨n243, hn244⟩ := lp_some ho241; clear ho241
  obtain ⟨b247, hb247⟩ : ∃ b : Int, b = -1 := ⟨_, rfl⟩
  have h246 : Ow (Rp.sl 2 Rp.int) 31 true w19 [] b247 (.slice none 0 0) [] := Ow.nil (by omega)
  have q248 := (.inl (by omega) : Zn w19 b247)
  have q249 := Nq.new hB3.fpb q248
  have q250 := Nq.madeO q248 hB3.bi
  have q251 := Nq.new hB20.fpb q248
  have q252 := Nq.madeO q248 hB20.bi
  have q253 := Zn.upD q248 hE22
  refine c_loop (fun a w => ∃ (l231 : (List (List Int))) (fs228 : List Nat) (v232 : Value) (b233 : Int), Fr 18 [(2, (.pointer (some ⟨b1, 0, none⟩))), (3, (.pointer (some ⟨b9, 0, none⟩)))] a ∧ Chg [] W w ∧ Bx w b1 [(.slice none 0 0)] 29 ∧ Zn W (b1 : Int) ∧ Bx w b9 [v232] 29 ∧ Zn W (b9 : Int) ∧ Ow (Rp.sl 2 Rp.int) 31 true w fs228 b233 v232 l231 ∧ Zn W b233 ∧ (∀ k ∈ fs228, W.heap.size ≤ k) ∧ (bl b233 ++ fs228).Nodup ∧ Nq ([b1]) (b9 : Int) ∧ Nq ([b1]) b233 ∧ Nq ([b9]) (b1 : Int) ∧ Nq ([b9]) b233 ∧ Nq (bl b233 ++ fs228) (b1 : Int) ∧ Nq (bl b233 ++ fs228) (b9 : Int) ∧ o240 = .inl l231) (fun n a w => ∃ (l128 : (List (List Int))) (i131 : Int) (fs125 : List Nat) (v129 : Value) (b130 : Int), Fr 18 [(0, (.int .i64 a0)), (2, (.pointer (some ⟨b1, 0, none⟩))), (3, (.pointer (some ⟨b9, 0, none⟩))), (4, (.int .i64 i131))] a ∧ Chg [] W w ∧ InI i131 ∧ Bx w b1 [(.slice none 0 0)] 29 ∧ Zn W (b1 : Int) ∧ Bx w b9 [v129] 29 ∧ Zn W (b9 : Int) ∧ Ow (Rp.sl 2 Rp.int) 31 true w fs125 b130 v129 l128 ∧ Zn W b130 ∧ (∀ k ∈ fs125, W.heap.size ≤ k) ∧ (bl b130 ++ fs125).Nodup ∧ Nq ([b1]) (b9 : Int) ∧ Nq ([b1]) b130 ∧ Nq ([b9]) (b1 : Int) ∧ Nq ([b9]) b130 ∧ Nq (bl b130 ++ fs125) (b1 : Int) ∧ Nq (bl b130 ++ fs125) (b9 : Int) ∧ lpN (fun s => F_spec_l1Empty_l1 a0 s.1 s.2) n (l128, i131) = some o240) n243 ⟨([] : (List (List Int))), 0, [], (.slice none 0 0), b247, ha.sub ⟨rfl, rfl, rfl, rfl, trivial⟩, hE22, (show InI 0 from by decide), hB3, q7, hB20, q17, h246, q253, (zf_nil _), (bl_nodup b247), q15, q249, q16, q251, q250, q252, hn244⟩ ?_ ?_
  · rintro m257 a w117 ⟨l128, i131, fs125, v129, b130, ha, hE139, hI132, hB118, z119, hB120, z121, h123, z124, zf126, nd127, q133, q134, q135, q136, q137, q138, hF⟩
    cases m257 with
    | zero => exact (lpN_zero hF).elim
    | succ m257 =>
      obtain ⟨z256, hF, hN255⟩ := lpN_succ hF
      have hF : F_spec_l1Empty_l1 a0 l128 i131 = some z256 := hF; unfold F_spec_l1Empty_l1 at hF
      refine wp_seq ?_; refine wp_seq ?_; refine wp_region_lit ?_; (iterate 2 refine op_g ha rfl (g_move rfl) ?_; clear ha a; intro a ha); refine op_g ha rfl (g_lss rfl rfl) ?_; clear ha a; intro a ha; refine wpList_nil ?_; replace ha := ha.sub (σ' := [(0, (.int .i64 a0)), (2, (.pointer (some ⟨b1, 0, none⟩))), (3, (.pointer (some ⟨b9, 0, none⟩))), (4, (.int .i64 i131)), (8, (.bool (decide (i131 < a0))))]) ⟨rfl, rfl, rfl, rfl, rfl, trivial⟩; refine e_then ?_; refine c_cond (i131 < a0) ha rfl (decide_eq_true_iff) (fun hp258 => ?_) (fun hp258 => ?_)
      · replace hF := if_t hp258 hF
        refine wp_skip ?_; refine e_then ?_; refine wp_seq ?_; refine wp_block ?_; refine wp_region_lit ?_; refine op_g ha rfl (g_field0 st29_0 rfl) ?_; clear ha a; intro a ha; refine op_g ha rfl (g_load Tryd.isAgg27 rfl (hB120.cell rfl)) ?_; clear ha a; intro a ha
        refine o_lit0 Rp.int ha rfl sl31 ?_; clear ha a; intro v259 w260 h261 hx262 a ha
        obtain ⟨b264, hb264⟩ : ∃ b : Int, b = w117.heap.size := ⟨_, rfl⟩; rw [← hb264] at h261
        have q265 := zn_of hb264
        have q266 := Nq.new hB118.fpb q265
        have q267 := Nq.madeO q265 hB118.bi
        have q268 := Nq.new hB120.fpb q265
        have q269 := Nq.madeO q265 hB120.bi
        have q270 := Nq.new h123.fpb q265
        have q271 := Nq.madeO q265 h123.blt
        have q272 := Nf.old q265 (zf_nil _) h123.bnd
        have q273 := Zn.upD q265 hE139
        replace hB118 := hB118.ext hx262
        replace hB120 := hB120.ext hx262
        replace h123 := h123.ext hx262
        have hE274 := Ext.trans hE139 hx262
        refine o_lit1 (o := true) (y := ([] : (List Int))) (Rp.sl 2 Rp.int) ha rfl sl27 rfl rfl h261.cells (Rp.mkO h261) ?_; clear ha a; intro v275 w276 h277 hx278 a ha
        obtain ⟨b280, hb280⟩ : ∃ b : Int, b = w260.heap.size := ⟨_, rfl⟩; rw [← hb280] at h277
        have q281 := zn_of hb280
        have q282 := zf_mv q273 (zf_nil _)
        have q283 := dj_of q270
        have q284 := Nq.new hB118.fpb q281
        have q285 := Nq.append (Nq.madeL q281 hB118.bi) q267
        have q286 := Nq.new hB120.fpb q281
        have q287 := Nq.append (Nq.madeL q281 hB120.bi) q269
        have q288 := Nq.new h123.fpb q281
        have q289 := Nq.append (Nq.madeL q281 h123.blt) q271
        have q290 := Zn.upD q281 hE274
        have q291 := nd_lit (bl_nodup b264) h261.fpb hb280
        replace hB118 := hB118.ext hx278
        replace hB120 := hB120.ext hx278
        replace h123 := h123.ext hx278
        have hE292 := Ext.trans hE274 hx278
        obtain ⟨hl293, hF⟩ := app_some hF
        have q294 := Nq.right q289
        refine o_append ha rfl sl27 rfl rfl rfl h123 h277.src q294 hl293 ?_; clear ha a; intro v295 w296 b297 h298 hc299 hb300 a ha
        replace h298 : Ow (Rp.sl 2 Rp.int) 31 true w296 (fs125 ++ (bl b264 ++ [])) b297 v295 _ := h298
        have q302 := zf_app zf126 q282
        have q303 := nd_app nd127 (bl_nodup b264) q283 hb300 h123.fpb h277.bnd
        have q304 := Nq.appY q134 hB118.fpb hb300
        have q305 := Nq.appX q137 (Nq.right q285) hb300 hB118.bi
        have q306 := Nq.appY q136 hB120.fpb hb300
        have q307 := Nq.appX q138 (Nq.right q287) hb300 hB120.bi
        have q308 := Zn.appD z124 hb300 hE292
        replace hB118 := hB118.nq hc299 q134
        replace hB120 := hB120.nq hc299 q136
        have hE309 := Ext.then hE292 hc299 (Zn.bl z124)
        refine op_g ha rfl (g_field0 st29_0 rfl) ?_; clear ha a; intro a ha
        refine o_storeB ha hB120 Tryd.sizeOf27 rfl rfl h298.cells h298.oneC (Nat.le_of_ble_eq_true rfl) ?_; intro w310 hB311 hc312
        replace hc312 := hc312.bl
        replace hB311 : Bx w310 b9 [v295] 29 := hB311
        replace hB118 := hB118.nq hc312 q133
        replace h298 := h298.nq hc312 q307
        have hE313 := Ext.then hE309 hc312 (Zn.bl z121)
        refine wpList_nil ?_; replace ha := ha.sub (σ' := [(0, (.int .i64 a0)), (2, (.pointer (some ⟨b1, 0, none⟩))), (3, (.pointer (some ⟨b9, 0, none⟩))), (4, (.int .i64 i131))]) ⟨rfl, rfl, rfl, rfl, trivial⟩; refine e_blk ?_; refine e_then ?_; refine wp_region_lit ?_; refine op_g ha rfl (g_move rfl) ?_; clear ha a; intro a ha; obtain ⟨hI314, hF⟩ := ck_some hF; refine op_g ha rfl (g_add rfl rfl hI314) ?_; clear ha a; intro a ha; refine op_g ha rfl (g_assign rfl) ?_; clear ha a; intro a ha; refine wpList_nil ?_; replace ha := ha.sub (σ' := [(0, (.int .i64 a0)), (2, (.pointer (some ⟨b1, 0, none⟩))), (3, (.pointer (some ⟨b9, 0, none⟩))), (4, (.int .i64 (i131 + 1)))]) ⟨rfl, rfl, rfl, rfl, trivial⟩
        refine e_lq ?_; obtain rfl := Option.some.inj hF
        exact ⟨_, Nat.lt_succ_self _, (l128 ++ ([([] : (List Int))])), i131 + 1, (fs125 ++ (bl b264 ++ [])), v295, b297, ha.sub ⟨rfl, rfl, rfl, rfl, trivial⟩, hE313, hI314, hB118, z119, hB311, z121, h298, q308, q302, q303, q133, q304, q135, q306, q305, q307, hN255⟩
      replace hF := if_f hp258 hF; refine wp_exit ?_; refine e_then_exit ?_; refine e_lq_eq ?_; obtain rfl := Option.some.inj hF
      exact ⟨l128, fs125, v129, b130, ha.sub ⟨rfl, rfl, trivial⟩, hE139, hB118, z119, hB120, z121, h123, z124, zf126, nd127, q133, q134, q135, q136, q137, q138, (LK_inr hN255).symm⟩
  rintro a w220 ⟨l231, fs228, v232, b233, ha, hE254, hB221, z222, hB223, z224, h226, z227, zf229, nd230, q234, q235, q236, q237, q238, q239, rfl⟩
  have hF : F_spec_l1Empty_k2 l231 = some _ := hK242; clear hK242; unfold F_spec_l1Empty_k2 at hF
  refine e_then ?_; refine wp_seq ?_; refine wp_region_lit ?_; refine op_g ha rfl (g_loadA (cs := [v232]) Tryd.isAgg29 Tryd.sizeOf29 rfl (by simp) hB223.all) ?_; clear ha a; intro a ha
  refine o_storeA (vs := [v232]) ha hB221 Tryd.sizeOf29 rfl rfl (by intro c hc; simp only [List.mem_cons, List.not_mem_nil, or_false] at hc; rcases hc with hc <;> subst hc <;> first | rfl | exact h226.oneC) rfl ?_; intro w316 hB317 hc318
  replace hc318 := hc318.bl
  replace hB317 : Bx w316 b1 [v232] 29 := hB317
  replace hB223 := hB223.nq hc318 q236
  replace h226 := h226.nq hc318 q238
  have hE319 := Ext.then hE254 hc318 (Zn.bl z222)
  refine wpList_nil ?_; replace ha := ha.sub (σ' := [(2, (.pointer (some ⟨b1, 0, none⟩)))]) ⟨rfl, trivial⟩; refine e_then ?_; refine wp_ret ?_; obtain rfl := Option.some.inj hF
  exact f_retC (cs := [v232]) ha rfl rfl Tryd.isAgg29 Tryd.sizeOf29 hB317 ⟨_, _, _, rfl, h226, z227, zf229, nd230, hE319⟩
set_option maxHeartbeats 2000000 in
theorem W_spec_l1Set {W : World} {va0 : Value} {fa0 : List Nat} {a0 : (List Int)} (ha0 : Ro Rp.int W fa0 va0 a0) {a1 : Int} (ha1 : InI a1) {r : Bool} (hF : F_spec_l1Set a0 a1 = some r) :
    Calls Tryd.prog 70 [va0, .int .i64 a1].toArray W (Ret fun u w' => u = .bool r ∧ Ext W w') := by
  refine f_enter Tryd.func70 rfl Tryd.ntmps70 rfl ?_
  intro a ha
  replace ha : Fr 40 [(0, va0), (1, (.int .i64 a1))] a := ha
  have hE : Chg [] W W := Chg.refl _ _
  unfold F_spec_l1Set at hF
  refine wp_seq ?_; refine wp_region_lit ?_; refine op_g ha rfl (g_assign rfl) ?_; clear ha a; intro a ha; refine wpList_nil ?_; replace ha := ha.sub (σ' := [(0, va0), (1, (.int .i64 a1))]) ⟨rfl, rfl, trivial⟩; refine e_then ?_; refine wp_seq ?_; refine wp_seq ?_; refine wp_region_lit ?_; refine op_g ha rfl (g_move rfl) ?_; clear ha a; intro a ha; refine op_g ha rfl (g_lenR sl31.und ha0 rfl) ?_; clear ha a; intro a ha; refine op_g ha rfl (g_move rfl) ?_; clear ha a; intro a ha; refine op_g ha rfl (g_gtr rfl rfl) ?_; clear ha a; intro a ha; refine wpList_nil ?_; replace ha := ha.sub (σ' := [(0, va0), (1, (.int .i64 a1)), (9, (.bool (decide (a1 < (a0.length : Int)))))]) ⟨rfl, rfl, rfl, trivial⟩
  refine e_then ?_; refine c_cond (a1 < (a0.length : Int)) ha rfl (decide_eq_true_iff) (fun hp1 => ?_) (fun hp1 => ?_)
  · replace hF := if_t hp1 hF
    refine wp_seq ?_; refine wp_region_lit ?_; refine op_g ha rfl (g_assign rfl) ?_; clear ha a; intro a ha; refine wpList_nil ?_; replace ha := ha.sub (σ' := [(4, (.bool false))]) ⟨rfl, trivial⟩; refine e_then ?_; refine wp_ret ?_; refine e_then_ret ?_; obtain rfl := Option.some.inj hF
    exact f_ret1 ha rfl rfl ⟨rfl, hE⟩
  replace hF := if_f hp1 hF; refine wp_skip ?_; refine e_then ?_; refine wp_seq ?_; refine wp_seq ?_; refine wp_region_lit ?_; refine op_g ha rfl (g_assign rfl) ?_; clear ha a; intro a ha; refine wpList_nil ?_; replace ha := ha.sub (σ' := [(0, va0), (1, (.int .i64 a1)), (5, (.int .i64 0))]) ⟨rfl, rfl, rfl, trivial⟩; refine e_then ?_; obtain ⟨o137, ho138, hK139⟩ := bnd_some hF
  obtain ⟨n140, hn141⟩ := lp_some ho138; clear ho138
  refine c_loop (fun a w => Fr 40 [] a ∧ Chg [] W w ∧ o137 = .inl ()) (fun n a w => ∃ (i69 : Int), Fr 40 [(0, va0), (1, (.int .i64 a1)), (5, (.int .i64 i69))] a ∧ Chg [] W w ∧ InI i69 ∧ lpN (fun s => F_spec_l1Set_l1 a0 a1 s) n i69 = some o137) n140 ⟨0, ha.sub ⟨rfl, rfl, rfl, trivial⟩, hE, (show InI 0 from by decide), hn141⟩ ?_ ?_
  · rintro m145 a w68 ⟨i69, ha, hE71, hI70, hF⟩
    cases m145 with
    | zero => exact (lpN_zero hF).elim
    | succ m145 =>
      obtain ⟨z144, hF, hN143⟩ := lpN_succ hF
      have hF : F_spec_l1Set_l1 a0 a1 i69 = some z144 := hF; unfold F_spec_l1Set_l1 at hF
      refine wp_seq ?_; refine wp_seq ?_; refine wp_region_lit ?_; (iterate 2 refine op_g ha rfl (g_move rfl) ?_; clear ha a; intro a ha); refine op_g ha rfl (g_lenR sl31.und ha0 rfl) ?_; clear ha a; intro a ha; refine op_g ha rfl (g_lss rfl rfl) ?_; clear ha a; intro a ha; refine wpList_nil ?_; replace ha := ha.sub (σ' := [(0, va0), (1, (.int .i64 a1)), (5, (.int .i64 i69)), (13, (.bool (decide (i69 < (a0.length : Int)))))]) ⟨rfl, rfl, rfl, rfl, trivial⟩; refine e_then ?_; refine c_cond (i69 < (a0.length : Int)) ha rfl (decide_eq_true_iff) (fun hp146 => ?_) (fun hp146 => ?_)
      · replace hF := if_t hp146 hF
        refine wp_skip ?_; refine e_then ?_; refine wp_seq ?_; refine wp_block ?_; refine wp_seq ?_; refine d_quiet hmix (by kernel_rfl) ?_; (iterate 2 refine q_g ha rfl (g_move rfl) ?_; clear ha a; intro a ha); obtain ⟨x147, g148, gx149, hF⟩ := idx_some hF
        obtain ⟨p150, cs151, f152, hf153, hpb154, hat155, hr156, hi157⟩ := ha0.at g148 gx149
        obtain ⟨rfl, hI158, rfl⟩ := hr156
        refine q_g ha rfl (hi157.gives sl31 rfl rfl) ?_; clear ha a; intro a ha; refine q_g ha rfl (g_load0 hE71 Tryd.isAgg2 rfl hat155.one) ?_; clear ha a; intro a ha; refine q_g ha rfl (g_move rfl) ?_; clear ha a; intro a ha; obtain ⟨hI159, hF⟩ := ck_some hF; refine q_g ha rfl (g_sub rfl rfl hI159) ?_; clear ha a; intro a ha; obtain ⟨x163, hc164, hF⟩ := cal_some hF; refine q_call (.bool x163) ha rfl rfl Tryd.call34 (fun w162 hx161 => W_spec_l1In hI158 (show InI 0 from by decide) hI159 hc164) (fun _ _ _ h => ⟨h.1, h.2⟩) ?_; clear ha a; intro a ha; refine q_g ha rfl (g_not rfl) ?_; clear ha a; intro a ha
        refine q_g ha rfl (g_move rfl) ?_; clear ha a; intro a ha
        by_cases hp165 : ¬ (x163 = true)
        · replace hF := if_t hp165 hF
          rw [show (!x163) = true from (n_iff (Iff.rfl)).2 hp165] at ha
          (iterate 3 refine q_unwant ha rfl (yields ha rfl rfl) rfl ?_; clear ha a; intro a ha); (iterate 10 refine q_unwant0 ha rfl (yields0 ha rfl rfl) ?_; clear ha a; intro a ha); refine q_unwant ha rfl (yields ha rfl rfl) rfl ?_; clear ha a; intro a ha; refine q_g ha rfl (g_pick rfl rfl) ?_; clear ha a; intro a ha
          refine q_nil ?_; intro w166 hx167
          have hE168 := Ext.trans hE71 hx167
          replace ha := ha.sub (σ' := [(0, va0), (1, (.int .i64 a1)), (5, (.int .i64 i69)), (39, (.bool true))]) ⟨rfl, rfl, rfl, rfl, trivial⟩; refine e_then ?_; refine c_true ha rfl ?_; refine wp_seq ?_; refine wp_region_lit ?_; refine op_g ha rfl (g_assign rfl) ?_; clear ha a; intro a ha; refine wpList_nil ?_; replace ha := ha.sub (σ' := [(4, (.bool false))]) ⟨rfl, trivial⟩; refine e_then ?_; refine wp_ret ?_; refine e_blk_ret ?_; refine e_then_ret ?_; refine e_lq_ret ?_; refine e_then_ret ?_; obtain rfl := Option.some.inj hF
          have e169 := LK_inr hN143; subst e169
          have e170 := BK_inr hK139; subst e170
          exact f_ret1 ha rfl rfl ⟨rfl, hE168⟩
        replace hF := if_f hp165 hF
        rw [show (!x163) = false from b_false (n_iff (Iff.rfl)) hp165] at ha
        refine q_want (yields ha rfl rfl) ?_; refine q_g ha rfl (g_move rfl) ?_; clear ha a; intro a ha; refine q_want (yields ha rfl rfl) ?_; refine q_g ha rfl (g_gtr rfl rfl) ?_; clear ha a; intro a ha; refine q_want (yields ha rfl rfl) ?_; refine q_g ha rfl (g_move rfl) ?_; clear ha a; intro a ha
        by_cases hp171 : 0 < i69
        · replace hF := if_t hp171 hF
          rw [show (decide (0 < i69)) = true from (decide_eq_true_iff).2 hp171] at ha
          refine q_want (yields ha rfl rfl) ?_; refine q_g ha rfl (g_move rfl) ?_; clear ha a; intro a ha; refine q_want (yields ha rfl rfl) ?_; refine q_g ha rfl (g_move rfl) ?_; clear ha a; intro a ha; refine q_want (yields ha rfl rfl) ?_; obtain ⟨x172, g173, gx174, hF⟩ := idx_some hF
          obtain ⟨p175, cs176, f177, hf178, hpb179, hat180, hr181, hi182⟩ := ha0.at g173 gx174
          obtain ⟨rfl, hI183, rfl⟩ := hr181
          refine q_g ha rfl (hi182.gives sl31 rfl rfl) ?_; clear ha a; intro a ha; refine q_want (yields ha rfl rfl) ?_; refine q_g ha rfl (g_load0 hE71 Tryd.isAgg2 rfl hat180.one) ?_; clear ha a; intro a ha; refine q_want (yields ha rfl rfl) ?_; refine q_g ha rfl (g_move rfl) ?_; clear ha a; intro a ha; refine q_want (yields ha rfl rfl) ?_; refine q_g ha rfl (g_move rfl) ?_; clear ha a; intro a ha; refine q_want (yields ha rfl rfl) ?_; obtain ⟨hI184, hF⟩ := ck_some hF; refine q_g ha rfl (g_sub rfl rfl hI184) ?_; clear ha a; intro a ha; refine q_want (yields ha rfl rfl) ?_; obtain ⟨x186, g187, gx188, hF⟩ := idx_some hF
          obtain ⟨p189, cs190, f191, hf192, hpb193, hat194, hr195, hi196⟩ := ha0.at g187 gx188
          obtain ⟨rfl, hI197, rfl⟩ := hr195
          refine q_g ha rfl (hi196.gives sl31 rfl rfl) ?_; clear ha a; intro a ha; refine q_want (yields ha rfl rfl) ?_; refine q_g ha rfl (g_load0 hE71 Tryd.isAgg2 rfl hat194.one) ?_; clear ha a; intro a ha; refine q_want (yields ha rfl rfl) ?_; refine q_g ha rfl (g_leq rfl rfl) ?_; clear ha a; intro a ha; refine q_want (yields ha rfl rfl) ?_; (iterate 2 refine q_g ha rfl (g_pick rfl rfl) ?_; clear ha a; intro a ha)
          refine q_nil ?_; intro w198 hx199
          have hE200 := Ext.trans hE71 hx199
          replace ha := ha.sub (σ' := [(0, va0), (1, (.int .i64 a1)), (5, (.int .i64 i69)), (25, (.int .i64 i69)), (26, (.bool true)), (27, (.bool true)), (28, va0), (29, (.int .i64 i69)), (30, (.pointer (some p175))), (31, (.int .i64 x172)), (32, va0), (33, (.int .i64 i69)), (34, (.int .i64 (i69 - 1))), (35, (.pointer (some p189))), (36, (.int .i64 x186)), (37, (.bool (decide (x172 ≤ x186)))), (38, (.bool (decide (x172 ≤ x186)))), (39, (.bool (decide (x172 ≤ x186))))]) ⟨rfl, rfl, rfl, rfl, rfl, rfl, rfl, rfl, rfl, rfl, rfl, rfl, rfl, rfl, rfl, rfl, rfl, rfl, trivial⟩; refine e_then ?_; refine c_cond (x172 ≤ x186) ha rfl (decide_eq_true_iff) (fun hp201 => ?_) (fun hp201 => ?_)
          · replace hF := if_t hp201 hF
            refine wp_seq ?_; refine wp_region_lit ?_; refine op_g ha rfl (g_assign rfl) ?_; clear ha a; intro a ha; refine wpList_nil ?_; replace ha := ha.sub (σ' := [(4, (.bool false))]) ⟨rfl, trivial⟩; refine e_then ?_; refine wp_ret ?_; refine e_blk_ret ?_; refine e_then_ret ?_; refine e_lq_ret ?_; refine e_then_ret ?_; obtain rfl := Option.some.inj hF
            have e202 := LK_inr hN143; subst e202
            have e203 := BK_inr hK139; subst e203
            exact f_ret1 ha rfl rfl ⟨rfl, hE200⟩
          replace hF := if_f hp201 hF; refine wp_skip ?_; refine e_blk ?_; refine e_then ?_; refine wp_region_lit ?_; refine op_g ha rfl (g_move rfl) ?_; clear ha a; intro a ha; obtain ⟨hI204, hF⟩ := ck_some hF; refine op_g ha rfl (g_add rfl rfl hI204) ?_; clear ha a; intro a ha; refine op_g ha rfl (g_assign rfl) ?_; clear ha a; intro a ha; refine wpList_nil ?_; replace ha := ha.sub (σ' := [(0, va0), (1, (.int .i64 a1)), (5, (.int .i64 (i69 + 1))), (25, (.int .i64 i69)), (26, (.bool true)), (27, (.bool true)), (28, va0), (29, (.int .i64 i69)), (30, (.pointer (some p175))), (31, (.int .i64 x172)), (32, va0), (33, (.int .i64 i69)), (34, (.int .i64 (i69 - 1))), (35, (.pointer (some p189))), (36, (.int .i64 x186)), (37, (.bool (decide (x172 ≤ x186)))), (38, (.bool (decide (x172 ≤ x186))))]) ⟨rfl, rfl, rfl, rfl, rfl, rfl, rfl, rfl, rfl, rfl, rfl, rfl, rfl, rfl, rfl, rfl, rfl, trivial⟩
          refine e_lq ?_; obtain rfl := Option.some.inj hF
          exact ⟨_, Nat.lt_succ_self _, i69 + 1, ha.sub ⟨rfl, rfl, rfl, trivial⟩, hE200, hI204, hN143⟩
        replace hF := if_f hp171 hF
        rw [show (decide (0 < i69)) = false from b_false (decide_eq_true_iff) hp171] at ha
        (iterate 10 refine q_unwant ha rfl (yields ha rfl rfl) rfl ?_; clear ha a; intro a ha); refine q_want (yields ha rfl rfl) ?_; (iterate 2 refine q_g ha rfl (g_pick rfl rfl) ?_; clear ha a; intro a ha)
        refine q_nil ?_; intro w206 hx207
        have hE208 := Ext.trans hE71 hx207
        replace ha := ha.sub (σ' := [(0, va0), (1, (.int .i64 a1)), (5, (.int .i64 i69)), (25, (.int .i64 i69)), (26, (.bool false)), (27, (.bool false)), (38, (.bool false)), (39, (.bool false))]) ⟨rfl, rfl, rfl, rfl, rfl, rfl, rfl, rfl, trivial⟩; refine e_then ?_; refine c_false ha rfl ?_; refine wp_skip ?_; refine e_blk ?_; refine e_then ?_; refine wp_region_lit ?_; refine op_g ha rfl (g_move rfl) ?_; clear ha a; intro a ha; obtain ⟨hI209, hF⟩ := ck_some hF; refine op_g ha rfl (g_add rfl rfl hI209) ?_; clear ha a; intro a ha; refine op_g ha rfl (g_assign rfl) ?_; clear ha a; intro a ha; refine wpList_nil ?_
        replace ha := ha.sub (σ' := [(0, va0), (1, (.int .i64 a1)), (5, (.int .i64 (i69 + 1))), (25, (.int .i64 i69)), (26, (.bool false)), (27, (.bool false)), (38, (.bool false))]) ⟨rfl, rfl, rfl, rfl, rfl, rfl, rfl, trivial⟩; refine e_lq ?_; obtain rfl := Option.some.inj hF
        exact ⟨_, Nat.lt_succ_self _, i69 + 1, ha.sub ⟨rfl, rfl, rfl, trivial⟩, hE208, hI209, hN143⟩
      replace hF := if_f hp146 hF; refine wp_exit ?_; refine e_then_exit ?_; refine e_lq_eq ?_; obtain rfl := Option.some.inj hF
      exact ⟨ha.sub trivial, hE71, (LK_inr hN143).symm⟩
  rintro a w136 ⟨ha, hE142, rfl⟩
  have hF : F_spec_l1Set_k2 = some _ := hK139; clear hK139; unfold F_spec_l1Set_k2 at hF
  refine e_then ?_; refine wp_seq ?_; refine wp_region_lit ?_; refine op_g ha rfl (g_assign rfl) ?_; clear ha a; intro a ha; refine wpList_nil ?_; refine e_then ?_; refine wp_ret ?_; obtain rfl := Option.some.inj hF
  exact f_ret1 ha rfl rfl ⟨rfl, hE142⟩
set_option maxHeartbeats 2000000 in
theorem W_spec_l1Copy {W : World} {va0 : Value} {fa0 : List Nat} {a0 : (List Int)} (ha0 : Ro Rp.int W fa0 va0 a0) {r : (List Int)} (hF : F_spec_l1Copy a0 = some r) :
    Calls Tryd.prog 88 [va0].toArray W (Ret fun u w' => ∃ (b_u : Int), Ow Rp.int 2 true w' [] b_u u r ∧ Zn W b_u ∧ Ext W w') := by
  refine f_enter Tryd.func88 rfl Tryd.ntmps88 rfl ?_
  intro a ha
  replace ha : Fr 6 [(0, va0)] a := ha
  have hE : Chg [] W W := Chg.refl _ _
  unfold F_spec_l1Copy at hF
  refine wp_seq ?_; refine wp_region_lit ?_; refine op_g ha rfl (g_assign rfl) ?_; clear ha a; intro a ha; refine wpList_nil ?_; replace ha := ha.sub (σ' := [(0, va0)]) ⟨rfl, trivial⟩; refine e_then ?_; refine wp_seq ?_; refine wp_region_lit ?_
  refine o_lit0 Rp.int ha rfl sl31 ?_; clear ha a; intro v1 w2 h3 hx4 a ha
  obtain ⟨b6, hb6⟩ : ∃ b : Int, b = W.heap.size := ⟨_, rfl⟩; rw [← hb6] at h3
  have q7 := zn_of hb6
  have q8 := Zn.upD q7 hE
  have hE9 := Ext.trans hE hx4
  refine op_g ha rfl (g_move rfl) ?_; clear ha a; intro a ha; obtain ⟨hl10, hF⟩ := app_some hF
  obtain ⟨_, hs11, _⟩ := (ha0.ext hE9).src
  refine o_append ha rfl sl31 rfl rfl rfl h3 (hs11.up scal_int) (Nq.nil _) hl10 ?_; clear ha a; intro v12 w13 b14 h15 hc16 hb17 a ha
  replace h15 : Ow Rp.int 2 true w13 [] b14 v12 _ := h15
  have q19 := Zn.appD q8 hb17 hE9
  have hE20 := Ext.then hE9 hc16 (Zn.bl q8)
  refine op_g ha rfl (g_assign rfl) ?_; clear ha a; intro a ha; refine wpList_nil ?_; replace ha := ha.sub (σ' := [(2, v12)]) ⟨rfl, trivial⟩; refine e_then ?_; refine wp_ret ?_; obtain rfl := Option.some.inj hF
  exact f_ret1 ha rfl rfl ⟨_, h15, q19, hE20⟩
set_option maxHeartbeats 2000000 in
theorem W_spec_l1Into {W : World} {va0 : Value} {fa0 : List Nat} {a0 : (List Int)} (ha0 : Ro Rp.int W fa0 va0 a0) {a1 : Int} (ha1 : InI a1) {r : (List Int)} (hF : F_spec_l1Into a0 a1 = some r) :
    Calls Tryd.prog 92 [va0, .int .i64 a1].toArray W (Ret fun u w' => ∃ (fp_u : List Nat), Ro Rp.int w' fp_u u r ∧ Pv (fa0) W.heap.size fp_u ∧ Ext W w') := by
  refine f_enter Tryd.func92 rfl Tryd.ntmps92 rfl ?_
  intro a ha
  replace ha : Fr 46 [(0, va0), (1, (.int .i64 a1))] a := ha
  have hE : Chg [] W W := Chg.refl _ _
  unfold F_spec_l1Into at hF
  refine wp_seq ?_; refine wp_region_lit ?_; refine op_g ha rfl (g_assign rfl) ?_; clear ha a; intro a ha; refine wpList_nil ?_; replace ha := ha.sub (σ' := [(0, va0), (1, (.int .i64 a1))]) ⟨rfl, rfl, trivial⟩; refine e_then ?_; refine wp_seq ?_; refine wp_region_lit ?_; refine op_g ha rfl (g_assign rfl) ?_; clear ha a; intro a ha; refine wpList_nil ?_; refine e_then ?_; refine wp_seq ?_; obtain ⟨o48, ho49, hK50⟩ := bnd_some hF
  obtain ⟨n51, hn52⟩ := lp_some ho49; clear ho49
  refine c_loop (fun a w => ∃ (i46 : Int), Fr 46 [(0, va0), (1, (.int .i64 a1)), (5, (.int .i64 i46))] a ∧ Chg [] W w ∧ InI i46 ∧ o48 = .inl i46) (fun n a w => ∃ (i23 : Int), Fr 46 [(0, va0), (1, (.int .i64 a1)), (5, (.int .i64 i23))] a ∧ Chg [] W w ∧ InI i23 ∧ lpN (fun s => F_spec_l1Into_l1 a0 a1 s) n i23 = some o48) n51 ⟨0, ha.sub ⟨rfl, rfl, rfl, trivial⟩, hE, (show InI 0 from by decide), hn52⟩ ?_ ?_
  · rintro m56 a w22 ⟨i23, ha, hE25, hI24, hF⟩
    cases m56 with
    | zero => exact (lpN_zero hF).elim
    | succ m56 =>
      obtain ⟨z55, hF, hN54⟩ := lpN_succ hF
      have hF : F_spec_l1Into_l1 a0 a1 i23 = some z55 := hF; unfold F_spec_l1Into_l1 at hF
      refine wp_seq ?_; refine wp_seq ?_; refine wp_region_lit ?_; (iterate 2 refine op_g ha rfl (g_move rfl) ?_; clear ha a; intro a ha); refine op_g ha rfl (g_lenR sl31.und ha0 rfl) ?_; clear ha a; intro a ha; refine op_g ha rfl (g_lss rfl rfl) ?_; clear ha a; intro a ha; refine op_g ha rfl (g_move rfl) ?_; clear ha a; intro a ha
      by_cases hp57 : i23 < (a0.length : Int)
      · replace hF := if_t hp57 hF
        rw [show (decide (i23 < (a0.length : Int))) = true from (decide_eq_true_iff).2 hp57] at ha
        refine op_want (yields ha rfl rfl) ?_; refine op_g ha rfl (g_move rfl) ?_; clear ha a; intro a ha; refine op_want (yields ha rfl rfl) ?_; refine op_g ha rfl (g_move rfl) ?_; clear ha a; intro a ha; refine op_want (yields ha rfl rfl) ?_; obtain ⟨x58, g59, gx60, hF⟩ := idx_some hF
        obtain ⟨p61, cs62, f63, hf64, hpb65, hat66, hr67, hi68⟩ := ha0.at g59 gx60
        obtain ⟨rfl, hI69, rfl⟩ := hr67
        refine op_g ha rfl (hi68.gives sl31 rfl rfl) ?_; clear ha a; intro a ha; refine op_want (yields ha rfl rfl) ?_; refine op_g ha rfl (g_load0 hE25 Tryd.isAgg2 rfl hat66.one) ?_; clear ha a; intro a ha; refine op_want (yields ha rfl rfl) ?_; refine op_g ha rfl (g_move rfl) ?_; clear ha a; intro a ha; refine op_want (yields ha rfl rfl) ?_; refine op_g ha rfl (g_lss rfl rfl) ?_; clear ha a; intro a ha; refine op_g ha rfl (g_pick rfl rfl) ?_; clear ha a; intro a ha; refine wpList_nil ?_; replace ha := ha.sub (σ' := [(0, va0), (1, (.int .i64 a1)), (5, (.int .i64 i23)), (12, va0), (13, (.int .i64 i23)), (14, (.pointer (some p61))), (15, (.int .i64 x58)), (16, (.int .i64 a1)), (17, (.bool (decide (x58 < a1)))), (18, (.bool (decide (x58 < a1))))]) ⟨rfl, rfl, rfl, rfl, rfl, rfl, rfl, rfl, rfl, rfl, trivial⟩
        refine e_then ?_; refine c_cond (x58 < a1) ha rfl (decide_eq_true_iff) (fun hp70 => ?_) (fun hp70 => ?_)
        · replace hF := if_t hp70 hF
          refine wp_skip ?_; refine e_then ?_; refine wp_block ?_; refine wp_region_lit ?_; refine op_g ha rfl (g_move rfl) ?_; clear ha a; intro a ha; obtain ⟨hI71, hF⟩ := ck_some hF; refine op_g ha rfl (g_add rfl rfl hI71) ?_; clear ha a; intro a ha; refine op_g ha rfl (g_assign rfl) ?_; clear ha a; intro a ha; refine wpList_nil ?_; replace ha := ha.sub (σ' := [(0, va0), (1, (.int .i64 a1)), (5, (.int .i64 (i23 + 1))), (12, va0), (13, (.int .i64 i23)), (14, (.pointer (some p61))), (15, (.int .i64 x58)), (16, (.int .i64 a1)), (17, (.bool (decide (x58 < a1))))]) ⟨rfl, rfl, rfl, rfl, rfl, rfl, rfl, rfl, rfl, trivial⟩
          refine e_blk ?_; refine e_lq ?_; obtain rfl := Option.some.inj hF
          exact ⟨_, Nat.lt_succ_self _, i23 + 1, ha.sub ⟨rfl, rfl, rfl, trivial⟩, hE25, hI71, hN54⟩
        replace hF := if_f hp70 hF; refine wp_exit ?_; refine e_then_exit ?_; refine e_lq_eq ?_; obtain rfl := Option.some.inj hF
        exact ⟨i23, ha.sub ⟨rfl, rfl, rfl, trivial⟩, hE25, hI24, (LK_inr hN54).symm⟩
      replace hF := if_f hp57 hF
      rw [show (decide (i23 < (a0.length : Int))) = false from b_false (decide_eq_true_iff) hp57] at ha
      (iterate 6 refine op_unwant ha rfl (yields ha rfl rfl) rfl ?_; clear ha a; intro a ha); refine op_g ha rfl (g_pick rfl rfl) ?_; clear ha a; intro a ha; refine wpList_nil ?_; replace ha := ha.sub (σ' := [(0, va0), (1, (.int .i64 a1)), (5, (.int .i64 i23)), (18, (.bool false))]) ⟨rfl, rfl, rfl, rfl, trivial⟩; refine e_then ?_; refine c_false ha rfl ?_; refine wp_exit ?_; refine e_then_exit ?_; refine e_lq_eq ?_; obtain rfl := Option.some.inj hF
      exact ⟨i23, ha.sub ⟨rfl, rfl, rfl, trivial⟩, hE25, hI24, (LK_inr hN54).symm⟩
  rintro a w45 ⟨i46, ha, hE53, hI47, rfl⟩
  have hF : F_spec_l1Into_k2 a0 a1 i46 = some _ := hK50; clear hK50; unfold F_spec_l1Into_k2 at hF
  refine e_then ?_; refine wp_seq ?_; refine wp_seq ?_; refine wp_region_lit ?_; (iterate 2 refine op_g ha rfl (g_move rfl) ?_; clear ha a; intro a ha); refine op_g ha rfl (g_lenR sl31.und ha0 rfl) ?_; clear ha a; intro a ha; refine op_g ha rfl (g_lss rfl rfl) ?_; clear ha a; intro a ha; refine op_g ha rfl (g_move rfl) ?_; clear ha a; intro a ha
  by_cases hp73 : i46 < (a0.length : Int)
  · replace hF := if_t hp73 hF
    rw [show (decide (i46 < (a0.length : Int))) = true from (decide_eq_true_iff).2 hp73] at ha
    refine op_want (yields ha rfl rfl) ?_; refine op_g ha rfl (g_move rfl) ?_; clear ha a; intro a ha; refine op_want (yields ha rfl rfl) ?_; refine op_g ha rfl (g_move rfl) ?_; clear ha a; intro a ha; refine op_want (yields ha rfl rfl) ?_; obtain ⟨x74, g75, gx76, hF⟩ := idx_some hF
    obtain ⟨p77, cs78, f79, hf80, hpb81, hat82, hr83, hi84⟩ := ha0.at g75 gx76
    obtain ⟨rfl, hI85, rfl⟩ := hr83
    refine op_g ha rfl (hi84.gives sl31 rfl rfl) ?_; clear ha a; intro a ha; refine op_want (yields ha rfl rfl) ?_; refine op_g ha rfl (g_load0 hE53 Tryd.isAgg2 rfl hat82.one) ?_; clear ha a; intro a ha; refine op_want (yields ha rfl rfl) ?_; refine op_g ha rfl (g_move rfl) ?_; clear ha a; intro a ha; refine op_want (yields ha rfl rfl) ?_; refine op_g ha rfl (g_eql rfl rfl) ?_; clear ha a; intro a ha; refine op_g ha rfl (g_pick rfl rfl) ?_; clear ha a; intro a ha; refine wpList_nil ?_; replace ha := ha.sub (σ' := [(0, va0), (1, (.int .i64 a1)), (5, (.int .i64 i46)), (32, (.bool (decide (x74 = a1))))]) ⟨rfl, rfl, rfl, rfl, trivial⟩
    refine e_then ?_; refine c_cond (x74 = a1) ha rfl (decide_eq_true_iff) (fun hp86 => ?_) (fun hp86 => ?_)
    · replace hF := if_t hp86 hF
      refine wp_seq ?_; refine wp_region_lit ?_; refine op_g ha rfl (g_move rfl) ?_; clear ha a; intro a ha; refine op_g ha rfl (g_assign rfl) ?_; clear ha a; intro a ha; refine wpList_nil ?_; replace ha := ha.sub (σ' := [(4, va0)]) ⟨rfl, trivial⟩; refine e_then ?_; refine wp_ret ?_; refine e_then_ret ?_; obtain rfl := Option.some.inj hF
      exact f_ret1 ha rfl rfl ⟨_, (ha0.ext hE53), (Pv.par (fun _ h => h)), hE53⟩
    replace hF := if_f hp86 hF; refine wp_skip ?_; refine e_then ?_; refine wp_seq ?_; refine wp_region_lit ?_; (iterate 2 refine op_g ha rfl (g_move rfl) ?_; clear ha a; intro a ha); obtain ⟨hb87a, hb87b, hb87c, hF⟩ := slc_some hF
    obtain ⟨v88, fp89, hrun90, hro91, hsub92⟩ := ha0.slice (lo := none) (hi := (some (.int .i64 i46))) (i := 0) (j := i46) sl31 (.inl ⟨rfl, rfl⟩) (.inr ⟨_, rfl⟩) ⟨hb87a, hb87b, hb87c⟩
    have q94 := (Pv.mono (Pv.par (fun _ h => h)) hsub92 : Pv (fa0) W.heap.size fp89)
    refine op_g ha rfl (g_slice sl31.und rfl rfl rfl hrun90) ?_; clear ha a; intro a ha; obtain ⟨x95, hc96, hF⟩ := cal_some hF
    refine o_call ha rfl rfl Tryd.call88 (W_spec_l1Copy (hro91.ext hE53) hc96) ?_; clear ha a; rintro v97 w98 ⟨b100, h101, z102, hx99⟩ a ha
    have hE104 := Ext.trans hE53 hx99
    have q105 := Zn.upD z102 hE53
    refine op_g ha rfl (g_move rfl) ?_; clear ha a; intro a ha
    refine o_lit1 (o := true) (y := a1) Rp.int ha rfl sl31 rfl rfl rfl ⟨rfl, ha1, rfl⟩ ?_; clear ha a; intro v106 w107 h108 hx109 a ha
    obtain ⟨b111, hb111⟩ : ∃ b : Int, b = w98.heap.size := ⟨_, rfl⟩; rw [← hb111] at h108
    have q112 := zn_of hb111
    have q113 := Nq.new h101.fpb q112
    have q114 := Nq.madeO q112 h101.blt
    have q115 := Zn.upD q112 hE104
    replace h101 := h101.ext hx109
    have hE116 := Ext.trans hE104 hx109
    obtain ⟨hl117, hF⟩ := app_some hF
    refine o_append ha rfl sl31 rfl rfl rfl h101 h108.src (Nq.nil _) hl117 ?_; clear ha a; intro v118 w119 b120 h121 hc122 hb123 a ha
    replace h121 : Ow Rp.int 2 true w119 [] b120 v118 _ := h121
    have q125 := Nq.appY q114 h108.fpb hb123
    have q126 := Nq.appX q113 (Nq.nil _) hb123 h108.blt
    have q127 := Zn.appD q105 hb123 hE116
    replace h108 := h108.nq hc122 q114
    have hE128 := Ext.then hE116 hc122 (Zn.bl q105)
    refine op_g ha rfl (g_assign rfl) ?_; clear ha a; intro a ha; refine wpList_nil ?_; replace ha := ha.sub (σ' := [(0, va0), (5, (.int .i64 i46)), (6, v118)]) ⟨rfl, rfl, rfl, trivial⟩; refine e_then ?_; refine wp_seq ?_; refine wp_region_lit ?_; (iterate 3 refine op_g ha rfl (g_move rfl) ?_; clear ha a; intro a ha); obtain ⟨hb129a, hb129b, hb129c, hF⟩ := slc_some hF
    obtain ⟨v130, fp131, hrun132, hro133, hsub134⟩ := ha0.slice (lo := (some (.int .i64 i46))) (hi := none) (i := i46) (j := (a0.length : Int)) sl31 (.inr ⟨_, rfl⟩) (.inl ⟨rfl, rfl⟩) ⟨hb129a, hb129b, hb129c⟩
    have q136 := (Pv.mono (Pv.par (fun _ h => h)) hsub134 : Pv (fa0) W.heap.size fp131)
    refine op_g ha rfl (g_slice sl31.und rfl rfl rfl hrun132) ?_; clear ha a; intro a ha; obtain ⟨hl137, hF⟩ := app_some hF
    obtain ⟨_, hs138, _⟩ := (hro133.ext hE128).src
    refine o_append ha rfl sl31 rfl rfl rfl h121 (hs138.up scal_int) (Nq.nil _) hl137 ?_; clear ha a; intro v139 w140 b141 h142 hc143 hb144 a ha
    replace h142 : Ow Rp.int 2 true w140 [] b141 v139 _ := h142
    have q146 := Zn.appD q127 hb144 hE128
    have hE147 := Ext.then hE128 hc143 (Zn.bl q127)
    refine op_g ha rfl (g_assign rfl) ?_; clear ha a; intro a ha; refine wpList_nil ?_; replace ha := ha.sub (σ' := [(4, v139)]) ⟨rfl, trivial⟩; refine e_then ?_; refine wp_ret ?_
    obtain ⟨fp148, h149, hs150⟩ := h142.roF
    obtain rfl := Option.some.inj hF
    exact f_ret1 ha rfl rfl ⟨_, h149, (Pv.mono (Pv.own q146 (zf_nil _)) hs150), hE147⟩
  replace hF := if_f hp73 hF
  rw [show (decide (i46 < (a0.length : Int))) = false from b_false (decide_eq_true_iff) hp73] at ha
  (iterate 6 refine op_unwant ha rfl (yields ha rfl rfl) rfl ?_; clear ha a; intro a ha); refine op_g ha rfl (g_pick rfl rfl) ?_; clear ha a; intro a ha; refine wpList_nil ?_; replace ha := ha.sub (σ' := [(0, va0), (1, (.int .i64 a1)), (5, (.int .i64 i46)), (32, (.bool false))]) ⟨rfl, rfl, rfl, rfl, trivial⟩; refine e_then ?_; refine c_false ha rfl ?_; refine wp_skip ?_; refine e_then ?_; refine wp_seq ?_; refine wp_region_lit ?_; (iterate 2 refine op_g ha rfl (g_move rfl) ?_; clear ha a; intro a ha); obtain ⟨hb151a, hb151b, hb151c, hF⟩ := slc_some hF
  obtain ⟨v152, fp153, hrun154, hro155, hsub156⟩ := ha0.slice (lo := none) (hi := (some (.int .i64 i46))) (i := 0) (j := i46) sl31 (.inl ⟨rfl, rfl⟩) (.inr ⟨_, rfl⟩) ⟨hb151a, hb151b, hb151c⟩
  have q158 := (Pv.mono (Pv.par (fun _ h => h)) hsub156 : Pv (fa0) W.heap.size fp153)
  refine op_g ha rfl (g_slice sl31.und rfl rfl rfl hrun154) ?_; clear ha a; intro a ha; obtain ⟨x159, hc160, hF⟩ := cal_some hF
  refine o_call ha rfl rfl Tryd.call88 (W_spec_l1Copy (hro155.ext hE53) hc160) ?_; clear ha a; rintro v161 w162 ⟨b164, h165, z166, hx163⟩ a ha
  have hE168 := Ext.trans hE53 hx163
  have q169 := Zn.upD z166 hE53
  refine op_g ha rfl (g_move rfl) ?_; clear ha a; intro a ha
  refine o_lit1 (o := true) (y := a1) Rp.int ha rfl sl31 rfl rfl rfl ⟨rfl, ha1, rfl⟩ ?_; clear ha a; intro v170 w171 h172 hx173 a ha
  obtain ⟨b175, hb175⟩ : ∃ b : Int, b = w162.heap.size := ⟨_, rfl⟩; rw [← hb175] at h172
  have q176 := zn_of hb175
  have q177 := Nq.new h165.fpb q176
  have q178 := Nq.madeO q176 h165.blt
  have q179 := Zn.upD q176 hE168
  replace h165 := h165.ext hx173
  have hE180 := Ext.trans hE168 hx173
  obtain ⟨hl181, hF⟩ := app_some hF
  refine o_append ha rfl sl31 rfl rfl rfl h165 h172.src (Nq.nil _) hl181 ?_; clear ha a; intro v182 w183 b184 h185 hc186 hb187 a ha
  replace h185 : Ow Rp.int 2 true w183 [] b184 v182 _ := h185
  have q189 := Nq.appY q178 h172.fpb hb187
  have q190 := Nq.appX q177 (Nq.nil _) hb187 h172.blt
  have q191 := Zn.appD q169 hb187 hE180
  replace h172 := h172.nq hc186 q178
  have hE192 := Ext.then hE180 hc186 (Zn.bl q169)
  refine op_g ha rfl (g_assign rfl) ?_; clear ha a; intro a ha; refine wpList_nil ?_; replace ha := ha.sub (σ' := [(0, va0), (5, (.int .i64 i46)), (6, v182)]) ⟨rfl, rfl, rfl, trivial⟩; refine e_then ?_; refine wp_seq ?_; refine wp_region_lit ?_; (iterate 3 refine op_g ha rfl (g_move rfl) ?_; clear ha a; intro a ha); obtain ⟨hb193a, hb193b, hb193c, hF⟩ := slc_some hF
  obtain ⟨v194, fp195, hrun196, hro197, hsub198⟩ := ha0.slice (lo := (some (.int .i64 i46))) (hi := none) (i := i46) (j := (a0.length : Int)) sl31 (.inr ⟨_, rfl⟩) (.inl ⟨rfl, rfl⟩) ⟨hb193a, hb193b, hb193c⟩
  have q200 := (Pv.mono (Pv.par (fun _ h => h)) hsub198 : Pv (fa0) W.heap.size fp195)
  refine op_g ha rfl (g_slice sl31.und rfl rfl rfl hrun196) ?_; clear ha a; intro a ha; obtain ⟨hl201, hF⟩ := app_some hF
  obtain ⟨_, hs202, _⟩ := (hro197.ext hE192).src
  refine o_append ha rfl sl31 rfl rfl rfl h185 (hs202.up scal_int) (Nq.nil _) hl201 ?_; clear ha a; intro v203 w204 b205 h206 hc207 hb208 a ha
  replace h206 : Ow Rp.int 2 true w204 [] b205 v203 _ := h206
  have q210 := Zn.appD q191 hb208 hE192
  have hE211 := Ext.then hE192 hc207 (Zn.bl q191)
  refine op_g ha rfl (g_assign rfl) ?_; clear ha a; intro a ha; refine wpList_nil ?_; replace ha := ha.sub (σ' := [(4, v203)]) ⟨rfl, trivial⟩; refine e_then ?_; refine wp_ret ?_
  obtain ⟨fp212, h213, hs214⟩ := h206.roF
  obtain rfl := Option.some.inj hF
  exact f_ret1 ha rfl rfl ⟨_, h213, (Pv.mono (Pv.own q210 (zf_nil _)) hs214), hE211⟩
set_option maxHeartbeats 2000000 in
theorem W_spec_l1Link {W : World} {va0_0 : Value} {ba0_0 : Int} {fa0_0 : List Nat} {a0_0 : (List (List Int))} (ha0_0 : Ow (Rp.sl 2 Rp.int) 31 false W fa0_0 ba0_0 va0_0 a0_0) {a1 : Int} (ha1 : InI a1) {a2 : Int} (ha2 : InI a2) {r : (List (List Int))} (hF : F_spec_l1Link a0_0 a1 a2 = some r) :
    Calls Tryd.prog 71 [.agg #[va0_0], .int .i64 a1, .int .i64 a2].toArray W (Ret fun u w' => ∃ (g_a0_0 : List Nat), u = .agg #[va0_0] ∧ Ow (Rp.sl 2 Rp.int) 31 false w' g_a0_0 ba0_0 va0_0 r ∧ Pv fa0_0 W.heap.size g_a0_0 ∧ Chg (bl ba0_0) W w') := by
  refine f_enter Tryd.func71 rfl Tryd.ntmps71 rfl ?_
  intro a ha
  replace ha : Fr 30 [(0, (.agg #[va0_0])), (1, (.int .i64 a1)), (2, (.int .i64 a2))] a := ha
  have hE : Chg (bl ba0_0) W W := Chg.refl _ _
  unfold F_spec_l1Link at hF
  refine wp_seq ?_; refine wp_region_lit ?_
  refine o_box ha rfl rfl rfl ?_; clear ha a; intro b1 w2 hB3 hx4 hlo5 a ha
  have q6 := Zn.one hlo5
  have q7 := Nq.new ha0_0.fpb q6
  have q8 := Nq.made1 hlo5 ha0_0.blt
  have q9 := Zn.upD q6 hE
  replace ha0_0 := ha0_0.ext hx4
  have hE10 := Chg.more hE hx4
  refine o_alloc (cs := [(.slice none 0 0)]) ha rfl Tryd.zeroValue29 rfl ?_; clear ha a; intro b11 w12 hB13 hx14 hlo15 a ha
  have q16 := Zn.one hlo15
  have q17 := Nq.new ha0_0.fpb q16
  have q18 := Nq.made1 hlo15 ha0_0.blt
  have q19 := Nq.new hB3.fpb q16
  have q20 := Nq.made1 hlo15 hB3.bi
  have q21 := Zn.upD q16 hE10
  replace ha0_0 := ha0_0.ext hx14
  replace hB3 := hB3.ext hx14
  have hE22 := Chg.more hE10 hx14
  refine wpList_nil ?_; replace ha := ha.sub (σ' := [(1, (.int .i64 a1)), (2, (.int .i64 a2)), (3, (.pointer (some ⟨b1, 0, none⟩))), (6, (.pointer (some ⟨b11, 0, none⟩)))]) ⟨rfl, rfl, rfl, rfl, trivial⟩; refine e_then ?_; refine wp_seq ?_; refine d_region [0, 1, 2, 3, 4, 5, 6, 7, 8, 9, 10] hmix ?_; refine u_g 0 rfl (by kernel_rfl) (want0 _) ha rfl (g_field0 st29_0 rfl) ?_; clear ha a; intro a ha; refine u_g 1 rfl (by kernel_rfl) (want0 _) ha rfl (g_load Tryd.isAgg27 rfl (hB3.cell rfl)) ?_; clear ha a; intro a ha; refine u_g 2 rfl (by kernel_rfl) (want0 _) ha rfl (g_move rfl) ?_; clear ha a; intro a ha
  refine u_g 3 rfl (by kernel_rfl) (want0 _) ha rfl (g_field0 st29_0 rfl) ?_; clear ha a; intro a ha; refine u_g 4 rfl (by kernel_rfl) (want0 _) ha rfl (g_load Tryd.isAgg27 rfl (hB3.cell rfl)) ?_; clear ha a; intro a ha; refine u_g 5 rfl (by kernel_rfl) (want0 _) ha rfl (g_move rfl) ?_; clear ha a; intro a ha; obtain ⟨x23, g24, gx25, hF⟩ := idx_some hF
  obtain ⟨p26, cs27, f28, hf29, hpb30, hat31, hr32, hi33⟩ := ha0_0.at g24 gx25
  obtain ⟨v34, rfl, h35⟩ := hr32
  have h35 : Ro Rp.int w12 f28 v34 x23 := h35
  have q37 := (Pv.mono (Pv.par (fun _ h => h)) hf29 : Pv (fa0_0) W.heap.size f28)
  have q38 := Nq.mono q7 (fun k hk => List.mem_append_right (bl ba0_0) (hf29 k hk))
  have q39 := Nq.mono q17 (fun k hk => List.mem_append_right (bl ba0_0) (hf29 k hk))
  have q40 := Nq.mono (Ow.ne ha0_0) hf29
  refine u_g 6 rfl (by kernel_rfl) (want0 _) ha rfl (hi33.gives sl27 rfl rfl) ?_; clear ha a; intro a ha; refine u_g 7 rfl (by kernel_rfl) (want0 _) ha rfl (g_load Tryd.isAgg31 rfl hat31.one) ?_; clear ha a; intro a ha; refine u_g 8 rfl (by kernel_rfl) (want0 _) ha rfl (g_move rfl) ?_; clear ha a; intro a ha
  refine u_only 9 rfl (by kernel_rfl) ?_; intro w41 hx42
  replace ha0_0 := ha0_0.ext hx42
  replace hB3 := hB3.ext hx42
  replace hB13 := hB13.ext hx42
  replace h35 := h35.ext hx42
  have hE43 := Chg.more hE22 hx42
  obtain ⟨x44, hc45, hF⟩ := cal_some hF
  refine o_call ha rfl rfl Tryd.call92 (W_spec_l1Into h35 ha2 hc45) ?_; clear ha a; rintro v46 w47 ⟨fp49, h50, pv51, hx48⟩ a ha
  have q53 := Nq.rd pv51 q40 ha0_0.blt
  have q54 := Nq.rd pv51 q38 hB3.bi
  have q55 := Nq.rd pv51 q39 hB13.bi
  have q56 := (Pv.call pv51 (q37) hE43.size : Pv (fa0_0) W.heap.size fp49)
  replace ha0_0 := ha0_0.ext hx48
  replace hB3 := hB3.ext hx48
  replace hB13 := hB13.ext hx48
  replace h35 := h35.ext hx48
  have hE57 := Chg.more hE43 hx48
  refine wpList_nil (e_sq ?_)
  refine ⟨fun _ => hx48, ?_⟩
  obtain ⟨x58, g59, gx60, hF⟩ := idx_some hF
  obtain ⟨p61, cs62, f63, hf64, hpb65, hat66, hr67, hi68⟩ := ha0_0.at g59 gx60
  obtain ⟨v69, rfl, h70⟩ := hr67
  have h70 : Ro Rp.int w47 f63 v69 x58 := h70
  have q72 := (Pv.mono (Pv.par (fun _ h => h)) hf64 : Pv (fa0_0) W.heap.size f63)
  have q73 := Nq.mono q7 (fun k hk => List.mem_append_right (bl ba0_0) (hf64 k hk))
  have q74 := Nq.mono q17 (fun k hk => List.mem_append_right (bl ba0_0) (hf64 k hk))
  have q75 := Nq.mono (Ow.ne ha0_0) hf64
  refine u_g 10 rfl (by kernel_rfl) (want0 _) ha rfl (hi68.gives sl27 rfl rfl) ?_; clear ha a; intro a ha
  refine u_only 11 rfl (by kernel_rfl) ?_; intro w76 hx77
  replace ha0_0 := ha0_0.ext hx77
  replace hB3 := hB3.ext hx77
  replace hB13 := hB13.ext hx77
  replace h35 := h35.ext hx77
  replace h50 := h50.ext hx77
  replace h70 := h70.ext hx77
  have hE78 := Chg.more hE57 hx77
  refine o_storeE (f := fp49) (q := x44) ha Tryd.sizeOf31 rfl rfl h50.cells ha0_0 hi68 (Rp.mkR h50) q53 ?_; intro w79 fs80 h81 hc82 hs83
  have q84 := Nq.setX q7 q54 hs83.mem
  have q85 := Nq.setX q17 q55 hs83.mem
  have q86 := (Pv.set hs83 (Pv.par (fun _ h => h)) q56 : Pv (fa0_0) W.heap.size fs80)
  replace hB3 := hB3.nq hc82 q8
  replace hB13 := hB13.nq hc82 q18
  replace h35 := h35.nq hc82 q40
  replace h50 := h50.nq hc82 q53
  replace h70 := h70.nq hc82 q75
  have hE87 := Chg.same hE78 hc82
  refine wpList_nil (e_sq ?_)
  refine ⟨fun h => absurd h (by decide), ?_⟩
  refine u_done (by kernel_rfl) ?_; intro w88 hx89
  replace h81 := h81.ext hx89
  replace hB3 := hB3.ext hx89
  replace hB13 := hB13.ext hx89
  replace h35 := h35.ext hx89
  replace h50 := h50.ext hx89
  replace h70 := h70.ext hx89
  have hE90 := Chg.more hE87 hx89
  replace ha := ha.sub (σ' := [(1, (.int .i64 a1)), (2, (.int .i64 a2)), (3, (.pointer (some ⟨b1, 0, none⟩))), (6, (.pointer (some ⟨b11, 0, none⟩)))]) ⟨rfl, rfl, rfl, rfl, trivial⟩; refine e_then ?_; refine wp_seq ?_; refine d_region [0, 1, 2, 3, 4, 5, 6, 7, 8, 9, 10] hmix ?_; refine u_g 0 rfl (by kernel_rfl) (want0 _) ha rfl (g_field0 st29_0 rfl) ?_; clear ha a; intro a ha; refine u_g 1 rfl (by kernel_rfl) (want0 _) ha rfl (g_load Tryd.isAgg27 rfl (hB3.cell rfl)) ?_; clear ha a; intro a ha; refine u_g 2 rfl (by kernel_rfl) (want0 _) ha rfl (g_move rfl) ?_; clear ha a; intro a ha; refine u_g 3 rfl (by kernel_rfl) (want0 _) ha rfl (g_field0 st29_0 rfl) ?_; clear ha a; intro a ha
  refine u_g 4 rfl (by kernel_rfl) (want0 _) ha rfl (g_load Tryd.isAgg27 rfl (hB3.cell rfl)) ?_; clear ha a; intro a ha; refine u_g 5 rfl (by kernel_rfl) (want0 _) ha rfl (g_move rfl) ?_; clear ha a; intro a ha; obtain ⟨x91, g92, gx93, hF⟩ := idx_some hF
  obtain ⟨p94, cs95, f96, hf97, hpb98, hat99, hr100, hi101⟩ := h81.at g92 gx93
  obtain ⟨v102, rfl, h103⟩ := hr100
  have h103 : Ro Rp.int w88 f96 v102 x91 := h103
  have q105 := (Pv.mono (q86) hf97 : Pv (fa0_0) W.heap.size f96)
  have q106 := Nq.mono q84 (fun k hk => List.mem_append_right (bl ba0_0) (hf97 k hk))
  have q107 := Nq.mono q85 (fun k hk => List.mem_append_right (bl ba0_0) (hf97 k hk))
  have q108 := Nq.mono (Ow.ne h81) hf97
  refine u_g 6 rfl (by kernel_rfl) (want0 _) ha rfl (hi101.gives sl27 rfl rfl) ?_; clear ha a; intro a ha; refine u_g 7 rfl (by kernel_rfl) (want0 _) ha rfl (g_load Tryd.isAgg31 rfl hat99.one) ?_; clear ha a; intro a ha; refine u_g 8 rfl (by kernel_rfl) (want0 _) ha rfl (g_move rfl) ?_; clear ha a; intro a ha
  refine u_only 9 rfl (by kernel_rfl) ?_; intro w109 hx110
  replace h81 := h81.ext hx110
  replace hB3 := hB3.ext hx110
  replace hB13 := hB13.ext hx110
  replace h103 := h103.ext hx110
  have hE111 := Chg.more hE90 hx110
  obtain ⟨x112, hc113, hF⟩ := cal_some hF
  refine o_call ha rfl rfl Tryd.call92 (W_spec_l1Into h103 ha1 hc113) ?_; clear ha a; rintro v114 w115 ⟨fp117, h118, pv119, hx116⟩ a ha
  have q121 := Nq.rd pv119 q108 h81.blt
  have q122 := Nq.rd pv119 q106 hB3.bi
  have q123 := Nq.rd pv119 q107 hB13.bi
  have q124 := (Pv.call pv119 (q105) hE111.size : Pv (fa0_0) W.heap.size fp117)
  replace h81 := h81.ext hx116
  replace hB3 := hB3.ext hx116
  replace hB13 := hB13.ext hx116
  replace h103 := h103.ext hx116
  have hE125 := Chg.more hE111 hx116
  refine wpList_nil (e_sq ?_)
  refine ⟨fun _ => hx116, ?_⟩
  obtain ⟨x126, g127, gx128, hF⟩ := idx_some hF
  obtain ⟨p129, cs130, f131, hf132, hpb133, hat134, hr135, hi136⟩ := h81.at g127 gx128
  obtain ⟨v137, rfl, h138⟩ := hr135
  have h138 : Ro Rp.int w115 f131 v137 x126 := h138
  have q140 := (Pv.mono (q86) hf132 : Pv (fa0_0) W.heap.size f131)
  have q141 := Nq.mono q84 (fun k hk => List.mem_append_right (bl ba0_0) (hf132 k hk))
  have q142 := Nq.mono q85 (fun k hk => List.mem_append_right (bl ba0_0) (hf132 k hk))
  have q143 := Nq.mono (Ow.ne h81) hf132
  refine u_g 10 rfl (by kernel_rfl) (want0 _) ha rfl (hi136.gives sl27 rfl rfl) ?_; clear ha a; intro a ha
  refine u_only 11 rfl (by kernel_rfl) ?_; intro w144 hx145
  replace h81 := h81.ext hx145
  replace hB3 := hB3.ext hx145
  replace hB13 := hB13.ext hx145
  replace h103 := h103.ext hx145
  replace h118 := h118.ext hx145
  replace h138 := h138.ext hx145
  have hE146 := Chg.more hE125 hx145
  refine o_storeE (f := fp117) (q := x112) ha Tryd.sizeOf31 rfl rfl h118.cells h81 hi136 (Rp.mkR h118) q121 ?_; intro w147 fs148 h149 hc150 hs151
  have q152 := Nq.setX q84 q122 hs151.mem
  have q153 := Nq.setX q85 q123 hs151.mem
  have q154 := (Pv.set hs151 q86 q124 : Pv (fa0_0) W.heap.size fs148)
  replace hB3 := hB3.nq hc150 q8
  replace hB13 := hB13.nq hc150 q18
  replace h103 := h103.nq hc150 q108
  replace h118 := h118.nq hc150 q121
  replace h138 := h138.nq hc150 q143
  have hE155 := Chg.same hE146 hc150
  refine wpList_nil (e_sq ?_)
  refine ⟨fun h => absurd h (by decide), ?_⟩
  refine u_done (by kernel_rfl) ?_; intro w156 hx157
  replace h149 := h149.ext hx157
  replace hB3 := hB3.ext hx157
  replace hB13 := hB13.ext hx157
  replace h103 := h103.ext hx157
  replace h118 := h118.ext hx157
  replace h138 := h138.ext hx157
  have hE158 := Chg.more hE155 hx157
  replace ha := ha.sub (σ' := [(3, (.pointer (some ⟨b1, 0, none⟩))), (6, (.pointer (some ⟨b11, 0, none⟩)))]) ⟨rfl, rfl, trivial⟩; refine e_then ?_; refine wp_seq ?_; refine wp_region_lit ?_; refine op_g ha rfl (g_loadA (cs := [va0_0]) Tryd.isAgg29 Tryd.sizeOf29 rfl (by simp) hB3.all) ?_; clear ha a; intro a ha
  refine o_storeA (vs := [va0_0]) ha hB13 Tryd.sizeOf29 rfl rfl (by intro c hc; simp only [List.mem_cons, List.not_mem_nil, or_false] at hc; rcases hc with hc <;> subst hc <;> first | rfl | exact h149.oneC) rfl ?_; intro w159 hB160 hc161
  replace hc161 := hc161.bl
  replace hB160 : Bx w159 b11 [va0_0] 29 := hB160
  replace h149 := h149.nq hc161 q153
  replace hB3 := hB3.nq hc161 q19
  have hE162 := Chg.own hE158 hc161 (Zn.bl q21)
  refine wpList_nil ?_; replace ha := ha.sub (σ' := [(6, (.pointer (some ⟨b11, 0, none⟩)))]) ⟨rfl, trivial⟩; refine e_then ?_; refine wp_ret ?_; obtain rfl := Option.some.inj hF
  exact f_retC (cs := [va0_0]) ha rfl rfl Tryd.isAgg29 Tryd.sizeOf29 hB160 ⟨_, rfl, h149, (q154), hE162⟩
set_option maxHeartbeats 2000000 in
theorem W_spec_GraphOf {W : World} {a0 : Int} (ha0 : InI a0) {va1 : Value} {fa1 : List Nat} {a1 : (List (List Int))} (ha1 : Ro (Rp.sl 2 Rp.int) W fa1 va1 a1) {r : ((List (List Int)) × Bool)} (hF : F_spec_GraphOf a0 a1 = some r) :
    Calls Tryd.prog 28 [.int .i64 a0, va1].toArray W (Ret fun u w' => ∃ (u0 : Value) (u1 : Value) (u0_0 : Value) (fp_u0_0 : List Nat), u = .tuple #[u0, u1] ∧ u0 = .agg #[u0_0] ∧ Ro (Rp.sl 2 Rp.int) w' fp_u0_0 u0_0 r.1 ∧ Pv (fa1) W.heap.size fp_u0_0 ∧ u1 = .bool r.2 ∧ Ext W w') := by
  refine f_enter Tryd.func28 rfl Tryd.ntmps28 rfl ?_
  intro a ha
  replace ha : Fr 56 [(0, (.int .i64 a0)), (1, va1)] a := ha
  have hE : Chg [] W W := Chg.refl _ _
  unfold F_spec_GraphOf at hF
  refine wp_seq ?_; refine wp_region_lit ?_
  refine o_alloc (cs := [(.slice none 0 0)]) ha rfl Tryd.zeroValue29 rfl ?_; clear ha a; intro b1 w2 hB3 hx4 hlo5 a ha
  have q6 := Zn.one hlo5
  have q7 := Zn.upD q6 hE
  have hE8 := Ext.trans hE hx4
  refine op_g ha rfl (g_assign rfl) ?_; clear ha a; intro a ha; refine wpList_nil ?_; replace ha := ha.sub (σ' := [(0, (.int .i64 a0)), (1, va1), (4, (.pointer (some ⟨b1, 0, none⟩)))]) ⟨rfl, rfl, rfl, trivial⟩; refine e_then ?_; refine wp_seq ?_; refine wp_seq ?_; refine wp_region_lit ?_; refine op_g ha rfl (g_move rfl) ?_; clear ha a; intro a ha; obtain ⟨x25, hc26, hF⟩ := cal_some hF
  refine o_call ha rfl rfl Tryd.call34 (W_spec_l1In ha0 (show InI 1 from by decide) (show InI 16 from by decide) hc26) ?_; clear ha a; rintro v27 w28 ⟨rfl, hx29⟩ a ha
  replace hB3 := hB3.ext hx29
  have hE30 := Ext.trans hE8 hx29
  refine op_g ha rfl (g_not rfl) ?_; clear ha a; intro a ha; refine op_g ha rfl (g_move rfl) ?_; clear ha a; intro a ha
  by_cases hp31 : ¬ (x25 = true)
  · replace hF := if_t hp31 hF
    rw [show (!x25) = true from (n_iff (Iff.rfl)).2 hp31] at ha
    (iterate 3 refine op_unwant ha rfl (yields ha rfl rfl) rfl ?_; clear ha a; intro a ha); refine op_g ha rfl (g_pick rfl rfl) ?_; clear ha a; intro a ha; refine wpList_nil ?_; replace ha := ha.sub (σ' := [(0, (.int .i64 a0)), (1, va1), (4, (.pointer (some ⟨b1, 0, none⟩))), (15, (.bool true))]) ⟨rfl, rfl, rfl, rfl, trivial⟩; refine e_then ?_; refine c_true ha rfl ?_; refine wp_seq ?_; refine wp_region_lit ?_; refine op_g ha rfl (g_build (vs := []) (cells := #[(.slice none 0 0)]) rfl (by rfl)) ?_; clear ha a; intro a ha
    refine o_storeA (vs := [(.slice none 0 0)]) ha hB3 Tryd.sizeOf29 rfl rfl (by intro c hc; simp only [List.mem_cons, List.not_mem_nil, or_false] at hc; rcases hc with hc <;> subst hc <;> first | rfl | exact rfl) rfl ?_; intro w32 hB33 hc34
    replace hc34 := hc34.bl
    replace hB33 : Bx w32 b1 [(.slice none 0 0)] 29 := hB33
    have hE35 := Ext.then hE30 hc34 (Zn.bl q7)
    refine op_g ha rfl (g_assign rfl) ?_; clear ha a; intro a ha; refine wpList_nil ?_; replace ha := ha.sub (σ' := [(4, (.pointer (some ⟨b1, 0, none⟩))), (5, (.bool false))]) ⟨rfl, rfl, trivial⟩; refine e_then ?_; refine wp_ret ?_; refine e_then_ret ?_; obtain rfl := Option.some.inj hF
    exact f_retC2 (cs := [(.slice none 0 0)]) ha rfl rfl Tryd.isAgg29 Tryd.sizeOf29 hB33 rfl ⟨_, _, _, [], rfl, rfl, (Ro.nil _), (Pv.nil), rfl, hE35⟩
  replace hF := if_f hp31 hF
  rw [show (!x25) = false from b_false (n_iff (Iff.rfl)) hp31] at ha
  refine op_want (yields ha rfl rfl) ?_; refine op_g ha rfl (g_move rfl) ?_; clear ha a; intro a ha; refine op_want (yields ha rfl rfl) ?_; refine op_g ha rfl (g_lenR sl27.und ha1 rfl) ?_; clear ha a; intro a ha; refine op_want (yields ha rfl rfl) ?_; refine op_g ha rfl (g_gtr rfl rfl) ?_; clear ha a; intro a ha; refine op_g ha rfl (g_pick rfl rfl) ?_; clear ha a; intro a ha; refine wpList_nil ?_; replace ha := ha.sub (σ' := [(0, (.int .i64 a0)), (1, va1), (4, (.pointer (some ⟨b1, 0, none⟩))), (15, (.bool (decide (120 < (a1.length : Int)))))]) ⟨rfl, rfl, rfl, rfl, trivial⟩; refine e_then ?_; refine c_cond (120 < (a1.length : Int)) ha rfl (decide_eq_true_iff) (fun hp36 => ?_) (fun hp36 => ?_)
  · replace hF := if_t hp36 hF
    refine wp_seq ?_; refine wp_region_lit ?_; refine op_g ha rfl (g_build (vs := []) (cells := #[(.slice none 0 0)]) rfl (by rfl)) ?_; clear ha a; intro a ha
    refine o_storeA (vs := [(.slice none 0 0)]) ha hB3 Tryd.sizeOf29 rfl rfl (by intro c hc; simp only [List.mem_cons, List.not_mem_nil, or_false] at hc; rcases hc with hc <;> subst hc <;> first | rfl | exact rfl) rfl ?_; intro w37 hB38 hc39
    replace hc39 := hc39.bl
    replace hB38 : Bx w37 b1 [(.slice none 0 0)] 29 := hB38
    have hE40 := Ext.then hE30 hc39 (Zn.bl q7)
    refine op_g ha rfl (g_assign rfl) ?_; clear ha a; intro a ha; refine wpList_nil ?_; replace ha := ha.sub (σ' := [(4, (.pointer (some ⟨b1, 0, none⟩))), (5, (.bool false))]) ⟨rfl, rfl, trivial⟩; refine e_then ?_; refine wp_ret ?_; refine e_then_ret ?_; obtain rfl := Option.some.inj hF
    exact f_retC2 (cs := [(.slice none 0 0)]) ha rfl rfl Tryd.isAgg29 Tryd.sizeOf29 hB38 rfl ⟨_, _, _, [], rfl, rfl, (Ro.nil _), (Pv.nil), rfl, hE40⟩
  replace hF := if_f hp36 hF; refine wp_skip ?_; refine e_then ?_; refine wp_seq ?_; refine wp_region_lit ?_; refine op_g ha rfl (g_move rfl) ?_; clear ha a; intro a ha; obtain ⟨x41, hc42, hF⟩ := cal_some hF
  refine o_call ha rfl rfl Tryd.call69 (W_spec_l1Empty ha0 hc42) ?_; clear ha a; rintro v43 w44 ⟨u46, b47, fs51, rfl, h48, z49, zf52, nd53, hx45⟩ a ha
  have q54 := Nq.new hB3.fpb z49
  have q55 := Nq.madeF z49 zf52 hB3.bi
  have q56 := Nf.new hB3.fpb zf52
  replace hB3 := hB3.ext hx45
  have hE57 := Ext.trans hE30 hx45
  have q58 := Zn.upD z49 hE30
  have q59 := zf_up zf52 hE30
  refine o_alloc (cs := [(.slice none 0 0)]) ha rfl Tryd.zeroValue29 rfl ?_; clear ha a; intro b60 w61 hB62 hx63 hlo64 a ha
  have q65 := Zn.one hlo64
  have q66 := Nq.new hB3.fpb q65
  have q67 := Nq.made1 hlo64 hB3.bi
  have q68 := Nq.new h48.fpb q65
  have q69 := Nq.made1 hlo64 h48.blt
  have q70 := Zn.upD q65 hE57
  replace hB3 := hB3.ext hx63
  replace h48 := h48.ext hx63
  have hE71 := Ext.trans hE57 hx63
  refine o_storeA (vs := [u46]) ha hB62 Tryd.sizeOf29 rfl rfl (by intro c hc; simp only [List.mem_cons, List.not_mem_nil, or_false] at hc; rcases hc with hc <;> subst hc <;> first | rfl | exact h48.oneC) rfl ?_; intro w72 hB73 hc74
  replace hc74 := hc74.bl
  replace hB73 : Bx w72 b60 [u46] 29 := hB73
  replace hB3 := hB3.nq hc74 q66
  replace h48 := h48.nq hc74 q68
  have hE75 := Ext.then hE71 hc74 (Zn.bl q70)
  refine wpList_nil ?_; replace ha := ha.sub (σ' := [(0, (.int .i64 a0)), (1, va1), (4, (.pointer (some ⟨b1, 0, none⟩))), (6, (.pointer (some ⟨b60, 0, none⟩)))]) ⟨rfl, rfl, rfl, rfl, trivial⟩; refine e_then ?_; refine wp_seq ?_; refine wp_seq ?_; refine wp_region_lit ?_; refine op_g ha rfl (g_assign rfl) ?_; clear ha a; intro a ha; refine wpList_nil ?_; replace ha := ha.sub (σ' := [(0, (.int .i64 a0)), (1, va1), (4, (.pointer (some ⟨b1, 0, none⟩))), (6, (.pointer (some ⟨b60, 0, none⟩))), (7, (.int .i64 0))]) ⟨rfl, rfl, rfl, rfl, rfl, trivial⟩; refine e_then ?_; obtain ⟨o531, ho532, hK533⟩ := bnd_some hF
  obtain ⟨n534, hn535⟩ := lp_some ho532; clear ho532
  refine c_loop (fun a w => ∃ (l522 : (List (List Int))) (fs519 : List Nat) (v523 : Value) (b524 : Int), Fr 56 [(4, (.pointer (some ⟨b1, 0, none⟩))), (6, (.pointer (some ⟨b60, 0, none⟩)))] a ∧ Chg [] W w ∧ Bx w b1 [(.slice none 0 0)] 29 ∧ Zn W (b1 : Int) ∧ Bx w b60 [v523] 29 ∧ Zn W (b60 : Int) ∧ Ow (Rp.sl 2 Rp.int) 31 false w fs519 b524 v523 l522 ∧ Zn W b524 ∧ (∀ k ∈ fs519, W.heap.size ≤ k) ∧ Nq ([b1]) (b60 : Int) ∧ Nq ([b1]) b524 ∧ Nq ([b60]) (b1 : Int) ∧ Nq ([b60]) b524 ∧ Nq (bl b524 ++ fs519) (b1 : Int) ∧ Nq (bl b524 ++ fs519) (b60 : Int) ∧ o531 = .inl l522) (fun n a w => ∃ (l302 : (List (List Int))) (i305 : Int) (fs299 : List Nat) (v303 : Value) (b304 : Int), Fr 56 [(0, (.int .i64 a0)), (1, va1), (4, (.pointer (some ⟨b1, 0, none⟩))), (6, (.pointer (some ⟨b60, 0, none⟩))), (7, (.int .i64 i305))] a ∧ Chg [] W w ∧ InI i305 ∧ Bx w b1 [(.slice none 0 0)] 29 ∧ Zn W (b1 : Int) ∧ Bx w b60 [v303] 29 ∧ Zn W (b60 : Int) ∧ Ow (Rp.sl 2 Rp.int) 31 false w fs299 b304 v303 l302 ∧ Zn W b304 ∧ (∀ k ∈ fs299, W.heap.size ≤ k) ∧ Nq ([b1]) (b60 : Int) ∧ Nq ([b1]) b304 ∧ Nq ([b60]) (b1 : Int) ∧ Nq ([b60]) b304 ∧ Nq (bl b304 ++ fs299) (b1 : Int) ∧ Nq (bl b304 ++ fs299) (b60 : Int) ∧ lpN (fun s => F_spec_GraphOf_l1 a0 a1 s.1 s.2) n (l302, i305) = some o531) n534 ⟨x41, 0, fs51, u46, b47, ha.sub ⟨rfl, rfl, rfl, rfl, rfl, trivial⟩, hE75, (show InI 0 from by decide), hB3, q7, hB73, q70, (Ow.weak h48), q58, q59, q66, q54, q67, q69, q55, q68, hn535⟩ ?_ ?_
  · rintro m539 a w291 ⟨l302, i305, fs299, v303, b304, ha, hE313, hI306, hB292, z293, hB294, z295, h297, z298, zf300, q307, q308, q309, q310, q311, q312, hF⟩
    cases m539 with
    | zero => exact (lpN_zero hF).elim
    | succ m539 =>
      obtain ⟨z538, hF, hN537⟩ := lpN_succ hF
      have hF : F_spec_GraphOf_l1 a0 a1 l302 i305 = some z538 := hF; unfold F_spec_GraphOf_l1 at hF
      refine wp_seq ?_; refine wp_seq ?_; refine wp_region_lit ?_; (iterate 2 refine op_g ha rfl (g_move rfl) ?_; clear ha a; intro a ha); refine op_g ha rfl (g_lenR sl27.und ha1 rfl) ?_; clear ha a; intro a ha; refine op_g ha rfl (g_lss rfl rfl) ?_; clear ha a; intro a ha; refine wpList_nil ?_; replace ha := ha.sub (σ' := [(0, (.int .i64 a0)), (1, va1), (4, (.pointer (some ⟨b1, 0, none⟩))), (6, (.pointer (some ⟨b60, 0, none⟩))), (7, (.int .i64 i305)), (22, (.bool (decide (i305 < (a1.length : Int)))))]) ⟨rfl, rfl, rfl, rfl, rfl, rfl, trivial⟩; refine e_then ?_; refine c_cond (i305 < (a1.length : Int)) ha rfl (decide_eq_true_iff) (fun hp540 => ?_) (fun hp540 => ?_)
      · replace hF := if_t hp540 hF
        refine wp_skip ?_; refine e_then ?_; refine wp_seq ?_; refine wp_block ?_; refine wp_seq ?_; refine wp_seq ?_; refine wp_region_lit ?_; (iterate 2 refine op_g ha rfl (g_move rfl) ?_; clear ha a; intro a ha); obtain ⟨x587, g588, gx589, hF⟩ := idx_some hF
        obtain ⟨p590, cs591, f592, hf593, hpb594, hat595, hr596, hi597⟩ := ha1.at g588 gx589
        obtain ⟨v598, rfl, h599⟩ := hr596
        have h599 : Ro Rp.int W f592 v598 x587 := h599
        have q601 := (Pv.mono (Pv.par (fun _ h => h)) hf593 : Pv (fa1) W.heap.size f592)
        refine op_g ha rfl (hi597.gives sl27 rfl rfl) ?_; clear ha a; intro a ha; refine op_g ha rfl (g_load0 hE313 Tryd.isAgg31 rfl hat595.one) ?_; clear ha a; intro a ha; refine op_g ha rfl (g_lenR sl31.und h599 rfl) ?_; clear ha a; intro a ha; refine op_g ha rfl (g_neq rfl rfl) ?_; clear ha a; intro a ha; refine op_g ha rfl (g_move rfl) ?_; clear ha a; intro a ha
        by_cases hp602 : (x587.length : Int) ≠ 2
        · replace hF := if_t hp602 hF
          rw [show (decide ((x587.length : Int) ≠ 2)) = true from (decide_eq_true_iff).2 hp602] at ha
          (iterate 7 refine op_unwant ha rfl (yields ha rfl rfl) rfl ?_; clear ha a; intro a ha); refine op_g ha rfl (g_pick rfl rfl) ?_; clear ha a; intro a ha; refine wpList_nil ?_; replace ha := ha.sub (σ' := [(0, (.int .i64 a0)), (1, va1), (4, (.pointer (some ⟨b1, 0, none⟩))), (6, (.pointer (some ⟨b60, 0, none⟩))), (7, (.int .i64 i305)), (39, (.bool true))]) ⟨rfl, rfl, rfl, rfl, rfl, rfl, trivial⟩; refine e_then ?_; refine c_true ha rfl ?_; refine wp_seq ?_; refine wp_region_lit ?_; refine op_g ha rfl (g_build (vs := []) (cells := #[(.slice none 0 0)]) rfl (by rfl)) ?_; clear ha a; intro a ha
          refine o_storeA (vs := [(.slice none 0 0)]) ha hB292 Tryd.sizeOf29 rfl rfl (by intro c hc; simp only [List.mem_cons, List.not_mem_nil, or_false] at hc; rcases hc with hc <;> subst hc <;> first | rfl | exact rfl) rfl ?_; intro w603 hB604 hc605
          replace hc605 := hc605.bl
          replace hB604 : Bx w603 b1 [(.slice none 0 0)] 29 := hB604
          replace hB294 := hB294.nq hc605 q309
          replace h297 := h297.nq hc605 q311
          have hE606 := Ext.then hE313 hc605 (Zn.bl z293)
          refine op_g ha rfl (g_assign rfl) ?_; clear ha a; intro a ha; refine wpList_nil ?_; replace ha := ha.sub (σ' := [(4, (.pointer (some ⟨b1, 0, none⟩))), (5, (.bool false))]) ⟨rfl, rfl, trivial⟩; refine e_then ?_; refine wp_ret ?_; refine e_then_ret ?_; refine e_blk_ret ?_; refine e_then_ret ?_; refine e_lq_ret ?_; refine e_then_ret ?_; obtain rfl := Option.some.inj hF
          have e607 := LK_inr hN537; subst e607
          have e608 := BK_inr hK533; subst e608
          exact f_retC2 (cs := [(.slice none 0 0)]) ha rfl rfl Tryd.isAgg29 Tryd.sizeOf29 hB604 rfl ⟨_, _, _, [], rfl, rfl, (Ro.nil _), (Pv.nil), rfl, hE606⟩
        replace hF := if_f hp602 hF
        rw [show (decide ((x587.length : Int) ≠ 2)) = false from b_false (decide_eq_true_iff) hp602] at ha
        refine op_want (yields ha rfl rfl) ?_; refine op_g ha rfl (g_move rfl) ?_; clear ha a; intro a ha; refine op_want (yields ha rfl rfl) ?_; refine op_g ha rfl (g_move rfl) ?_; clear ha a; intro a ha; refine op_want (yields ha rfl rfl) ?_; obtain ⟨x609, g610, gx611, hF⟩ := idx_some hF
        obtain ⟨p612, cs613, f614, hf615, hpb616, hat617, hr618, hi619⟩ := ha1.at g610 gx611
        obtain ⟨v620, rfl, h621⟩ := hr618
        have h621 : Ro Rp.int W f614 v620 x609 := h621
        have q623 := (Pv.mono (Pv.par (fun _ h => h)) hf615 : Pv (fa1) W.heap.size f614)
        refine op_g ha rfl (hi619.gives sl27 rfl rfl) ?_; clear ha a; intro a ha; refine op_want (yields ha rfl rfl) ?_; refine op_g ha rfl (g_load0 hE313 Tryd.isAgg31 rfl hat617.one) ?_; clear ha a; intro a ha; refine op_want (yields ha rfl rfl) ?_; refine op_g ha rfl (g_move rfl) ?_; clear ha a; intro a ha; refine op_want (yields ha rfl rfl) ?_; obtain ⟨x624, hc625, hF⟩ := cal_some hF
        refine o_call ha rfl rfl Tryd.call70 (W_spec_l1Set (h621.ext hE313) ha0 hc625) ?_; clear ha a; rintro v626 w627 ⟨rfl, hx628⟩ a ha
        replace hB292 := hB292.ext hx628
        replace hB294 := hB294.ext hx628
        replace h297 := h297.ext hx628
        have hE629 := Ext.trans hE313 hx628
        refine op_want (yields ha rfl rfl) ?_; refine op_g ha rfl (g_not rfl) ?_; clear ha a; intro a ha; refine op_g ha rfl (g_pick rfl rfl) ?_; clear ha a; intro a ha; refine wpList_nil ?_; replace ha := ha.sub (σ' := [(0, (.int .i64 a0)), (1, va1), (4, (.pointer (some ⟨b1, 0, none⟩))), (6, (.pointer (some ⟨b60, 0, none⟩))), (7, (.int .i64 i305)), (32, va1), (33, (.int .i64 i305)), (34, (.pointer (some p612))), (35, v620), (36, (.int .i64 a0)), (37, (.bool x624)), (38, (.bool (!x624))), (39, (.bool (!x624)))]) ⟨rfl, rfl, rfl, rfl, rfl, rfl, rfl, rfl, rfl, rfl, rfl, rfl, rfl, trivial⟩; refine e_then ?_
        refine c_cond (¬ (x624 = true)) ha rfl (n_iff (Iff.rfl)) (fun hp630 => ?_) (fun hp630 => ?_)
        · replace hF := if_t hp630 hF
          refine wp_seq ?_; refine wp_region_lit ?_; refine op_g ha rfl (g_build (vs := []) (cells := #[(.slice none 0 0)]) rfl (by rfl)) ?_; clear ha a; intro a ha
          refine o_storeA (vs := [(.slice none 0 0)]) ha hB292 Tryd.sizeOf29 rfl rfl (by intro c hc; simp only [List.mem_cons, List.not_mem_nil, or_false] at hc; rcases hc with hc <;> subst hc <;> first | rfl | exact rfl) rfl ?_; intro w631 hB632 hc633
          replace hc633 := hc633.bl
          replace hB632 : Bx w631 b1 [(.slice none 0 0)] 29 := hB632
          replace hB294 := hB294.nq hc633 q309
          replace h297 := h297.nq hc633 q311
          have hE634 := Ext.then hE629 hc633 (Zn.bl z293)
          refine op_g ha rfl (g_assign rfl) ?_; clear ha a; intro a ha; refine wpList_nil ?_; replace ha := ha.sub (σ' := [(4, (.pointer (some ⟨b1, 0, none⟩))), (5, (.bool false))]) ⟨rfl, rfl, trivial⟩; refine e_then ?_; refine wp_ret ?_; refine e_then_ret ?_; refine e_blk_ret ?_; refine e_then_ret ?_; refine e_lq_ret ?_; refine e_then_ret ?_; obtain rfl := Option.some.inj hF
          have e635 := LK_inr hN537; subst e635
          have e636 := BK_inr hK533; subst e636
          exact f_retC2 (cs := [(.slice none 0 0)]) ha rfl rfl Tryd.isAgg29 Tryd.sizeOf29 hB632 rfl ⟨_, _, _, [], rfl, rfl, (Ro.nil _), (Pv.nil), rfl, hE634⟩
        replace hF := if_f hp630 hF; refine wp_skip ?_; refine e_then ?_; refine d_region [0, 1, 2, 3, 4, 5, 6, 7, 8, 9, 10, 11, 12] hmix ?_; refine u_g 0 rfl (by kernel_rfl) (want0 _) ha rfl (g_loadA (cs := [v303]) Tryd.isAgg29 Tryd.sizeOf29 rfl (by simp) hB294.all) ?_; clear ha a; intro a ha; refine u_g 1 rfl (by kernel_rfl) (want0 _) ha rfl (g_move rfl) ?_; clear ha a; intro a ha; refine u_g 2 rfl (by kernel_rfl) (want0 _) ha rfl (g_move rfl) ?_; clear ha a; intro a ha; obtain ⟨x637, g638, gx639, hF⟩ := idx_some hF
        obtain ⟨p640, cs641, f642, hf643, hpb644, hat645, hr646, hi647⟩ := ha1.at g638 gx639
        obtain ⟨v648, rfl, h649⟩ := hr646
        have h649 : Ro Rp.int W f642 v648 x637 := h649
        have q651 := (Pv.mono (Pv.par (fun _ h => h)) hf643 : Pv (fa1) W.heap.size f642)
        refine u_g 3 rfl (by kernel_rfl) (want0 _) ha rfl (hi647.gives sl27 rfl rfl) ?_; clear ha a; intro a ha; refine u_g 4 rfl (by kernel_rfl) (want0 _) ha rfl (g_load0 hE629 Tryd.isAgg31 rfl hat645.one) ?_; clear ha a; intro a ha; obtain ⟨x652, g653, gx654, hF⟩ := idx_some hF
        obtain ⟨p655, cs656, f657, hf658, hpb659, hat660, hr661, hi662⟩ := h649.at g653 gx654
        obtain ⟨rfl, hI663, rfl⟩ := hr661
        refine u_g 5 rfl (by kernel_rfl) (want0 _) ha rfl (hi662.gives sl31 rfl rfl) ?_; clear ha a; intro a ha; refine u_g 6 rfl (by kernel_rfl) (want0 _) ha rfl (g_load0 hE629 Tryd.isAgg2 rfl hat660.one) ?_; clear ha a; intro a ha; refine u_g 7 rfl (by kernel_rfl) (want0 _) ha rfl (g_move rfl) ?_; clear ha a; intro a ha; refine u_g 8 rfl (by kernel_rfl) (want0 _) ha rfl (g_move rfl) ?_; clear ha a; intro a ha; obtain ⟨x664, g665, gx666, hF⟩ := idx_some hF
        obtain ⟨p667, cs668, f669, hf670, hpb671, hat672, hr673, hi674⟩ := ha1.at g665 gx666
        obtain ⟨v675, rfl, h676⟩ := hr673
        have h676 : Ro Rp.int W f669 v675 x664 := h676
        have q678 := (Pv.mono (Pv.par (fun _ h => h)) hf670 : Pv (fa1) W.heap.size f669)
        refine u_g 9 rfl (by kernel_rfl) (want0 _) ha rfl (hi674.gives sl27 rfl rfl) ?_; clear ha a; intro a ha; refine u_g 10 rfl (by kernel_rfl) (want0 _) ha rfl (g_load0 hE629 Tryd.isAgg31 rfl hat672.one) ?_; clear ha a; intro a ha; obtain ⟨x679, g680, gx681, hF⟩ := idx_some hF
        obtain ⟨p682, cs683, f684, hf685, hpb686, hat687, hr688, hi689⟩ := h676.at g680 gx681
        obtain ⟨rfl, hI690, rfl⟩ := hr688
        refine u_g 11 rfl (by kernel_rfl) (want0 _) ha rfl (hi689.gives sl31 rfl rfl) ?_; clear ha a; intro a ha; refine u_g 12 rfl (by kernel_rfl) (want0 _) ha rfl (g_load0 hE629 Tryd.isAgg2 rfl hat687.one) ?_; clear ha a; intro a ha
        refine u_only 13 rfl (by kernel_rfl) ?_; intro w691 hx692
        replace hB292 := hB292.ext hx692
        replace hB294 := hB294.ext hx692
        replace h297 := h297.ext hx692
        have hE693 := Ext.trans hE629 hx692
        obtain ⟨x694, hc695, hF⟩ := cal_some hF
        refine o_call ha rfl rfl Tryd.call71 (W_spec_l1Link h297 hI663 hI690 hc695) ?_; clear ha a; rintro v696 w697 ⟨fs700, rfl, h699, pv701, hx698⟩ a ha
        have q702 := Nq.grow pv701 q311 hB292.bi
        have q703 := Nq.grow pv701 q312 hB294.bi
        have q704 := Chg.size hE693
        replace hB292 := hB292.nq hx698 q308
        replace hB294 := hB294.nq hx698 q310
        have hE705 := Ext.then hE693 hx698 (Zn.bl z298)
        have q706 := zf_pv pv701 zf300 q704
        refine wpList_nil (e_sq ?_)
        refine ⟨fun h => absurd h (by decide), ?_⟩
        refine u_only 14 rfl (by kernel_rfl) ?_; intro w707 hx708
        replace hB292 := hB292.ext hx708
        replace hB294 := hB294.ext hx708
        replace h699 := h699.ext hx708
        have hE709 := Ext.trans hE705 hx708
        refine o_storeA (vs := [v303]) ha hB294 Tryd.sizeOf29 rfl rfl (by intro c hc; simp only [List.mem_cons, List.not_mem_nil, or_false] at hc; rcases hc with hc <;> subst hc <;> first | rfl | exact h699.oneC) rfl ?_; intro w710 hB711 hc712
        replace hc712 := hc712.bl
        replace hB711 : Bx w710 b60 [v303] 29 := hB711
        replace hB292 := hB292.nq hc712 q307
        replace h699 := h699.nq hc712 q703
        have hE713 := Ext.then hE709 hc712 (Zn.bl z295)
        refine wpList_nil (e_sq ?_)
        refine ⟨fun h => absurd h (by decide), ?_⟩
        refine u_done (by kernel_rfl) ?_; intro w714 hx715
        replace hB292 := hB292.ext hx715
        replace hB711 := hB711.ext hx715
        replace h699 := h699.ext hx715
        have hE716 := Ext.trans hE713 hx715
        replace ha := ha.sub (σ' := [(0, (.int .i64 a0)), (1, va1), (4, (.pointer (some ⟨b1, 0, none⟩))), (6, (.pointer (some ⟨b60, 0, none⟩))), (7, (.int .i64 i305)), (32, va1), (33, (.int .i64 i305)), (34, (.pointer (some p612))), (35, v620), (36, (.int .i64 a0)), (37, (.bool x624)), (38, (.bool (!x624)))]) ⟨rfl, rfl, rfl, rfl, rfl, rfl, rfl, rfl, rfl, rfl, rfl, rfl, trivial⟩; refine e_blk ?_; refine e_then ?_; refine wp_region_lit ?_; refine op_g ha rfl (g_move rfl) ?_; clear ha a; intro a ha; obtain ⟨hI717, hF⟩ := ck_some hF; refine op_g ha rfl (g_add rfl rfl hI717) ?_; clear ha a; intro a ha
        refine op_g ha rfl (g_assign rfl) ?_; clear ha a; intro a ha; refine wpList_nil ?_; replace ha := ha.sub (σ' := [(0, (.int .i64 a0)), (1, va1), (4, (.pointer (some ⟨b1, 0, none⟩))), (6, (.pointer (some ⟨b60, 0, none⟩))), (7, (.int .i64 (i305 + 1))), (32, va1), (33, (.int .i64 i305)), (34, (.pointer (some p612))), (35, v620), (36, (.int .i64 a0)), (37, (.bool x624)), (38, (.bool (!x624)))]) ⟨rfl, rfl, rfl, rfl, rfl, rfl, rfl, rfl, rfl, rfl, rfl, rfl, trivial⟩; refine e_lq ?_; obtain rfl := Option.some.inj hF
        exact ⟨_, Nat.lt_succ_self _, x694, i305 + 1, fs700, v303, b304, ha.sub ⟨rfl, rfl, rfl, rfl, rfl, trivial⟩, hE716, hI717, hB292, z293, hB711, z295, h699, z298, q706, q307, q308, q309, q310, q702, q703, hN537⟩
      replace hF := if_f hp540 hF; refine wp_exit ?_; refine e_then_exit ?_; refine e_lq_eq ?_; obtain rfl := Option.some.inj hF
      exact ⟨l302, fs299, v303, b304, ha.sub ⟨rfl, rfl, trivial⟩, hE313, hB292, z293, hB294, z295, h297, z298, zf300, q307, q308, q309, q310, q311, q312, (LK_inr hN537).symm⟩
  rintro a w511 ⟨l522, fs519, v523, b524, ha, hE536, hB512, z513, hB514, z515, h517, z518, zf520, q525, q526, q527, q528, q529, q530, rfl⟩
  have hF : F_spec_GraphOf_k2 l522 = some _ := hK533; clear hK533; unfold F_spec_GraphOf_k2 at hF
  refine e_then ?_; refine wp_seq ?_; refine wp_region_lit ?_; refine op_g ha rfl (g_loadA (cs := [v523]) Tryd.isAgg29 Tryd.sizeOf29 rfl (by simp) hB514.all) ?_; clear ha a; intro a ha
  refine o_storeA (vs := [v523]) ha hB512 Tryd.sizeOf29 rfl rfl (by intro c hc; simp only [List.mem_cons, List.not_mem_nil, or_false] at hc; rcases hc with hc <;> subst hc <;> first | rfl | exact h517.oneC) rfl ?_; intro w719 hB720 hc721
  replace hc721 := hc721.bl
  replace hB720 : Bx w719 b1 [v523] 29 := hB720
  replace hB514 := hB514.nq hc721 q527
  replace h517 := h517.nq hc721 q529
  have hE722 := Ext.then hE536 hc721 (Zn.bl z513)
  refine op_g ha rfl (g_assign rfl) ?_; clear ha a; intro a ha; refine wpList_nil ?_; replace ha := ha.sub (σ' := [(4, (.pointer (some ⟨b1, 0, none⟩))), (5, (.bool true))]) ⟨rfl, rfl, trivial⟩; refine e_then ?_; refine wp_ret ?_
  obtain ⟨fp723, h724, hs725⟩ := h517.roF
  obtain rfl := Option.some.inj hF
  exact f_retC2 (cs := [v523]) ha rfl rfl Tryd.isAgg29 Tryd.sizeOf29 hB720 rfl ⟨_, _, _, _, rfl, rfl, h724, (Pv.mono (Pv.own z518 zf520) hs725), rfl, hE722⟩
set_option maxHeartbeats 2000000 in
theorem W_laws_w6Graph {W : World} {va0 : Value} {ba0 : Int} {fa0 : List Nat} {a0 : ((List (BitVec 8)) × Int × Int)} (ha0 : Dc 45 W fa0 ba0 va0 a0) {a1 : Int} (ha1 : InI a1) {r : ((List (List Int)) × ((List (BitVec 8)) × Int × Int))} (hF : F_laws_w6Graph a0 a1 = some r) :
    Calls Tryd.prog 7 [va0, .int .i64 a1].toArray W (Ret fun u w' => ∃ (u_0 : Value) (fp_u_0 : List Nat), u = .agg #[u_0] ∧ Ro (Rp.sl 2 Rp.int) w' fp_u_0 u_0 r.1 ∧ Pv [] W.heap.size fp_u_0 ∧ Dc 45 w' fa0 ba0 va0 r.2 ∧ Chg (bl ba0) W w') := by
  refine f_enter Tryd.func7 rfl Tryd.ntmps7 rfl ?_
  intro a ha
  replace ha : Fr 47 [(0, va0), (1, (.int .i64 a1))] a := ha
  have hE : Chg (bl ba0) W W := Chg.refl _ _
  unfold F_laws_w6Graph at hF
  refine wp_seq ?_; refine wp_region_lit ?_
  refine o_alloc (cs := [(.slice none 0 0)]) ha rfl Tryd.zeroValue29 rfl ?_; clear ha a; intro b1 w2 hB3 hx4 hlo5 a ha
  have q6 := Zn.one hlo5
  have q7 := Nq.new ha0.fpb q6
  have q8 := Nq.made1 hlo5 ha0.blt
  have q9 := Zn.upD q6 hE
  replace ha0 := ha0.ext hx4
  have hE10 := Chg.more hE hx4
  refine wpList_nil ?_; refine e_then ?_; refine wp_seq ?_; refine wp_region_lit ?_; (iterate 2 refine op_g ha rfl (g_move rfl) ?_; clear ha a; intro a ha); obtain ⟨x11, hc12, hF⟩ := cal_some hF
  refine o_call ha rfl rfl Tryd.call21 (W_laws_dice_below ha0 ha1 hc12) ?_; clear ha a; rintro v13 w14 ⟨⟨rfl, hI16⟩, h17, hx15⟩ a ha
  replace hB3 := hB3.nq hx15 q8
  have hE18 := Chg.same hE10 hx15
  obtain ⟨hI19, hF⟩ := ck_some hF; refine op_g ha rfl (g_add rfl rfl hI19) ?_; clear ha a; intro a ha; refine op_g ha rfl (g_assign rfl) ?_; clear ha a; intro a ha; refine wpList_nil ?_; replace ha := ha.sub (σ' := [(0, va0), (4, (.pointer (some ⟨b1, 0, none⟩))), (5, (.int .i64 (1 + x11.1)))]) ⟨rfl, rfl, rfl, trivial⟩; refine e_then ?_; refine wp_seq ?_; refine wp_region_lit ?_; refine op_g ha rfl (g_move rfl) ?_; clear ha a; intro a ha; obtain ⟨x21, hc22, hF⟩ := cal_some hF
  refine o_call ha rfl rfl Tryd.call21 (W_laws_dice_below h17 (show InI 3 from by decide) hc22) ?_; clear ha a; rintro v23 w24 ⟨⟨rfl, hI26⟩, h27, hx25⟩ a ha
  replace hB3 := hB3.nq hx25 q8
  have hE28 := Chg.same hE18 hx25
  obtain ⟨hI29, hF⟩ := ck_some hF; refine op_g ha rfl (g_add rfl rfl hI29) ?_; clear ha a; intro a ha; refine op_g ha rfl (g_assign rfl) ?_; clear ha a; intro a ha; refine wpList_nil ?_; replace ha := ha.sub (σ' := [(0, va0), (4, (.pointer (some ⟨b1, 0, none⟩))), (5, (.int .i64 (1 + x11.1))), (6, (.int .i64 (1 + x21.1)))]) ⟨rfl, rfl, rfl, rfl, trivial⟩; refine e_then ?_; refine wp_seq ?_; refine wp_region_lit ?_
  refine o_lit0 (Rp.sl 2 Rp.int) ha rfl sl27 ?_; clear ha a; intro v31 w32 h33 hx34 a ha
  obtain ⟨b36, hb36⟩ : ∃ b : Int, b = w24.heap.size := ⟨_, rfl⟩; rw [← hb36] at h33
  have q37 := zn_of hb36
  have q38 := Nq.new h27.fpb q37
  have q39 := Nq.madeO q37 h27.blt
  have q40 := Nq.new hB3.fpb q37
  have q41 := Nq.madeO q37 hB3.bi
  have q42 := Zn.upD q37 hE28
  replace h27 := h27.ext hx34
  replace hB3 := hB3.ext hx34
  have hE43 := Chg.more hE28 hx34
  refine op_g ha rfl (g_assign rfl) ?_; clear ha a; intro a ha; refine wpList_nil ?_; replace ha := ha.sub (σ' := [(0, va0), (4, (.pointer (some ⟨b1, 0, none⟩))), (5, (.int .i64 (1 + x11.1))), (6, (.int .i64 (1 + x21.1))), (7, v31)]) ⟨rfl, rfl, rfl, rfl, rfl, trivial⟩; refine e_then ?_; refine wp_seq ?_; refine wp_seq ?_; refine wp_region_lit ?_; refine op_g ha rfl (g_assign rfl) ?_; clear ha a; intro a ha; refine wpList_nil ?_; replace ha := ha.sub (σ' := [(0, va0), (4, (.pointer (some ⟨b1, 0, none⟩))), (5, (.int .i64 (1 + x11.1))), (6, (.int .i64 (1 + x21.1))), (7, v31), (8, (.int .i64 1))]) ⟨rfl, rfl, rfl, rfl, rfl, rfl, trivial⟩
  refine e_then ?_; obtain ⟨o800, ho801, hK802⟩ := bnd_some hF
  obtain ⟨n803, hn804⟩ := lp_some ho801; clear ho801
  refine c_loop (fun a w => ∃ (l787 : (List (List Int))) (l791 : ((List (BitVec 8)) × Int × Int)) (fs784 : List Nat) (v788 : Value) (b789 : Int), Fr 47 [(4, (.pointer (some ⟨b1, 0, none⟩))), (5, (.int .i64 (1 + x11.1))), (7, v788)] a ∧ Chg (bl ba0) W w ∧ Bx w b1 [(.slice none 0 0)] 29 ∧ Zn W (b1 : Int) ∧ Ow (Rp.sl 2 Rp.int) 31 true w fs784 b789 v788 l787 ∧ Zn W b789 ∧ (∀ k ∈ fs784, W.heap.size ≤ k) ∧ (bl b789 ++ fs784).Nodup ∧ Dc 45 w fa0 ba0 va0 l791 ∧ Nq ([b1]) b789 ∧ Nq ([b1]) ba0 ∧ Nq (bl b789 ++ fs784) (b1 : Int) ∧ Nq (bl b789 ++ fs784) ba0 ∧ Nq (bl ba0 ++ fa0) (b1 : Int) ∧ Nq (bl ba0 ++ fa0) b789 ∧ o800 = .inl (l787, l791)) (fun n a w => ∃ (l409 : ((List (BitVec 8)) × Int × Int)) (l420 : (List (List Int))) (i423 : Int) (fs417 : List Nat) (v421 : Value) (b422 : Int), Fr 47 [(0, va0), (4, (.pointer (some ⟨b1, 0, none⟩))), (5, (.int .i64 (1 + x11.1))), (6, (.int .i64 (1 + x21.1))), (7, v421), (8, (.int .i64 i423))] a ∧ Chg (bl ba0) W w ∧ InI i423 ∧ Dc 45 w fa0 ba0 va0 l409 ∧ Bx w b1 [(.slice none 0 0)] 29 ∧ Zn W (b1 : Int) ∧ Ow (Rp.sl 2 Rp.int) 31 true w fs417 b422 v421 l420 ∧ Zn W b422 ∧ (∀ k ∈ fs417, W.heap.size ≤ k) ∧ (bl b422 ++ fs417).Nodup ∧ Nq (bl ba0 ++ fa0) (b1 : Int) ∧ Nq (bl ba0 ++ fa0) b422 ∧ Nq ([b1]) ba0 ∧ Nq ([b1]) b422 ∧ Nq (bl b422 ++ fs417) ba0 ∧ Nq (bl b422 ++ fs417) (b1 : Int) ∧ lpN (fun s => F_laws_w6Graph_l1 x11 x21 s.1 s.2.1 s.2.2) n (l409, l420, i423) = some o800) n803 ⟨x21.2, ([] : (List (List Int))), 1, [], v31, b36, ha.sub ⟨rfl, rfl, rfl, rfl, rfl, rfl, trivial⟩, hE43, (show InI 1 from by decide), h27, hB3, q9, h33, q42, (zf_nil _), (bl_nodup b36), q7, q38, q8, q40, q39, q41, hn804⟩ ?_ ?_
  · rintro m808 a w407 ⟨l409, l420, i423, fs417, v421, b422, ha, hE431, hI424, h408, hB412, z413, h415, z416, zf418, nd419, q425, q426, q427, q428, q429, q430, hF⟩
    cases m808 with
    | zero => exact (lpN_zero hF).elim
    | succ m808 =>
      obtain ⟨z807, hF, hN806⟩ := lpN_succ hF
      have hF : F_laws_w6Graph_l1 x11 x21 l409 l420 i423 = some z807 := hF; unfold F_laws_w6Graph_l1 at hF
      refine wp_seq ?_; refine wp_seq ?_; refine wp_region_lit ?_; (iterate 2 refine op_g ha rfl (g_move rfl) ?_; clear ha a; intro a ha); refine op_g ha rfl (g_lss rfl rfl) ?_; clear ha a; intro a ha; refine wpList_nil ?_; replace ha := ha.sub (σ' := [(0, va0), (4, (.pointer (some ⟨b1, 0, none⟩))), (5, (.int .i64 (1 + x11.1))), (6, (.int .i64 (1 + x21.1))), (7, v421), (8, (.int .i64 i423)), (22, (.bool (decide (i423 < (1 + x11.1)))))]) ⟨rfl, rfl, rfl, rfl, rfl, rfl, rfl, trivial⟩; refine e_then ?_; refine c_cond (i423 < (1 + x11.1)) ha rfl (decide_eq_true_iff) (fun hp809 => ?_) (fun hp809 => ?_)
      · replace hF := if_t hp809 hF
        refine wp_skip ?_; refine e_then ?_; refine wp_seq ?_; refine wp_block ?_; refine wp_seq ?_; refine wp_region_lit ?_; refine op_g ha rfl (g_assign rfl) ?_; clear ha a; intro a ha; refine wpList_nil ?_; replace ha := ha.sub (σ' := [(0, va0), (4, (.pointer (some ⟨b1, 0, none⟩))), (5, (.int .i64 (1 + x11.1))), (6, (.int .i64 (1 + x21.1))), (7, v421), (8, (.int .i64 i423)), (9, (.int .i64 0))]) ⟨rfl, rfl, rfl, rfl, rfl, rfl, rfl, trivial⟩; refine e_then ?_; obtain ⟨o1054, ho1055, hK1056⟩ := bnd_some hF
        obtain ⟨n1057, hn1058⟩ := lp_some ho1055; clear ho1055
        refine c_loop (fun a w => ∃ (l1034 : ((List (BitVec 8)) × Int × Int)) (l1045 : (List (List Int))) (fs1042 : List Nat) (v1046 : Value) (b1047 : Int), Fr 47 [(0, va0), (4, (.pointer (some ⟨b1, 0, none⟩))), (5, (.int .i64 (1 + x11.1))), (6, (.int .i64 (1 + x21.1))), (7, v1046), (8, (.int .i64 i423))] a ∧ Chg (bl ba0) W w ∧ Dc 45 w fa0 ba0 va0 l1034 ∧ Bx w b1 [(.slice none 0 0)] 29 ∧ Zn W (b1 : Int) ∧ Ow (Rp.sl 2 Rp.int) 31 true w fs1042 b1047 v1046 l1045 ∧ Zn W b1047 ∧ (∀ k ∈ fs1042, W.heap.size ≤ k) ∧ (bl b1047 ++ fs1042).Nodup ∧ Nq (bl ba0 ++ fa0) (b1 : Int) ∧ Nq (bl ba0 ++ fa0) b1047 ∧ Nq ([b1]) ba0 ∧ Nq ([b1]) b1047 ∧ Nq (bl b1047 ++ fs1042) ba0 ∧ Nq (bl b1047 ++ fs1042) (b1 : Int) ∧ o1054 = .inl (l1034, l1045)) (fun n a w => ∃ (l919 : ((List (BitVec 8)) × Int × Int)) (l930 : (List (List Int))) (i933 : Int) (fs927 : List Nat) (v931 : Value) (b932 : Int), Fr 47 [(0, va0), (4, (.pointer (some ⟨b1, 0, none⟩))), (5, (.int .i64 (1 + x11.1))), (6, (.int .i64 (1 + x21.1))), (7, v931), (8, (.int .i64 i423)), (9, (.int .i64 i933))] a ∧ Chg (bl ba0) W w ∧ InI i933 ∧ Dc 45 w fa0 ba0 va0 l919 ∧ Bx w b1 [(.slice none 0 0)] 29 ∧ Zn W (b1 : Int) ∧ Ow (Rp.sl 2 Rp.int) 31 true w fs927 b932 v931 l930 ∧ Zn W b932 ∧ (∀ k ∈ fs927, W.heap.size ≤ k) ∧ (bl b932 ++ fs927).Nodup ∧ Nq (bl ba0 ++ fa0) (b1 : Int) ∧ Nq (bl ba0 ++ fa0) b932 ∧ Nq ([b1]) ba0 ∧ Nq ([b1]) b932 ∧ Nq (bl b932 ++ fs927) ba0 ∧ Nq (bl b932 ++ fs927) (b1 : Int) ∧ lpN (fun s => F_laws_w6Graph_l2 x21 i423 s.1 s.2.1 s.2.2) n (l919, l930, i933) = some o1054) n1057 ⟨l409, l420, 0, fs417, v421, b422, ha.sub ⟨rfl, rfl, rfl, rfl, rfl, rfl, rfl, trivial⟩, hE431, (show InI 0 from by decide), h408, hB412, z413, h415, z416, zf418, nd419, q425, q426, q427, q428, q429, q430, hn1058⟩ ?_ ?_
        · rintro m1062 a w917 ⟨l919, l930, i933, fs927, v931, b932, ha, hE941, hI934, h918, hB922, z923, h925, z926, zf928, nd929, q935, q936, q937, q938, q939, q940, hF⟩
          cases m1062 with
          | zero => exact (lpN_zero hF).elim
          | succ m1062 =>
            obtain ⟨z1061, hF, hN1060⟩ := lpN_succ hF
            have hF : F_laws_w6Graph_l2 x21 i423 l919 l930 i933 = some z1061 := hF; unfold F_laws_w6Graph_l2 at hF
            refine wp_seq ?_; refine wp_seq ?_; refine wp_region_lit ?_; (iterate 2 refine op_g ha rfl (g_move rfl) ?_; clear ha a; intro a ha); refine op_g ha rfl (g_lss rfl rfl) ?_; clear ha a; intro a ha; refine wpList_nil ?_; replace ha := ha.sub (σ' := [(0, va0), (4, (.pointer (some ⟨b1, 0, none⟩))), (5, (.int .i64 (1 + x11.1))), (6, (.int .i64 (1 + x21.1))), (7, v931), (8, (.int .i64 i423)), (9, (.int .i64 i933)), (27, (.bool (decide (i933 < i423))))]) ⟨rfl, rfl, rfl, rfl, rfl, rfl, rfl, rfl, trivial⟩; refine e_then ?_; refine c_cond (i933 < i423) ha rfl (decide_eq_true_iff) (fun hp1063 => ?_) (fun hp1063 => ?_)
            · replace hF := if_t hp1063 hF
              refine wp_skip ?_; refine e_then ?_; refine wp_seq ?_; refine wp_block ?_; refine wp_seq ?_; refine wp_region_lit ?_; refine op_g ha rfl (g_move rfl) ?_; clear ha a; intro a ha; obtain ⟨x1064, hc1065, hF⟩ := cal_some hF
              refine o_call ha rfl rfl Tryd.call21 (W_laws_dice_below h918 (show InI 4 from by decide) hc1065) ?_; clear ha a; rintro v1066 w1067 ⟨⟨rfl, hI1069⟩, h1070, hx1068⟩ a ha
              replace hB922 := hB922.nq hx1068 q937
              replace h925 := h925.nq hx1068 q939
              have hE1071 := Chg.same hE941 hx1068
              refine op_g ha rfl (g_move rfl) ?_; clear ha a; intro a ha; refine op_g ha rfl (g_lss rfl rfl) ?_; clear ha a; intro a ha; refine wpList_nil ?_; replace ha := ha.sub (σ' := [(0, va0), (4, (.pointer (some ⟨b1, 0, none⟩))), (5, (.int .i64 (1 + x11.1))), (6, (.int .i64 (1 + x21.1))), (7, v931), (8, (.int .i64 i423)), (9, (.int .i64 i933)), (33, (.bool (decide (x1064.1 < (1 + x21.1)))))]) ⟨rfl, rfl, rfl, rfl, rfl, rfl, rfl, rfl, trivial⟩; refine e_then ?_; refine c_cond (x1064.1 < (1 + x21.1)) ha rfl (decide_eq_true_iff) (fun hp1072 => ?_) (fun hp1072 => ?_)
              · replace hF := if_t hp1072 hF
                refine wp_region_lit ?_; (iterate 3 refine op_g ha rfl (g_move rfl) ?_; clear ha a; intro a ha)
                have hvob1077 : ∀ p ∈ ([((.int .i64 i933), [(.int .i64 i933)]), ((.int .i64 i423), [(.int .i64 i423)])] : List (Value × List Value)), p.1.cells = p.2.toArray ∧ p.2.length = 1 := by
                  intro p hp; simp only [List.mem_cons, List.not_mem_nil, or_false] at hp; rcases hp with hp | hp <;> subst hp <;> first | exact ⟨rfl, rfl⟩
                refine o_litM (o := true) (f := []) (ps := [((.int .i64 i933), [(.int .i64 i933)]), ((.int .i64 i423), [(.int .i64 i423)])]) (ys := [i933, i423]) Rp.int ha rfl sl31 rfl rfl rfl rfl hvob1077 ⟨[], [], [(.int .i64 i933)], _, rfl, rfl, ⟨rfl, hI934, rfl⟩, ⟨[], [], [(.int .i64 i423)], _, rfl, rfl, ⟨rfl, hI424, rfl⟩, ⟨rfl, rfl⟩⟩⟩ ?_; clear ha a; intro v1073 w1074 h1075 hx1076 a ha
                obtain ⟨b1078, hb1078⟩ : ∃ b : Int, b = w1067.heap.size := ⟨_, rfl⟩; rw [← hb1078] at h1075
                have q1079 := zn_of hb1078
                have q1080 := Nq.new h1070.fpb q1079
                have q1081 := Nq.madeO q1079 h1070.blt
                have q1082 := Nq.new hB922.fpb q1079
                have q1083 := Nq.madeO q1079 hB922.bi
                have q1084 := Nq.new h925.fpb q1079
                have q1085 := Nq.madeO q1079 h925.blt
                have q1086 := Nf.old q1079 (zf_nil _) h925.bnd
                have q1087 := Zn.upD q1079 hE1071
                replace h1070 := h1070.ext hx1076
                replace hB922 := hB922.ext hx1076
                replace h925 := h925.ext hx1076
                have hE1088 := Chg.more hE1071 hx1076
                refine o_lit1 (o := true) (y := [i933, i423]) (Rp.sl 2 Rp.int) ha rfl sl27 rfl rfl h1075.cells (Rp.mkO h1075) ?_; clear ha a; intro v1089 w1090 h1091 hx1092 a ha
                obtain ⟨b1094, hb1094⟩ : ∃ b : Int, b = w1074.heap.size := ⟨_, rfl⟩; rw [← hb1094] at h1091
                have q1095 := zn_of hb1094
                have q1096 := zf_mv q1087 (zf_nil _)
                have q1097 := dj_of q1080
                have q1098 := dj_of q1084
                have q1099 := Nq.new h1070.fpb q1095
                have q1100 := Nq.append (Nq.madeL q1095 h1070.blt) q1081
                have q1101 := Nq.new hB922.fpb q1095
                have q1102 := Nq.append (Nq.madeL q1095 hB922.bi) q1083
                have q1103 := Nq.new h925.fpb q1095
                have q1104 := Nq.append (Nq.madeL q1095 h925.blt) q1085
                have q1105 := Zn.upD q1095 hE1088
                have q1106 := nd_lit (bl_nodup b1078) h1075.fpb hb1094
                replace h1070 := h1070.ext hx1092
                replace hB922 := hB922.ext hx1092
                replace h925 := h925.ext hx1092
                have hE1107 := Chg.more hE1088 hx1092
                obtain ⟨hl1108, hF⟩ := app_some hF
                have q1109 := Nq.right q1104
                refine o_append ha rfl sl27 rfl rfl rfl h925 h1091.src q1109 hl1108 ?_; clear ha a; intro v1110 w1111 b1112 h1113 hc1114 hb1115 a ha
                replace h1113 : Ow (Rp.sl 2 Rp.int) 31 true w1111 (fs927 ++ (bl b1078 ++ [])) b1112 v1110 _ := h1113
                have q1117 := zf_app zf928 q1096
                have q1118 := nd_app nd929 (bl_nodup b1078) q1098 hb1115 h925.fpb h1091.bnd
                have q1119 := Nq.appY q936 h1070.fpb hb1115
                have q1120 := Nq.appX q939 (Nq.right q1100) hb1115 h1070.blt
                have q1121 := Nq.appY q938 hB922.fpb hb1115
                have q1122 := Nq.appX q940 (Nq.right q1102) hb1115 hB922.bi
                have q1123 := Zn.appD z926 hb1115 hE1107
                replace h1070 := h1070.nq hc1114 q936
                replace hB922 := hB922.nq hc1114 q938
                have hE1124 := Chg.own hE1107 hc1114 (Zn.bl z926)
                refine op_g ha rfl (g_assign rfl) ?_; clear ha a; intro a ha; refine wpList_nil ?_; replace ha := ha.sub (σ' := [(0, va0), (4, (.pointer (some ⟨b1, 0, none⟩))), (5, (.int .i64 (1 + x11.1))), (6, (.int .i64 (1 + x21.1))), (7, v1110), (8, (.int .i64 i423)), (9, (.int .i64 i933))]) ⟨rfl, rfl, rfl, rfl, rfl, rfl, rfl, trivial⟩; refine e_blk ?_; refine e_then ?_; refine wp_region_lit ?_; refine op_g ha rfl (g_move rfl) ?_; clear ha a; intro a ha; obtain ⟨hI1125, hF⟩ := ck_some hF; refine op_g ha rfl (g_add rfl rfl hI1125) ?_; clear ha a; intro a ha; refine op_g ha rfl (g_assign rfl) ?_; clear ha a; intro a ha
                refine wpList_nil ?_; replace ha := ha.sub (σ' := [(0, va0), (4, (.pointer (some ⟨b1, 0, none⟩))), (5, (.int .i64 (1 + x11.1))), (6, (.int .i64 (1 + x21.1))), (7, v1110), (8, (.int .i64 i423)), (9, (.int .i64 (i933 + 1)))]) ⟨rfl, rfl, rfl, rfl, rfl, rfl, rfl, trivial⟩; refine e_lq ?_; obtain rfl := Option.some.inj hF
                exact ⟨_, Nat.lt_succ_self _, x1064.2, (l930 ++ ([[i933, i423]])), i933 + 1, (fs927 ++ (bl b1078 ++ [])), v1110, b1112, ha.sub ⟨rfl, rfl, rfl, rfl, rfl, rfl, rfl, trivial⟩, hE1124, hI1125, h1070, hB922, z923, h1113, q1123, q1117, q1118, q935, q1119, q937, q1121, q1120, q1122, hN1060⟩
              replace hF := if_f hp1072 hF; refine wp_skip ?_; refine e_blk ?_; refine e_then ?_; refine wp_region_lit ?_; refine op_g ha rfl (g_move rfl) ?_; clear ha a; intro a ha; obtain ⟨hI1127, hF⟩ := ck_some hF; refine op_g ha rfl (g_add rfl rfl hI1127) ?_; clear ha a; intro a ha; refine op_g ha rfl (g_assign rfl) ?_; clear ha a; intro a ha; refine wpList_nil ?_; replace ha := ha.sub (σ' := [(0, va0), (4, (.pointer (some ⟨b1, 0, none⟩))), (5, (.int .i64 (1 + x11.1))), (6, (.int .i64 (1 + x21.1))), (7, v931), (8, (.int .i64 i423)), (9, (.int .i64 (i933 + 1)))]) ⟨rfl, rfl, rfl, rfl, rfl, rfl, rfl, trivial⟩
              refine e_lq ?_; obtain rfl := Option.some.inj hF
              exact ⟨_, Nat.lt_succ_self _, x1064.2, l930, i933 + 1, fs927, v931, b932, ha.sub ⟨rfl, rfl, rfl, rfl, rfl, rfl, rfl, trivial⟩, hE1071, hI1127, h1070, hB922, z923, h925, z926, zf928, nd929, q935, q936, q937, q938, q939, q940, hN1060⟩
            replace hF := if_f hp1063 hF; refine wp_exit ?_; refine e_then_exit ?_; refine e_lq_eq ?_; obtain rfl := Option.some.inj hF
            exact ⟨l919, l930, fs927, v931, b932, ha.sub ⟨rfl, rfl, rfl, rfl, rfl, rfl, trivial⟩, hE941, h918, hB922, z923, h925, z926, zf928, nd929, q935, q936, q937, q938, q939, q940, (LK_inr hN1060).symm⟩
        rintro a w1032 ⟨l1034, l1045, fs1042, v1046, b1047, ha, hE1059, h1033, hB1037, z1038, h1040, z1041, zf1043, nd1044, q1048, q1049, q1050, q1051, q1052, q1053, rfl⟩
        have hF : F_laws_w6Graph_k3 i423 l1034 l1045 = some _ := hK1056; clear hK1056; unfold F_laws_w6Graph_k3 at hF
        refine e_blk ?_; refine e_then ?_; refine wp_region_lit ?_; refine op_g ha rfl (g_move rfl) ?_; clear ha a; intro a ha; obtain ⟨hI1129, hF⟩ := ck_some hF; refine op_g ha rfl (g_add rfl rfl hI1129) ?_; clear ha a; intro a ha; refine op_g ha rfl (g_assign rfl) ?_; clear ha a; intro a ha; refine wpList_nil ?_; replace ha := ha.sub (σ' := [(0, va0), (4, (.pointer (some ⟨b1, 0, none⟩))), (5, (.int .i64 (1 + x11.1))), (6, (.int .i64 (1 + x21.1))), (7, v1046), (8, (.int .i64 (i423 + 1)))]) ⟨rfl, rfl, rfl, rfl, rfl, rfl, trivial⟩; refine e_lq ?_; obtain rfl := Option.some.inj hF
        exact ⟨_, Nat.lt_succ_self _, l1034, l1045, i423 + 1, fs1042, v1046, b1047, ha.sub ⟨rfl, rfl, rfl, rfl, rfl, rfl, trivial⟩, hE1059, hI1129, h1033, hB1037, z1038, h1040, z1041, zf1043, nd1044, q1048, q1049, q1050, q1051, q1052, q1053, hN806⟩
      replace hF := if_f hp809 hF; refine wp_exit ?_; refine e_then_exit ?_; refine e_lq_eq ?_; obtain rfl := Option.some.inj hF
      exact ⟨l420, l409, fs417, v421, b422, ha.sub ⟨rfl, rfl, rfl, trivial⟩, hE431, hB412, z413, h415, z416, zf418, nd419, h408, q428, q427, q430, q429, q425, q426, (LK_inr hN806).symm⟩
  rintro a w778 ⟨l787, l791, fs784, v788, b789, ha, hE805, hB779, z780, h782, z783, zf785, nd786, h790, q794, q795, q796, q797, q798, q799, rfl⟩
  have hF : F_laws_w6Graph_k4 x11 l787 l791 = some _ := hK802; clear hK802; unfold F_laws_w6Graph_k4 at hF
  refine e_then ?_; refine wp_seq ?_; refine wp_region_lit ?_; (iterate 2 refine op_g ha rfl (g_move rfl) ?_; clear ha a; intro a ha)
  obtain ⟨fp1131, hro1132, hs1133⟩ := h782.roF
  obtain ⟨x1134, hc1135, hF⟩ := cal_some hF
  refine o_call ha rfl rfl Tryd.call28 (W_spec_GraphOf hI19 hro1132 hc1135) ?_; clear ha a; rintro v1136 w1137 ⟨u1139, u1140, u1141, fp1142, rfl, rfl, h1143, pv1144, rfl, hx1138⟩ a ha
  have q1146 := Nq.rd pv1144 (Nq.mono q796 hs1133) hB779.bi
  have q1147 := Nq.rd pv1144 (Nq.mono q797 hs1133) h790.blt
  have q1148 := (Pv.call pv1144 (Pv.mono (Pv.own z783 zf785) hs1133) hE805.size : Pv [] W.heap.size fp1142)
  replace hB779 := hB779.ext hx1138
  replace h782 := h782.ext hx1138
  replace h790 := h790.ext hx1138
  have hE1149 := Chg.more hE805 hx1138
  refine op_g ha rfl (g_move rfl) ?_; clear ha a; intro a ha; (iterate 2 refine op_g ha rfl (g_extract rfl rfl) ?_; clear ha a; intro a ha)
  refine o_alloc (cs := [(.slice none 0 0)]) ha rfl Tryd.zeroValue29 rfl ?_; clear ha a; intro b1150 w1151 hB1152 hx1153 hlo1154 a ha
  have q1155 := Zn.one hlo1154
  have q1156 := Nq.new hB779.fpb q1155
  have q1157 := Nq.made1 hlo1154 hB779.bi
  have q1158 := Nq.new h782.fpb q1155
  have q1159 := Nq.made1 hlo1154 h782.blt
  have q1160 := Nq.new h790.fpb q1155
  have q1161 := Nq.made1 hlo1154 h790.blt
  have q1162 := Nq.new h1143.bnd q1155
  have q1163 := Zn.upD q1155 hE1149
  replace hB779 := hB779.ext hx1153
  replace h782 := h782.ext hx1153
  replace h790 := h790.ext hx1153
  replace h1143 := h1143.ext hx1153
  have hE1164 := Chg.more hE1149 hx1153
  refine o_storeA (vs := [u1141]) ha hB1152 Tryd.sizeOf29 rfl rfl (by intro c hc; simp only [List.mem_cons, List.not_mem_nil, or_false] at hc; rcases hc with hc <;> subst hc <;> first | rfl | exact h1143.oneC) rfl ?_; intro w1165 hB1166 hc1167
  replace hc1167 := hc1167.bl
  replace hB1166 : Bx w1165 b1150 [u1141] 29 := hB1166
  replace hB779 := hB779.nq hc1167 q1156
  replace h782 := h782.nq hc1167 q1158
  replace h790 := h790.nq hc1167 q1160
  replace h1143 := h1143.nq hc1167 q1162
  have hE1168 := Chg.own hE1164 hc1167 (Zn.bl q1163)
  refine op_g ha rfl (g_assign rfl) ?_; clear ha a; intro a ha; refine wpList_nil ?_; replace ha := ha.sub (σ' := [(4, (.pointer (some ⟨b1, 0, none⟩))), (10, (.pointer (some ⟨b1150, 0, none⟩)))]) ⟨rfl, rfl, trivial⟩; refine e_then ?_; refine wp_seq ?_; refine wp_region_lit ?_; refine op_g ha rfl (g_loadA (cs := [u1141]) Tryd.isAgg29 Tryd.sizeOf29 rfl (by simp) hB1166.all) ?_; clear ha a; intro a ha
  refine o_storeA (vs := [u1141]) ha hB779 Tryd.sizeOf29 rfl rfl (by intro c hc; simp only [List.mem_cons, List.not_mem_nil, or_false] at hc; rcases hc with hc <;> subst hc <;> first | rfl | exact h1143.oneC) rfl ?_; intro w1169 hB1170 hc1171
  replace hc1171 := hc1171.bl
  replace hB1170 : Bx w1169 b1 [u1141] 29 := hB1170
  replace h790 := h790.nq hc1171 q798
  replace h1143 := h1143.nq hc1171 q1146
  replace hB1166 := hB1166.nq hc1171 q1157
  have hE1172 := Chg.own hE1168 hc1171 (Zn.bl z780)
  refine wpList_nil ?_; replace ha := ha.sub (σ' := [(4, (.pointer (some ⟨b1, 0, none⟩)))]) ⟨rfl, trivial⟩; refine e_then ?_; refine wp_ret ?_; obtain rfl := Option.some.inj hF
  exact f_retC (cs := [u1141]) ha rfl rfl Tryd.isAgg29 Tryd.sizeOf29 hB1170 ⟨_, _, rfl, h1143, (q1148), h790, hE1172⟩
set_option maxHeartbeats 2000000 in
theorem W_impl_inRange {W : World} {a0 : Int} (ha0 : InI a0) {a1 : Int} (ha1 : InI a1) {a2 : Int} (ha2 : InI a2) {r : Bool} (hF : F_impl_inRange a0 a1 a2 = some r) :
    Calls Tryd.prog 35 [.int .i64 a0, .int .i64 a1, .int .i64 a2].toArray W (Ret fun u w' => u = .bool r ∧ Ext W w') := by
  refine f_enter Tryd.func35 rfl Tryd.ntmps35 rfl ?_
  intro a ha
  replace ha : Fr 15 [(0, (.int .i64 a0)), (1, (.int .i64 a1)), (2, (.int .i64 a2))] a := ha
  have hE : Chg [] W W := Chg.refl _ _
  unfold F_impl_inRange at hF
  refine wp_seq ?_; refine wp_region_lit ?_; refine op_g ha rfl (g_assign rfl) ?_; clear ha a; intro a ha; refine wpList_nil ?_; replace ha := ha.sub (σ' := [(0, (.int .i64 a0)), (1, (.int .i64 a1)), (2, (.int .i64 a2))]) ⟨rfl, rfl, rfl, trivial⟩; refine e_then ?_; refine wp_seq ?_; refine wp_region_lit ?_; (iterate 2 refine op_g ha rfl (g_move rfl) ?_; clear ha a; intro a ha); refine op_g ha rfl (g_leq rfl rfl) ?_; clear ha a; intro a ha; refine op_g ha rfl (g_move rfl) ?_; clear ha a; intro a ha
  by_cases hp1 : a1 ≤ a0
  · replace hF := if_t hp1 hF
    rw [show (decide (a1 ≤ a0)) = true from (decide_eq_true_iff).2 hp1] at ha
    refine op_want (yields ha rfl rfl) ?_; refine op_g ha rfl (g_move rfl) ?_; clear ha a; intro a ha; refine op_want (yields ha rfl rfl) ?_; refine op_g ha rfl (g_move rfl) ?_; clear ha a; intro a ha; refine op_want (yields ha rfl rfl) ?_; refine op_g ha rfl (g_leq rfl rfl) ?_; clear ha a; intro a ha; refine op_g ha rfl (g_pick rfl rfl) ?_; clear ha a; intro a ha; refine op_g ha rfl (g_assign rfl) ?_; clear ha a; intro a ha; refine wpList_nil ?_; replace ha := ha.sub (σ' := [(6, (.bool (decide (a0 ≤ a2))))]) ⟨rfl, trivial⟩; refine e_then ?_; refine wp_ret ?_; obtain rfl := Option.some.inj hF
    exact f_ret1 ha rfl rfl ⟨rfl, hE⟩
  replace hF := if_f hp1 hF
  rw [show (decide (a1 ≤ a0)) = false from b_false (decide_eq_true_iff) hp1] at ha
  (iterate 3 refine op_unwant ha rfl (yields ha rfl rfl) rfl ?_; clear ha a; intro a ha); refine op_g ha rfl (g_pick rfl rfl) ?_; clear ha a; intro a ha; refine op_g ha rfl (g_assign rfl) ?_; clear ha a; intro a ha; refine wpList_nil ?_; replace ha := ha.sub (σ' := [(6, (.bool false))]) ⟨rfl, trivial⟩; refine e_then ?_; refine wp_ret ?_; obtain rfl := Option.some.inj hF
  exact f_ret1 ha rfl rfl ⟨rfl, hE⟩
set_option maxHeartbeats 2000000 in
theorem W_impl_increasing {W : World} {va0 : Value} {fa0 : List Nat} {a0 : (List Int)} (ha0 : Ro Rp.int W fa0 va0 a0) {a1 : Int} (ha1 : InI a1) {r : Bool} (hF : F_impl_increasing a0 a1 = some r) :
    Calls Tryd.prog 72 [va0, .int .i64 a1].toArray W (Ret fun u w' => u = .bool r ∧ Ext W w') := by
  refine f_enter Tryd.func72 rfl Tryd.ntmps72 rfl ?_
  intro a ha
  replace ha : Fr 33 [(0, va0), (1, (.int .i64 a1))] a := ha
  have hE : Chg [] W W := Chg.refl _ _
  unfold F_impl_increasing at hF
  refine wp_seq ?_; refine wp_region_lit ?_; refine op_g ha rfl (g_assign rfl) ?_; clear ha a; intro a ha; refine wpList_nil ?_; replace ha := ha.sub (σ' := [(0, va0), (1, (.int .i64 a1))]) ⟨rfl, rfl, trivial⟩; refine e_then ?_; refine wp_seq ?_; refine wp_seq ?_; refine wp_region_lit ?_; refine op_g ha rfl (g_move rfl) ?_; clear ha a; intro a ha; refine op_g ha rfl (g_lenR sl31.und ha0 rfl) ?_; clear ha a; intro a ha; refine op_g ha rfl (g_move rfl) ?_; clear ha a; intro a ha; refine wpList_nil ?_; replace ha := ha.sub (σ' := [(0, va0), (1, (.int .i64 a1)), (7, va0), (8, (.int .i64 (a0.length : Int))), (9, (.int .i64 0))]) ⟨rfl, rfl, rfl, rfl, rfl, trivial⟩
  refine e_then ?_; obtain ⟨o98, ho99, hK100⟩ := bnd_some hF
  obtain ⟨n101, hn102⟩ := lp_some ho99; clear ho99
  refine c_loop (fun a w => Fr 33 [] a ∧ Chg [] W w ∧ o98 = .inl ()) (fun n a w => ∃ (i49 : Int), Fr 33 [(0, va0), (1, (.int .i64 a1)), (7, va0), (8, (.int .i64 (a0.length : Int))), (9, (.int .i64 i49))] a ∧ Chg [] W w ∧ InI i49 ∧ lpN (fun s => F_impl_increasing_l1 a0 a1 s) n i49 = some o98) n101 ⟨0, ha.sub ⟨rfl, rfl, rfl, rfl, rfl, trivial⟩, hE, (show InI 0 from by decide), hn102⟩ ?_ ?_
  · rintro m106 a w48 ⟨i49, ha, hE51, hI50, hF⟩
    cases m106 with
    | zero => exact (lpN_zero hF).elim
    | succ m106 =>
      obtain ⟨z105, hF, hN104⟩ := lpN_succ hF
      have hF : F_impl_increasing_l1 a0 a1 i49 = some z105 := hF; unfold F_impl_increasing_l1 at hF
      refine wp_seq ?_; refine wp_region_lit ?_; refine op_g ha rfl (g_lss rfl rfl) ?_; clear ha a; intro a ha; refine wpList_nil ?_; replace ha := ha.sub (σ' := [(0, va0), (1, (.int .i64 a1)), (7, va0), (8, (.int .i64 (a0.length : Int))), (9, (.int .i64 i49)), (10, (.bool (decide (i49 < (a0.length : Int)))))]) ⟨rfl, rfl, rfl, rfl, rfl, rfl, trivial⟩; refine e_then ?_; refine wp_seq ?_; refine c_cond (i49 < (a0.length : Int)) ha rfl (decide_eq_true_iff) (fun hp107 => ?_) (fun hp107 => ?_)
      · replace hF := if_t hp107 hF
        refine wp_skip ?_; refine e_then ?_; refine wp_seq ?_; refine wp_block ?_; refine wp_seq ?_; refine wp_region_lit ?_; refine op_g ha rfl (g_move rfl) ?_; clear ha a; intro a ha; obtain ⟨x108, g109, gx110, hF⟩ := idx_some hF
        obtain ⟨p111, cs112, f113, hf114, hpb115, hat116, hr117, hi118⟩ := ha0.at g109 gx110
        obtain ⟨rfl, hI119, rfl⟩ := hr117
        refine op_g ha rfl (hi118.gives sl31 rfl rfl) ?_; clear ha a; intro a ha; refine op_g ha rfl (g_load0 hE51 Tryd.isAgg2 rfl hat116.one) ?_; clear ha a; intro a ha; (iterate 2 refine op_g ha rfl (g_assign rfl) ?_; clear ha a; intro a ha); refine wpList_nil ?_; replace ha := ha.sub (σ' := [(0, va0), (1, (.int .i64 a1)), (5, (.int .i64 i49)), (6, (.int .i64 x108)), (7, va0), (8, (.int .i64 (a0.length : Int))), (9, (.int .i64 i49))]) ⟨rfl, rfl, rfl, rfl, rfl, rfl, rfl, trivial⟩; refine e_then ?_; refine wp_seq ?_; refine wp_region_lit ?_; (iterate 2 refine op_g ha rfl (g_move rfl) ?_; clear ha a; intro a ha)
        obtain ⟨hI120, hF⟩ := ck_some hF; refine op_g ha rfl (g_sub rfl rfl hI120) ?_; clear ha a; intro a ha; obtain ⟨x122, hc123, hF⟩ := cal_some hF
        refine o_call ha rfl rfl Tryd.call35 (W_impl_inRange hI119 (show InI 0 from by decide) hI120 hc123) ?_; clear ha a; rintro v124 w125 ⟨rfl, hx126⟩ a ha
        have hE127 := Ext.trans hE51 hx126
        refine op_g ha rfl (g_not rfl) ?_; clear ha a; intro a ha; refine op_g ha rfl (g_move rfl) ?_; clear ha a; intro a ha
        by_cases hp128 : ¬ (x122 = true)
        · replace hF := if_t hp128 hF
          rw [show (!x122) = true from (n_iff (Iff.rfl)).2 hp128] at ha
          (iterate 3 refine op_unwant ha rfl (yields ha rfl rfl) rfl ?_; clear ha a; intro a ha); (iterate 7 refine op_unwant0 ha rfl (yields0 ha rfl rfl) ?_; clear ha a; intro a ha); refine op_unwant ha rfl (yields ha rfl rfl) rfl ?_; clear ha a; intro a ha; refine op_g ha rfl (g_pick rfl rfl) ?_; clear ha a; intro a ha; refine wpList_nil ?_; replace ha := ha.sub (σ' := [(0, va0), (1, (.int .i64 a1)), (7, va0), (8, (.int .i64 (a0.length : Int))), (9, (.int .i64 i49)), (31, (.bool true))]) ⟨rfl, rfl, rfl, rfl, rfl, rfl, trivial⟩; refine e_then ?_; refine c_true ha rfl ?_; refine wp_seq ?_; refine wp_region_lit ?_
          refine op_g ha rfl (g_assign rfl) ?_; clear ha a; intro a ha; refine wpList_nil ?_; replace ha := ha.sub (σ' := [(4, (.bool false))]) ⟨rfl, trivial⟩; refine e_then ?_; refine wp_ret ?_; refine e_blk_ret ?_; refine e_then_ret ?_; refine e_lq_ret ?_; refine e_then_ret ?_; obtain rfl := Option.some.inj hF
          have e129 := LK_inr hN104; subst e129
          have e130 := BK_inr hK100; subst e130
          exact f_ret1 ha rfl rfl ⟨rfl, hE127⟩
        replace hF := if_f hp128 hF
        rw [show (!x122) = false from b_false (n_iff (Iff.rfl)) hp128] at ha
        refine op_want (yields ha rfl rfl) ?_; refine op_g ha rfl (g_move rfl) ?_; clear ha a; intro a ha; refine op_want (yields ha rfl rfl) ?_; refine op_g ha rfl (g_gtr rfl rfl) ?_; clear ha a; intro a ha; refine op_want (yields ha rfl rfl) ?_; refine op_g ha rfl (g_move rfl) ?_; clear ha a; intro a ha
        by_cases hp131 : 0 < i49
        · replace hF := if_t hp131 hF
          rw [show (decide (0 < i49)) = true from (decide_eq_true_iff).2 hp131] at ha
          refine op_want (yields ha rfl rfl) ?_; refine op_g ha rfl (g_move rfl) ?_; clear ha a; intro a ha; refine op_want (yields ha rfl rfl) ?_; refine op_g ha rfl (g_move rfl) ?_; clear ha a; intro a ha; refine op_want (yields ha rfl rfl) ?_; obtain ⟨hI132, hF⟩ := ck_some hF; refine op_g ha rfl (g_sub rfl rfl hI132) ?_; clear ha a; intro a ha; refine op_want (yields ha rfl rfl) ?_; obtain ⟨x134, g135, gx136, hF⟩ := idx_some hF
          obtain ⟨p137, cs138, f139, hf140, hpb141, hat142, hr143, hi144⟩ := ha0.at g135 gx136
          obtain ⟨rfl, hI145, rfl⟩ := hr143
          refine op_g ha rfl (hi144.gives sl31 rfl rfl) ?_; clear ha a; intro a ha; refine op_want (yields ha rfl rfl) ?_; refine op_g ha rfl (g_load0 hE127 Tryd.isAgg2 rfl hat142.one) ?_; clear ha a; intro a ha; refine op_want (yields ha rfl rfl) ?_; refine op_g ha rfl (g_move rfl) ?_; clear ha a; intro a ha; refine op_want (yields ha rfl rfl) ?_; refine op_g ha rfl (g_geq rfl rfl) ?_; clear ha a; intro a ha; refine op_want (yields ha rfl rfl) ?_; (iterate 2 refine op_g ha rfl (g_pick rfl rfl) ?_; clear ha a; intro a ha); refine wpList_nil ?_; replace ha := ha.sub (σ' := [(0, va0), (1, (.int .i64 a1)), (7, va0), (8, (.int .i64 (a0.length : Int))), (9, (.int .i64 i49)), (20, (.int .i64 i49)), (21, (.bool true)), (22, (.bool true)), (23, va0), (24, (.int .i64 i49)), (25, (.int .i64 (i49 - 1))), (26, (.pointer (some p137))), (27, (.int .i64 x134)), (28, (.int .i64 x108)), (29, (.bool (decide (x108 ≤ x134)))), (30, (.bool (decide (x108 ≤ x134)))), (31, (.bool (decide (x108 ≤ x134))))]) ⟨rfl, rfl, rfl, rfl, rfl, rfl, rfl, rfl, rfl, rfl, rfl, rfl, rfl, rfl, rfl, rfl, rfl, trivial⟩
          refine e_then ?_; refine c_cond (x108 ≤ x134) ha rfl (decide_eq_true_iff) (fun hp146 => ?_) (fun hp146 => ?_)
          · replace hF := if_t hp146 hF
            refine wp_seq ?_; refine wp_region_lit ?_; refine op_g ha rfl (g_assign rfl) ?_; clear ha a; intro a ha; refine wpList_nil ?_; replace ha := ha.sub (σ' := [(4, (.bool false))]) ⟨rfl, trivial⟩; refine e_then ?_; refine wp_ret ?_; refine e_blk_ret ?_; refine e_then_ret ?_; refine e_lq_ret ?_; refine e_then_ret ?_; obtain rfl := Option.some.inj hF
            have e147 := LK_inr hN104; subst e147
            have e148 := BK_inr hK100; subst e148
            exact f_ret1 ha rfl rfl ⟨rfl, hE127⟩
          replace hF := if_f hp146 hF; refine wp_skip ?_; refine e_blk ?_; refine e_then ?_; refine wp_region_lit ?_; obtain ⟨hI149, hF⟩ := ck_some hF; refine op_g ha rfl (g_add rfl rfl hI149) ?_; clear ha a; intro a ha; refine op_g ha rfl (g_move rfl) ?_; clear ha a; intro a ha; refine wpList_nil ?_; replace ha := ha.sub (σ' := [(0, va0), (1, (.int .i64 a1)), (7, va0), (8, (.int .i64 (a0.length : Int))), (9, (.int .i64 (i49 + 1))), (20, (.int .i64 i49)), (21, (.bool true)), (22, (.bool true)), (23, va0), (24, (.int .i64 i49)), (25, (.int .i64 (i49 - 1))), (26, (.pointer (some p137))), (27, (.int .i64 x134)), (28, (.int .i64 x108)), (29, (.bool (decide (x108 ≤ x134)))), (30, (.bool (decide (x108 ≤ x134))))]) ⟨rfl, rfl, rfl, rfl, rfl, rfl, rfl, rfl, rfl, rfl, rfl, rfl, rfl, rfl, rfl, rfl, trivial⟩
          refine e_lq ?_; obtain rfl := Option.some.inj hF
          exact ⟨_, Nat.lt_succ_self _, i49 + 1, ha.sub ⟨rfl, rfl, rfl, rfl, rfl, trivial⟩, hE127, hI149, hN104⟩
        replace hF := if_f hp131 hF
        rw [show (decide (0 < i49)) = false from b_false (decide_eq_true_iff) hp131] at ha
        (iterate 7 refine op_unwant ha rfl (yields ha rfl rfl) rfl ?_; clear ha a; intro a ha); refine op_want (yields ha rfl rfl) ?_; (iterate 2 refine op_g ha rfl (g_pick rfl rfl) ?_; clear ha a; intro a ha); refine wpList_nil ?_; replace ha := ha.sub (σ' := [(0, va0), (1, (.int .i64 a1)), (7, va0), (8, (.int .i64 (a0.length : Int))), (9, (.int .i64 i49)), (20, (.int .i64 i49)), (21, (.bool false)), (22, (.bool false)), (30, (.bool false)), (31, (.bool false))]) ⟨rfl, rfl, rfl, rfl, rfl, rfl, rfl, rfl, rfl, rfl, trivial⟩; refine e_then ?_; refine c_false ha rfl ?_; refine wp_skip ?_; refine e_blk ?_
        refine e_then ?_; refine wp_region_lit ?_; obtain ⟨hI151, hF⟩ := ck_some hF; refine op_g ha rfl (g_add rfl rfl hI151) ?_; clear ha a; intro a ha; refine op_g ha rfl (g_move rfl) ?_; clear ha a; intro a ha; refine wpList_nil ?_; replace ha := ha.sub (σ' := [(0, va0), (1, (.int .i64 a1)), (7, va0), (8, (.int .i64 (a0.length : Int))), (9, (.int .i64 (i49 + 1))), (20, (.int .i64 i49)), (21, (.bool false)), (22, (.bool false)), (30, (.bool false))]) ⟨rfl, rfl, rfl, rfl, rfl, rfl, rfl, rfl, rfl, trivial⟩; refine e_lq ?_; obtain rfl := Option.some.inj hF
        exact ⟨_, Nat.lt_succ_self _, i49 + 1, ha.sub ⟨rfl, rfl, rfl, rfl, rfl, trivial⟩, hE127, hI151, hN104⟩
      replace hF := if_f hp107 hF; refine wp_exit ?_; refine e_then_exit ?_; refine e_lq_eq ?_; obtain rfl := Option.some.inj hF
      exact ⟨ha.sub trivial, hE51, (LK_inr hN104).symm⟩
  rintro a w97 ⟨ha, hE103, rfl⟩
  have hF : F_impl_increasing_k2 = some _ := hK100; clear hK100; unfold F_impl_increasing_k2 at hF
  refine e_then ?_; refine wp_seq ?_; refine wp_region_lit ?_; refine op_g ha rfl (g_assign rfl) ?_; clear ha a; intro a ha; refine wpList_nil ?_; refine e_then ?_; refine wp_ret ?_; obtain rfl := Option.some.inj hF
  exact f_ret1 ha rfl rfl ⟨rfl, hE103⟩
set_option maxHeartbeats 2000000 in
theorem W_slices_Index_int64 {W : World} {va0 : Value} {fa0 : List Nat} {a0 : (List Int)} (ha0 : Ro Rp.int W fa0 va0 a0) {a1 : Int} (ha1 : InI a1) {r : Int} (hF : F_slices_Index_int64 a0 a1 = some r) :
    Calls Tryd.prog 93 [va0, .int .i64 a1].toArray W (Ret fun u w' => (u = .int .i64 r ∧ InI r) ∧ Ext W w') := by
  refine f_enter Tryd.func93 rfl Tryd.ntmps93 rfl ?_
  intro a ha
  replace ha : Fr 19 [(0, va0), (1, (.int .i64 a1))] a := ha
  have hE : Chg [] W W := Chg.refl _ _
  unfold F_slices_Index_int64 at hF
  refine wp_seq ?_; refine wp_region_lit ?_; refine op_g ha rfl (g_assign rfl) ?_; clear ha a; intro a ha; refine wpList_nil ?_; replace ha := ha.sub (σ' := [(0, va0), (1, (.int .i64 a1))]) ⟨rfl, rfl, trivial⟩; refine e_then ?_; refine wp_seq ?_; refine wp_seq ?_; refine wp_region_lit ?_; refine op_g ha rfl (g_move rfl) ?_; clear ha a; intro a ha; refine op_g ha rfl (g_lenR sl31.und ha0 rfl) ?_; clear ha a; intro a ha; refine op_g ha rfl (g_move rfl) ?_; clear ha a; intro a ha; refine wpList_nil ?_; replace ha := ha.sub (σ' := [(0, va0), (1, (.int .i64 a1)), (7, (.int .i64 (a0.length : Int))), (8, (.int .i64 0))]) ⟨rfl, rfl, rfl, rfl, trivial⟩
  refine e_then ?_; obtain ⟨o46, ho47, hK48⟩ := bnd_some hF
  obtain ⟨n49, hn50⟩ := lp_some ho47; clear ho47
  refine c_loop (fun a w => Fr 19 [] a ∧ Chg [] W w ∧ o46 = .inl ()) (fun n a w => ∃ (i23 : Int), Fr 19 [(0, va0), (1, (.int .i64 a1)), (7, (.int .i64 (a0.length : Int))), (8, (.int .i64 i23))] a ∧ Chg [] W w ∧ InI i23 ∧ lpN (fun s => F_slices_Index_int64_l1 a0 a1 s) n i23 = some o46) n49 ⟨0, ha.sub ⟨rfl, rfl, rfl, rfl, trivial⟩, hE, (show InI 0 from by decide), hn50⟩ ?_ ?_
  · rintro m54 a w22 ⟨i23, ha, hE25, hI24, hF⟩
    cases m54 with
    | zero => exact (lpN_zero hF).elim
    | succ m54 =>
      obtain ⟨z53, hF, hN52⟩ := lpN_succ hF
      have hF : F_slices_Index_int64_l1 a0 a1 i23 = some z53 := hF; unfold F_slices_Index_int64_l1 at hF
      refine wp_seq ?_; refine wp_region_lit ?_; refine op_g ha rfl (g_lss rfl rfl) ?_; clear ha a; intro a ha; refine wpList_nil ?_; replace ha := ha.sub (σ' := [(0, va0), (1, (.int .i64 a1)), (7, (.int .i64 (a0.length : Int))), (8, (.int .i64 i23)), (9, (.bool (decide (i23 < (a0.length : Int)))))]) ⟨rfl, rfl, rfl, rfl, rfl, trivial⟩; refine e_then ?_; refine wp_seq ?_; refine c_cond (i23 < (a0.length : Int)) ha rfl (decide_eq_true_iff) (fun hp55 => ?_) (fun hp55 => ?_)
      · replace hF := if_t hp55 hF
        refine wp_skip ?_; refine e_then ?_; refine wp_seq ?_; refine wp_block ?_; refine wp_seq ?_; refine wp_region_lit ?_; refine op_g ha rfl (g_move rfl) ?_; clear ha a; intro a ha; refine op_g ha rfl (g_assign rfl) ?_; clear ha a; intro a ha; refine wpList_nil ?_; replace ha := ha.sub (σ' := [(0, va0), (1, (.int .i64 a1)), (5, (.int .i64 i23)), (7, (.int .i64 (a0.length : Int))), (8, (.int .i64 i23))]) ⟨rfl, rfl, rfl, rfl, rfl, trivial⟩; refine e_then ?_; refine wp_seq ?_; refine wp_region_lit ?_; (iterate 3 refine op_g ha rfl (g_move rfl) ?_; clear ha a; intro a ha); obtain ⟨x56, g57, gx58, hF⟩ := idx_some hF
        obtain ⟨p59, cs60, f61, hf62, hpb63, hat64, hr65, hi66⟩ := ha0.at g57 gx58
        obtain ⟨rfl, hI67, rfl⟩ := hr65
        refine op_g ha rfl (hi66.gives sl31 rfl rfl) ?_; clear ha a; intro a ha; refine op_g ha rfl (g_load0 hE25 Tryd.isAgg2 rfl hat64.one) ?_; clear ha a; intro a ha; refine op_g ha rfl (g_eql rfl rfl) ?_; clear ha a; intro a ha; refine wpList_nil ?_; replace ha := ha.sub (σ' := [(0, va0), (1, (.int .i64 a1)), (5, (.int .i64 i23)), (7, (.int .i64 (a0.length : Int))), (8, (.int .i64 i23)), (16, (.bool (decide (a1 = x56))))]) ⟨rfl, rfl, rfl, rfl, rfl, rfl, trivial⟩; refine e_then ?_; refine c_cond (a1 = x56) ha rfl (decide_eq_true_iff) (fun hp68 => ?_) (fun hp68 => ?_)
        · replace hF := if_t hp68 hF
          refine wp_seq ?_; refine wp_region_lit ?_; refine op_g ha rfl (g_move rfl) ?_; clear ha a; intro a ha; refine op_g ha rfl (g_assign rfl) ?_; clear ha a; intro a ha; refine wpList_nil ?_; replace ha := ha.sub (σ' := [(4, (.int .i64 i23))]) ⟨rfl, trivial⟩; refine e_then ?_; refine wp_ret ?_; refine e_blk_ret ?_; refine e_then_ret ?_; refine e_lq_ret ?_; refine e_then_ret ?_; obtain rfl := Option.some.inj hF
          have e69 := LK_inr hN52; subst e69
          have e70 := BK_inr hK48; subst e70
          exact f_ret1 ha rfl rfl ⟨⟨rfl, hI24⟩, hE25⟩
        replace hF := if_f hp68 hF; refine wp_skip ?_; refine e_blk ?_; refine e_then ?_; refine wp_region_lit ?_; obtain ⟨hI71, hF⟩ := ck_some hF; refine op_g ha rfl (g_add rfl rfl hI71) ?_; clear ha a; intro a ha; refine op_g ha rfl (g_move rfl) ?_; clear ha a; intro a ha; refine wpList_nil ?_; replace ha := ha.sub (σ' := [(0, va0), (1, (.int .i64 a1)), (7, (.int .i64 (a0.length : Int))), (8, (.int .i64 (i23 + 1)))]) ⟨rfl, rfl, rfl, rfl, trivial⟩; refine e_lq ?_; obtain rfl := Option.some.inj hF
        exact ⟨_, Nat.lt_succ_self _, i23 + 1, ha.sub ⟨rfl, rfl, rfl, rfl, trivial⟩, hE25, hI71, hN52⟩
      replace hF := if_f hp55 hF; refine wp_exit ?_; refine e_then_exit ?_; refine e_lq_eq ?_; obtain rfl := Option.some.inj hF
      exact ⟨ha.sub trivial, hE25, (LK_inr hN52).symm⟩
  rintro a w45 ⟨ha, hE51, rfl⟩
  have hF : F_slices_Index_int64_k2 = some _ := hK48; clear hK48; unfold F_slices_Index_int64_k2 at hF
  refine e_then ?_; refine wp_seq ?_; refine wp_region_lit ?_; refine op_g ha rfl (g_assign rfl) ?_; clear ha a; intro a ha; refine wpList_nil ?_; refine e_then ?_; refine wp_ret ?_; obtain rfl := Option.some.inj hF
  exact f_ret1 ha rfl rfl ⟨⟨rfl, (show InI (-1) from by decide)⟩, hE51⟩
set_option maxHeartbeats 2000000 in
theorem W_slices_Contains_int64 {W : World} {va0 : Value} {fa0 : List Nat} {a0 : (List Int)} (ha0 : Ro Rp.int W fa0 va0 a0) {a1 : Int} (ha1 : InI a1) {r : Bool} (hF : F_slices_Contains_int64 a0 a1 = some r) :
    Calls Tryd.prog 73 [va0, .int .i64 a1].toArray W (Ret fun u w' => u = .bool r ∧ Ext W w') := by
  refine f_enter Tryd.func73 rfl Tryd.ntmps73 rfl ?_
  intro a ha
  replace ha : Fr 9 [(0, va0), (1, (.int .i64 a1))] a := ha
  have hE : Chg [] W W := Chg.refl _ _
  unfold F_slices_Contains_int64 at hF
  refine wp_seq ?_; refine wp_region_lit ?_; refine op_g ha rfl (g_assign rfl) ?_; clear ha a; intro a ha; refine wpList_nil ?_; replace ha := ha.sub (σ' := [(0, va0), (1, (.int .i64 a1))]) ⟨rfl, rfl, trivial⟩; refine e_then ?_; refine wp_seq ?_; refine wp_region_lit ?_; (iterate 2 refine op_g ha rfl (g_move rfl) ?_; clear ha a; intro a ha); obtain ⟨x1, hc2, hF⟩ := cal_some hF
  refine o_call ha rfl rfl Tryd.call93 (W_slices_Index_int64 (ha0.ext hE) ha1 hc2) ?_; clear ha a; rintro v3 w4 ⟨⟨rfl, hI6⟩, hx5⟩ a ha
  have hE7 := Ext.trans hE hx5
  refine op_g ha rfl (g_geq rfl rfl) ?_; clear ha a; intro a ha; refine op_g ha rfl (g_assign rfl) ?_; clear ha a; intro a ha; refine wpList_nil ?_; replace ha := ha.sub (σ' := [(4, (.bool (decide (0 ≤ x1))))]) ⟨rfl, trivial⟩; refine e_then ?_; refine wp_ret ?_; obtain rfl := Option.some.inj hF
  exact f_ret1 ha rfl rfl ⟨rfl, hE7⟩
set_option maxHeartbeats 2000000 in
theorem W_impl_GraphOk {W : World} {va0_0 : Value} {fa0_0 : List Nat} {a0_0 : (List (List Int))} (ha0_0 : Ro (Rp.sl 2 Rp.int) W fa0_0 va0_0 a0_0) {r : Bool} (hF : F_impl_GraphOk a0_0 = some r) :
    Calls Tryd.prog 29 [.agg #[va0_0]].toArray W (Ret fun u w' => u = .bool r ∧ Ext W w') := by
  refine f_enter Tryd.func29 rfl Tryd.ntmps29 rfl ?_
  intro a ha
  replace ha : Fr 61 [(0, (.agg #[va0_0]))] a := ha
  have hE : Chg [] W W := Chg.refl _ _
  unfold F_impl_GraphOk at hF
  refine wp_seq ?_; refine wp_region_lit ?_
  refine o_box ha rfl rfl rfl ?_; clear ha a; intro b1 w2 hB3 hx4 hlo5 a ha
  have q6 := Zn.one hlo5
  have q7 := Zn.upD q6 hE
  have hE8 := Ext.trans hE hx4
  refine op_g ha rfl (g_assign rfl) ?_; clear ha a; intro a ha; refine wpList_nil ?_; replace ha := ha.sub (σ' := [(1, (.pointer (some ⟨b1, 0, none⟩)))]) ⟨rfl, trivial⟩; refine e_then ?_; refine wp_seq ?_; refine wp_region_lit ?_; refine op_g ha rfl (g_field0 st29_0 rfl) ?_; clear ha a; intro a ha; refine op_g ha rfl (g_load Tryd.isAgg27 rfl (hB3.cell rfl)) ?_; clear ha a; intro a ha; refine op_g ha rfl (g_lenR sl27.und ha0_0 rfl) ?_; clear ha a; intro a ha; refine op_g ha rfl (g_assign rfl) ?_; clear ha a; intro a ha; refine wpList_nil ?_; replace ha := ha.sub (σ' := [(1, (.pointer (some ⟨b1, 0, none⟩))), (3, (.int .i64 (a0_0.length : Int)))]) ⟨rfl, rfl, trivial⟩
  refine e_then ?_; refine wp_seq ?_; refine wp_seq ?_; refine wp_region_lit ?_; refine op_g ha rfl (g_move rfl) ?_; clear ha a; intro a ha; refine op_g ha rfl (g_lss rfl rfl) ?_; clear ha a; intro a ha; refine op_g ha rfl (g_move rfl) ?_; clear ha a; intro a ha
  by_cases hp11 : (a0_0.length : Int) < 1
  · replace hF := if_t hp11 hF
    rw [show (decide ((a0_0.length : Int) < 1)) = true from (decide_eq_true_iff).2 hp11] at ha
    (iterate 2 refine op_unwant ha rfl (yields ha rfl rfl) rfl ?_; clear ha a; intro a ha); refine op_g ha rfl (g_pick rfl rfl) ?_; clear ha a; intro a ha; refine wpList_nil ?_; replace ha := ha.sub (σ' := [(1, (.pointer (some ⟨b1, 0, none⟩))), (3, (.int .i64 (a0_0.length : Int))), (18, (.bool true))]) ⟨rfl, rfl, rfl, trivial⟩; refine e_then ?_; refine c_true ha rfl ?_; refine wp_seq ?_; refine wp_region_lit ?_; refine op_g ha rfl (g_assign rfl) ?_; clear ha a; intro a ha; refine wpList_nil ?_; replace ha := ha.sub (σ' := [(2, (.bool false))]) ⟨rfl, trivial⟩; refine e_then ?_; refine wp_ret ?_
    refine e_then_ret ?_; obtain rfl := Option.some.inj hF
    exact f_ret1 ha rfl rfl ⟨rfl, hE8⟩
  replace hF := if_f hp11 hF
  rw [show (decide ((a0_0.length : Int) < 1)) = false from b_false (decide_eq_true_iff) hp11] at ha
  refine op_want (yields ha rfl rfl) ?_; refine op_g ha rfl (g_move rfl) ?_; clear ha a; intro a ha; refine op_want (yields ha rfl rfl) ?_; refine op_g ha rfl (g_gtr rfl rfl) ?_; clear ha a; intro a ha; refine op_g ha rfl (g_pick rfl rfl) ?_; clear ha a; intro a ha; refine wpList_nil ?_; replace ha := ha.sub (σ' := [(1, (.pointer (some ⟨b1, 0, none⟩))), (3, (.int .i64 (a0_0.length : Int))), (18, (.bool (decide (16 < (a0_0.length : Int)))))]) ⟨rfl, rfl, rfl, trivial⟩; refine e_then ?_; refine c_cond (16 < (a0_0.length : Int)) ha rfl (decide_eq_true_iff) (fun hp12 => ?_) (fun hp12 => ?_)
  · replace hF := if_t hp12 hF
    refine wp_seq ?_; refine wp_region_lit ?_; refine op_g ha rfl (g_assign rfl) ?_; clear ha a; intro a ha; refine wpList_nil ?_; replace ha := ha.sub (σ' := [(2, (.bool false))]) ⟨rfl, trivial⟩; refine e_then ?_; refine wp_ret ?_; refine e_then_ret ?_; obtain rfl := Option.some.inj hF
    exact f_ret1 ha rfl rfl ⟨rfl, hE8⟩
  replace hF := if_f hp12 hF; refine wp_skip ?_; refine e_then ?_; refine wp_seq ?_; refine wp_seq ?_; refine wp_region_lit ?_; refine op_g ha rfl (g_field0 st29_0 rfl) ?_; clear ha a; intro a ha; refine op_g ha rfl (g_load Tryd.isAgg27 rfl (hB3.cell rfl)) ?_; clear ha a; intro a ha; refine op_g ha rfl (g_lenR sl27.und ha0_0 rfl) ?_; clear ha a; intro a ha; refine op_g ha rfl (g_move rfl) ?_; clear ha a; intro a ha; refine wpList_nil ?_; replace ha := ha.sub (σ' := [(1, (.pointer (some ⟨b1, 0, none⟩))), (3, (.int .i64 (a0_0.length : Int))), (20, va0_0), (21, (.int .i64 (a0_0.length : Int))), (22, (.int .i64 0))]) ⟨rfl, rfl, rfl, rfl, rfl, trivial⟩
  refine e_then ?_; obtain ⟨o98, ho99, hK100⟩ := bnd_some hF
  obtain ⟨n101, hn102⟩ := lp_some ho99; clear ho99
  refine c_loop (fun a w => Fr 61 [(1, (.pointer (some ⟨b1, 0, none⟩)))] a ∧ Chg [] W w ∧ Bx w b1 [va0_0] 29 ∧ Zn W (b1 : Int) ∧ o98 = .inl ()) (fun n a w => ∃ (i56 : Int), Fr 61 [(1, (.pointer (some ⟨b1, 0, none⟩))), (3, (.int .i64 (a0_0.length : Int))), (20, va0_0), (21, (.int .i64 (a0_0.length : Int))), (22, (.int .i64 i56))] a ∧ Chg [] W w ∧ InI i56 ∧ Bx w b1 [va0_0] 29 ∧ Zn W (b1 : Int) ∧ lpN (fun s => F_impl_GraphOk_l1 a0_0 s) n i56 = some o98) n101 ⟨0, ha.sub ⟨rfl, rfl, rfl, rfl, rfl, trivial⟩, hE8, (show InI 0 from by decide), hB3, q7, hn102⟩ ?_ ?_
  · rintro m106 a w53 ⟨i56, ha, hE58, hI57, hB54, z55, hF⟩
    cases m106 with
    | zero => exact (lpN_zero hF).elim
    | succ m106 =>
      obtain ⟨z105, hF, hN104⟩ := lpN_succ hF
      have hF : F_impl_GraphOk_l1 a0_0 i56 = some z105 := hF; unfold F_impl_GraphOk_l1 at hF
      refine wp_seq ?_; refine wp_region_lit ?_; refine op_g ha rfl (g_lss rfl rfl) ?_; clear ha a; intro a ha; refine wpList_nil ?_; replace ha := ha.sub (σ' := [(1, (.pointer (some ⟨b1, 0, none⟩))), (3, (.int .i64 (a0_0.length : Int))), (20, va0_0), (21, (.int .i64 (a0_0.length : Int))), (22, (.int .i64 i56)), (23, (.bool (decide (i56 < (a0_0.length : Int)))))]) ⟨rfl, rfl, rfl, rfl, rfl, rfl, trivial⟩; refine e_then ?_; refine wp_seq ?_; refine c_cond (i56 < (a0_0.length : Int)) ha rfl (decide_eq_true_iff) (fun hp107 => ?_) (fun hp107 => ?_)
      · replace hF := if_t hp107 hF
        refine wp_skip ?_; refine e_then ?_; refine wp_seq ?_; refine wp_block ?_; refine wp_seq ?_; refine wp_region_lit ?_; refine op_g ha rfl (g_move rfl) ?_; clear ha a; intro a ha; obtain ⟨x108, g109, gx110, hF⟩ := idx_some hF
        obtain ⟨p111, cs112, f113, hf114, hpb115, hat116, hr117, hi118⟩ := ha0_0.at g109 gx110
        obtain ⟨v119, rfl, h120⟩ := hr117
        have h120 : Ro Rp.int W f113 v119 x108 := h120
        refine op_g ha rfl (hi118.gives sl27 rfl rfl) ?_; clear ha a; intro a ha; refine op_g ha rfl (g_load0 hE58 Tryd.isAgg31 rfl hat116.one) ?_; clear ha a; intro a ha; (iterate 2 refine op_g ha rfl (g_assign rfl) ?_; clear ha a; intro a ha); refine wpList_nil ?_; replace ha := ha.sub (σ' := [(1, (.pointer (some ⟨b1, 0, none⟩))), (3, (.int .i64 (a0_0.length : Int))), (4, (.int .i64 i56)), (5, v119), (20, va0_0), (21, (.int .i64 (a0_0.length : Int))), (22, (.int .i64 i56))]) ⟨rfl, rfl, rfl, rfl, rfl, rfl, rfl, trivial⟩; refine e_then ?_; refine wp_seq ?_; refine wp_region_lit ?_; (iterate 2 refine op_g ha rfl (g_move rfl) ?_; clear ha a; intro a ha)
        obtain ⟨x122, hc123, hF⟩ := cal_some hF
        refine o_call ha rfl rfl Tryd.call72 (W_impl_increasing (h120.ext hE58) ha0_0.len hc123) ?_; clear ha a; rintro v124 w125 ⟨rfl, hx126⟩ a ha
        replace hB54 := hB54.ext hx126
        have hE127 := Ext.trans hE58 hx126
        refine op_g ha rfl (g_not rfl) ?_; clear ha a; intro a ha; refine op_g ha rfl (g_move rfl) ?_; clear ha a; intro a ha
        by_cases hp128 : ¬ (x122 = true)
        · replace hF := if_t hp128 hF
          rw [show (!x122) = true from (n_iff (Iff.rfl)).2 hp128] at ha
          (iterate 3 refine op_unwant ha rfl (yields ha rfl rfl) rfl ?_; clear ha a; intro a ha); refine op_g ha rfl (g_pick rfl rfl) ?_; clear ha a; intro a ha; refine wpList_nil ?_; replace ha := ha.sub (σ' := [(1, (.pointer (some ⟨b1, 0, none⟩))), (3, (.int .i64 (a0_0.length : Int))), (20, va0_0), (21, (.int .i64 (a0_0.length : Int))), (22, (.int .i64 i56)), (35, (.bool true))]) ⟨rfl, rfl, rfl, rfl, rfl, rfl, trivial⟩; refine e_then ?_; refine c_true ha rfl ?_; refine wp_seq ?_; refine wp_region_lit ?_; refine op_g ha rfl (g_assign rfl) ?_; clear ha a; intro a ha; refine wpList_nil ?_; replace ha := ha.sub (σ' := [(2, (.bool false))]) ⟨rfl, trivial⟩
          refine e_then ?_; refine wp_ret ?_; refine e_blk_ret ?_; refine e_then_ret ?_; refine e_lq_ret ?_; refine e_then_ret ?_; obtain rfl := Option.some.inj hF
          have e129 := LK_inr hN104; subst e129
          have e130 := BK_inr hK100; subst e130
          exact f_ret1 ha rfl rfl ⟨rfl, hE127⟩
        replace hF := if_f hp128 hF
        rw [show (!x122) = false from b_false (n_iff (Iff.rfl)) hp128] at ha
        refine op_want (yields ha rfl rfl) ?_; refine op_g ha rfl (g_move rfl) ?_; clear ha a; intro a ha; refine op_want (yields ha rfl rfl) ?_; refine op_g ha rfl (g_move rfl) ?_; clear ha a; intro a ha; refine op_want (yields ha rfl rfl) ?_; obtain ⟨x131, hc132, hF⟩ := cal_some hF
        refine o_call ha rfl rfl Tryd.call73 (W_slices_Contains_int64 (h120.ext hE127) hI57 hc132) ?_; clear ha a; rintro v133 w134 ⟨rfl, hx135⟩ a ha
        replace hB54 := hB54.ext hx135
        have hE136 := Ext.trans hE127 hx135
        refine op_g ha rfl (g_pick rfl rfl) ?_; clear ha a; intro a ha; refine wpList_nil ?_; replace ha := ha.sub (σ' := [(1, (.pointer (some ⟨b1, 0, none⟩))), (3, (.int .i64 (a0_0.length : Int))), (20, va0_0), (21, (.int .i64 (a0_0.length : Int))), (22, (.int .i64 i56)), (32, v119), (33, (.int .i64 i56)), (34, (.bool x131)), (35, (.bool x131))]) ⟨rfl, rfl, rfl, rfl, rfl, rfl, rfl, rfl, rfl, trivial⟩; refine e_then ?_; refine c_cond (x131 = true) ha rfl (Iff.rfl) (fun hp137 => ?_) (fun hp137 => ?_)
        · replace hF := if_t hp137 hF
          refine wp_seq ?_; refine wp_region_lit ?_; refine op_g ha rfl (g_assign rfl) ?_; clear ha a; intro a ha; refine wpList_nil ?_; replace ha := ha.sub (σ' := [(2, (.bool false))]) ⟨rfl, trivial⟩; refine e_then ?_; refine wp_ret ?_; refine e_blk_ret ?_; refine e_then_ret ?_; refine e_lq_ret ?_; refine e_then_ret ?_; obtain rfl := Option.some.inj hF
          have e138 := LK_inr hN104; subst e138
          have e139 := BK_inr hK100; subst e139
          exact f_ret1 ha rfl rfl ⟨rfl, hE136⟩
        replace hF := if_f hp137 hF; refine wp_skip ?_; refine e_blk ?_; refine e_then ?_; refine wp_region_lit ?_; obtain ⟨hI140, hF⟩ := ck_some hF; refine op_g ha rfl (g_add rfl rfl hI140) ?_; clear ha a; intro a ha; refine op_g ha rfl (g_move rfl) ?_; clear ha a; intro a ha; refine wpList_nil ?_; replace ha := ha.sub (σ' := [(1, (.pointer (some ⟨b1, 0, none⟩))), (3, (.int .i64 (a0_0.length : Int))), (20, va0_0), (21, (.int .i64 (a0_0.length : Int))), (22, (.int .i64 (i56 + 1))), (32, v119), (33, (.int .i64 i56)), (34, (.bool x131))]) ⟨rfl, rfl, rfl, rfl, rfl, rfl, rfl, rfl, trivial⟩; refine e_lq ?_
        obtain rfl := Option.some.inj hF
        exact ⟨_, Nat.lt_succ_self _, i56 + 1, ha.sub ⟨rfl, rfl, rfl, rfl, rfl, trivial⟩, hE136, hI140, hB54, z55, hN104⟩
      replace hF := if_f hp107 hF; refine wp_exit ?_; refine e_then_exit ?_; refine e_lq_eq ?_; obtain rfl := Option.some.inj hF
      exact ⟨ha.sub ⟨rfl, trivial⟩, hE58, hB54, z55, (LK_inr hN104).symm⟩
  rintro a w95 ⟨ha, hE103, hB96, z97, rfl⟩
  have hF : F_impl_GraphOk_k2 a0_0 = some _ := hK100; clear hK100; unfold F_impl_GraphOk_k2 at hF
  refine e_then ?_; refine wp_seq ?_; refine wp_seq ?_; refine wp_region_lit ?_; refine op_g ha rfl (g_field0 st29_0 rfl) ?_; clear ha a; intro a ha; refine op_g ha rfl (g_load Tryd.isAgg27 rfl (hB96.cell rfl)) ?_; clear ha a; intro a ha; refine op_g ha rfl (g_lenR sl27.und ha0_0 rfl) ?_; clear ha a; intro a ha; refine op_g ha rfl (g_move rfl) ?_; clear ha a; intro a ha; refine wpList_nil ?_; replace ha := ha.sub (σ' := [(1, (.pointer (some ⟨b1, 0, none⟩))), (38, va0_0), (39, (.int .i64 (a0_0.length : Int))), (40, (.int .i64 0))]) ⟨rfl, rfl, rfl, rfl, trivial⟩; refine e_then ?_; obtain ⟨o477, ho478, hK479⟩ := bnd_some hF
  obtain ⟨n480, hn481⟩ := lp_some ho478; clear ho478
  refine c_loop (fun a w => Fr 61 [] a ∧ Chg [] W w ∧ o477 = .inl ()) (fun n a w => ∃ (i311 : Int), Fr 61 [(1, (.pointer (some ⟨b1, 0, none⟩))), (38, va0_0), (39, (.int .i64 (a0_0.length : Int))), (40, (.int .i64 i311))] a ∧ Chg [] W w ∧ InI i311 ∧ Bx w b1 [va0_0] 29 ∧ Zn W (b1 : Int) ∧ lpN (fun s => F_impl_GraphOk_l3 a0_0 s) n i311 = some o477) n480 ⟨0, ha.sub ⟨rfl, rfl, rfl, rfl, trivial⟩, hE103, (show InI 0 from by decide), hB96, z97, hn481⟩ ?_ ?_
  · rintro m485 a w308 ⟨i311, ha, hE313, hI312, hB309, z310, hF⟩
    cases m485 with
    | zero => exact (lpN_zero hF).elim
    | succ m485 =>
      obtain ⟨z484, hF, hN483⟩ := lpN_succ hF
      have hF : F_impl_GraphOk_l3 a0_0 i311 = some z484 := hF; unfold F_impl_GraphOk_l3 at hF
      refine wp_seq ?_; refine wp_region_lit ?_; refine op_g ha rfl (g_lss rfl rfl) ?_; clear ha a; intro a ha; refine wpList_nil ?_; replace ha := ha.sub (σ' := [(1, (.pointer (some ⟨b1, 0, none⟩))), (38, va0_0), (39, (.int .i64 (a0_0.length : Int))), (40, (.int .i64 i311)), (41, (.bool (decide (i311 < (a0_0.length : Int)))))]) ⟨rfl, rfl, rfl, rfl, rfl, trivial⟩; refine e_then ?_; refine wp_seq ?_; refine c_cond (i311 < (a0_0.length : Int)) ha rfl (decide_eq_true_iff) (fun hp486 => ?_) (fun hp486 => ?_)
      · replace hF := if_t hp486 hF
        refine wp_skip ?_; refine e_then ?_; refine wp_seq ?_; refine wp_block ?_; refine wp_seq ?_; refine wp_region_lit ?_; refine op_g ha rfl (g_move rfl) ?_; clear ha a; intro a ha; obtain ⟨x487, g488, gx489, hF⟩ := idx_some hF
        obtain ⟨p490, cs491, f492, hf493, hpb494, hat495, hr496, hi497⟩ := ha0_0.at g488 gx489
        obtain ⟨v498, rfl, h499⟩ := hr496
        have h499 : Ro Rp.int W f492 v498 x487 := h499
        refine op_g ha rfl (hi497.gives sl27 rfl rfl) ?_; clear ha a; intro a ha; refine op_g ha rfl (g_load0 hE313 Tryd.isAgg31 rfl hat495.one) ?_; clear ha a; intro a ha; (iterate 2 refine op_g ha rfl (g_assign rfl) ?_; clear ha a; intro a ha); refine wpList_nil ?_; replace ha := ha.sub (σ' := [(1, (.pointer (some ⟨b1, 0, none⟩))), (6, (.int .i64 i311)), (7, v498), (38, va0_0), (39, (.int .i64 (a0_0.length : Int))), (40, (.int .i64 i311))]) ⟨rfl, rfl, rfl, rfl, rfl, rfl, trivial⟩; refine e_then ?_; refine wp_seq ?_; refine wp_region_lit ?_; refine op_g ha rfl (g_move rfl) ?_; clear ha a; intro a ha
        refine op_g ha rfl (g_lenR sl31.und h499 rfl) ?_; clear ha a; intro a ha; refine op_g ha rfl (g_move rfl) ?_; clear ha a; intro a ha; refine wpList_nil ?_; replace ha := ha.sub (σ' := [(1, (.pointer (some ⟨b1, 0, none⟩))), (6, (.int .i64 i311)), (38, va0_0), (39, (.int .i64 (a0_0.length : Int))), (40, (.int .i64 i311)), (45, v498), (46, (.int .i64 (x487.length : Int))), (47, (.int .i64 0))]) ⟨rfl, rfl, rfl, rfl, rfl, rfl, rfl, rfl, trivial⟩; refine e_then ?_; obtain ⟨o596, ho597, hK598⟩ := bnd_some hF
        obtain ⟨n599, hn600⟩ := lp_some ho597; clear ho597
        refine c_loop (fun a w => Fr 61 [(1, (.pointer (some ⟨b1, 0, none⟩))), (38, va0_0), (39, (.int .i64 (a0_0.length : Int))), (40, (.int .i64 i311))] a ∧ Chg [] W w ∧ Bx w b1 [va0_0] 29 ∧ Zn W (b1 : Int) ∧ o596 = .inl ()) (fun n a w => ∃ (i549 : Int), Fr 61 [(1, (.pointer (some ⟨b1, 0, none⟩))), (6, (.int .i64 i311)), (38, va0_0), (39, (.int .i64 (a0_0.length : Int))), (40, (.int .i64 i311)), (45, v498), (46, (.int .i64 (x487.length : Int))), (47, (.int .i64 i549))] a ∧ Chg [] W w ∧ InI i549 ∧ Bx w b1 [va0_0] 29 ∧ Zn W (b1 : Int) ∧ lpN (fun s => F_impl_GraphOk_l4 a0_0 i311 x487 s) n i549 = some o596) n599 ⟨0, ha.sub ⟨rfl, rfl, rfl, rfl, rfl, rfl, rfl, rfl, trivial⟩, hE313, (show InI 0 from by decide), hB309, z310, hn600⟩ ?_ ?_
        · rintro m604 a w546 ⟨i549, ha, hE551, hI550, hB547, z548, hF⟩
          cases m604 with
          | zero => exact (lpN_zero hF).elim
          | succ m604 =>
            obtain ⟨z603, hF, hN602⟩ := lpN_succ hF
            have hF : F_impl_GraphOk_l4 a0_0 i311 x487 i549 = some z603 := hF; unfold F_impl_GraphOk_l4 at hF
            refine wp_seq ?_; refine wp_region_lit ?_; refine op_g ha rfl (g_lss rfl rfl) ?_; clear ha a; intro a ha; refine wpList_nil ?_; replace ha := ha.sub (σ' := [(1, (.pointer (some ⟨b1, 0, none⟩))), (6, (.int .i64 i311)), (38, va0_0), (39, (.int .i64 (a0_0.length : Int))), (40, (.int .i64 i311)), (45, v498), (46, (.int .i64 (x487.length : Int))), (47, (.int .i64 i549)), (48, (.bool (decide (i549 < (x487.length : Int)))))]) ⟨rfl, rfl, rfl, rfl, rfl, rfl, rfl, rfl, rfl, trivial⟩; refine e_then ?_; refine wp_seq ?_; refine c_cond (i549 < (x487.length : Int)) ha rfl (decide_eq_true_iff) (fun hp605 => ?_) (fun hp605 => ?_)
            · replace hF := if_t hp605 hF
              refine wp_skip ?_; refine e_then ?_; refine wp_seq ?_; refine wp_block ?_; refine wp_seq ?_; refine wp_region_lit ?_; obtain ⟨x606, g607, gx608, hF⟩ := idx_some hF
              obtain ⟨p609, cs610, f611, hf612, hpb613, hat614, hr615, hi616⟩ := h499.at g607 gx608
              obtain ⟨rfl, hI617, rfl⟩ := hr615
              refine op_g ha rfl (hi616.gives sl31 rfl rfl) ?_; clear ha a; intro a ha; refine op_g ha rfl (g_load0 hE551 Tryd.isAgg2 rfl hat614.one) ?_; clear ha a; intro a ha; refine op_g ha rfl (g_assign rfl) ?_; clear ha a; intro a ha; refine wpList_nil ?_; replace ha := ha.sub (σ' := [(1, (.pointer (some ⟨b1, 0, none⟩))), (6, (.int .i64 i311)), (9, (.int .i64 x606)), (38, va0_0), (39, (.int .i64 (a0_0.length : Int))), (40, (.int .i64 i311)), (45, v498), (46, (.int .i64 (x487.length : Int))), (47, (.int .i64 i549))]) ⟨rfl, rfl, rfl, rfl, rfl, rfl, rfl, rfl, rfl, trivial⟩; refine e_then ?_; refine wp_seq ?_
              refine wp_region_lit ?_; refine op_g ha rfl (g_field0 st29_0 rfl) ?_; clear ha a; intro a ha; refine op_g ha rfl (g_load Tryd.isAgg27 rfl (hB547.cell rfl)) ?_; clear ha a; intro a ha; refine op_g ha rfl (g_move rfl) ?_; clear ha a; intro a ha; obtain ⟨x618, g619, gx620, hF⟩ := idx_some hF
              obtain ⟨p621, cs622, f623, hf624, hpb625, hat626, hr627, hi628⟩ := ha0_0.at g619 gx620
              obtain ⟨v629, rfl, h630⟩ := hr627
              have h630 : Ro Rp.int W f623 v629 x618 := h630
              refine op_g ha rfl (hi628.gives sl27 rfl rfl) ?_; clear ha a; intro a ha; refine op_g ha rfl (g_load0 hE551 Tryd.isAgg31 rfl hat626.one) ?_; clear ha a; intro a ha; refine op_g ha rfl (g_move rfl) ?_; clear ha a; intro a ha; obtain ⟨x632, hc633, hF⟩ := cal_some hF
              refine o_call ha rfl rfl Tryd.call73 (W_slices_Contains_int64 (h630.ext hE551) hI312 hc633) ?_; clear ha a; rintro v634 w635 ⟨rfl, hx636⟩ a ha
              replace hB547 := hB547.ext hx636
              have hE637 := Ext.trans hE551 hx636
              refine op_g ha rfl (g_not rfl) ?_; clear ha a; intro a ha; refine wpList_nil ?_; replace ha := ha.sub (σ' := [(1, (.pointer (some ⟨b1, 0, none⟩))), (6, (.int .i64 i311)), (38, va0_0), (39, (.int .i64 (a0_0.length : Int))), (40, (.int .i64 i311)), (45, v498), (46, (.int .i64 (x487.length : Int))), (47, (.int .i64 i549)), (58, (.bool (!x632)))]) ⟨rfl, rfl, rfl, rfl, rfl, rfl, rfl, rfl, rfl, trivial⟩; refine e_then ?_; refine c_cond (¬ (x632 = true)) ha rfl (n_iff (Iff.rfl)) (fun hp638 => ?_) (fun hp638 => ?_)
              · replace hF := if_t hp638 hF
                refine wp_seq ?_; refine wp_region_lit ?_; refine op_g ha rfl (g_assign rfl) ?_; clear ha a; intro a ha; refine wpList_nil ?_; replace ha := ha.sub (σ' := [(2, (.bool false))]) ⟨rfl, trivial⟩; refine e_then ?_; refine wp_ret ?_; refine e_blk_ret ?_; refine e_then_ret ?_; refine e_lq_ret ?_; refine e_blk_ret ?_; refine e_then_ret ?_; refine e_lq_ret ?_; refine e_then_ret ?_; obtain rfl := Option.some.inj hF
                have e639 := LK_inr hN602; subst e639
                have e640 := BK_inr hK598; subst e640
                have e641 := LK_inr hN483; subst e641
                have e642 := BK_inr hK479; subst e642
                exact f_ret1 ha rfl rfl ⟨rfl, hE637⟩
              replace hF := if_f hp638 hF; refine wp_skip ?_; refine e_blk ?_; refine e_then ?_; refine wp_region_lit ?_; obtain ⟨hI643, hF⟩ := ck_some hF; refine op_g ha rfl (g_add rfl rfl hI643) ?_; clear ha a; intro a ha; refine op_g ha rfl (g_move rfl) ?_; clear ha a; intro a ha; refine wpList_nil ?_; replace ha := ha.sub (σ' := [(1, (.pointer (some ⟨b1, 0, none⟩))), (6, (.int .i64 i311)), (38, va0_0), (39, (.int .i64 (a0_0.length : Int))), (40, (.int .i64 i311)), (45, v498), (46, (.int .i64 (x487.length : Int))), (47, (.int .i64 (i549 + 1)))]) ⟨rfl, rfl, rfl, rfl, rfl, rfl, rfl, rfl, trivial⟩
              refine e_lq ?_; obtain rfl := Option.some.inj hF
              exact ⟨_, Nat.lt_succ_self _, i549 + 1, ha.sub ⟨rfl, rfl, rfl, rfl, rfl, rfl, rfl, rfl, trivial⟩, hE637, hI643, hB547, z548, hN602⟩
            replace hF := if_f hp605 hF; refine wp_exit ?_; refine e_then_exit ?_; refine e_lq_eq ?_; obtain rfl := Option.some.inj hF
            exact ⟨ha.sub ⟨rfl, rfl, rfl, rfl, trivial⟩, hE551, hB547, z548, (LK_inr hN602).symm⟩
        rintro a w593 ⟨ha, hE601, hB594, z595, rfl⟩
        have hF : F_impl_GraphOk_k5 i311 = some _ := hK598; clear hK598; unfold F_impl_GraphOk_k5 at hF
        refine e_blk ?_; refine e_then ?_; refine wp_region_lit ?_; obtain ⟨hI645, hF⟩ := ck_some hF; refine op_g ha rfl (g_add rfl rfl hI645) ?_; clear ha a; intro a ha; refine op_g ha rfl (g_move rfl) ?_; clear ha a; intro a ha; refine wpList_nil ?_; replace ha := ha.sub (σ' := [(1, (.pointer (some ⟨b1, 0, none⟩))), (38, va0_0), (39, (.int .i64 (a0_0.length : Int))), (40, (.int .i64 (i311 + 1)))]) ⟨rfl, rfl, rfl, rfl, trivial⟩; refine e_lq ?_; obtain rfl := Option.some.inj hF
        exact ⟨_, Nat.lt_succ_self _, i311 + 1, ha.sub ⟨rfl, rfl, rfl, rfl, trivial⟩, hE601, hI645, hB594, z595, hN483⟩
      replace hF := if_f hp486 hF; refine wp_exit ?_; refine e_then_exit ?_; refine e_lq_eq ?_; obtain rfl := Option.some.inj hF
      exact ⟨ha.sub trivial, hE313, (LK_inr hN483).symm⟩
  rintro a w476 ⟨ha, hE482, rfl⟩
  have hF : F_impl_GraphOk_k6 = some _ := hK479; clear hK479; unfold F_impl_GraphOk_k6 at hF
  refine e_then ?_; refine wp_seq ?_; refine wp_region_lit ?_; refine op_g ha rfl (g_assign rfl) ?_; clear ha a; intro a ha; refine wpList_nil ?_; refine e_then ?_; refine wp_ret ?_; obtain rfl := Option.some.inj hF
  exact f_ret1 ha rfl rfl ⟨rfl, hE482⟩
set_option maxHeartbeats 2000000 in
theorem W_impl_one {W : World} {a0 : Int} (ha0 : InI a0) {r : (BitVec 32)} (hF : F_impl_one a0 = some r) :
    Calls Tryd.prog 46 [.int .i64 a0].toArray W (Ret fun u w' => u = .int .u32 (BitVec.toNat r : Int) ∧ Ext W w') := by
  refine f_enter Tryd.func46 rfl Tryd.ntmps46 rfl ?_
  intro a ha
  replace ha : Fr 5 [(0, (.int .i64 a0))] a := ha
  have hE : Chg [] W W := Chg.refl _ _
  unfold F_impl_one at hF
  refine wp_seq ?_; refine wp_region_lit ?_; refine op_g ha rfl (g_assign rfl) ?_; clear ha a; intro a ha; refine wpList_nil ?_; replace ha := ha.sub (σ' := [(0, (.int .i64 a0))]) ⟨rfl, trivial⟩; refine e_then ?_; refine wp_seq ?_; refine wp_region_lit ?_; refine op_g ha rfl (g_move rfl) ?_; clear ha a; intro a ha; obtain ⟨hs1, hF⟩ := grd_some hF; refine op_g ha rfl (g32_shl (m := (1#32)) rfl rfl hs1) ?_; clear ha a; intro a ha; refine op_g ha rfl (g_assign rfl) ?_; clear ha a; intro a ha; refine wpList_nil ?_; replace ha := ha.sub (σ' := [(2, (.int .u32 (BitVec.toNat ((1#32) <<< (a0 : Int).toNat) : Int)))]) ⟨rfl, trivial⟩
  refine e_then ?_; refine wp_ret ?_; obtain rfl := Option.some.inj hF
  exact f_ret1 ha rfl rfl ⟨rfl, hE⟩
set_option maxHeartbeats 2000000 in
theorem W_impl_maskOf {W : World} {va0 : Value} {fa0 : List Nat} {a0 : (List Int)} (ha0 : Ro Rp.int W fa0 va0 a0) {r : (BitVec 32)} (hF : F_impl_maskOf a0 = some r) :
    Calls Tryd.prog 66 [va0].toArray W (Ret fun u w' => u = .int .u32 (BitVec.toNat r : Int) ∧ Ext W w') := by
  refine f_enter Tryd.func66 rfl Tryd.ntmps66 rfl ?_
  intro a ha
  replace ha : Fr 18 [(0, va0)] a := ha
  have hE : Chg [] W W := Chg.refl _ _
  unfold F_impl_maskOf at hF
  refine wp_seq ?_; refine wp_region_lit ?_; refine op_g ha rfl (g_assign rfl) ?_; clear ha a; intro a ha; refine wpList_nil ?_; replace ha := ha.sub (σ' := [(0, va0)]) ⟨rfl, trivial⟩; refine e_then ?_; refine wp_seq ?_; refine wp_region_lit ?_; refine op_g ha rfl (g_assign rfl) ?_; clear ha a; intro a ha; refine wpList_nil ?_; refine e_then ?_; refine wp_seq ?_; refine wp_seq ?_; refine wp_region_lit ?_; refine op_g ha rfl (g_move rfl) ?_; clear ha a; intro a ha; refine op_g ha rfl (g_lenR sl31.und ha0 rfl) ?_; clear ha a; intro a ha; refine op_g ha rfl (g_move rfl) ?_; clear ha a; intro a ha
  refine wpList_nil ?_; replace ha := ha.sub (σ' := [(3, (.int .u32 (BitVec.toNat (0#32) : Int))), (6, va0), (7, (.int .i64 (a0.length : Int))), (8, (.int .i64 0))]) ⟨rfl, rfl, rfl, rfl, trivial⟩; refine e_then ?_; obtain ⟨o60, ho61, hK62⟩ := bnd_some hF
  obtain ⟨n63, hn64⟩ := lp_some ho61; clear ho61
  refine c_loop (fun a w => ∃ (u59 : BitVec 32), Fr 18 [(3, (.int .u32 (BitVec.toNat u59 : Int)))] a ∧ Chg [] W w ∧ o60 = .inl u59) (fun n a w => ∃ (u29 : BitVec 32) (i30 : Int), Fr 18 [(3, (.int .u32 (BitVec.toNat u29 : Int))), (6, va0), (7, (.int .i64 (a0.length : Int))), (8, (.int .i64 i30))] a ∧ Chg [] W w ∧ InI i30 ∧ lpN (fun s => F_impl_maskOf_l1 a0 s.1 s.2) n (u29, i30) = some o60) n63 ⟨0#32, 0, ha.sub ⟨rfl, rfl, rfl, rfl, trivial⟩, hE, (show InI 0 from by decide), hn64⟩ ?_ ?_
  · rintro m68 a w28 ⟨u29, i30, ha, hE32, hI31, hF⟩
    cases m68 with
    | zero => exact (lpN_zero hF).elim
    | succ m68 =>
      obtain ⟨z67, hF, hN66⟩ := lpN_succ hF
      have hF : F_impl_maskOf_l1 a0 u29 i30 = some z67 := hF; unfold F_impl_maskOf_l1 at hF
      refine wp_seq ?_; refine wp_region_lit ?_; refine op_g ha rfl (g_lss rfl rfl) ?_; clear ha a; intro a ha; refine wpList_nil ?_; replace ha := ha.sub (σ' := [(3, (.int .u32 (BitVec.toNat u29 : Int))), (6, va0), (7, (.int .i64 (a0.length : Int))), (8, (.int .i64 i30)), (9, (.bool (decide (i30 < (a0.length : Int)))))]) ⟨rfl, rfl, rfl, rfl, rfl, trivial⟩; refine e_then ?_; refine wp_seq ?_; refine c_cond (i30 < (a0.length : Int)) ha rfl (decide_eq_true_iff) (fun hp69 => ?_) (fun hp69 => ?_)
      · replace hF := if_t hp69 hF
        refine wp_skip ?_; refine e_then ?_; refine wp_seq ?_; refine wp_block ?_; refine wp_seq ?_; refine wp_region_lit ?_; obtain ⟨x70, g71, gx72, hF⟩ := idx_some hF
        obtain ⟨p73, cs74, f75, hf76, hpb77, hat78, hr79, hi80⟩ := ha0.at g71 gx72
        obtain ⟨rfl, hI81, rfl⟩ := hr79
        refine op_g ha rfl (hi80.gives sl31 rfl rfl) ?_; clear ha a; intro a ha; refine op_g ha rfl (g_load0 hE32 Tryd.isAgg2 rfl hat78.one) ?_; clear ha a; intro a ha; refine op_g ha rfl (g_assign rfl) ?_; clear ha a; intro a ha; refine wpList_nil ?_; replace ha := ha.sub (σ' := [(3, (.int .u32 (BitVec.toNat u29 : Int))), (5, (.int .i64 x70)), (6, va0), (7, (.int .i64 (a0.length : Int))), (8, (.int .i64 i30))]) ⟨rfl, rfl, rfl, rfl, rfl, trivial⟩; refine e_then ?_; refine wp_region_lit ?_; (iterate 2 refine op_g ha rfl (g_move rfl) ?_; clear ha a; intro a ha); obtain ⟨x82, hc83, hF⟩ := cal_some hF
        refine o_call ha rfl rfl Tryd.call46 (W_impl_one hI81 hc83) ?_; clear ha a; rintro v84 w85 ⟨rfl, hx86⟩ a ha
        have hE87 := Ext.trans hE32 hx86
        refine op_g ha rfl (g32_or (m := u29) (n := x82) rfl rfl) ?_; clear ha a; intro a ha; refine op_g ha rfl (g_assign rfl) ?_; clear ha a; intro a ha; refine wpList_nil ?_; replace ha := ha.sub (σ' := [(3, (.int .u32 (BitVec.toNat (u29 ||| x82) : Int))), (6, va0), (7, (.int .i64 (a0.length : Int))), (8, (.int .i64 i30))]) ⟨rfl, rfl, rfl, rfl, trivial⟩; refine e_blk ?_; refine e_then ?_; refine wp_region_lit ?_; obtain ⟨hI88, hF⟩ := ck_some hF; refine op_g ha rfl (g_add rfl rfl hI88) ?_; clear ha a; intro a ha; refine op_g ha rfl (g_move rfl) ?_; clear ha a; intro a ha; refine wpList_nil ?_
        replace ha := ha.sub (σ' := [(3, (.int .u32 (BitVec.toNat (u29 ||| x82) : Int))), (6, va0), (7, (.int .i64 (a0.length : Int))), (8, (.int .i64 (i30 + 1)))]) ⟨rfl, rfl, rfl, rfl, trivial⟩; refine e_lq ?_; obtain rfl := Option.some.inj hF
        exact ⟨_, Nat.lt_succ_self _, u29 ||| x82, i30 + 1, ha.sub ⟨rfl, rfl, rfl, rfl, trivial⟩, hE87, hI88, hN66⟩
      replace hF := if_f hp69 hF; refine wp_exit ?_; refine e_then_exit ?_; refine e_lq_eq ?_; obtain rfl := Option.some.inj hF
      exact ⟨u29, ha.sub ⟨rfl, trivial⟩, hE32, (LK_inr hN66).symm⟩
  rintro a w58 ⟨u59, ha, hE65, rfl⟩
  have hF : F_impl_maskOf_k2 u59 = some _ := hK62; clear hK62; unfold F_impl_maskOf_k2 at hF
  refine e_then ?_; refine wp_seq ?_; refine wp_region_lit ?_; refine op_g ha rfl (g_move rfl) ?_; clear ha a; intro a ha; refine op_g ha rfl (g_assign rfl) ?_; clear ha a; intro a ha; refine wpList_nil ?_; replace ha := ha.sub (σ' := [(2, (.int .u32 (BitVec.toNat u59 : Int)))]) ⟨rfl, trivial⟩; refine e_then ?_; refine wp_ret ?_; obtain rfl := Option.some.inj hF
  exact f_ret1 ha rfl rfl ⟨rfl, hE65⟩
set_option maxHeartbeats 2000000 in
theorem W_impl_netsOf {W : World} {va0_0 : Value} {fa0_0 : List Nat} {a0_0 : (List (List Int))} (ha0_0 : Ro (Rp.sl 2 Rp.int) W fa0_0 va0_0 a0_0) {r : (List (BitVec 32))} (hF : F_impl_netsOf a0_0 = some r) :
    Calls Tryd.prog 31 [.agg #[va0_0]].toArray W (Ret fun u w' => ∃ (b_u : Int), Ow Rp.u32 53 true w' [] b_u u r ∧ Zn W b_u ∧ Ext W w') := by
  refine f_enter Tryd.func31 rfl Tryd.ntmps31 rfl ?_
  intro a ha
  replace ha : Fr 21 [(0, (.agg #[va0_0]))] a := ha
  have hE : Chg [] W W := Chg.refl _ _
  unfold F_impl_netsOf at hF
  refine wp_seq ?_; refine wp_region_lit ?_
  refine o_box ha rfl rfl rfl ?_; clear ha a; intro b1 w2 hB3 hx4 hlo5 a ha
  have q6 := Zn.one hlo5
  have q7 := Zn.upD q6 hE
  have hE8 := Ext.trans hE hx4
  refine op_g ha rfl (g_assign rfl) ?_; clear ha a; intro a ha; refine wpList_nil ?_; replace ha := ha.sub (σ' := [(1, (.pointer (some ⟨b1, 0, none⟩)))]) ⟨rfl, trivial⟩; refine e_then ?_; refine wp_seq ?_; refine wp_region_lit ?_
  refine o_lit0 Rp.u32 ha rfl sl50 ?_; clear ha a; intro v9 w10 h11 hx12 a ha
  obtain ⟨b14, hb14⟩ : ∃ b : Int, b = w2.heap.size := ⟨_, rfl⟩; rw [← hb14] at h11
  have q15 := zn_of hb14
  have q16 := Nq.new hB3.fpb q15
  have q17 := Nq.madeO q15 hB3.bi
  have q18 := Zn.upD q15 hE8
  replace hB3 := hB3.ext hx12
  have hE19 := Ext.trans hE8 hx12
  refine op_g ha rfl (g_assign rfl) ?_; clear ha a; intro a ha; refine wpList_nil ?_; replace ha := ha.sub (σ' := [(1, (.pointer (some ⟨b1, 0, none⟩))), (3, v9)]) ⟨rfl, rfl, trivial⟩; refine e_then ?_; refine wp_seq ?_; refine wp_seq ?_; refine wp_region_lit ?_; refine op_g ha rfl (g_field0 st29_0 rfl) ?_; clear ha a; intro a ha; refine op_g ha rfl (g_load Tryd.isAgg27 rfl (hB3.cell rfl)) ?_; clear ha a; intro a ha; refine op_g ha rfl (g_lenR sl27.und ha0_0 rfl) ?_; clear ha a; intro a ha; refine op_g ha rfl (g_move rfl) ?_; clear ha a; intro a ha; refine wpList_nil ?_; replace ha := ha.sub (σ' := [(3, v9), (8, va0_0), (9, (.int .i64 (a0_0.length : Int))), (10, (.int .i64 0))]) ⟨rfl, rfl, rfl, rfl, trivial⟩
  refine e_then ?_; obtain ⟨o152, ho153, hK154⟩ := bnd_some hF
  obtain ⟨n155, hn156⟩ := lp_some ho153; clear ho153
  refine c_loop (fun a w => ∃ (l149 : (List (BitVec 32))) (v150 : Value) (b151 : Int), Fr 21 [(3, v150)] a ∧ Chg [] W w ∧ Ow Rp.u32 53 true w [] b151 v150 l149 ∧ Zn W b151 ∧ o152 = .inl l149) (fun n a w => ∃ (l84 : (List (BitVec 32))) (i87 : Int) (v85 : Value) (b86 : Int), Fr 21 [(3, v85), (8, va0_0), (9, (.int .i64 (a0_0.length : Int))), (10, (.int .i64 i87))] a ∧ Chg [] W w ∧ InI i87 ∧ Ow Rp.u32 53 true w [] b86 v85 l84 ∧ Zn W b86 ∧ lpN (fun s => F_impl_netsOf_l1 a0_0 s.1 s.2) n (l84, i87) = some o152) n155 ⟨([] : (List (BitVec 32))), 0, v9, b14, ha.sub ⟨rfl, rfl, rfl, rfl, trivial⟩, hE19, (show InI 0 from by decide), h11, q18, hn156⟩ ?_ ?_
  · rintro m160 a w80 ⟨l84, i87, v85, b86, ha, hE89, hI88, h82, z83, hF⟩
    cases m160 with
    | zero => exact (lpN_zero hF).elim
    | succ m160 =>
      obtain ⟨z159, hF, hN158⟩ := lpN_succ hF
      have hF : F_impl_netsOf_l1 a0_0 l84 i87 = some z159 := hF; unfold F_impl_netsOf_l1 at hF
      refine wp_seq ?_; refine wp_region_lit ?_; refine op_g ha rfl (g_lss rfl rfl) ?_; clear ha a; intro a ha; refine wpList_nil ?_; replace ha := ha.sub (σ' := [(3, v85), (8, va0_0), (9, (.int .i64 (a0_0.length : Int))), (10, (.int .i64 i87)), (11, (.bool (decide (i87 < (a0_0.length : Int)))))]) ⟨rfl, rfl, rfl, rfl, rfl, trivial⟩; refine e_then ?_; refine wp_seq ?_; refine c_cond (i87 < (a0_0.length : Int)) ha rfl (decide_eq_true_iff) (fun hp161 => ?_) (fun hp161 => ?_)
      · replace hF := if_t hp161 hF
        refine wp_skip ?_; refine e_then ?_; refine wp_seq ?_; refine wp_block ?_; refine wp_seq ?_; refine wp_region_lit ?_; obtain ⟨x162, g163, gx164, hF⟩ := idx_some hF
        obtain ⟨p165, cs166, f167, hf168, hpb169, hat170, hr171, hi172⟩ := ha0_0.at g163 gx164
        obtain ⟨v173, rfl, h174⟩ := hr171
        have h174 : Ro Rp.int W f167 v173 x162 := h174
        refine op_g ha rfl (hi172.gives sl27 rfl rfl) ?_; clear ha a; intro a ha; refine op_g ha rfl (g_load0 hE89 Tryd.isAgg31 rfl hat170.one) ?_; clear ha a; intro a ha; refine op_g ha rfl (g_assign rfl) ?_; clear ha a; intro a ha; refine wpList_nil ?_; replace ha := ha.sub (σ' := [(3, v85), (5, v173), (8, va0_0), (9, (.int .i64 (a0_0.length : Int))), (10, (.int .i64 i87))]) ⟨rfl, rfl, rfl, rfl, rfl, trivial⟩; refine e_then ?_; refine wp_region_lit ?_; (iterate 2 refine op_g ha rfl (g_move rfl) ?_; clear ha a; intro a ha); obtain ⟨x176, hc177, hF⟩ := cal_some hF
        refine o_call ha rfl rfl Tryd.call66 (W_impl_maskOf (h174.ext hE89) hc177) ?_; clear ha a; rintro v178 w179 ⟨rfl, hx180⟩ a ha
        replace h82 := h82.ext hx180
        have hE181 := Ext.trans hE89 hx180
        refine o_lit1 (o := true) (y := x176) Rp.u32 ha rfl sl50 rfl rfl rfl ⟨rfl, rfl⟩ ?_; clear ha a; intro v182 w183 h184 hx185 a ha
        obtain ⟨b187, hb187⟩ : ∃ b : Int, b = w179.heap.size := ⟨_, rfl⟩; rw [← hb187] at h184
        have q188 := zn_of hb187
        have q189 := Nq.new h82.fpb q188
        have q190 := Nq.madeO q188 h82.blt
        have q191 := Zn.upD q188 hE181
        replace h82 := h82.ext hx185
        have hE192 := Ext.trans hE181 hx185
        obtain ⟨hl193, hF⟩ := app_some hF
        refine o_append ha rfl sl50 rfl rfl rfl h82 h184.src (Nq.nil _) hl193 ?_; clear ha a; intro v194 w195 b196 h197 hc198 hb199 a ha
        replace h197 : Ow Rp.u32 53 true w195 [] b196 v194 _ := h197
        have q201 := Nq.appY q190 h184.fpb hb199
        have q202 := Nq.appX q189 (Nq.nil _) hb199 h184.blt
        have q203 := Zn.appD z83 hb199 hE192
        replace h184 := h184.nq hc198 q190
        have hE204 := Ext.then hE192 hc198 (Zn.bl z83)
        refine op_g ha rfl (g_assign rfl) ?_; clear ha a; intro a ha; refine wpList_nil ?_; replace ha := ha.sub (σ' := [(3, v194), (8, va0_0), (9, (.int .i64 (a0_0.length : Int))), (10, (.int .i64 i87))]) ⟨rfl, rfl, rfl, rfl, trivial⟩; refine e_blk ?_; refine e_then ?_; refine wp_region_lit ?_; obtain ⟨hI205, hF⟩ := ck_some hF; refine op_g ha rfl (g_add rfl rfl hI205) ?_; clear ha a; intro a ha; refine op_g ha rfl (g_move rfl) ?_; clear ha a; intro a ha; refine wpList_nil ?_; replace ha := ha.sub (σ' := [(3, v194), (8, va0_0), (9, (.int .i64 (a0_0.length : Int))), (10, (.int .i64 (i87 + 1)))]) ⟨rfl, rfl, rfl, rfl, trivial⟩
        refine e_lq ?_; obtain rfl := Option.some.inj hF
        exact ⟨_, Nat.lt_succ_self _, (l84 ++ ([x176])), i87 + 1, v194, b196, ha.sub ⟨rfl, rfl, rfl, rfl, trivial⟩, hE204, hI205, h197, q203, hN158⟩
      replace hF := if_f hp161 hF; refine wp_exit ?_; refine e_then_exit ?_; refine e_lq_eq ?_; obtain rfl := Option.some.inj hF
      exact ⟨l84, v85, b86, ha.sub ⟨rfl, trivial⟩, hE89, h82, z83, (LK_inr hN158).symm⟩
  rintro a w145 ⟨l149, v150, b151, ha, hE157, h147, z148, rfl⟩
  have hF : F_impl_netsOf_k2 l149 = some _ := hK154; clear hK154; unfold F_impl_netsOf_k2 at hF
  refine e_then ?_; refine wp_seq ?_; refine wp_region_lit ?_; refine op_g ha rfl (g_move rfl) ?_; clear ha a; intro a ha; refine op_g ha rfl (g_assign rfl) ?_; clear ha a; intro a ha; refine wpList_nil ?_; replace ha := ha.sub (σ' := [(2, v150)]) ⟨rfl, trivial⟩; refine e_then ?_; refine wp_ret ?_; obtain rfl := Option.some.inj hF
  exact f_ret1 ha rfl rfl ⟨_, h147, z148, hE157⟩
set_option maxHeartbeats 2000000 in
theorem W_impl_colourOn_step {rc : (List (BitVec 32)) → Int → (List (BitVec 32)) → Int → Option (Bool × (List (BitVec 32)))} (ih : ∀ {W : World} {va0 : Value} {fa0 : List Nat} {a0 : (List (BitVec 32))} (ha0 : Ro Rp.u32 W fa0 va0 a0) {a1 : Int} (ha1 : InI a1) {va2 : Value} {ba2 : Int} {a2 : (List (BitVec 32))} (ha2 : Ow Rp.u32 53 true W [] ba2 va2 a2) {a3 : Int} (ha3 : InI a3) (qa0 : Nq fa0 ba2) {r : (Bool × (List (BitVec 32)))} (hF : rc a0 a1 a2 a3 = some r),
    Calls Tryd.prog 74 [va0, .int .i64 a1, va2, .int .i64 a3].toArray W (Ret fun u w' => u = .bool r.1 ∧ Ow Rp.u32 53 true w' [] ba2 va2 r.2 ∧ Chg (bl ba2) W w')) {W : World} {va0 : Value} {fa0 : List Nat} {a0 : (List (BitVec 32))} (ha0 : Ro Rp.u32 W fa0 va0 a0) {a1 : Int} (ha1 : InI a1) {va2 : Value} {ba2 : Int} {a2 : (List (BitVec 32))} (ha2 : Ow Rp.u32 53 true W [] ba2 va2 a2) {a3 : Int} (ha3 : InI a3) (qa0 : Nq fa0 ba2) {r : (Bool × (List (BitVec 32)))} (hF : F_impl_colourOn_body rc a0 a1 a2 a3 = some r) :
    Calls Tryd.prog 74 [va0, .int .i64 a1, va2, .int .i64 a3].toArray W (Ret fun u w' => u = .bool r.1 ∧ Ow Rp.u32 53 true w' [] ba2 va2 r.2 ∧ Chg (bl ba2) W w') := by
  refine f_enter Tryd.func74 rfl Tryd.ntmps74 rfl ?_
  intro a ha
  replace ha : Fr 58 [(0, va0), (1, (.int .i64 a1)), (2, va2), (3, (.int .i64 a3))] a := ha
  have hE : Chg (bl ba2) W W := Chg.refl _ _
  unfold F_impl_colourOn_body at hF
  refine wp_seq ?_; refine wp_region_lit ?_; refine op_g ha rfl (g_assign rfl) ?_; clear ha a; intro a ha; refine wpList_nil ?_; replace ha := ha.sub (σ' := [(0, va0), (1, (.int .i64 a1)), (2, va2), (3, (.int .i64 a3))]) ⟨rfl, rfl, rfl, rfl, trivial⟩; refine e_then ?_; refine wp_seq ?_; refine wp_seq ?_; refine wp_region_lit ?_; (iterate 2 refine op_g ha rfl (g_move rfl) ?_; clear ha a; intro a ha); refine op_g ha rfl (g_lenR sl50.und ha0 rfl) ?_; clear ha a; intro a ha; refine op_g ha rfl (g_eql rfl rfl) ?_; clear ha a; intro a ha; refine wpList_nil ?_; replace ha := ha.sub (σ' := [(0, va0), (1, (.int .i64 a1)), (2, va2), (3, (.int .i64 a3)), (13, (.bool (decide (a1 = (a0.length : Int)))))]) ⟨rfl, rfl, rfl, rfl, rfl, trivial⟩
  refine e_then ?_; refine c_cond (a1 = (a0.length : Int)) ha rfl (decide_eq_true_iff) (fun hp1 => ?_) (fun hp1 => ?_)
  · replace hF := if_t hp1 hF
    refine wp_seq ?_; refine wp_region_lit ?_; refine op_g ha rfl (g_assign rfl) ?_; clear ha a; intro a ha; refine wpList_nil ?_; replace ha := ha.sub (σ' := [(8, (.bool true))]) ⟨rfl, trivial⟩; refine e_then ?_; refine wp_ret ?_; refine e_then_ret ?_; obtain rfl := Option.some.inj hF
    exact f_ret1 ha rfl rfl ⟨rfl, ha2, hE⟩
  replace hF := if_f hp1 hF; refine wp_skip ?_; refine e_then ?_; refine wp_seq ?_; refine wp_seq ?_; refine wp_region_lit ?_; refine op_g ha rfl (g_move rfl) ?_; clear ha a; intro a ha; obtain ⟨hI2, hF⟩ := ck_some hF; refine op_g ha rfl (g_add rfl rfl hI2) ?_; clear ha a; intro a ha; refine op_g ha rfl (g_move rfl) ?_; clear ha a; intro a ha; refine op_g ha rfl (g_lenO sl48.und ha2 rfl) ?_; clear ha a; intro a ha; refine op_g ha rfl (g_min rfl rfl) ?_; clear ha a; intro a ha; refine op_g ha rfl (g_move rfl) ?_; clear ha a; intro a ha; refine wpList_nil ?_; replace ha := ha.sub (σ' := [(0, va0), (1, (.int .i64 a1)), (2, va2), (3, (.int .i64 a3)), (18, (.int .i64 (min (a3 + 1) (a2.length : Int)))), (19, (.int .i64 0))]) ⟨rfl, rfl, rfl, rfl, rfl, rfl, trivial⟩
  refine e_then ?_; obtain ⟨o284, ho285, hK286⟩ := bnd_some hF
  obtain ⟨n287, hn288⟩ := lp_some ho285; clear ho285
  refine c_loop (fun a w => ∃ (l281 : (List (BitVec 32))), Fr 58 [] a ∧ Chg (bl ba2) W w ∧ Ow Rp.u32 53 true w [] ba2 va2 l281 ∧ o284 = .inl l281) (fun n a w => ∃ (l143 : (List (BitVec 32))) (i146 : Int), Fr 58 [(0, va0), (1, (.int .i64 a1)), (2, va2), (3, (.int .i64 a3)), (18, (.int .i64 (min (a3 + 1) (a2.length : Int)))), (19, (.int .i64 i146))] a ∧ Chg (bl ba2) W w ∧ InI i146 ∧ Ro Rp.u32 w fa0 va0 a0 ∧ Ow Rp.u32 53 true w [] ba2 va2 l143 ∧ Nq (fa0) ba2 ∧ lpN (fun s => F_impl_colourOn_l1 a0 a1 a2 a3 rc s.1 s.2) n (l143, i146) = some o284) n287 ⟨a2, 0, ha.sub ⟨rfl, rfl, rfl, rfl, rfl, rfl, trivial⟩, hE, (show InI 0 from by decide), ha0, ha2, qa0, hn288⟩ ?_ ?_
  · rintro m292 a w139 ⟨l143, i146, ha, hE149, hI147, h141, h142, q148, hF⟩
    cases m292 with
    | zero => exact (lpN_zero hF).elim
    | succ m292 =>
      obtain ⟨z291, hF, hN290⟩ := lpN_succ hF
      have hF : F_impl_colourOn_l1 a0 a1 a2 a3 rc l143 i146 = some z291 := hF; unfold F_impl_colourOn_l1 at hF
      refine wp_seq ?_; refine wp_region_lit ?_; refine op_g ha rfl (g_lss rfl rfl) ?_; clear ha a; intro a ha; refine wpList_nil ?_; replace ha := ha.sub (σ' := [(0, va0), (1, (.int .i64 a1)), (2, va2), (3, (.int .i64 a3)), (18, (.int .i64 (min (a3 + 1) (a2.length : Int)))), (19, (.int .i64 i146)), (20, (.bool (decide (i146 < (min (a3 + 1) (a2.length : Int))))))]) ⟨rfl, rfl, rfl, rfl, rfl, rfl, rfl, trivial⟩; refine e_then ?_; refine wp_seq ?_; refine c_cond (i146 < (min (a3 + 1) (a2.length : Int))) ha rfl (decide_eq_true_iff) (fun hp293 => ?_) (fun hp293 => ?_)
      · replace hF := if_t hp293 hF
        refine wp_skip ?_; refine e_then ?_; refine wp_seq ?_; refine wp_block ?_; refine wp_seq ?_; refine wp_region_lit ?_; refine op_g ha rfl (g_move rfl) ?_; clear ha a; intro a ha; refine op_g ha rfl (g_assign rfl) ?_; clear ha a; intro a ha; refine wpList_nil ?_; replace ha := ha.sub (σ' := [(0, va0), (1, (.int .i64 a1)), (2, va2), (3, (.int .i64 a3)), (9, (.int .i64 i146)), (18, (.int .i64 (min (a3 + 1) (a2.length : Int)))), (19, (.int .i64 i146))]) ⟨rfl, rfl, rfl, rfl, rfl, rfl, rfl, trivial⟩; refine e_then ?_; refine wp_seq ?_; refine wp_seq ?_; refine d_quiet hmix (by kernel_rfl) ?_; (iterate 2 refine q_g ha rfl (g_move rfl) ?_; clear ha a; intro a ha)
        obtain ⟨x294, g295, gx296, hF⟩ := idx_some hF
        obtain ⟨p297, cs298, f299, hf300, hpb301, hat302, hr303, hi304⟩ := h142.at g295 gx296
        obtain ⟨rfl, rfl⟩ := hr303
        refine q_g ha rfl (hi304.gives sl48 rfl rfl) ?_; clear ha a; intro a ha; refine q_g ha rfl (g_load Tryd.isAgg53 rfl hat302.one) ?_; clear ha a; intro a ha; (iterate 2 refine q_g ha rfl (g_move rfl) ?_; clear ha a; intro a ha); obtain ⟨x305, g306, gx307, hF⟩ := idx_some hF
        obtain ⟨p308, cs309, f310, hf311, hpb312, hat313, hr314, hi315⟩ := h141.at g306 gx307
        obtain ⟨rfl, rfl⟩ := hr314
        refine q_g ha rfl (hi315.gives sl50 rfl rfl) ?_; clear ha a; intro a ha; refine q_g ha rfl (g_load Tryd.isAgg53 rfl hat313.one) ?_; clear ha a; intro a ha; refine q_g ha rfl (g32_and (m := x294) (n := x305) rfl rfl) ?_; clear ha a; intro a ha; refine q_g ha rfl (g32_neq (m := (x294 &&& x305)) (n := (0#32)) rfl rfl) ?_; clear ha a; intro a ha
        refine q_nil ?_; intro w316 hx317
        replace h141 := h141.ext hx317
        replace h142 := h142.ext hx317
        have hE318 := Chg.more hE149 hx317
        replace ha := ha.sub (σ' := [(0, va0), (1, (.int .i64 a1)), (2, va2), (3, (.int .i64 a3)), (9, (.int .i64 i146)), (18, (.int .i64 (min (a3 + 1) (a2.length : Int)))), (19, (.int .i64 i146)), (31, (.bool (decide ((x294 &&& x305) ≠ (0#32)))))]) ⟨rfl, rfl, rfl, rfl, rfl, rfl, rfl, rfl, trivial⟩; refine e_then ?_; refine c_cond ((x294 &&& x305) ≠ (0#32)) ha rfl (decide_eq_true_iff) (fun hp319 => ?_) (fun hp319 => ?_)
        · replace hF := if_t hp319 hF
          refine wp_exit ?_; refine e_then_exit ?_; refine e_blk_eq ?_; refine e_then ?_; refine wp_region_lit ?_; obtain ⟨hI320, hF⟩ := ck_some hF; refine op_g ha rfl (g_add rfl rfl hI320) ?_; clear ha a; intro a ha; refine op_g ha rfl (g_move rfl) ?_; clear ha a; intro a ha; refine wpList_nil ?_; replace ha := ha.sub (σ' := [(0, va0), (1, (.int .i64 a1)), (2, va2), (3, (.int .i64 a3)), (18, (.int .i64 (min (a3 + 1) (a2.length : Int)))), (19, (.int .i64 (i146 + 1)))]) ⟨rfl, rfl, rfl, rfl, rfl, rfl, trivial⟩; refine e_lq ?_; obtain rfl := Option.some.inj hF
          exact ⟨_, Nat.lt_succ_self _, l143, i146 + 1, ha.sub ⟨rfl, rfl, rfl, rfl, rfl, rfl, trivial⟩, hE318, hI320, h141, h142, q148, hN290⟩
        replace hF := if_f hp319 hF; refine wp_skip ?_; refine e_then ?_; refine wp_seq ?_; refine d_region [0, 1, 2, 3, 4, 5, 6, 7] hmix ?_; refine u_g 0 rfl (by kernel_rfl) (want0 _) ha rfl (g_move rfl) ?_; clear ha a; intro a ha; refine u_g 1 rfl (by kernel_rfl) (want0 _) ha rfl (g_move rfl) ?_; clear ha a; intro a ha; obtain ⟨x322, g323, gx324, hF⟩ := idx_some hF
        obtain ⟨p325, cs326, f327, hf328, hpb329, hat330, hr331, hi332⟩ := h142.at g323 gx324
        obtain ⟨rfl, rfl⟩ := hr331
        refine u_g 2 rfl (by kernel_rfl) (want0 _) ha rfl (hi332.gives sl48 rfl rfl) ?_; clear ha a; intro a ha; refine u_g 3 rfl (by kernel_rfl) (want0 _) ha rfl (g_load Tryd.isAgg53 rfl hat330.one) ?_; clear ha a; intro a ha; refine u_g 4 rfl (by kernel_rfl) (want0 _) ha rfl (g_move rfl) ?_; clear ha a; intro a ha; obtain ⟨x335, hc336, hF⟩ := cal_some hF; refine u_call (.int .u32 (BitVec.toNat x335 : Int)) 5 rfl (by kernel_rfl) (want0 _) ha rfl rfl Tryd.call46 (fun w334 hx333 => W_impl_one ha1 hc336) (fun _ _ _ h => ⟨h.1, h.2⟩) ?_; clear ha a; intro a ha; refine u_g 6 rfl (by kernel_rfl) (want0 _) ha rfl (g32_or (m := x322) (n := x335) rfl rfl) ?_; clear ha a; intro a ha
        obtain ⟨x337, g338, gx339, hF⟩ := idx_some hF
        obtain ⟨p340, cs341, f342, hf343, hpb344, hat345, hr346, hi347⟩ := h142.at g338 gx339
        obtain ⟨rfl, rfl⟩ := hr346
        refine u_g 7 rfl (by kernel_rfl) (want0 _) ha rfl (hi347.gives sl48 rfl rfl) ?_; clear ha a; intro a ha
        refine u_only 8 rfl (by kernel_rfl) ?_; intro w348 hx349
        replace h141 := h141.ext hx349
        replace h142 := h142.ext hx349
        have hE350 := Chg.more hE318 hx349
        refine o_storeE (f := []) (q := x322 ||| x335) ha Tryd.sizeOf53 rfl rfl rfl h142 hi347 ⟨rfl, rfl⟩ (Nq.nil _) ?_; intro w351 fs352 h353 hc354 hs355
        obtain rfl := Subst.nil hs355
        replace h141 := h141.nq hc354 q148
        have hE356 := Chg.same hE350 hc354
        refine wpList_nil (e_sq ?_)
        refine ⟨fun h => absurd h (by decide), ?_⟩
        refine u_done (by kernel_rfl) ?_; intro w357 hx358
        replace h141 := h141.ext hx358
        replace h353 := h353.ext hx358
        have hE359 := Chg.more hE356 hx358
        replace ha := ha.sub (σ' := [(0, va0), (1, (.int .i64 a1)), (2, va2), (3, (.int .i64 a3)), (9, (.int .i64 i146)), (18, (.int .i64 (min (a3 + 1) (a2.length : Int)))), (19, (.int .i64 i146))]) ⟨rfl, rfl, rfl, rfl, rfl, rfl, rfl, trivial⟩; refine e_then ?_; refine wp_seq ?_; refine wp_seq ?_; refine wp_region_lit ?_; (iterate 2 refine op_g ha rfl (g_move rfl) ?_; clear ha a; intro a ha); obtain ⟨hI360, hF⟩ := ck_some hF; refine op_g ha rfl (g_add rfl rfl hI360) ?_; clear ha a; intro a ha; (iterate 3 refine op_g ha rfl (g_move rfl) ?_; clear ha a; intro a ha); obtain ⟨hI362, hF⟩ := ck_some hF
        refine op_g ha rfl (g_add rfl rfl hI362) ?_; clear ha a; intro a ha; refine op_g ha rfl (g_max rfl rfl) ?_; clear ha a; intro a ha; obtain ⟨x364, hc365, hF⟩ := cal_some hF
        refine o_call ha rfl rfl Tryd.call74 (ih h141 hI360 h353 (in_max ha3 hI362) q148 hc365) ?_; clear ha a; rintro v366 w367 ⟨rfl, h369, hx368⟩ a ha
        replace h141 := h141.nq hx368 q148
        have hE370 := Chg.same hE359 hx368
        refine wpList_nil ?_; replace ha := ha.sub (σ' := [(0, va0), (1, (.int .i64 a1)), (2, va2), (3, (.int .i64 a3)), (9, (.int .i64 i146)), (18, (.int .i64 (min (a3 + 1) (a2.length : Int)))), (19, (.int .i64 i146)), (48, (.bool x364.1))]) ⟨rfl, rfl, rfl, rfl, rfl, rfl, rfl, rfl, trivial⟩; refine e_then ?_; refine c_cond (x364.1 = true) ha rfl (Iff.rfl) (fun hp371 => ?_) (fun hp371 => ?_)
        · replace hF := if_t hp371 hF
          refine wp_seq ?_; refine wp_region_lit ?_; refine op_g ha rfl (g_assign rfl) ?_; clear ha a; intro a ha; refine wpList_nil ?_; replace ha := ha.sub (σ' := [(8, (.bool true))]) ⟨rfl, trivial⟩; refine e_then ?_; refine wp_ret ?_; refine e_then_ret ?_; refine e_blk_ret ?_; refine e_then_ret ?_; refine e_lq_ret ?_; refine e_then_ret ?_; obtain rfl := Option.some.inj hF
          have e372 := LK_inr hN290; subst e372
          have e373 := BK_inr hK286; subst e373
          exact f_ret1 ha rfl rfl ⟨rfl, h369, hE370⟩
        replace hF := if_f hp371 hF; refine wp_skip ?_; refine e_then ?_; refine d_region [0, 1, 2, 3, 4, 5, 6, 7] hmix ?_; refine u_g 0 rfl (by kernel_rfl) (want0 _) ha rfl (g_move rfl) ?_; clear ha a; intro a ha; refine u_g 1 rfl (by kernel_rfl) (want0 _) ha rfl (g_move rfl) ?_; clear ha a; intro a ha; obtain ⟨x374, g375, gx376, hF⟩ := idx_some hF
        obtain ⟨p377, cs378, f379, hf380, hpb381, hat382, hr383, hi384⟩ := h369.at g375 gx376
        obtain ⟨rfl, rfl⟩ := hr383
        refine u_g 2 rfl (by kernel_rfl) (want0 _) ha rfl (hi384.gives sl48 rfl rfl) ?_; clear ha a; intro a ha; refine u_g 3 rfl (by kernel_rfl) (want0 _) ha rfl (g_load Tryd.isAgg53 rfl hat382.one) ?_; clear ha a; intro a ha; refine u_g 4 rfl (by kernel_rfl) (want0 _) ha rfl (g_move rfl) ?_; clear ha a; intro a ha; obtain ⟨x387, hc388, hF⟩ := cal_some hF; refine u_call (.int .u32 (BitVec.toNat x387 : Int)) 5 rfl (by kernel_rfl) (want0 _) ha rfl rfl Tryd.call46 (fun w386 hx385 => W_impl_one ha1 hc388) (fun _ _ _ h => ⟨h.1, h.2⟩) ?_; clear ha a; intro a ha; refine u_g 6 rfl (by kernel_rfl) (want0 _) ha rfl (g32_andNot (m := x374) (n := x387) rfl rfl) ?_; clear ha a; intro a ha
        obtain ⟨x389, g390, gx391, hF⟩ := idx_some hF
        obtain ⟨p392, cs393, f394, hf395, hpb396, hat397, hr398, hi399⟩ := h369.at g390 gx391
        obtain ⟨rfl, rfl⟩ := hr398
        refine u_g 7 rfl (by kernel_rfl) (want0 _) ha rfl (hi399.gives sl48 rfl rfl) ?_; clear ha a; intro a ha
        refine u_only 8 rfl (by kernel_rfl) ?_; intro w400 hx401
        replace h141 := h141.ext hx401
        replace h369 := h369.ext hx401
        have hE402 := Chg.more hE370 hx401
        refine o_storeE (f := []) (q := x374 &&& ~~~x387) ha Tryd.sizeOf53 rfl rfl rfl h369 hi399 ⟨rfl, rfl⟩ (Nq.nil _) ?_; intro w403 fs404 h405 hc406 hs407
        obtain rfl := Subst.nil hs407
        replace h141 := h141.nq hc406 q148
        have hE408 := Chg.same hE402 hc406
        refine wpList_nil (e_sq ?_)
        refine ⟨fun h => absurd h (by decide), ?_⟩
        refine u_done (by kernel_rfl) ?_; intro w409 hx410
        replace h141 := h141.ext hx410
        replace h405 := h405.ext hx410
        have hE411 := Chg.more hE408 hx410
        replace ha := ha.sub (σ' := [(0, va0), (1, (.int .i64 a1)), (2, va2), (3, (.int .i64 a3)), (18, (.int .i64 (min (a3 + 1) (a2.length : Int)))), (19, (.int .i64 i146))]) ⟨rfl, rfl, rfl, rfl, rfl, rfl, trivial⟩; refine e_blk ?_; refine e_then ?_; refine wp_region_lit ?_; obtain ⟨hI412, hF⟩ := ck_some hF; refine op_g ha rfl (g_add rfl rfl hI412) ?_; clear ha a; intro a ha; refine op_g ha rfl (g_move rfl) ?_; clear ha a; intro a ha; refine wpList_nil ?_; replace ha := ha.sub (σ' := [(0, va0), (1, (.int .i64 a1)), (2, va2), (3, (.int .i64 a3)), (18, (.int .i64 (min (a3 + 1) (a2.length : Int)))), (19, (.int .i64 (i146 + 1)))]) ⟨rfl, rfl, rfl, rfl, rfl, rfl, trivial⟩
        refine e_lq ?_; obtain rfl := Option.some.inj hF
        exact ⟨_, Nat.lt_succ_self _, (x364.2.set ((i146 : Int).toNat) (x374 &&& ~~~x387)), i146 + 1, ha.sub ⟨rfl, rfl, rfl, rfl, rfl, rfl, trivial⟩, hE411, hI412, h141, h405, q148, hN290⟩
      replace hF := if_f hp293 hF; refine wp_exit ?_; refine e_then_exit ?_; refine e_lq_eq ?_; obtain rfl := Option.some.inj hF
      exact ⟨l143, ha.sub trivial, hE149, h142, (LK_inr hN290).symm⟩
  rintro a w279 ⟨l281, ha, hE289, h280, rfl⟩
  have hF : F_impl_colourOn_k2 l281 = some _ := hK286; clear hK286; unfold F_impl_colourOn_k2 at hF
  refine e_then ?_; refine wp_seq ?_; refine wp_region_lit ?_; refine op_g ha rfl (g_assign rfl) ?_; clear ha a; intro a ha; refine wpList_nil ?_; refine e_then ?_; refine wp_ret ?_; obtain rfl := Option.some.inj hF
  exact f_ret1 ha rfl rfl ⟨rfl, h280, hE289⟩
theorem W_impl_colourOn_n (n : Nat) : ∀ {W : World} {va0 : Value} {fa0 : List Nat} {a0 : (List (BitVec 32))} (ha0 : Ro Rp.u32 W fa0 va0 a0) {a1 : Int} (ha1 : InI a1) {va2 : Value} {ba2 : Int} {a2 : (List (BitVec 32))} (ha2 : Ow Rp.u32 53 true W [] ba2 va2 a2) {a3 : Int} (ha3 : InI a3) (qa0 : Nq fa0 ba2) {r : (Bool × (List (BitVec 32)))} (hF : itN (fun (rc : ((List (BitVec 32)) × Int × (List (BitVec 32)) × Int) → Option (Bool × (List (BitVec 32)))) a => F_impl_colourOn_body (fun z0 z1 z2 z3 => rc (z0, z1, z2, z3)) a.1 a.2.1 a.2.2.1 a.2.2.2) n (a0, a1, a2, a3) = some r),
    Calls Tryd.prog 74 [va0, .int .i64 a1, va2, .int .i64 a3].toArray W (Ret fun u w' => u = .bool r.1 ∧ Ow Rp.u32 53 true w' [] ba2 va2 r.2 ∧ Chg (bl ba2) W w') := by
  induction n with
  | zero => intro W va0 fa0 a0 ha0 a1 ha1 va2 ba2 a2 ha2 a3 ha3 qa0 r hF; cases hF
  | succ n ih => intro W va0 fa0 a0 ha0 a1 ha1 va2 ba2 a2 ha2 a3 ha3 qa0 r hF; exact W_impl_colourOn_step (rc := fun z0 z1 z2 z3 => itN (fun (rc : ((List (BitVec 32)) × Int × (List (BitVec 32)) × Int) → Option (Bool × (List (BitVec 32)))) a => F_impl_colourOn_body (fun z0 z1 z2 z3 => rc (z0, z1, z2, z3)) a.1 a.2.1 a.2.2.1 a.2.2.2) n (z0, z1, z2, z3)) @ih ha0 ha1 ha2 ha3 qa0 hF
theorem W_impl_colourOn {W : World} {va0 : Value} {fa0 : List Nat} {a0 : (List (BitVec 32))} (ha0 : Ro Rp.u32 W fa0 va0 a0) {a1 : Int} (ha1 : InI a1) {va2 : Value} {ba2 : Int} {a2 : (List (BitVec 32))} (ha2 : Ow Rp.u32 53 true W [] ba2 va2 a2) {a3 : Int} (ha3 : InI a3) (qa0 : Nq fa0 ba2) {r : (Bool × (List (BitVec 32)))} (hF : F_impl_colourOn a0 a1 a2 a3 = some r) :
    Calls Tryd.prog 74 [va0, .int .i64 a1, va2, .int .i64 a3].toArray W (Ret fun u w' => u = .bool r.1 ∧ Ow Rp.u32 53 true w' [] ba2 va2 r.2 ∧ Chg (bl ba2) W w') := by
  obtain ⟨n, hn⟩ := fixO_some hF
  exact W_impl_colourOn_n n ha0 ha1 ha2 ha3 qa0 hn
set_option maxHeartbeats 2000000 in
theorem W_impl_bestClasses {W : World} {va0 : Value} {fa0 : List Nat} {a0 : (List (BitVec 32))} (ha0 : Ro Rp.u32 W fa0 va0 a0) {r : (List (BitVec 32))} (hF : F_impl_bestClasses a0 = some r) :
    Calls Tryd.prog 30 [va0].toArray W (Ret fun u w' => ∃ (b_u : Int), Ow Rp.u32 53 true w' [] b_u u r ∧ Zn W b_u ∧ Ext W w') := by
  refine f_enter Tryd.func30 rfl Tryd.ntmps30 rfl ?_
  intro a ha
  replace ha : Fr 13 [(0, va0)] a := ha
  have hE : Chg [] W W := Chg.refl _ _
  unfold F_impl_bestClasses at hF
  refine wp_seq ?_; refine wp_region_lit ?_; refine op_g ha rfl (g_assign rfl) ?_; clear ha a; intro a ha; refine wpList_nil ?_; replace ha := ha.sub (σ' := [(0, va0)]) ⟨rfl, trivial⟩; refine e_then ?_; refine wp_seq ?_; refine wp_region_lit ?_; refine op_g ha rfl (g_assign rfl) ?_; clear ha a; intro a ha; refine wpList_nil ?_; refine e_then ?_; obtain ⟨o56, ho57, hK58⟩ := bnd_some hF
  obtain ⟨n59, hn60⟩ := lp_some ho57; clear ho57
  refine c_loop (fun a w => Fr 13 [] a ∧ Chg [] W w ∧ o56 = .inl ()) (fun n a w => ∃ (i28 : Int), Fr 13 [(0, va0), (3, (.int .i64 i28))] a ∧ Chg [] W w ∧ InI i28 ∧ lpN (fun s => F_impl_bestClasses_l1 a0 s) n i28 = some o56) n59 ⟨1, ha.sub ⟨rfl, rfl, trivial⟩, hE, (show InI 1 from by decide), hn60⟩ ?_ ?_
  · rintro m64 a w27 ⟨i28, ha, hE30, hI29, hF⟩
    cases m64 with
    | zero => exact (lpN_zero hF).elim
    | succ m64 =>
      obtain ⟨z63, hF, hN62⟩ := lpN_succ hF
      have hF : F_impl_bestClasses_l1 a0 i28 = some z63 := hF; unfold F_impl_bestClasses_l1 at hF
      refine wp_seq ?_; refine wp_block ?_; refine wp_seq ?_; refine wp_region_lit ?_; refine op_g ha rfl (g_move rfl) ?_; clear ha a; intro a ha; obtain ⟨g69, g69b, hF⟩ := mkS_some hF
      refine o_make (z0 := (0 : BitVec 32)) Rp.u32 ha rfl sl48 rfl (fun w => ⟨rfl, rfl⟩) rfl g69 g69b ?_; clear ha a; intro v65 w66 h67 hx68 a ha
      obtain ⟨b72, hb72⟩ : ∃ b : Int, b = w27.heap.size := ⟨_, rfl⟩; rw [← hb72] at h67
      have q73 := zn_of hb72
      have q74 := Zn.upD q73 hE30
      have hE75 := Ext.trans hE30 hx68
      refine op_g ha rfl (g_assign rfl) ?_; clear ha a; intro a ha; refine wpList_nil ?_; replace ha := ha.sub (σ' := [(0, va0), (3, (.int .i64 i28)), (4, v65)]) ⟨rfl, rfl, rfl, trivial⟩; refine e_then ?_; refine wp_seq ?_; refine wp_region_lit ?_; (iterate 2 refine op_g ha rfl (g_move rfl) ?_; clear ha a; intro a ha); obtain ⟨x76, hc77, hF⟩ := cal_some hF
      refine o_call ha rfl rfl Tryd.call74 (W_impl_colourOn (ha0.ext hE75) (show InI 0 from by decide) h67 (show InI 0 from by decide) (Nq.new ha0.bnd q74) hc77) ?_; clear ha a; rintro v78 w79 ⟨rfl, h81, hx80⟩ a ha
      have hE82 := Ext.then hE75 hx80 (Zn.bl q74)
      refine wpList_nil ?_; replace ha := ha.sub (σ' := [(0, va0), (3, (.int .i64 i28)), (4, v65), (11, (.bool x76.1))]) ⟨rfl, rfl, rfl, rfl, trivial⟩; refine e_then ?_; refine c_cond (x76.1 = true) ha rfl (Iff.rfl) (fun hp83 => ?_) (fun hp83 => ?_)
      · replace hF := if_t hp83 hF
        refine wp_seq ?_; refine wp_region_lit ?_; refine op_g ha rfl (g_move rfl) ?_; clear ha a; intro a ha; refine op_g ha rfl (g_assign rfl) ?_; clear ha a; intro a ha; refine wpList_nil ?_; replace ha := ha.sub (σ' := [(2, v65)]) ⟨rfl, trivial⟩; refine e_then ?_; refine wp_ret ?_; refine e_blk_ret ?_; refine e_then_ret ?_; refine e_lq_ret ?_; obtain rfl := Option.some.inj hF
        have e84 := LK_inr hN62; subst e84
        have e85 := BK_inr hK58; subst e85
        exact f_ret1 ha rfl rfl ⟨_, h81, q74, hE82⟩
      replace hF := if_f hp83 hF; refine wp_skip ?_; refine e_blk ?_; refine e_then ?_; refine wp_region_lit ?_; refine op_g ha rfl (g_move rfl) ?_; clear ha a; intro a ha; obtain ⟨hI86, hF⟩ := ck_some hF; refine op_g ha rfl (g_add rfl rfl hI86) ?_; clear ha a; intro a ha; refine op_g ha rfl (g_assign rfl) ?_; clear ha a; intro a ha; refine wpList_nil ?_; replace ha := ha.sub (σ' := [(0, va0), (3, (.int .i64 (i28 + 1)))]) ⟨rfl, rfl, trivial⟩; refine e_lq ?_; obtain rfl := Option.some.inj hF
      exact ⟨_, Nat.lt_succ_self _, i28 + 1, ha.sub ⟨rfl, rfl, trivial⟩, hE82, hI86, hN62⟩
  rintro a w55 ⟨ha, hE61, rfl⟩
  cases hK58
set_option maxHeartbeats 2000000 in
theorem W_math_bits_TrailingZeros32 {W : World} {a0 : BitVec 32} (hG : GT 0 W) {r : Int} (hF : F_math_bits_TrailingZeros32 a0 = some r) :
    Calls Tryd.prog 94 [.int .u32 (BitVec.toNat a0 : Int)].toArray W (Ret fun u w' => (u = .int .i64 r ∧ InI r) ∧ Ext W w') := by
  refine f_enter Tryd.func94 rfl Tryd.ntmps94 rfl ?_
  intro a ha
  replace ha : Fr 14 [(0, (.int .u32 (BitVec.toNat a0 : Int)))] a := ha
  have hE : Chg [] W W := Chg.refl _ _
  unfold F_math_bits_TrailingZeros32 at hF
  refine wp_seq ?_; refine wp_region_lit ?_; refine op_g ha rfl (g_assign rfl) ?_; clear ha a; intro a ha; refine wpList_nil ?_; replace ha := ha.sub (σ' := [(0, (.int .u32 (BitVec.toNat a0 : Int)))]) ⟨rfl, trivial⟩; refine e_then ?_; refine wp_seq ?_; refine wp_seq ?_; refine wp_region_lit ?_; refine op_g ha rfl (g_move rfl) ?_; clear ha a; intro a ha; refine op_g ha rfl (g32_eql (m := a0) (n := (0#32)) rfl rfl) ?_; clear ha a; intro a ha; refine wpList_nil ?_; replace ha := ha.sub (σ' := [(0, (.int .u32 (BitVec.toNat a0 : Int))), (4, (.bool (decide (a0 = (0#32)))))]) ⟨rfl, rfl, trivial⟩; refine e_then ?_
  refine c_cond (a0 = (0#32)) ha rfl (decide_eq_true_iff) (fun hp1 => ?_) (fun hp1 => ?_)
  · replace hF := if_t hp1 hF
    refine wp_seq ?_; refine wp_region_lit ?_; refine op_g ha rfl (g_assign rfl) ?_; clear ha a; intro a ha; refine wpList_nil ?_; replace ha := ha.sub (σ' := [(2, (.int .i64 32))]) ⟨rfl, trivial⟩; refine e_then ?_; refine wp_ret ?_; refine e_then_ret ?_; obtain rfl := Option.some.inj hF
    exact f_ret1 ha rfl rfl ⟨⟨rfl, (show InI 32 from by decide)⟩, hE⟩
  replace hF := if_f hp1 hF; refine wp_skip ?_; refine e_then ?_; refine wp_seq ?_; refine wp_region_lit ?_; (iterate 2 refine op_g ha rfl (g_move rfl) ?_; clear ha a; intro a ha); refine op_g ha rfl (g32_neg (m := a0) rfl) ?_; clear ha a; intro a ha; refine op_g ha rfl (g32_and (m := a0) (n := (-a0)) rfl rfl) ?_; clear ha a; intro a ha; refine op_g ha rfl (g32_mul (m := (a0 &&& (-a0))) (n := (125613361#32)) rfl rfl) ?_; clear ha a; intro a ha; refine op_g ha rfl (g32_shr (m := ((a0 &&& (-a0)) * (125613361#32))) rfl rfl (show InU 27 from by decide).1) ?_; clear ha a; intro a ha; obtain ⟨x2, g3, gx4, hF⟩ := idx_some hF
  refine op_g ha rfl (g_idxG un100 Tryd.sizeOf5 rfl g3 (idx_lt g3 gx4 (by decide))) ?_; clear ha a; intro a ha; refine op_g ha rfl (g_load Tryd.isAgg5 rfl (Tab.cell (hG.ext hE) gx4)) ?_; clear ha a; intro a ha; refine op_g ha rfl (g_conv8 (m := x2) un5 un3 rfl) ?_; clear ha a; intro a ha; refine op_g ha rfl (g_assign rfl) ?_; clear ha a; intro a ha; refine wpList_nil ?_; replace ha := ha.sub (σ' := [(2, (.int .i64 (BitVec.toNat x2 : Int)))]) ⟨rfl, trivial⟩; refine e_then ?_; refine wp_ret ?_; obtain rfl := Option.some.inj hF
  exact f_ret1 ha rfl rfl ⟨⟨rfl, (in_u8 _)⟩, hE⟩
set_option maxHeartbeats 2000000 in
theorem W_impl_vset_least {W : World} {a0 : BitVec 32} (hG : GT 0 W) {r : Int} (hF : F_impl_vset_least a0 = some r) :
    Calls Tryd.prog 75 [.int .u32 (BitVec.toNat a0 : Int)].toArray W (Ret fun u w' => (u = .int .i64 r ∧ InI r) ∧ Ext W w') := by
  refine f_enter Tryd.func75 rfl Tryd.ntmps75 rfl ?_
  intro a ha
  replace ha : Fr 5 [(0, (.int .u32 (BitVec.toNat a0 : Int)))] a := ha
  have hE : Chg [] W W := Chg.refl _ _
  unfold F_impl_vset_least at hF
  refine wp_seq ?_; refine wp_region_lit ?_; refine op_g ha rfl (g_assign rfl) ?_; clear ha a; intro a ha; refine wpList_nil ?_; replace ha := ha.sub (σ' := [(0, (.int .u32 (BitVec.toNat a0 : Int)))]) ⟨rfl, trivial⟩; refine e_then ?_; refine wp_seq ?_; refine wp_region_lit ?_; refine op_g ha rfl (g_move rfl) ?_; clear ha a; intro a ha; obtain ⟨x1, hc2, hF⟩ := cal_some hF
  refine o_call ha rfl rfl Tryd.call94 (W_math_bits_TrailingZeros32 (hG.ext hE) hc2) ?_; clear ha a; rintro v3 w4 ⟨⟨rfl, hI6⟩, hx5⟩ a ha
  have hE7 := Ext.trans hE hx5
  refine op_g ha rfl (g_assign rfl) ?_; clear ha a; intro a ha; refine wpList_nil ?_; replace ha := ha.sub (σ' := [(2, (.int .i64 x1))]) ⟨rfl, trivial⟩; refine e_then ?_; refine wp_ret ?_; obtain rfl := Option.some.inj hF
  exact f_ret1 ha rfl rfl ⟨⟨rfl, hI6⟩, hE7⟩
set_option maxHeartbeats 2000000 in
theorem W_impl_vset_list {W : World} {a0 : BitVec 32} (hG : GT 0 W) {r : (List Int)} (hF : F_impl_vset_list a0 = some r) :
    Calls Tryd.prog 32 [.int .u32 (BitVec.toNat a0 : Int)].toArray W (Ret fun u w' => ∃ (b_u : Int), Ow Rp.int 3 true w' [] b_u u r ∧ Zn W b_u ∧ Ext W w') := by
  refine f_enter Tryd.func32 rfl Tryd.ntmps32 rfl ?_
  intro a ha
  replace ha : Fr 17 [(0, (.int .u32 (BitVec.toNat a0 : Int)))] a := ha
  have hE : Chg [] W W := Chg.refl _ _
  unfold F_impl_vset_list at hF
  refine wp_seq ?_; refine wp_region_lit ?_; refine op_g ha rfl (g_assign rfl) ?_; clear ha a; intro a ha; refine wpList_nil ?_; replace ha := ha.sub (σ' := [(0, (.int .u32 (BitVec.toNat a0 : Int)))]) ⟨rfl, trivial⟩; refine e_then ?_; refine wp_seq ?_; refine wp_region_lit ?_
  refine o_lit0 Rp.int ha rfl sl54 ?_; clear ha a; intro v1 w2 h3 hx4 a ha
  obtain ⟨b6, hb6⟩ : ∃ b : Int, b = W.heap.size := ⟨_, rfl⟩; rw [← hb6] at h3
  have q7 := zn_of hb6
  have q8 := Zn.upD q7 hE
  have hE9 := Ext.trans hE hx4
  refine op_g ha rfl (g_assign rfl) ?_; clear ha a; intro a ha; refine wpList_nil ?_; replace ha := ha.sub (σ' := [(0, (.int .u32 (BitVec.toNat a0 : Int))), (3, v1)]) ⟨rfl, rfl, trivial⟩; refine e_then ?_; refine wp_seq ?_; obtain ⟨o109, ho110, hK111⟩ := bnd_some hF
  obtain ⟨n112, hn113⟩ := lp_some ho110; clear ho110
  refine c_loop (fun a w => ∃ (l106 : (List Int)) (v107 : Value) (b108 : Int), Fr 17 [(3, v107)] a ∧ Chg [] W w ∧ Ow Rp.int 3 true w [] b108 v107 l106 ∧ Zn W b108 ∧ o109 = .inl l106) (fun n a w => ∃ (u55 : BitVec 32) (l59 : (List Int)) (v60 : Value) (b61 : Int), Fr 17 [(0, (.int .u32 (BitVec.toNat u55 : Int))), (3, v60)] a ∧ Chg [] W w ∧ Ow Rp.int 3 true w [] b61 v60 l59 ∧ Zn W b61 ∧ lpN (fun s => F_impl_vset_list_l1 s.1 s.2) n (u55, l59) = some o109) n112 ⟨a0, ([] : (List Int)), v1, b6, ha.sub ⟨rfl, rfl, trivial⟩, hE9, h3, q8, hn113⟩ ?_ ?_
  · rintro m117 a w54 ⟨u55, l59, v60, b61, ha, hE62, h57, z58, hF⟩
    cases m117 with
    | zero => exact (lpN_zero hF).elim
    | succ m117 =>
      obtain ⟨z116, hF, hN115⟩ := lpN_succ hF
      have hF : F_impl_vset_list_l1 u55 l59 = some z116 := hF; unfold F_impl_vset_list_l1 at hF
      refine wp_seq ?_; refine wp_seq ?_; refine wp_region_lit ?_; refine op_g ha rfl (g_move rfl) ?_; clear ha a; intro a ha; refine op_g ha rfl (g32_neq (m := u55) (n := (0#32)) rfl rfl) ?_; clear ha a; intro a ha; refine wpList_nil ?_; replace ha := ha.sub (σ' := [(0, (.int .u32 (BitVec.toNat u55 : Int))), (3, v60), (6, (.bool (decide (u55 ≠ (0#32)))))]) ⟨rfl, rfl, rfl, trivial⟩; refine e_then ?_; refine c_cond (u55 ≠ (0#32)) ha rfl (decide_eq_true_iff) (fun hp118 => ?_) (fun hp118 => ?_)
      · replace hF := if_t hp118 hF
        refine wp_skip ?_; refine e_then ?_; refine wp_seq ?_; refine wp_block ?_; refine wp_region_lit ?_; (iterate 2 refine op_g ha rfl (g_move rfl) ?_; clear ha a; intro a ha); obtain ⟨x119, hc120, hF⟩ := cal_some hF
        refine o_call ha rfl rfl Tryd.call75 (W_impl_vset_least (hG.ext hE62) hc120) ?_; clear ha a; rintro v121 w122 ⟨⟨rfl, hI124⟩, hx123⟩ a ha
        replace h57 := h57.ext hx123
        have hE125 := Ext.trans hE62 hx123
        refine o_lit1 (o := true) (y := x119) Rp.int ha rfl sl54 rfl rfl rfl ⟨rfl, hI124, rfl⟩ ?_; clear ha a; intro v126 w127 h128 hx129 a ha
        obtain ⟨b131, hb131⟩ : ∃ b : Int, b = w122.heap.size := ⟨_, rfl⟩; rw [← hb131] at h128
        have q132 := zn_of hb131
        have q133 := Nq.new h57.fpb q132
        have q134 := Nq.madeO q132 h57.blt
        have q135 := Zn.upD q132 hE125
        replace h57 := h57.ext hx129
        have hE136 := Ext.trans hE125 hx129
        obtain ⟨hl137, hF⟩ := app_some hF
        refine o_append ha rfl sl54 rfl rfl rfl h57 h128.src (Nq.nil _) hl137 ?_; clear ha a; intro v138 w139 b140 h141 hc142 hb143 a ha
        replace h141 : Ow Rp.int 3 true w139 [] b140 v138 _ := h141
        have q145 := Nq.appY q134 h128.fpb hb143
        have q146 := Nq.appX q133 (Nq.nil _) hb143 h128.blt
        have q147 := Zn.appD z58 hb143 hE136
        replace h128 := h128.nq hc142 q134
        have hE148 := Ext.then hE136 hc142 (Zn.bl z58)
        refine op_g ha rfl (g_assign rfl) ?_; clear ha a; intro a ha; refine wpList_nil ?_; replace ha := ha.sub (σ' := [(0, (.int .u32 (BitVec.toNat u55 : Int))), (3, v138)]) ⟨rfl, rfl, trivial⟩; refine e_blk ?_; refine e_then ?_; refine wp_region_lit ?_; (iterate 2 refine op_g ha rfl (g_move rfl) ?_; clear ha a; intro a ha); refine op_g ha rfl (g32_sub (m := u55) (n := (1#32)) rfl rfl) ?_; clear ha a; intro a ha; refine op_g ha rfl (g32_and (m := u55) (n := (u55 - (1#32))) rfl rfl) ?_; clear ha a; intro a ha; refine op_g ha rfl (g_assign rfl) ?_; clear ha a; intro a ha; refine wpList_nil ?_; replace ha := ha.sub (σ' := [(0, (.int .u32 (BitVec.toNat (u55 &&& (u55 - (1#32))) : Int))), (3, v138)]) ⟨rfl, rfl, trivial⟩
        refine e_lq ?_; obtain rfl := Option.some.inj hF
        exact ⟨_, Nat.lt_succ_self _, u55 &&& (u55 - (1#32)), (l59 ++ ([x119])), v138, b140, ha.sub ⟨rfl, rfl, trivial⟩, hE148, h141, q147, hN115⟩
      replace hF := if_f hp118 hF; refine wp_exit ?_; refine e_then_exit ?_; refine e_lq_eq ?_; obtain rfl := Option.some.inj hF
      exact ⟨l59, v60, b61, ha.sub ⟨rfl, trivial⟩, hE62, h57, z58, (LK_inr hN115).symm⟩
  rintro a w102 ⟨l106, v107, b108, ha, hE114, h104, z105, rfl⟩
  have hF : F_impl_vset_list_k2 l106 = some _ := hK111; clear hK111; unfold F_impl_vset_list_k2 at hF
  refine e_then ?_; refine wp_seq ?_; refine wp_region_lit ?_; refine op_g ha rfl (g_move rfl) ?_; clear ha a; intro a ha; refine op_g ha rfl (g_assign rfl) ?_; clear ha a; intro a ha; refine wpList_nil ?_; replace ha := ha.sub (σ' := [(2, v107)]) ⟨rfl, trivial⟩; refine e_then ?_; refine wp_ret ?_; obtain rfl := Option.some.inj hF
  exact f_ret1 ha rfl rfl ⟨_, h104, z105, hE114⟩
set_option maxHeartbeats 2000000 in
theorem W_impl_BestColours {W : World} {va0_0 : Value} {fa0_0 : List Nat} {a0_0 : (List (List Int))} (ha0_0 : Ro (Rp.sl 2 Rp.int) W fa0_0 va0_0 a0_0) (hG : GT 0 W) {r : (List Int)} (hF : F_impl_BestColours a0_0 = some r) :
    Calls Tryd.prog 8 [.agg #[va0_0]].toArray W (Ret fun u w' => ∃ (b_u : Int), Ow Rp.int 2 true w' [] b_u u r ∧ Zn W b_u ∧ Ext W w') := by
  refine f_enter Tryd.func8 rfl Tryd.ntmps8 rfl ?_
  intro a ha
  replace ha : Fr 38 [(0, (.agg #[va0_0]))] a := ha
  have hE : Chg [] W W := Chg.refl _ _
  unfold F_impl_BestColours at hF
  refine wp_seq ?_; refine wp_region_lit ?_
  refine o_box ha rfl rfl rfl ?_; clear ha a; intro b1 w2 hB3 hx4 hlo5 a ha
  have q6 := Zn.one hlo5
  have q7 := Zn.upD q6 hE
  have hE8 := Ext.trans hE hx4
  refine op_g ha rfl (g_assign rfl) ?_; clear ha a; intro a ha; refine wpList_nil ?_; replace ha := ha.sub (σ' := [(1, (.pointer (some ⟨b1, 0, none⟩)))]) ⟨rfl, trivial⟩; refine e_then ?_; refine wp_seq ?_; refine wp_seq ?_; refine wp_region_lit ?_; refine op_g ha rfl (g_loadA (cs := [va0_0]) Tryd.isAgg29 Tryd.sizeOf29 rfl (by simp) hB3.all) ?_; clear ha a; intro a ha; obtain ⟨x9, hc10, hF⟩ := cal_some hF
  refine o_call ha rfl rfl Tryd.call29 (W_impl_GraphOk (ha0_0.ext hE8) hc10) ?_; clear ha a; rintro v11 w12 ⟨rfl, hx13⟩ a ha
  replace hB3 := hB3.ext hx13
  have hE14 := Ext.trans hE8 hx13
  refine op_g ha rfl (g_not rfl) ?_; clear ha a; intro a ha; refine wpList_nil ?_; replace ha := ha.sub (σ' := [(1, (.pointer (some ⟨b1, 0, none⟩))), (10, (.bool (!x9)))]) ⟨rfl, rfl, trivial⟩; refine e_then ?_; refine c_cond (¬ (x9 = true)) ha rfl (n_iff (Iff.rfl)) (fun hp15 => ?_) (fun hp15 => ?_)
  · replace hF := if_t hp15 hF
    refine wp_seq ?_; refine wp_region_lit ?_; refine op_g ha rfl (g_assign rfl) ?_; clear ha a; intro a ha; refine wpList_nil ?_; replace ha := ha.sub (σ' := [(2, (.slice none 0 0))]) ⟨rfl, trivial⟩; refine e_then ?_; refine wp_ret ?_; refine e_then_ret ?_; obtain rfl := Option.some.inj hF
    exact f_ret1 ha rfl rfl ⟨-1, (Ow.nil (by decide)), (.inl (by decide)), hE14⟩
  replace hF := if_f hp15 hF; refine wp_skip ?_; refine e_then ?_; refine wp_seq ?_; refine wp_region_lit ?_; refine op_g ha rfl (g_field0 st29_0 rfl) ?_; clear ha a; intro a ha; refine op_g ha rfl (g_load Tryd.isAgg27 rfl (hB3.cell rfl)) ?_; clear ha a; intro a ha; refine op_g ha rfl (g_lenR sl27.und ha0_0 rfl) ?_; clear ha a; intro a ha; obtain ⟨g20, g20b, hF⟩ := mkS_some hF
  refine o_make (z0 := (0 : Int)) Rp.int ha rfl sl31 rfl (fun w => ⟨rfl, by decide, rfl⟩) rfl g20 g20b ?_; clear ha a; intro v16 w17 h18 hx19 a ha
  obtain ⟨b23, hb23⟩ : ∃ b : Int, b = w12.heap.size := ⟨_, rfl⟩; rw [← hb23] at h18
  have q24 := zn_of hb23
  have q25 := Nq.new hB3.fpb q24
  have q26 := Nq.madeO q24 hB3.bi
  have q27 := Zn.upD q24 hE14
  replace hB3 := hB3.ext hx19
  have hE28 := Ext.trans hE14 hx19
  refine op_g ha rfl (g_assign rfl) ?_; clear ha a; intro a ha; refine wpList_nil ?_; replace ha := ha.sub (σ' := [(1, (.pointer (some ⟨b1, 0, none⟩))), (3, v16)]) ⟨rfl, rfl, trivial⟩; refine e_then ?_; refine wp_seq ?_; refine wp_seq ?_; refine wp_region_lit ?_; refine op_g ha rfl (g_loadA (cs := [va0_0]) Tryd.isAgg29 Tryd.sizeOf29 rfl (by simp) hB3.all) ?_; clear ha a; intro a ha; obtain ⟨x29, hc30, hF⟩ := cal_some hF
  refine o_call ha rfl rfl Tryd.call31 (W_impl_netsOf (ha0_0.ext hE28) hc30) ?_; clear ha a; rintro v31 w32 ⟨b34, h35, z36, hx33⟩ a ha
  have q38 := Nq.new hB3.fpb z36
  have q39 := Nq.madeO z36 hB3.bi
  have q40 := Nq.new h18.fpb z36
  have q41 := Nq.madeO z36 h18.blt
  replace hB3 := hB3.ext hx33
  replace h18 := h18.ext hx33
  have hE42 := Ext.trans hE28 hx33
  have q43 := Zn.upD z36 hE28
  obtain ⟨fp44, hro45, hs46⟩ := h35.roF
  obtain ⟨x47, hc48, hF⟩ := cal_some hF
  refine o_call ha rfl rfl Tryd.call30 (W_impl_bestClasses hro45 hc48) ?_; clear ha a; rintro v49 w50 ⟨b52, h53, z54, hx51⟩ a ha
  have q56 := Nq.new hB3.fpb z54
  have q57 := Nq.madeO z54 hB3.bi
  have q58 := Nq.new h18.fpb z54
  have q59 := Nq.madeO z54 h18.blt
  have q60 := Nq.new h35.fpb z54
  have q61 := Nq.madeO z54 h35.blt
  replace hB3 := hB3.ext hx51
  replace h18 := h18.ext hx51
  replace h35 := h35.ext hx51
  have hE62 := Ext.trans hE42 hx51
  have q63 := Zn.upD z54 hE42
  refine op_g ha rfl (g_lenO sl48.und h53 rfl) ?_; clear ha a; intro a ha; refine op_g ha rfl (g_move rfl) ?_; clear ha a; intro a ha; refine wpList_nil ?_; replace ha := ha.sub (σ' := [(3, v16), (17, v49), (18, (.int .i64 (x47.length : Int))), (19, (.int .i64 0))]) ⟨rfl, rfl, rfl, rfl, trivial⟩; refine e_then ?_; obtain ⟨o584, ho585, hK586⟩ := bnd_some hF
  obtain ⟨n587, hn588⟩ := lp_some ho585; clear ho585
  refine c_loop (fun a w => ∃ (l581 : (List Int)) (v582 : Value) (b583 : Int), Fr 38 [(3, v582)] a ∧ Chg [] W w ∧ Ow Rp.int 2 true w [] b583 v582 l581 ∧ Zn W b583 ∧ o584 = .inl l581) (fun n a w => ∃ (l322 : (List Int)) (i328 : Int) (v323 : Value) (b324 : Int), Fr 38 [(3, v323), (17, v49), (18, (.int .i64 (x47.length : Int))), (19, (.int .i64 i328))] a ∧ Chg [] W w ∧ InI i328 ∧ Ow Rp.int 2 true w [] b324 v323 l322 ∧ Zn W b324 ∧ Ow Rp.u32 53 true w [] b52 v49 x47 ∧ Zn W b52 ∧ Nq (bl b324 ++ []) b52 ∧ Nq (bl b52 ++ []) b324 ∧ lpN (fun s => F_impl_BestColours_l1 x47 s.1 s.2) n (l322, i328) = some o584) n587 ⟨(List.replicate ((a0_0.length : Int) : Int).toNat (0 : Int)), 0, v16, b23, ha.sub ⟨rfl, rfl, rfl, rfl, trivial⟩, hE62, (show InI 0 from by decide), h18, q27, h53, q63, q58, q59, hn588⟩ ?_ ?_
  · rintro m592 a w318 ⟨l322, i328, v323, b324, ha, hE332, hI329, h320, z321, h326, z327, q330, q331, hF⟩
    cases m592 with
    | zero => exact (lpN_zero hF).elim
    | succ m592 =>
      obtain ⟨z591, hF, hN590⟩ := lpN_succ hF
      have hF : F_impl_BestColours_l1 x47 l322 i328 = some z591 := hF; unfold F_impl_BestColours_l1 at hF
      refine wp_seq ?_; refine wp_region_lit ?_; refine op_g ha rfl (g_lss rfl rfl) ?_; clear ha a; intro a ha; refine wpList_nil ?_; replace ha := ha.sub (σ' := [(3, v323), (17, v49), (18, (.int .i64 (x47.length : Int))), (19, (.int .i64 i328)), (20, (.bool (decide (i328 < (x47.length : Int)))))]) ⟨rfl, rfl, rfl, rfl, rfl, trivial⟩; refine e_then ?_; refine wp_seq ?_; refine c_cond (i328 < (x47.length : Int)) ha rfl (decide_eq_true_iff) (fun hp593 => ?_) (fun hp593 => ?_)
      · replace hF := if_t hp593 hF
        refine wp_skip ?_; refine e_then ?_; refine wp_seq ?_; refine wp_block ?_; refine wp_seq ?_; refine wp_region_lit ?_; refine op_g ha rfl (g_move rfl) ?_; clear ha a; intro a ha; obtain ⟨x594, g595, gx596, hF⟩ := idx_some hF
        obtain ⟨p597, cs598, f599, hf600, hpb601, hat602, hr603, hi604⟩ := h326.at g595 gx596
        obtain ⟨rfl, rfl⟩ := hr603
        refine op_g ha rfl (hi604.gives sl48 rfl rfl) ?_; clear ha a; intro a ha; refine op_g ha rfl (g_load Tryd.isAgg53 rfl hat602.one) ?_; clear ha a; intro a ha; (iterate 2 refine op_g ha rfl (g_assign rfl) ?_; clear ha a; intro a ha); refine wpList_nil ?_; replace ha := ha.sub (σ' := [(3, v323), (4, (.int .i64 i328)), (5, (.int .u32 (BitVec.toNat x594 : Int))), (17, v49), (18, (.int .i64 (x47.length : Int))), (19, (.int .i64 i328))]) ⟨rfl, rfl, rfl, rfl, rfl, rfl, trivial⟩; refine e_then ?_; refine wp_seq ?_; refine wp_region_lit ?_; refine op_g ha rfl (g_move rfl) ?_; clear ha a; intro a ha
        obtain ⟨x605, hc606, hF⟩ := cal_some hF
        refine o_call ha rfl rfl Tryd.call32 (W_impl_vset_list (hG.ext hE332) hc606) ?_; clear ha a; rintro v607 w608 ⟨b610, h611, z612, hx609⟩ a ha
        have q614 := Nq.new h320.fpb z612
        have q615 := Nq.madeO z612 h320.blt
        have q616 := Nq.new h326.fpb z612
        have q617 := Nq.madeO z612 h326.blt
        replace h320 := h320.ext hx609
        replace h326 := h326.ext hx609
        have hE618 := Ext.trans hE332 hx609
        have q619 := Zn.upD z612 hE332
        refine op_g ha rfl (g_lenO sl54.und h611 rfl) ?_; clear ha a; intro a ha; refine op_g ha rfl (g_move rfl) ?_; clear ha a; intro a ha; refine wpList_nil ?_; replace ha := ha.sub (σ' := [(3, v323), (4, (.int .i64 i328)), (17, v49), (18, (.int .i64 (x47.length : Int))), (19, (.int .i64 i328)), (25, v607), (26, (.int .i64 (x605.length : Int))), (27, (.int .i64 0))]) ⟨rfl, rfl, rfl, rfl, rfl, rfl, rfl, rfl, trivial⟩; refine e_then ?_; obtain ⟨o779, ho780, hK781⟩ := bnd_some hF
        obtain ⟨n782, hn783⟩ := lp_some ho780; clear ho780
        refine c_loop (fun a w => ∃ (l771 : (List Int)) (v772 : Value) (b773 : Int), Fr 38 [(3, v772), (17, v49), (18, (.int .i64 (x47.length : Int))), (19, (.int .i64 i328))] a ∧ Chg [] W w ∧ Ow Rp.int 2 true w [] b773 v772 l771 ∧ Zn W b773 ∧ Ow Rp.u32 53 true w [] b52 v49 x47 ∧ Zn W b52 ∧ Nq (bl b773 ++ []) b52 ∧ Nq (bl b52 ++ []) b773 ∧ o779 = .inl l771) (fun n a w => ∃ (l695 : (List Int)) (i704 : Int) (v696 : Value) (b697 : Int), Fr 38 [(3, v696), (4, (.int .i64 i328)), (17, v49), (18, (.int .i64 (x47.length : Int))), (19, (.int .i64 i328)), (25, v607), (26, (.int .i64 (x605.length : Int))), (27, (.int .i64 i704))] a ∧ Chg [] W w ∧ InI i704 ∧ Ow Rp.int 2 true w [] b697 v696 l695 ∧ Zn W b697 ∧ Ow Rp.u32 53 true w [] b52 v49 x47 ∧ Zn W b52 ∧ Ow Rp.int 3 true w [] b610 v607 x605 ∧ Zn W b610 ∧ Nq (bl b697 ++ []) b52 ∧ Nq (bl b697 ++ []) b610 ∧ Nq (bl b52 ++ []) b697 ∧ Nq (bl b52 ++ []) b610 ∧ Nq (bl b610 ++ []) b697 ∧ Nq (bl b610 ++ []) b52 ∧ lpN (fun s => F_impl_BestColours_l2 i328 x605 s.1 s.2) n (l695, i704) = some o779) n782 ⟨l322, 0, v323, b324, ha.sub ⟨rfl, rfl, rfl, rfl, rfl, rfl, rfl, rfl, trivial⟩, hE618, (show InI 0 from by decide), h320, z321, h326, z327, h611, q619, q330, q614, q331, q616, q615, q617, hn783⟩ ?_ ?_
        · rintro m787 a w691 ⟨l695, i704, v696, b697, ha, hE712, hI705, h693, z694, h699, z700, h702, z703, q706, q707, q708, q709, q710, q711, hF⟩
          cases m787 with
          | zero => exact (lpN_zero hF).elim
          | succ m787 =>
            obtain ⟨z786, hF, hN785⟩ := lpN_succ hF
            have hF : F_impl_BestColours_l2 i328 x605 l695 i704 = some z786 := hF; unfold F_impl_BestColours_l2 at hF
            refine wp_seq ?_; refine wp_region_lit ?_; refine op_g ha rfl (g_lss rfl rfl) ?_; clear ha a; intro a ha; refine wpList_nil ?_; replace ha := ha.sub (σ' := [(3, v696), (4, (.int .i64 i328)), (17, v49), (18, (.int .i64 (x47.length : Int))), (19, (.int .i64 i328)), (25, v607), (26, (.int .i64 (x605.length : Int))), (27, (.int .i64 i704)), (28, (.bool (decide (i704 < (x605.length : Int)))))]) ⟨rfl, rfl, rfl, rfl, rfl, rfl, rfl, rfl, rfl, trivial⟩; refine e_then ?_; refine wp_seq ?_; refine c_cond (i704 < (x605.length : Int)) ha rfl (decide_eq_true_iff) (fun hp788 => ?_) (fun hp788 => ?_)
            · replace hF := if_t hp788 hF
              refine wp_skip ?_; refine e_then ?_; refine wp_seq ?_; refine wp_block ?_; refine wp_seq ?_; refine wp_region_lit ?_; obtain ⟨x789, g790, gx791, hF⟩ := idx_some hF
              obtain ⟨p792, cs793, f794, hf795, hpb796, hat797, hr798, hi799⟩ := h702.at g790 gx791
              obtain ⟨rfl, hI800, rfl⟩ := hr798
              refine op_g ha rfl (hi799.gives sl54 rfl rfl) ?_; clear ha a; intro a ha; refine op_g ha rfl (g_load Tryd.isAgg3 rfl hat797.one) ?_; clear ha a; intro a ha; refine op_g ha rfl (g_assign rfl) ?_; clear ha a; intro a ha; refine wpList_nil ?_; replace ha := ha.sub (σ' := [(3, v696), (4, (.int .i64 i328)), (7, (.int .i64 x789)), (17, v49), (18, (.int .i64 (x47.length : Int))), (19, (.int .i64 i328)), (25, v607), (26, (.int .i64 (x605.length : Int))), (27, (.int .i64 i704))]) ⟨rfl, rfl, rfl, rfl, rfl, rfl, rfl, rfl, rfl, trivial⟩; refine e_then ?_; refine wp_region_lit ?_; (iterate 3 refine op_g ha rfl (g_move rfl) ?_; clear ha a; intro a ha)
              obtain ⟨x801, g802, gx803, hF⟩ := idx_some hF
              obtain ⟨p804, cs805, f806, hf807, hpb808, hat809, hr810, hi811⟩ := h693.at g802 gx803
              obtain ⟨rfl, hI812, rfl⟩ := hr810
              refine op_g ha rfl (hi811.gives sl31 rfl rfl) ?_; clear ha a; intro a ha
              refine o_storeE (f := []) (q := i328) ha Tryd.sizeOf2 rfl rfl rfl h693 hi811 ⟨rfl, hI329, rfl⟩ (Nq.nil _) ?_; intro w813 fs814 h815 hc816 hs817
              obtain rfl := Subst.nil hs817
              replace h699 := h699.nq hc816 q708
              replace h702 := h702.nq hc816 q710
              have hE818 := Ext.then hE712 hc816 (Zn.bl z694)
              refine wpList_nil ?_; replace ha := ha.sub (σ' := [(3, v696), (4, (.int .i64 i328)), (17, v49), (18, (.int .i64 (x47.length : Int))), (19, (.int .i64 i328)), (25, v607), (26, (.int .i64 (x605.length : Int))), (27, (.int .i64 i704))]) ⟨rfl, rfl, rfl, rfl, rfl, rfl, rfl, rfl, trivial⟩; refine e_blk ?_; refine e_then ?_; refine wp_region_lit ?_; obtain ⟨hI819, hF⟩ := ck_some hF; refine op_g ha rfl (g_add rfl rfl hI819) ?_; clear ha a; intro a ha; refine op_g ha rfl (g_move rfl) ?_; clear ha a; intro a ha; refine wpList_nil ?_; replace ha := ha.sub (σ' := [(3, v696), (4, (.int .i64 i328)), (17, v49), (18, (.int .i64 (x47.length : Int))), (19, (.int .i64 i328)), (25, v607), (26, (.int .i64 (x605.length : Int))), (27, (.int .i64 (i704 + 1)))]) ⟨rfl, rfl, rfl, rfl, rfl, rfl, rfl, rfl, trivial⟩
              refine e_lq ?_; obtain rfl := Option.some.inj hF
              exact ⟨_, Nat.lt_succ_self _, (l695.set ((x789 : Int).toNat) i328), i704 + 1, v696, b697, ha.sub ⟨rfl, rfl, rfl, rfl, rfl, rfl, rfl, rfl, trivial⟩, hE818, hI819, h815, z694, h699, z700, h702, z703, q706, q707, q708, q709, q710, q711, hN785⟩
            replace hF := if_f hp788 hF; refine wp_exit ?_; refine e_then_exit ?_; refine e_lq_eq ?_; obtain rfl := Option.some.inj hF
            exact ⟨l695, v696, b697, ha.sub ⟨rfl, rfl, rfl, rfl, trivial⟩, hE712, h693, z694, h699, z700, q706, q708, (LK_inr hN785).symm⟩
        rintro a w767 ⟨l771, v772, b773, ha, hE784, h769, z770, h775, z776, q777, q778, rfl⟩
        have hF : F_impl_BestColours_k3 i328 l771 = some _ := hK781; clear hK781; unfold F_impl_BestColours_k3 at hF
        refine e_blk ?_; refine e_then ?_; refine wp_region_lit ?_; obtain ⟨hI821, hF⟩ := ck_some hF; refine op_g ha rfl (g_add rfl rfl hI821) ?_; clear ha a; intro a ha; refine op_g ha rfl (g_move rfl) ?_; clear ha a; intro a ha; refine wpList_nil ?_; replace ha := ha.sub (σ' := [(3, v772), (17, v49), (18, (.int .i64 (x47.length : Int))), (19, (.int .i64 (i328 + 1)))]) ⟨rfl, rfl, rfl, rfl, trivial⟩; refine e_lq ?_; obtain rfl := Option.some.inj hF
        exact ⟨_, Nat.lt_succ_self _, l771, i328 + 1, v772, b773, ha.sub ⟨rfl, rfl, rfl, rfl, trivial⟩, hE784, hI821, h769, z770, h775, z776, q777, q778, hN590⟩
      replace hF := if_f hp593 hF; refine wp_exit ?_; refine e_then_exit ?_; refine e_lq_eq ?_; obtain rfl := Option.some.inj hF
      exact ⟨l322, v323, b324, ha.sub ⟨rfl, trivial⟩, hE332, h320, z321, (LK_inr hN590).symm⟩
  rintro a w577 ⟨l581, v582, b583, ha, hE589, h579, z580, rfl⟩
  have hF : F_impl_BestColours_k4 l581 = some _ := hK586; clear hK586; unfold F_impl_BestColours_k4 at hF
  refine e_then ?_; refine wp_seq ?_; refine wp_region_lit ?_; refine op_g ha rfl (g_move rfl) ?_; clear ha a; intro a ha; refine op_g ha rfl (g_assign rfl) ?_; clear ha a; intro a ha; refine wpList_nil ?_; replace ha := ha.sub (σ' := [(2, v582)]) ⟨rfl, trivial⟩; refine e_then ?_; refine wp_ret ?_; obtain rfl := Option.some.inj hF
  exact f_ret1 ha rfl rfl ⟨_, h579, z580, hE589⟩
set_option maxHeartbeats 2000000 in
theorem W_impl_ChromaticOf {W : World} {va0_0 : Value} {fa0_0 : List Nat} {a0_0 : (List (List Int))} (ha0_0 : Ro (Rp.sl 2 Rp.int) W fa0_0 va0_0 a0_0) {r : Int} (hF : F_impl_ChromaticOf a0_0 = some r) :
    Calls Tryd.prog 9 [.agg #[va0_0]].toArray W (Ret fun u w' => (u = .int .i64 r ∧ InI r) ∧ Ext W w') := by
  refine f_enter Tryd.func9 rfl Tryd.ntmps9 rfl ?_
  intro a ha
  replace ha : Fr 10 [(0, (.agg #[va0_0]))] a := ha
  have hE : Chg [] W W := Chg.refl _ _
  unfold F_impl_ChromaticOf at hF
  refine wp_seq ?_; refine wp_region_lit ?_
  refine o_box ha rfl rfl rfl ?_; clear ha a; intro b1 w2 hB3 hx4 hlo5 a ha
  have q6 := Zn.one hlo5
  have q7 := Zn.upD q6 hE
  have hE8 := Ext.trans hE hx4
  refine op_g ha rfl (g_assign rfl) ?_; clear ha a; intro a ha; refine wpList_nil ?_; replace ha := ha.sub (σ' := [(1, (.pointer (some ⟨b1, 0, none⟩)))]) ⟨rfl, trivial⟩; refine e_then ?_; refine wp_seq ?_; refine wp_seq ?_; refine wp_region_lit ?_; refine op_g ha rfl (g_loadA (cs := [va0_0]) Tryd.isAgg29 Tryd.sizeOf29 rfl (by simp) hB3.all) ?_; clear ha a; intro a ha; obtain ⟨x9, hc10, hF⟩ := cal_some hF
  refine o_call ha rfl rfl Tryd.call29 (W_impl_GraphOk (ha0_0.ext hE8) hc10) ?_; clear ha a; rintro v11 w12 ⟨rfl, hx13⟩ a ha
  replace hB3 := hB3.ext hx13
  have hE14 := Ext.trans hE8 hx13
  refine op_g ha rfl (g_not rfl) ?_; clear ha a; intro a ha; refine wpList_nil ?_; replace ha := ha.sub (σ' := [(1, (.pointer (some ⟨b1, 0, none⟩))), (5, (.bool (!x9)))]) ⟨rfl, rfl, trivial⟩; refine e_then ?_; refine c_cond (¬ (x9 = true)) ha rfl (n_iff (Iff.rfl)) (fun hp15 => ?_) (fun hp15 => ?_)
  · replace hF := if_t hp15 hF
    refine wp_seq ?_; refine wp_region_lit ?_; refine op_g ha rfl (g_assign rfl) ?_; clear ha a; intro a ha; refine wpList_nil ?_; replace ha := ha.sub (σ' := [(2, (.int .i64 (-1)))]) ⟨rfl, trivial⟩; refine e_then ?_; refine wp_ret ?_; refine e_then_ret ?_; obtain rfl := Option.some.inj hF
    exact f_ret1 ha rfl rfl ⟨⟨rfl, (show InI (-1) from by decide)⟩, hE14⟩
  replace hF := if_f hp15 hF; refine wp_skip ?_; refine e_then ?_; refine wp_seq ?_; refine wp_region_lit ?_; refine op_g ha rfl (g_loadA (cs := [va0_0]) Tryd.isAgg29 Tryd.sizeOf29 rfl (by simp) hB3.all) ?_; clear ha a; intro a ha; obtain ⟨x16, hc17, hF⟩ := cal_some hF
  refine o_call ha rfl rfl Tryd.call31 (W_impl_netsOf (ha0_0.ext hE14) hc17) ?_; clear ha a; rintro v18 w19 ⟨b21, h22, z23, hx20⟩ a ha
  have q25 := Nq.new hB3.fpb z23
  have q26 := Nq.madeO z23 hB3.bi
  replace hB3 := hB3.ext hx20
  have hE27 := Ext.trans hE14 hx20
  have q28 := Zn.upD z23 hE14
  obtain ⟨fp29, hro30, hs31⟩ := h22.roF
  obtain ⟨x32, hc33, hF⟩ := cal_some hF
  refine o_call ha rfl rfl Tryd.call30 (W_impl_bestClasses hro30 hc33) ?_; clear ha a; rintro v34 w35 ⟨b37, h38, z39, hx36⟩ a ha
  have q41 := Nq.new hB3.fpb z39
  have q42 := Nq.madeO z39 hB3.bi
  have q43 := Nq.new h22.fpb z39
  have q44 := Nq.madeO z39 h22.blt
  replace hB3 := hB3.ext hx36
  replace h22 := h22.ext hx36
  have hE45 := Ext.trans hE27 hx36
  have q46 := Zn.upD z39 hE27
  refine op_g ha rfl (g_lenO sl48.und h38 rfl) ?_; clear ha a; intro a ha; refine op_g ha rfl (g_assign rfl) ?_; clear ha a; intro a ha; refine wpList_nil ?_; replace ha := ha.sub (σ' := [(2, (.int .i64 (x32.length : Int)))]) ⟨rfl, trivial⟩; refine e_then ?_; refine wp_ret ?_; obtain rfl := Option.some.inj hF
  exact f_ret1 ha rfl rfl ⟨⟨rfl, h38.len⟩, hE45⟩
end Go.Proofs.YtadjcnllmkdgiaaDoor
