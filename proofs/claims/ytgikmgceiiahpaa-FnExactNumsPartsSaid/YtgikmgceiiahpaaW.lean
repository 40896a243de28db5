/- Walks, printed by gen.py. -/
import Derived.Test.YtgikmgceiiahpaaF
import Derived.Test.YtgikmgceiiahpaaDeep
import Derived.Test.YtgikmgceiiahpaaProg
import Derived.KernelRfl
set_option maxRecDepth 100000
namespace Go.Proofs.Ytgikmgceiiahpaa
open Go Go.RowKit

theorem hmix : Try.prog.follows .mixedOrders = true := by kernel_rfl
theorem sl22 : SlT Try.prog 22 2 1 8 (.int .i64 0) := ⟨by kernel_rfl, by kernel_rfl, by rfl⟩
theorem sl23 : SlT Try.prog 23 46 3 40 (.agg #[(.int .i64 0), (.int .i64 0), (.slice none 0 0)]) := ⟨by kernel_rfl, by kernel_rfl, by rfl⟩
theorem st46_0 : stF Try.prog 46 0 = some 0 := by kernel_rfl
theorem st46_1 : stF Try.prog 46 1 = some 1 := by kernel_rfl
theorem st46_2 : stF Try.prog 46 2 = some 2 := by kernel_rfl
theorem un4 : Try.prog.underlying 4 = some .bool := by kernel_rfl
set_option maxHeartbeats 2000000 in
theorem W_laws_toInt64S {W : World} {va0 : Value} {fa0 : List Nat} {a0 : (List Int)} (ha0 : Ro Rp.int W fa0 va0 a0) {r : (List Int)} (hF : F_laws_toInt64S a0 = some r) :
    Calls Try.prog 6 [va0].toArray W (Ret fun u w' => ∃ (b_u : Int), Ow Rp.int 2 true w' [] b_u u r ∧ Zn W b_u ∧ Ext W w') := by
  refine f_enter Try.func6 rfl Try.ntmps6 rfl ?_
  intro a ha
  replace ha : Fr 22 [(0, va0)] a := ha
  have hE : Chg [] W W := Chg.refl _ _
  unfold F_laws_toInt64S at hF
  refine wp_seq ?_
  refine wp_region_lit ?_
  refine op_g ha rfl (g_assign rfl) ?_; clear ha a; intro a ha
  refine wpList_nil ?_
  replace ha := ha.sub (σ' := [(0, va0)]) ⟨rfl, trivial⟩
  refine e_then ?_
  refine wp_seq ?_
  refine wp_region_lit ?_
  refine op_g ha rfl (g_move rfl) ?_; clear ha a; intro a ha
  refine op_g ha rfl (g_lenR sl22.und ha0 rfl) ?_; clear ha a; intro a ha
  obtain ⟨g5, g5b, hF⟩ := mkS_some hF
  refine o_make (z0 := (0 : Int)) Rp.int ha rfl sl22 rfl (fun w => ⟨rfl, by decide, rfl⟩) rfl g5 g5b ?_; clear ha a; intro v1 w2 h3 hx4 a ha
  obtain ⟨b8, hb8⟩ : ∃ b : Int, b = W.heap.size := ⟨_, rfl⟩; rw [← hb8] at h3
  have q9 := zn_of hb8
  have q10 := Zn.upD q9 hE
  have hE11 := Ext.trans hE hx4
  refine op_g ha rfl (g_assign rfl) ?_; clear ha a; intro a ha
  refine wpList_nil ?_
  replace ha := ha.sub (σ' := [(0, va0), (3, v1)]) ⟨rfl, rfl, trivial⟩
  refine e_then ?_
  refine wp_seq ?_
  refine wp_seq ?_
  refine wp_region_lit ?_
  refine op_g ha rfl (g_assign rfl) ?_; clear ha a; intro a ha
  refine wpList_nil ?_
  refine e_then ?_
  obtain ⟨o118, ho119, hK120⟩ := bnd_some hF
  obtain ⟨n121, hn122⟩ := lp_some ho119; clear ho119
  refine c_loop (fun a w => ∃ (l115 : (List Int)) (v116 : Value) (b117 : Int), Fr 22 [(3, v116)] a ∧ Chg [] W w ∧ Ow Rp.int 2 true w [] b117 v116 l115 ∧ Zn W b117 ∧ o118 = .inl l115) (fun n a w => ∃ (l63 : (List Int)) (i66 : Int) (v64 : Value) (b65 : Int), Fr 22 [(0, va0), (3, v64), (4, (.int .i64 i66))] a ∧ Chg [] W w ∧ InI i66 ∧ Ow Rp.int 2 true w [] b65 v64 l63 ∧ Zn W b65 ∧ lpN (fun s => F_laws_toInt64S_l1 a0 s.1 s.2) n (l63, i66) = some o118) n121 ⟨(List.replicate ((a0.length : Int) : Int).toNat (0 : Int)), 0, v1, b8, ha.sub ⟨rfl, rfl, rfl, trivial⟩, hE11, (show InI 0 from by decide), h3, q10, hn122⟩ ?_ ?_
  · rintro m126 a w59 ⟨l63, i66, v64, b65, ha, hE68, hI67, h61, z62, hF⟩
    cases m126 with
    | zero => exact (lpN_zero hF).elim
    | succ m126 =>
      obtain ⟨z125, hF, hN124⟩ := lpN_succ hF
      have hF : F_laws_toInt64S_l1 a0 l63 i66 = some z125 := hF; unfold F_laws_toInt64S_l1 at hF
      refine wp_seq ?_
      refine wp_seq ?_
      refine wp_region_lit ?_
      refine op_g ha rfl (g_move rfl) ?_; clear ha a; intro a ha
      refine op_g ha rfl (g_move rfl) ?_; clear ha a; intro a ha
      refine op_g ha rfl (g_lenR sl22.und ha0 rfl) ?_; clear ha a; intro a ha
      refine op_g ha rfl (g_lss rfl rfl) ?_; clear ha a; intro a ha
      refine wpList_nil ?_
      replace ha := ha.sub (σ' := [(0, va0), (3, v64), (4, (.int .i64 i66)), (11, (.bool (decide (i66 < (a0.length : Int)))))]) ⟨rfl, rfl, rfl, rfl, trivial⟩
      refine e_then ?_
      refine c_cond (i66 < (a0.length : Int)) ha rfl (decide_eq_true_iff) (fun hp127 => ?_) (fun hp127 => ?_)
      · replace hF := if_t hp127 hF
        refine wp_skip ?_
        refine e_then ?_
        refine wp_seq ?_
        refine wp_block ?_
        refine wp_region_lit ?_
        refine op_g ha rfl (g_move rfl) ?_; clear ha a; intro a ha
        refine op_g ha rfl (g_move rfl) ?_; clear ha a; intro a ha
        refine op_g ha rfl (g_move rfl) ?_; clear ha a; intro a ha
        refine op_g ha rfl (g_move rfl) ?_; clear ha a; intro a ha
        obtain ⟨x128, g129, gx130, hF⟩ := idx_some hF
        obtain ⟨p131, cs132, f133, hf134, hpb135, hat136, hr137, hi138⟩ := ha0.at g129 gx130
        obtain ⟨rfl, hI139, rfl⟩ := hr137
        refine op_g ha rfl (hi138.gives sl22 rfl rfl) ?_; clear ha a; intro a ha
        refine op_g ha rfl (g_load0 hE68 Try.isAgg2 rfl hat136.one) ?_; clear ha a; intro a ha
        obtain ⟨x140, g141, gx142, hF⟩ := idx_some hF
        obtain ⟨p143, cs144, f145, hf146, hpb147, hat148, hr149, hi150⟩ := h61.at g141 gx142
        obtain ⟨rfl, hI151, rfl⟩ := hr149
        refine op_g ha rfl (hi150.gives sl22 rfl rfl) ?_; clear ha a; intro a ha
        refine o_storeE (f := []) (q := x128) ha Try.sizeOf2 rfl rfl rfl h61 hi150 ⟨rfl, hI139, rfl⟩ (Nq.nil _) ?_; intro w152 fs153 h154 hc155 hs156
        obtain rfl := Subst.nil hs156
        have hE157 := Ext.then hE68 hc155 (Zn.bl z62)
        refine wpList_nil ?_
        replace ha := ha.sub (σ' := [(0, va0), (3, v64), (4, (.int .i64 i66))]) ⟨rfl, rfl, rfl, trivial⟩
        refine e_blk ?_
        refine e_then ?_
        refine wp_region_lit ?_
        refine op_g ha rfl (g_move rfl) ?_; clear ha a; intro a ha
        obtain ⟨hI158, hF⟩ := ck_some hF
        refine op_g ha rfl (g_add rfl rfl hI158) ?_; clear ha a; intro a ha
        refine op_g ha rfl (g_assign rfl) ?_; clear ha a; intro a ha
        refine wpList_nil ?_
        replace ha := ha.sub (σ' := [(0, va0), (3, v64), (4, (.int .i64 (i66 + 1)))]) ⟨rfl, rfl, rfl, trivial⟩
        refine e_lq ?_
        obtain rfl := Option.some.inj hF
        exact ⟨_, Nat.lt_succ_self _, (l63.set ((i66 : Int).toNat) x128), i66 + 1, v64, b65, ha.sub ⟨rfl, rfl, rfl, trivial⟩, hE157, hI158, h154, z62, hN124⟩
      · replace hF := if_f hp127 hF
        refine wp_exit ?_
        refine e_then_exit ?_
        refine e_lq_eq ?_
        obtain rfl := Option.some.inj hF
        exact ⟨l63, v64, b65, ha.sub ⟨rfl, trivial⟩, hE68, h61, z62, (LK_inr hN124).symm⟩
  · rintro a w111 ⟨l115, v116, b117, ha, hE123, h113, z114, rfl⟩
    have hF : F_laws_toInt64S_k2 l115 = some _ := hK120; clear hK120; unfold F_laws_toInt64S_k2 at hF
    refine e_then ?_
    refine wp_seq ?_
    refine wp_region_lit ?_
    refine op_g ha rfl (g_move rfl) ?_; clear ha a; intro a ha
    refine op_g ha rfl (g_assign rfl) ?_; clear ha a; intro a ha
    refine wpList_nil ?_
    replace ha := ha.sub (σ' := [(2, v116)]) ⟨rfl, trivial⟩
    refine e_then ?_
    refine wp_ret ?_
    obtain rfl := Option.some.inj hF
    exact f_ret1 ha rfl rfl ⟨_, h113, z114, hE123⟩
set_option maxHeartbeats 2000000 in
theorem W_spec_l1In {W : World} {a0 : Int} (ha0 : InI a0) {a1 : Int} (ha1 : InI a1) {a2 : Int} (ha2 : InI a2) {r : Bool} (hF : F_spec_l1In a0 a1 a2 = some r) :
    Calls Try.prog 21 [.int .i64 a0, .int .i64 a1, .int .i64 a2].toArray W (Ret fun u w' => u = .bool r ∧ Ext W w') := by
  refine f_enter Try.func21 rfl Try.ntmps21 rfl ?_
  intro a ha
  replace ha : Fr 15 [(0, (.int .i64 a0)), (1, (.int .i64 a1)), (2, (.int .i64 a2))] a := ha
  have hE : Chg [] W W := Chg.refl _ _
  unfold F_spec_l1In at hF
  refine wp_seq ?_
  refine wp_region_lit ?_
  refine op_g ha rfl (g_assign rfl) ?_; clear ha a; intro a ha
  refine wpList_nil ?_
  replace ha := ha.sub (σ' := [(0, (.int .i64 a0)), (1, (.int .i64 a1)), (2, (.int .i64 a2))]) ⟨rfl, rfl, rfl, trivial⟩
  refine e_then ?_
  refine wp_seq ?_
  refine wp_region_lit ?_
  refine op_g ha rfl (g_move rfl) ?_; clear ha a; intro a ha
  refine op_g ha rfl (g_move rfl) ?_; clear ha a; intro a ha
  refine op_g ha rfl (g_geq rfl rfl) ?_; clear ha a; intro a ha
  refine op_g ha rfl (g_move rfl) ?_; clear ha a; intro a ha
  by_cases hp1 : a1 ≤ a0
  · replace hF := if_t hp1 hF
    rw [show (decide (a1 ≤ a0)) = true from (decide_eq_true_iff).2 hp1] at ha
    refine op_want (yields ha rfl rfl) ?_
    refine op_g ha rfl (g_move rfl) ?_; clear ha a; intro a ha
    refine op_want (yields ha rfl rfl) ?_
    refine op_g ha rfl (g_move rfl) ?_; clear ha a; intro a ha
    refine op_want (yields ha rfl rfl) ?_
    refine op_g ha rfl (g_leq rfl rfl) ?_; clear ha a; intro a ha
    refine op_g ha rfl (g_pick rfl rfl) ?_; clear ha a; intro a ha
    refine op_g ha rfl (g_assign rfl) ?_; clear ha a; intro a ha
    refine wpList_nil ?_
    replace ha := ha.sub (σ' := [(6, (.bool (decide (a0 ≤ a2))))]) ⟨rfl, trivial⟩
    refine e_then ?_
    refine wp_ret ?_
    obtain rfl := Option.some.inj hF
    exact f_ret1 ha rfl rfl ⟨rfl, hE⟩
  · replace hF := if_f hp1 hF
    rw [show (decide (a1 ≤ a0)) = false from b_false (decide_eq_true_iff) hp1] at ha
    refine op_unwant ha rfl (yields ha rfl rfl) rfl ?_; clear ha a; intro a ha
    refine op_unwant ha rfl (yields ha rfl rfl) rfl ?_; clear ha a; intro a ha
    refine op_unwant ha rfl (yields ha rfl rfl) rfl ?_; clear ha a; intro a ha
    refine op_g ha rfl (g_pick rfl rfl) ?_; clear ha a; intro a ha
    refine op_g ha rfl (g_assign rfl) ?_; clear ha a; intro a ha
    refine wpList_nil ?_
    replace ha := ha.sub (σ' := [(6, (.bool false))]) ⟨rfl, trivial⟩
    refine e_then ?_
    refine wp_ret ?_
    obtain rfl := Option.some.inj hF
    exact f_ret1 ha rfl rfl ⟨rfl, hE⟩
set_option maxHeartbeats 2000000 in
theorem W_spec_l1Copy {W : World} {va0 : Value} {fa0 : List Nat} {a0 : (List Int)} (ha0 : Ro Rp.int W fa0 va0 a0) {r : (List Int)} (hF : F_spec_l1Copy a0 = some r) :
    Calls Try.prog 22 [va0].toArray W (Ret fun u w' => ∃ (b_u : Int), Ow Rp.int 2 true w' [] b_u u r ∧ Zn W b_u ∧ Ext W w') := by
  refine f_enter Try.func22 rfl Try.ntmps22 rfl ?_
  intro a ha
  replace ha : Fr 6 [(0, va0)] a := ha
  have hE : Chg [] W W := Chg.refl _ _
  unfold F_spec_l1Copy at hF
  refine wp_seq ?_
  refine wp_region_lit ?_
  refine op_g ha rfl (g_assign rfl) ?_; clear ha a; intro a ha
  refine wpList_nil ?_
  replace ha := ha.sub (σ' := [(0, va0)]) ⟨rfl, trivial⟩
  refine e_then ?_
  refine wp_seq ?_
  refine wp_region_lit ?_
  refine o_lit0 Rp.int ha rfl sl22 ?_; clear ha a; intro v1 w2 h3 hx4 a ha
  obtain ⟨b6, hb6⟩ : ∃ b : Int, b = W.heap.size := ⟨_, rfl⟩; rw [← hb6] at h3
  have q7 := zn_of hb6
  have q8 := Zn.upD q7 hE
  have hE9 := Ext.trans hE hx4
  refine op_g ha rfl (g_move rfl) ?_; clear ha a; intro a ha
  obtain ⟨hl10, hF⟩ := app_some hF
  obtain ⟨_, hs11, _⟩ := (ha0.ext hE9).src
  refine o_append ha rfl sl22 rfl rfl rfl h3 (hs11.up scal_int) (Nq.nil _) hl10 ?_; clear ha a; intro v12 w13 b14 h15 hc16 hb17 a ha
  replace h15 : Ow Rp.int 2 true w13 [] b14 v12 _ := h15
  have q19 := Zn.appD q8 hb17 hE9
  have hE20 := Ext.then hE9 hc16 (Zn.bl q8)
  refine op_g ha rfl (g_assign rfl) ?_; clear ha a; intro a ha
  refine wpList_nil ?_
  replace ha := ha.sub (σ' := [(2, v12)]) ⟨rfl, trivial⟩
  refine e_then ?_
  refine wp_ret ?_
  obtain rfl := Option.some.inj hF
  exact f_ret1 ha rfl rfl ⟨_, h15, q19, hE20⟩
set_option maxHeartbeats 2000000 in
theorem W_spec_NumsParts {W : World} {va0 : Value} {fa0 : List Nat} {a0 : (List Int)} (ha0 : Ro Rp.int W fa0 va0 a0) {r : ((List (Int × (Int × (List Int)))) × Bool)} (hF : F_spec_NumsParts a0 = some r) :
    Calls Try.prog 5 [va0].toArray W (Ret fun u w' => ∃ (u0 : Value) (u1 : Value) (b_u0 : Int) (fs_u0 : List Nat), u = .tuple #[u0, u1] ∧ Ow (Rp.prod Rp.int (Rp.prod Rp.int (Rp.sl 2 Rp.int))) 46 true w' fs_u0 b_u0 u0 r.1 ∧ Zn W b_u0 ∧ (∀ k ∈ fs_u0, W.heap.size ≤ k) ∧ (bl b_u0 ++ fs_u0).Nodup ∧ u1 = .bool r.2 ∧ Ext W w') := by
  refine f_enter Try.func5 rfl Try.ntmps5 rfl ?_
  intro a ha
  replace ha : Fr 74 [(0, va0)] a := ha
  have hE : Chg [] W W := Chg.refl _ _
  unfold F_spec_NumsParts at hF
  refine wp_seq ?_
  refine wp_region_lit ?_
  refine op_g ha rfl (g_assign rfl) ?_; clear ha a; intro a ha
  refine op_g ha rfl (g_assign rfl) ?_; clear ha a; intro a ha
  refine wpList_nil ?_
  replace ha := ha.sub (σ' := [(0, va0)]) ⟨rfl, trivial⟩
  refine e_then ?_
  refine wp_seq ?_
  refine wp_region_lit ?_
  refine o_lit0 (Rp.prod Rp.int (Rp.prod Rp.int (Rp.sl 2 Rp.int))) ha rfl sl23 ?_; clear ha a; intro v1 w2 h3 hx4 a ha
  obtain ⟨b6, hb6⟩ : ∃ b : Int, b = W.heap.size := ⟨_, rfl⟩; rw [← hb6] at h3
  have q7 := zn_of hb6
  have q8 := Zn.upD q7 hE
  have hE9 := Ext.trans hE hx4
  refine op_g ha rfl (g_assign rfl) ?_; clear ha a; intro a ha
  refine wpList_nil ?_
  replace ha := ha.sub (σ' := [(0, va0), (4, v1)]) ⟨rfl, rfl, trivial⟩
  refine e_then ?_
  refine wp_seq ?_
  refine wp_region_lit ?_
  refine op_g ha rfl (g_assign rfl) ?_; clear ha a; intro a ha
  refine wpList_nil ?_
  refine e_then ?_
  refine wp_seq ?_
  refine wp_region_lit ?_
  refine op_g ha rfl (g_move rfl) ?_; clear ha a; intro a ha
  refine op_g ha rfl (g_lenR sl22.und ha0 rfl) ?_; clear ha a; intro a ha
  refine op_g ha rfl (g_assign rfl) ?_; clear ha a; intro a ha
  refine wpList_nil ?_
  replace ha := ha.sub (σ' := [(0, va0), (4, v1), (5, (.int .i64 0)), (6, (.int .i64 (a0.length : Int)))]) ⟨rfl, rfl, rfl, rfl, trivial⟩
  refine e_then ?_
  refine wp_seq ?_
  obtain ⟨o653, ho654, hK655⟩ := bnd_some hF
  obtain ⟨n656, hn657⟩ := lp_some ho654; clear ho654
  refine c_loop (fun a w => ∃ (l650 : (List (Int × (Int × (List Int))))) (fs647 : List Nat) (v651 : Value) (b652 : Int), Fr 74 [(4, v651)] a ∧ Chg [] W w ∧ Ow (Rp.prod Rp.int (Rp.prod Rp.int (Rp.sl 2 Rp.int))) 46 true w fs647 b652 v651 l650 ∧ Zn W b652 ∧ (∀ k ∈ fs647, W.heap.size ≤ k) ∧ (bl b652 ++ fs647).Nodup ∧ o653 = .inl l650) (fun n a w => ∃ (l331 : (List (Int × (Int × (List Int))))) (i334 : Int) (fs328 : List Nat) (v332 : Value) (b333 : Int), Fr 74 [(0, va0), (4, v332), (5, (.int .i64 i334)), (6, (.int .i64 (a0.length : Int)))] a ∧ Chg [] W w ∧ InI i334 ∧ Ow (Rp.prod Rp.int (Rp.prod Rp.int (Rp.sl 2 Rp.int))) 46 true w fs328 b333 v332 l331 ∧ Zn W b333 ∧ (∀ k ∈ fs328, W.heap.size ≤ k) ∧ (bl b333 ++ fs328).Nodup ∧ lpN (fun s => F_spec_NumsParts_l1 a0 s.1 s.2) n (l331, i334) = some o653) n656 ⟨([] : (List (Int × (Int × (List Int))))), 0, [], v1, b6, ha.sub ⟨rfl, rfl, rfl, rfl, trivial⟩, hE9, (show InI 0 from by decide), h3, q8, (zf_nil _), (bl_nodup b6), hn657⟩ ?_ ?_
  · rintro m661 a w324 ⟨l331, i334, fs328, v332, b333, ha, hE336, hI335, h326, z327, zf329, nd330, hF⟩
    cases m661 with
    | zero => exact (lpN_zero hF).elim
    | succ m661 =>
      obtain ⟨z660, hF, hN659⟩ := lpN_succ hF
      have hF : F_spec_NumsParts_l1 a0 l331 i334 = some z660 := hF; unfold F_spec_NumsParts_l1 at hF
      refine wp_seq ?_
      refine wp_seq ?_
      refine wp_region_lit ?_
      refine op_g ha rfl (g_move rfl) ?_; clear ha a; intro a ha
      refine op_g ha rfl (g_move rfl) ?_; clear ha a; intro a ha
      refine op_g ha rfl (g_lss rfl rfl) ?_; clear ha a; intro a ha
      refine wpList_nil ?_
      replace ha := ha.sub (σ' := [(0, va0), (4, v332), (5, (.int .i64 i334)), (6, (.int .i64 (a0.length : Int))), (13, (.bool (decide (i334 < (a0.length : Int)))))]) ⟨rfl, rfl, rfl, rfl, rfl, trivial⟩
      refine e_then ?_
      refine c_cond (i334 < (a0.length : Int)) ha rfl (decide_eq_true_iff) (fun hp662 => ?_) (fun hp662 => ?_)
      · replace hF := if_t hp662 hF
        refine wp_skip ?_
        refine e_then ?_
        refine wp_block ?_
        refine wp_seq ?_
        refine wp_seq ?_
        refine wp_region_lit ?_
        refine op_g ha rfl (g_move rfl) ?_; clear ha a; intro a ha
        obtain ⟨hI755, hF⟩ := ck_some hF
        refine op_g ha rfl (g_add rfl rfl hI755) ?_; clear ha a; intro a ha
        refine op_g ha rfl (g_move rfl) ?_; clear ha a; intro a ha
        refine op_g ha rfl (g_gtr rfl rfl) ?_; clear ha a; intro a ha
        refine op_g ha rfl (g_move rfl) ?_; clear ha a; intro a ha
        by_cases hp757 : (a0.length : Int) < (i334 + 3)
        · replace hF := if_t hp757 hF
          rw [show (decide ((a0.length : Int) < (i334 + 3))) = true from (decide_eq_true_iff).2 hp757] at ha
          refine op_unwant ha rfl (yields ha rfl rfl) rfl ?_; clear ha a; intro a ha
          refine op_unwant ha rfl (yields ha rfl rfl) rfl ?_; clear ha a; intro a ha
          refine op_unwant ha rfl (yields ha rfl rfl) rfl ?_; clear ha a; intro a ha
          refine op_unwant ha rfl (yields ha rfl rfl) rfl ?_; clear ha a; intro a ha
          refine op_unwant ha rfl (yields ha rfl rfl) rfl ?_; clear ha a; intro a ha
          refine op_unwant ha rfl (yields ha rfl rfl) rfl ?_; clear ha a; intro a ha
          refine op_unwant ha rfl (yields ha rfl rfl) rfl ?_; clear ha a; intro a ha
          refine op_g ha rfl (g_pick rfl rfl) ?_; clear ha a; intro a ha
          refine op_g ha rfl (g_move rfl) ?_; clear ha a; intro a ha
          refine op_unwant ha rfl (yields ha rfl rfl) rfl ?_; clear ha a; intro a ha
          refine op_unwant ha rfl (yields ha rfl rfl) rfl ?_; clear ha a; intro a ha
          refine op_unwant ha rfl (yields ha rfl rfl) rfl ?_; clear ha a; intro a ha
          refine op_unwant ha rfl (yields ha rfl rfl) rfl ?_; clear ha a; intro a ha
          refine op_unwant ha rfl (yields ha rfl rfl) rfl ?_; clear ha a; intro a ha
          refine op_unwant ha rfl (yields ha rfl rfl) rfl ?_; clear ha a; intro a ha
          refine op_unwant ha rfl (yields ha rfl rfl) rfl ?_; clear ha a; intro a ha
          refine op_unwant ha rfl (yields ha rfl rfl) rfl ?_; clear ha a; intro a ha
          refine op_unwant ha rfl (yields ha rfl rfl) rfl ?_; clear ha a; intro a ha
          refine op_unwant ha rfl (yields ha rfl rfl) rfl ?_; clear ha a; intro a ha
          refine op_g ha rfl (g_pick rfl rfl) ?_; clear ha a; intro a ha
          refine op_g ha rfl (g_move rfl) ?_; clear ha a; intro a ha
          refine op_unwant ha rfl (yields ha rfl rfl) rfl ?_; clear ha a; intro a ha
          refine op_unwant ha rfl (yields ha rfl rfl) rfl ?_; clear ha a; intro a ha
          refine op_unwant ha rfl (yields ha rfl rfl) rfl ?_; clear ha a; intro a ha
          refine op_g ha rfl (g_pick rfl rfl) ?_; clear ha a; intro a ha
          refine wpList_nil ?_
          replace ha := ha.sub (σ' := [(0, va0), (4, v332), (5, (.int .i64 i334)), (6, (.int .i64 (a0.length : Int))), (43, (.bool true))]) ⟨rfl, rfl, rfl, rfl, rfl, trivial⟩
          refine e_then ?_
          refine c_true ha rfl ?_
          refine wp_seq ?_
          refine wp_region_lit ?_
          refine o_lit0 (Rp.prod Rp.int (Rp.prod Rp.int (Rp.sl 2 Rp.int))) ha rfl sl23 ?_; clear ha a; intro v758 w759 h760 hx761 a ha
          obtain ⟨b763, hb763⟩ : ∃ b : Int, b = w324.heap.size := ⟨_, rfl⟩; rw [← hb763] at h760
          have q764 := zn_of hb763
          have q765 := Nq.new h326.fpb q764
          have q766 := Nq.madeO q764 h326.blt
          have q767 := Nf.old q764 (zf_nil _) h326.bnd
          have q768 := Zn.upD q764 hE336
          replace h326 := h326.ext hx761
          have hE769 := Ext.trans hE336 hx761
          refine op_g ha rfl (g_assign rfl) ?_; clear ha a; intro a ha
          refine op_g ha rfl (g_assign rfl) ?_; clear ha a; intro a ha
          refine wpList_nil ?_
          replace ha := ha.sub (σ' := [(2, v758), (3, (.bool false))]) ⟨rfl, rfl, trivial⟩
          refine e_then ?_
          refine wp_ret ?_
          refine e_then_ret ?_
          refine e_blk_ret ?_
          refine e_lq_ret ?_
          refine e_then_ret ?_
          obtain rfl := Option.some.inj hF
          have e770 := LK_inr hN659; subst e770
          have e771 := BK_inr hK655; subst e771
          exact f_ret2 ha rfl rfl rfl ⟨_, _, _, _, rfl, h760, q768, (zf_nil _), (bl_nodup b763), rfl, hE769⟩
        · replace hF := if_f hp757 hF
          rw [show (decide ((a0.length : Int) < (i334 + 3))) = false from b_false (decide_eq_true_iff) hp757] at ha
          refine op_want (yields ha rfl rfl) ?_
          refine op_g ha rfl (g_move rfl) ?_; clear ha a; intro a ha
          refine op_want (yields ha rfl rfl) ?_
          refine op_g ha rfl (g_move rfl) ?_; clear ha a; intro a ha
          refine op_want (yields ha rfl rfl) ?_
          obtain ⟨hI772, hF⟩ := ck_some hF
          refine op_g ha rfl (g_add rfl rfl hI772) ?_; clear ha a; intro a ha
          refine op_want (yields ha rfl rfl) ?_
          obtain ⟨x774, g775, gx776, hF⟩ := idx_some hF
          obtain ⟨p777, cs778, f779, hf780, hpb781, hat782, hr783, hi784⟩ := ha0.at g775 gx776
          obtain ⟨rfl, hI785, rfl⟩ := hr783
          refine op_g ha rfl (hi784.gives sl22 rfl rfl) ?_; clear ha a; intro a ha
          refine op_want (yields ha rfl rfl) ?_
          refine op_g ha rfl (g_load0 hE336 Try.isAgg2 rfl hat782.one) ?_; clear ha a; intro a ha
          refine op_want (yields ha rfl rfl) ?_
          obtain ⟨x786, hc787, hF⟩ := cal_some hF
          refine o_call ha rfl rfl Try.call21 (W_spec_l1In hI785 (show InI 0 from by decide) (show InI 16 from by decide) hc787) ?_; clear ha a; rintro v788 w789 ⟨rfl, hx790⟩ a ha
          replace h326 := h326.ext hx790
          have hE791 := Ext.trans hE336 hx790
          refine op_want (yields ha rfl rfl) ?_
          refine op_g ha rfl (g_not rfl) ?_; clear ha a; intro a ha
          refine op_g ha rfl (g_pick rfl rfl) ?_; clear ha a; intro a ha
          refine op_g ha rfl (g_move rfl) ?_; clear ha a; intro a ha
          by_cases hp792 : ¬ (x786 = true)
          · replace hF := if_t hp792 hF
            rw [show (!x786) = true from (n_iff (Iff.rfl)).2 hp792] at ha
            refine op_unwant ha rfl (yields ha rfl rfl) rfl ?_; clear ha a; intro a ha
            refine op_unwant ha rfl (yields ha rfl rfl) rfl ?_; clear ha a; intro a ha
            refine op_unwant ha rfl (yields ha rfl rfl) rfl ?_; clear ha a; intro a ha
            refine op_unwant ha rfl (yields ha rfl rfl) rfl ?_; clear ha a; intro a ha
            refine op_unwant ha rfl (yields ha rfl rfl) rfl ?_; clear ha a; intro a ha
            refine op_unwant ha rfl (yields ha rfl rfl) rfl ?_; clear ha a; intro a ha
            refine op_unwant ha rfl (yields ha rfl rfl) rfl ?_; clear ha a; intro a ha
            refine op_unwant ha rfl (yields ha rfl rfl) rfl ?_; clear ha a; intro a ha
            refine op_unwant ha rfl (yields ha rfl rfl) rfl ?_; clear ha a; intro a ha
            refine op_unwant ha rfl (yields ha rfl rfl) rfl ?_; clear ha a; intro a ha
            refine op_g ha rfl (g_pick rfl rfl) ?_; clear ha a; intro a ha
            refine op_g ha rfl (g_move rfl) ?_; clear ha a; intro a ha
            refine op_unwant ha rfl (yields ha rfl rfl) rfl ?_; clear ha a; intro a ha
            refine op_unwant ha rfl (yields ha rfl rfl) rfl ?_; clear ha a; intro a ha
            refine op_unwant ha rfl (yields ha rfl rfl) rfl ?_; clear ha a; intro a ha
            refine op_g ha rfl (g_pick rfl rfl) ?_; clear ha a; intro a ha
            refine wpList_nil ?_
            replace ha := ha.sub (σ' := [(0, va0), (4, v332), (5, (.int .i64 i334)), (6, (.int .i64 (a0.length : Int))), (19, va0), (20, (.int .i64 i334)), (21, (.int .i64 (i334 + 2))), (22, (.pointer (some p777))), (23, (.int .i64 x774)), (24, (.bool x786)), (25, (.bool true)), (43, (.bool true))]) ⟨rfl, rfl, rfl, rfl, rfl, rfl, rfl, rfl, rfl, rfl, rfl, rfl, trivial⟩
            refine e_then ?_
            refine c_true ha rfl ?_
            refine wp_seq ?_
            refine wp_region_lit ?_
            refine o_lit0 (Rp.prod Rp.int (Rp.prod Rp.int (Rp.sl 2 Rp.int))) ha rfl sl23 ?_; clear ha a; intro v793 w794 h795 hx796 a ha
            obtain ⟨b798, hb798⟩ : ∃ b : Int, b = w789.heap.size := ⟨_, rfl⟩; rw [← hb798] at h795
            have q799 := zn_of hb798
            have q800 := Nq.new h326.fpb q799
            have q801 := Nq.madeO q799 h326.blt
            have q802 := Nf.old q799 (zf_nil _) h326.bnd
            have q803 := Zn.upD q799 hE791
            replace h326 := h326.ext hx796
            have hE804 := Ext.trans hE791 hx796
            refine op_g ha rfl (g_assign rfl) ?_; clear ha a; intro a ha
            refine op_g ha rfl (g_assign rfl) ?_; clear ha a; intro a ha
            refine wpList_nil ?_
            replace ha := ha.sub (σ' := [(2, v793), (3, (.bool false))]) ⟨rfl, rfl, trivial⟩
            refine e_then ?_
            refine wp_ret ?_
            refine e_then_ret ?_
            refine e_blk_ret ?_
            refine e_lq_ret ?_
            refine e_then_ret ?_
            obtain rfl := Option.some.inj hF
            have e805 := LK_inr hN659; subst e805
            have e806 := BK_inr hK655; subst e806
            exact f_ret2 ha rfl rfl rfl ⟨_, _, _, _, rfl, h795, q803, (zf_nil _), (bl_nodup b798), rfl, hE804⟩
          · replace hF := if_f hp792 hF
            rw [show (!x786) = false from b_false (n_iff (Iff.rfl)) hp792] at ha
            refine op_want (yields ha rfl rfl) ?_
            refine op_g ha rfl (g_move rfl) ?_; clear ha a; intro a ha
            refine op_want (yields ha rfl rfl) ?_
            obtain ⟨hI807, hF⟩ := ck_some hF
            refine op_g ha rfl (g_add rfl rfl hI807) ?_; clear ha a; intro a ha
            refine op_want (yields ha rfl rfl) ?_
            refine op_g ha rfl (g_move rfl) ?_; clear ha a; intro a ha
            refine op_want (yields ha rfl rfl) ?_
            refine op_g ha rfl (g_move rfl) ?_; clear ha a; intro a ha
            refine op_want (yields ha rfl rfl) ?_
            obtain ⟨hI809, hF⟩ := ck_some hF
            refine op_g ha rfl (g_add rfl rfl hI809) ?_; clear ha a; intro a ha
            refine op_want (yields ha rfl rfl) ?_
            obtain ⟨x811, g812, gx813, hF⟩ := idx_some hF
            obtain ⟨p814, cs815, f816, hf817, hpb818, hat819, hr820, hi821⟩ := ha0.at g812 gx813
            obtain ⟨rfl, hI822, rfl⟩ := hr820
            refine op_g ha rfl (hi821.gives sl22 rfl rfl) ?_; clear ha a; intro a ha
            refine op_want (yields ha rfl rfl) ?_
            refine op_g ha rfl (g_load0 hE791 Try.isAgg2 rfl hat819.one) ?_; clear ha a; intro a ha
            refine op_want (yields ha rfl rfl) ?_
            obtain ⟨hI823, hF⟩ := ck_some hF
            refine op_g ha rfl (g_add rfl rfl hI823) ?_; clear ha a; intro a ha
            refine op_want (yields ha rfl rfl) ?_
            refine op_g ha rfl (g_move rfl) ?_; clear ha a; intro a ha
            refine op_want (yields ha rfl rfl) ?_
            refine op_g ha rfl (g_gtr rfl rfl) ?_; clear ha a; intro a ha
            refine op_g ha rfl (g_pick rfl rfl) ?_; clear ha a; intro a ha
            refine op_g ha rfl (g_move rfl) ?_; clear ha a; intro a ha
            by_cases hp825 : (a0.length : Int) < ((i334 + 3) + x811)
            · replace hF := if_t hp825 hF
              rw [show (decide ((a0.length : Int) < ((i334 + 3) + x811))) = true from (decide_eq_true_iff).2 hp825] at ha
              refine op_unwant ha rfl (yields ha rfl rfl) rfl ?_; clear ha a; intro a ha
              refine op_unwant ha rfl (yields ha rfl rfl) rfl ?_; clear ha a; intro a ha
              refine op_unwant ha rfl (yields ha rfl rfl) rfl ?_; clear ha a; intro a ha
              refine op_g ha rfl (g_pick rfl rfl) ?_; clear ha a; intro a ha
              refine wpList_nil ?_
              replace ha := ha.sub (σ' := [(0, va0), (4, v332), (5, (.int .i64 i334)), (6, (.int .i64 (a0.length : Int))), (19, va0), (20, (.int .i64 i334)), (21, (.int .i64 (i334 + 2))), (22, (.pointer (some p777))), (23, (.int .i64 x774)), (24, (.bool x786)), (25, (.bool false)), (28, (.int .i64 i334)), (29, (.int .i64 (i334 + 3))), (30, va0), (31, (.int .i64 i334)), (32, (.int .i64 (i334 + 2))), (33, (.pointer (some p814))), (34, (.int .i64 x811)), (35, (.int .i64 ((i334 + 3) + x811))), (36, (.int .i64 (a0.length : Int))), (37, (.bool true)), (43, (.bool true))]) ⟨rfl, rfl, rfl, rfl, rfl, rfl, rfl, rfl, rfl, rfl, rfl, rfl, rfl, rfl, rfl, rfl, rfl, rfl, rfl, rfl, rfl, rfl, trivial⟩
              refine e_then ?_
              refine c_true ha rfl ?_
              refine wp_seq ?_
              refine wp_region_lit ?_
              refine o_lit0 (Rp.prod Rp.int (Rp.prod Rp.int (Rp.sl 2 Rp.int))) ha rfl sl23 ?_; clear ha a; intro v826 w827 h828 hx829 a ha
              obtain ⟨b831, hb831⟩ : ∃ b : Int, b = w789.heap.size := ⟨_, rfl⟩; rw [← hb831] at h828
              have q832 := zn_of hb831
              have q833 := Nq.new h326.fpb q832
              have q834 := Nq.madeO q832 h326.blt
              have q835 := Nf.old q832 (zf_nil _) h326.bnd
              have q836 := Zn.upD q832 hE791
              replace h326 := h326.ext hx829
              have hE837 := Ext.trans hE791 hx829
              refine op_g ha rfl (g_assign rfl) ?_; clear ha a; intro a ha
              refine op_g ha rfl (g_assign rfl) ?_; clear ha a; intro a ha
              refine wpList_nil ?_
              replace ha := ha.sub (σ' := [(2, v826), (3, (.bool false))]) ⟨rfl, rfl, trivial⟩
              refine e_then ?_
              refine wp_ret ?_
              refine e_then_ret ?_
              refine e_blk_ret ?_
              refine e_lq_ret ?_
              refine e_then_ret ?_
              obtain rfl := Option.some.inj hF
              have e838 := LK_inr hN659; subst e838
              have e839 := BK_inr hK655; subst e839
              exact f_ret2 ha rfl rfl rfl ⟨_, _, _, _, rfl, h828, q836, (zf_nil _), (bl_nodup b831), rfl, hE837⟩
            · replace hF := if_f hp825 hF
              rw [show (decide ((a0.length : Int) < ((i334 + 3) + x811))) = false from b_false (decide_eq_true_iff) hp825] at ha
              refine op_want (yields ha rfl rfl) ?_
              refine op_g ha rfl (g_move rfl) ?_; clear ha a; intro a ha
              refine op_want (yields ha rfl rfl) ?_
              refine op_g ha rfl (g_lenO sl23.und h326 rfl) ?_; clear ha a; intro a ha
              refine op_want (yields ha rfl rfl) ?_
              refine op_g ha rfl (g_eql rfl rfl) ?_; clear ha a; intro a ha
              refine op_g ha rfl (g_pick rfl rfl) ?_; clear ha a; intro a ha
              refine wpList_nil ?_
              replace ha := ha.sub (σ' := [(0, va0), (4, v332), (5, (.int .i64 i334)), (6, (.int .i64 (a0.length : Int))), (19, va0), (20, (.int .i64 i334)), (21, (.int .i64 (i334 + 2))), (22, (.pointer (some p777))), (23, (.int .i64 x774)), (24, (.bool x786)), (25, (.bool false)), (28, (.int .i64 i334)), (29, (.int .i64 (i334 + 3))), (30, va0), (31, (.int .i64 i334)), (32, (.int .i64 (i334 + 2))), (33, (.pointer (some p814))), (34, (.int .i64 x811)), (35, (.int .i64 ((i334 + 3) + x811))), (36, (.int .i64 (a0.length : Int))), (37, (.bool false)), (40, v332), (41, (.int .i64 (l331.length : Int))), (42, (.bool (decide ((l331.length : Int) = 31)))), (43, (.bool (decide ((l331.length : Int) = 31))))]) ⟨rfl, rfl, rfl, rfl, rfl, rfl, rfl, rfl, rfl, rfl, rfl, rfl, rfl, rfl, rfl, rfl, rfl, rfl, rfl, rfl, rfl, rfl, rfl, rfl, rfl, trivial⟩
              refine e_then ?_
              refine c_cond ((l331.length : Int) = 31) ha rfl (decide_eq_true_iff) (fun hp840 => ?_) (fun hp840 => ?_)
              · replace hF := if_t hp840 hF
                refine wp_seq ?_
                refine wp_region_lit ?_
                refine o_lit0 (Rp.prod Rp.int (Rp.prod Rp.int (Rp.sl 2 Rp.int))) ha rfl sl23 ?_; clear ha a; intro v841 w842 h843 hx844 a ha
                obtain ⟨b846, hb846⟩ : ∃ b : Int, b = w789.heap.size := ⟨_, rfl⟩; rw [← hb846] at h843
                have q847 := zn_of hb846
                have q848 := Nq.new h326.fpb q847
                have q849 := Nq.madeO q847 h326.blt
                have q850 := Nf.old q847 (zf_nil _) h326.bnd
                have q851 := Zn.upD q847 hE791
                replace h326 := h326.ext hx844
                have hE852 := Ext.trans hE791 hx844
                refine op_g ha rfl (g_assign rfl) ?_; clear ha a; intro a ha
                refine op_g ha rfl (g_assign rfl) ?_; clear ha a; intro a ha
                refine wpList_nil ?_
                replace ha := ha.sub (σ' := [(2, v841), (3, (.bool false))]) ⟨rfl, rfl, trivial⟩
                refine e_then ?_
                refine wp_ret ?_
                refine e_then_ret ?_
                refine e_blk_ret ?_
                refine e_lq_ret ?_
                refine e_then_ret ?_
                obtain rfl := Option.some.inj hF
                have e853 := LK_inr hN659; subst e853
                have e854 := BK_inr hK655; subst e854
                exact f_ret2 ha rfl rfl rfl ⟨_, _, _, _, rfl, h843, q851, (zf_nil _), (bl_nodup b846), rfl, hE852⟩
              · replace hF := if_f hp840 hF
                refine wp_skip ?_
                refine e_then ?_
                refine wp_seq ?_
                refine wp_region_lit ?_
                refine op_g ha rfl (g_move rfl) ?_; clear ha a; intro a ha
                obtain ⟨hI855, hF⟩ := ck_some hF
                refine op_g ha rfl (g_add rfl rfl hI855) ?_; clear ha a; intro a ha
                refine op_g ha rfl (g_move rfl) ?_; clear ha a; intro a ha
                refine op_g ha rfl (g_move rfl) ?_; clear ha a; intro a ha
                obtain ⟨hI857, hF⟩ := ck_some hF
                refine op_g ha rfl (g_add rfl rfl hI857) ?_; clear ha a; intro a ha
                obtain ⟨x859, g860, gx861, hF⟩ := idx_some hF
                obtain ⟨p862, cs863, f864, hf865, hpb866, hat867, hr868, hi869⟩ := ha0.at g860 gx861
                obtain ⟨rfl, hI870, rfl⟩ := hr868
                refine op_g ha rfl (hi869.gives sl22 rfl rfl) ?_; clear ha a; intro a ha
                refine op_g ha rfl (g_load0 hE791 Try.isAgg2 rfl hat867.one) ?_; clear ha a; intro a ha
                obtain ⟨hI871, hF⟩ := ck_some hF
                refine op_g ha rfl (g_add rfl rfl hI871) ?_; clear ha a; intro a ha
                refine op_g ha rfl (g_assign rfl) ?_; clear ha a; intro a ha
                refine wpList_nil ?_
                replace ha := ha.sub (σ' := [(0, va0), (4, v332), (5, (.int .i64 i334)), (6, (.int .i64 (a0.length : Int))), (7, (.int .i64 ((i334 + 3) + x859))), (19, va0), (20, (.int .i64 i334)), (21, (.int .i64 (i334 + 2))), (22, (.pointer (some p777))), (23, (.int .i64 x774)), (24, (.bool x786)), (25, (.bool false)), (28, (.int .i64 i334)), (29, (.int .i64 (i334 + 3))), (30, va0), (31, (.int .i64 i334)), (32, (.int .i64 (i334 + 2))), (33, (.pointer (some p814))), (34, (.int .i64 x811)), (35, (.int .i64 ((i334 + 3) + x811))), (36, (.int .i64 (a0.length : Int))), (37, (.bool false)), (40, v332), (41, (.int .i64 (l331.length : Int))), (42, (.bool (decide ((l331.length : Int) = 31))))]) ⟨rfl, rfl, rfl, rfl, rfl, rfl, rfl, rfl, rfl, rfl, rfl, rfl, rfl, rfl, rfl, rfl, rfl, rfl, rfl, rfl, rfl, rfl, rfl, rfl, rfl, trivial⟩
                refine e_then ?_
                refine wp_seq ?_
                refine d_region 18 hmix ?_
                refine u_g 0 rfl (by kernel_rfl) (want0 _) ha rfl (g_move rfl) ?_; clear ha a; intro a ha
                refine u_g 1 rfl (by kernel_rfl) (want0 _) ha rfl (g_move rfl) ?_; clear ha a; intro a ha
                refine u_g 2 rfl (by kernel_rfl) (want0 _) ha rfl (g_move rfl) ?_; clear ha a; intro a ha
                obtain ⟨x873, g874, gx875, hF⟩ := idx_some hF
                obtain ⟨p876, cs877, f878, hf879, hpb880, hat881, hr882, hi883⟩ := ha0.at g874 gx875
                obtain ⟨rfl, hI884, rfl⟩ := hr882
                refine u_g 3 rfl (by kernel_rfl) (want0 _) ha rfl (hi883.gives sl22 rfl rfl) ?_; clear ha a; intro a ha
                refine u_g 4 rfl (by kernel_rfl) (want0 _) ha rfl (g_load0 hE791 Try.isAgg2 rfl hat881.one) ?_; clear ha a; intro a ha
                refine u_g 5 rfl (by kernel_rfl) (want0 _) ha rfl (g_move rfl) ?_; clear ha a; intro a ha
                refine u_g 6 rfl (by kernel_rfl) (want0 _) ha rfl (g_move rfl) ?_; clear ha a; intro a ha
                obtain ⟨hI885, hF⟩ := ck_some hF
                refine u_g 7 rfl (by kernel_rfl) (want0 _) ha rfl (g_add rfl rfl hI885) ?_; clear ha a; intro a ha
                obtain ⟨x887, g888, gx889, hF⟩ := idx_some hF
                obtain ⟨p890, cs891, f892, hf893, hpb894, hat895, hr896, hi897⟩ := ha0.at g888 gx889
                obtain ⟨rfl, hI898, rfl⟩ := hr896
                refine u_g 8 rfl (by kernel_rfl) (want0 _) ha rfl (hi897.gives sl22 rfl rfl) ?_; clear ha a; intro a ha
                refine u_g 9 rfl (by kernel_rfl) (want0 _) ha rfl (g_load0 hE791 Try.isAgg2 rfl hat895.one) ?_; clear ha a; intro a ha
                refine u_g 10 rfl (by kernel_rfl) (want0 _) ha rfl (g_move rfl) ?_; clear ha a; intro a ha
                refine u_g 11 rfl (by kernel_rfl) (want0 _) ha rfl (g_move rfl) ?_; clear ha a; intro a ha
                obtain ⟨hI899, hF⟩ := ck_some hF
                refine u_g 12 rfl (by kernel_rfl) (want0 _) ha rfl (g_add rfl rfl hI899) ?_; clear ha a; intro a ha
                refine u_g 13 rfl (by kernel_rfl) (want0 _) ha rfl (g_move rfl) ?_; clear ha a; intro a ha
                obtain ⟨hb901a, hb901b, hb901c, hF⟩ := slc_some hF
                obtain ⟨v902, fp903, hrun904, hro905, hsub906⟩ := ha0.slice (lo := (some (.int .i64 (i334 + 3)))) (hi := (some (.int .i64 ((i334 + 3) + x859)))) (i := i334 + 3) (j := (i334 + 3) + x859) sl22 (.inr ⟨_, rfl⟩) (.inr ⟨_, rfl⟩) ⟨hb901a, hb901b, hb901c⟩
                refine u_g 14 rfl (by kernel_rfl) (want0 _) ha rfl (g_slice sl22.und rfl rfl rfl hrun904) ?_; clear ha a; intro a ha
                refine u_only 15 rfl (by kernel_rfl) ?_; intro w908 hx909
                replace h326 := h326.ext hx909
                have hE910 := Ext.trans hE791 hx909
                obtain ⟨x911, hc912, hF⟩ := cal_some hF
                refine o_call ha rfl rfl Try.call22 (W_spec_l1Copy (hro905.ext hE910) hc912) ?_; clear ha a; rintro v913 w914 ⟨b916, h917, z918, hx915⟩ a ha
                have q920 := Nq.new h326.fpb z918
                have q921 := Nq.madeO z918 h326.blt
                have q922 := Nf.old z918 (zf_nil _) h326.bnd
                replace h326 := h326.ext hx915
                have hE923 := Ext.trans hE910 hx915
                have q924 := Zn.upD z918 hE910
                refine wpList_nil (e_sq ?_)
                refine ⟨fun _ => hx915, ?_⟩
                refine u_g 16 rfl (by kernel_rfl) (want0 _) ha rfl (g_build (vs := [(0, (.int .i64 x873)), (1, (.int .i64 x887)), (2, v913)]) (cells := #[(.int .i64 x873), (.int .i64 x887), v913]) rfl (by obtain ⟨_, _, rfl⟩ := h917.shape ; rfl)) ?_; clear ha a; intro a ha
                refine u_only 17 rfl (by kernel_rfl) ?_; intro w925 hx926
                replace h326 := h326.ext hx926
                replace h917 := h917.ext hx926
                have hE927 := Ext.trans hE923 hx926
                refine o_lit1 (o := true) (y := (x873, x887, x911)) (Rp.prod Rp.int (Rp.prod Rp.int (Rp.sl 2 Rp.int))) ha rfl sl23 rfl rfl rfl ⟨[], (bl b916 ++ []), [_], _, rfl, rfl, ⟨rfl, hI884, rfl⟩, ⟨[], (bl b916 ++ []), [_], _, rfl, rfl, ⟨rfl, hI898, rfl⟩, (Rp.mkO h917)⟩⟩ ?_; clear ha a; intro v928 w929 h930 hx931 a ha
                obtain ⟨b933, hb933⟩ : ∃ b : Int, b = w925.heap.size := ⟨_, rfl⟩; rw [← hb933] at h930
                have q934 := zn_of hb933
                have q935 := zf_mv q924 (zf_nil _)
                have q936 := dj_of q920
                have q937 := Nq.new h326.fpb q934
                have q938 := Nq.append (Nq.madeL q934 h326.blt) q921
                have q939 := Zn.upD q934 hE927
                have q940 := nd_lit (bl_nodup b916) h917.fpb hb933
                replace h326 := h326.ext hx931
                have hE941 := Ext.trans hE927 hx931
                refine wpList_nil (e_sq ?_)
                refine ⟨fun _ => hx931, ?_⟩
                refine u_only 18 rfl (by kernel_rfl) ?_; intro w942 hx943
                replace h326 := h326.ext hx943
                replace h930 := h930.ext hx943
                have hE944 := Ext.trans hE941 hx943
                obtain ⟨hl945, hF⟩ := app_some hF
                have q946 := Nq.right q938
                refine o_append ha rfl sl23 rfl rfl rfl h326 h930.src q946 hl945 ?_; clear ha a; intro v947 w948 b949 h950 hc951 hb952 a ha
                replace h950 : Ow (Rp.prod Rp.int (Rp.prod Rp.int (Rp.sl 2 Rp.int))) 46 true w948 (fs328 ++ (bl b916 ++ [])) b949 v947 _ := h950
                have q954 := zf_app zf329 q935
                have q955 := nd_app nd330 (bl_nodup b916) q936 hb952 h326.fpb h930.bnd
                have q956 := Zn.appD z327 hb952 hE944
                have hE957 := Ext.then hE944 hc951 (Zn.bl z327)
                refine wpList_nil (e_sq ?_)
                refine ⟨fun h => absurd h (by decide), ?_⟩
                refine u_only 19 rfl (by kernel_rfl) ?_; intro w958 hx959
                replace h950 := h950.ext hx959
                have hE960 := Ext.trans hE957 hx959
                refine op_g ha rfl (g_assign rfl) ?_; clear ha a; intro a ha
                refine wpList_nil (e_sq ?_)
                refine ⟨fun h => absurd h (by decide), ?_⟩
                refine u_done (by kernel_rfl) ?_; intro w961 hx962
                replace h950 := h950.ext hx962
                have hE963 := Ext.trans hE960 hx962
                replace ha := ha.sub (σ' := [(0, va0), (4, v947), (6, (.int .i64 (a0.length : Int))), (7, (.int .i64 ((i334 + 3) + x859))), (19, va0), (20, (.int .i64 i334)), (21, (.int .i64 (i334 + 2))), (22, (.pointer (some p777))), (23, (.int .i64 x774)), (24, (.bool x786)), (25, (.bool false)), (28, (.int .i64 i334)), (29, (.int .i64 (i334 + 3))), (30, va0), (31, (.int .i64 i334)), (32, (.int .i64 (i334 + 2))), (33, (.pointer (some p814))), (34, (.int .i64 x811)), (35, (.int .i64 ((i334 + 3) + x811))), (36, (.int .i64 (a0.length : Int))), (37, (.bool false)), (40, v332), (41, (.int .i64 (l331.length : Int))), (42, (.bool (decide ((l331.length : Int) = 31))))]) ⟨rfl, rfl, rfl, rfl, rfl, rfl, rfl, rfl, rfl, rfl, rfl, rfl, rfl, rfl, rfl, rfl, rfl, rfl, rfl, rfl, rfl, rfl, rfl, rfl, trivial⟩
                refine e_then ?_
                refine wp_region_lit ?_
                refine op_g ha rfl (g_move rfl) ?_; clear ha a; intro a ha
                refine op_g ha rfl (g_assign rfl) ?_; clear ha a; intro a ha
                refine wpList_nil ?_
                replace ha := ha.sub (σ' := [(0, va0), (4, v947), (5, (.int .i64 ((i334 + 3) + x859))), (6, (.int .i64 (a0.length : Int))), (19, va0), (20, (.int .i64 i334)), (21, (.int .i64 (i334 + 2))), (22, (.pointer (some p777))), (23, (.int .i64 x774)), (24, (.bool x786)), (25, (.bool false)), (28, (.int .i64 i334)), (29, (.int .i64 (i334 + 3))), (30, va0), (31, (.int .i64 i334)), (32, (.int .i64 (i334 + 2))), (33, (.pointer (some p814))), (34, (.int .i64 x811)), (35, (.int .i64 ((i334 + 3) + x811))), (36, (.int .i64 (a0.length : Int))), (37, (.bool false)), (40, v332), (41, (.int .i64 (l331.length : Int))), (42, (.bool (decide ((l331.length : Int) = 31))))]) ⟨rfl, rfl, rfl, rfl, rfl, rfl, rfl, rfl, rfl, rfl, rfl, rfl, rfl, rfl, rfl, rfl, rfl, rfl, rfl, rfl, rfl, rfl, rfl, rfl, trivial⟩
                refine e_blk ?_
                refine e_lq ?_
                obtain rfl := Option.some.inj hF
                exact ⟨_, Nat.lt_succ_self _, (l331 ++ ([(x873, x887, x911)])), (i334 + 3) + x859, (fs328 ++ (bl b916 ++ [])), v947, b949, ha.sub ⟨rfl, rfl, rfl, rfl, trivial⟩, hE963, hI871, h950, q956, q954, q955, hN659⟩
      · replace hF := if_f hp662 hF
        refine wp_exit ?_
        refine e_then_exit ?_
        refine e_lq_eq ?_
        obtain rfl := Option.some.inj hF
        exact ⟨l331, fs328, v332, b333, ha.sub ⟨rfl, trivial⟩, hE336, h326, z327, zf329, nd330, (LK_inr hN659).symm⟩
  · rintro a w643 ⟨l650, fs647, v651, b652, ha, hE658, h645, z646, zf648, nd649, rfl⟩
    have hF : F_spec_NumsParts_k2 l650 = some _ := hK655; clear hK655; unfold F_spec_NumsParts_k2 at hF
    refine e_then ?_
    refine wp_seq ?_
    refine wp_region_lit ?_
    refine op_g ha rfl (g_move rfl) ?_; clear ha a; intro a ha
    refine op_g ha rfl (g_assign rfl) ?_; clear ha a; intro a ha
    refine op_g ha rfl (g_assign rfl) ?_; clear ha a; intro a ha
    refine wpList_nil ?_
    replace ha := ha.sub (σ' := [(2, v651), (3, (.bool true))]) ⟨rfl, rfl, trivial⟩
    refine e_then ?_
    refine wp_ret ?_
    obtain rfl := Option.some.inj hF
    exact f_ret2 ha rfl rfl rfl ⟨_, _, _, _, rfl, h645, z646, zf648, nd649, rfl, hE658⟩
set_option maxHeartbeats 2000000 in
theorem W_impl_inRange {W : World} {a0 : Int} (ha0 : InI a0) {a1 : Int} (ha1 : InI a1) {a2 : Int} (ha2 : InI a2) {r : Bool} (hF : F_impl_inRange a0 a1 a2 = some r) :
    Calls Try.prog 23 [.int .i64 a0, .int .i64 a1, .int .i64 a2].toArray W (Ret fun u w' => u = .bool r ∧ Ext W w') := by
  refine f_enter Try.func23 rfl Try.ntmps23 rfl ?_
  intro a ha
  replace ha : Fr 15 [(0, (.int .i64 a0)), (1, (.int .i64 a1)), (2, (.int .i64 a2))] a := ha
  have hE : Chg [] W W := Chg.refl _ _
  unfold F_impl_inRange at hF
  refine wp_seq ?_
  refine wp_region_lit ?_
  refine op_g ha rfl (g_assign rfl) ?_; clear ha a; intro a ha
  refine wpList_nil ?_
  replace ha := ha.sub (σ' := [(0, (.int .i64 a0)), (1, (.int .i64 a1)), (2, (.int .i64 a2))]) ⟨rfl, rfl, rfl, trivial⟩
  refine e_then ?_
  refine wp_seq ?_
  refine wp_region_lit ?_
  refine op_g ha rfl (g_move rfl) ?_; clear ha a; intro a ha
  refine op_g ha rfl (g_move rfl) ?_; clear ha a; intro a ha
  refine op_g ha rfl (g_leq rfl rfl) ?_; clear ha a; intro a ha
  refine op_g ha rfl (g_move rfl) ?_; clear ha a; intro a ha
  by_cases hp1 : a1 ≤ a0
  · replace hF := if_t hp1 hF
    rw [show (decide (a1 ≤ a0)) = true from (decide_eq_true_iff).2 hp1] at ha
    refine op_want (yields ha rfl rfl) ?_
    refine op_g ha rfl (g_move rfl) ?_; clear ha a; intro a ha
    refine op_want (yields ha rfl rfl) ?_
    refine op_g ha rfl (g_move rfl) ?_; clear ha a; intro a ha
    refine op_want (yields ha rfl rfl) ?_
    refine op_g ha rfl (g_leq rfl rfl) ?_; clear ha a; intro a ha
    refine op_g ha rfl (g_pick rfl rfl) ?_; clear ha a; intro a ha
    refine op_g ha rfl (g_assign rfl) ?_; clear ha a; intro a ha
    refine wpList_nil ?_
    replace ha := ha.sub (σ' := [(6, (.bool (decide (a0 ≤ a2))))]) ⟨rfl, trivial⟩
    refine e_then ?_
    refine wp_ret ?_
    obtain rfl := Option.some.inj hF
    exact f_ret1 ha rfl rfl ⟨rfl, hE⟩
  · replace hF := if_f hp1 hF
    rw [show (decide (a1 ≤ a0)) = false from b_false (decide_eq_true_iff) hp1] at ha
    refine op_unwant ha rfl (yields ha rfl rfl) rfl ?_; clear ha a; intro a ha
    refine op_unwant ha rfl (yields ha rfl rfl) rfl ?_; clear ha a; intro a ha
    refine op_unwant ha rfl (yields ha rfl rfl) rfl ?_; clear ha a; intro a ha
    refine op_g ha rfl (g_pick rfl rfl) ?_; clear ha a; intro a ha
    refine op_g ha rfl (g_assign rfl) ?_; clear ha a; intro a ha
    refine wpList_nil ?_
    replace ha := ha.sub (σ' := [(6, (.bool false))]) ⟨rfl, trivial⟩
    refine e_then ?_
    refine wp_ret ?_
    obtain rfl := Option.some.inj hF
    exact f_ret1 ha rfl rfl ⟨rfl, hE⟩
set_option maxHeartbeats 2000000 in
theorem W_slices_Clone_int64 {W : World} {va0 : Value} {fa0 : List Nat} {a0 : (List Int)} (ha0 : Ro Rp.int W fa0 va0 a0) {r : (List Int)} (hF : F_slices_Clone_int64 a0 = some r) :
    Calls Try.prog 24 [va0].toArray W (Ret fun u w' => ∃ (b_u : Int), Ow Rp.int 2 true w' [] b_u u r ∧ Zn W b_u ∧ Ext W w') := by
  refine f_enter Try.func24 rfl Try.ntmps24 rfl ?_
  intro a ha
  replace ha : Fr 8 [(0, va0)] a := ha
  have hE : Chg [] W W := Chg.refl _ _
  unfold F_slices_Clone_int64 at hF
  refine wp_seq ?_
  refine wp_region_lit ?_
  refine op_g ha rfl (g_assign rfl) ?_; clear ha a; intro a ha
  refine wpList_nil ?_
  replace ha := ha.sub (σ' := [(0, va0)]) ⟨rfl, trivial⟩
  refine e_then ?_
  refine wp_seq ?_
  refine wp_seq ?_
  refine wp_region_lit ?_
  refine op_g ha rfl (g_move rfl) ?_; clear ha a; intro a ha
  refine op_g ha rfl (g_nil sl22.und rfl ha0.shape) ?_; clear ha a; intro a ha
  refine wpList_nil ?_
  replace ha := ha.sub (σ' := [(0, va0), (4, (.bool (nilB va0)))]) ⟨rfl, rfl, trivial⟩
  refine e_then ?_
  refine c_cond (nilB va0 = true) ha rfl (Iff.rfl) (fun hp1 => ?_) (fun hp1 => ?_)
  · replace hF := clone_nil hF (ha0.nilE hp1)
    refine wp_seq ?_
    refine wp_region_lit ?_
    refine op_g ha rfl (g_assign rfl) ?_; clear ha a; intro a ha
    refine wpList_nil ?_
    replace ha := ha.sub (σ' := [(2, (.slice none 0 0))]) ⟨rfl, trivial⟩
    refine e_then ?_
    refine wp_ret ?_
    refine e_then_ret ?_
    obtain rfl := Option.some.inj hF
    exact f_ret1 ha rfl rfl ⟨-1, (Ow.nil (by decide)), (.inl (by decide)), hE⟩
  · skip
    refine wp_skip ?_
    refine e_then ?_
    refine wp_seq ?_
    refine wp_region_lit ?_
    refine o_lit0 Rp.int ha rfl sl22 ?_; clear ha a; intro v2 w3 h4 hx5 a ha
    obtain ⟨b7, hb7⟩ : ∃ b : Int, b = W.heap.size := ⟨_, rfl⟩; rw [← hb7] at h4
    have q8 := zn_of hb7
    have q9 := Zn.upD q8 hE
    have hE10 := Ext.trans hE hx5
    refine op_g ha rfl (g_move rfl) ?_; clear ha a; intro a ha
    obtain ⟨hl11, hF⟩ := app_some hF
    obtain ⟨_, hs12, _⟩ := (ha0.ext hE10).src
    refine o_append ha rfl sl22 rfl rfl rfl h4 (hs12.up scal_int) (Nq.nil _) hl11 ?_; clear ha a; intro v13 w14 b15 h16 hc17 hb18 a ha
    replace h16 : Ow Rp.int 2 true w14 [] b15 v13 _ := h16
    have q20 := Zn.appD q9 hb18 hE10
    have hE21 := Ext.then hE10 hc17 (Zn.bl q9)
    refine op_g ha rfl (g_assign rfl) ?_; clear ha a; intro a ha
    refine wpList_nil ?_
    replace ha := ha.sub (σ' := [(2, v13)]) ⟨rfl, trivial⟩
    refine e_then ?_
    refine wp_ret ?_
    obtain rfl := Option.some.inj hF
    exact f_ret1 ha rfl rfl ⟨_, h16, q20, hE21⟩
set_option maxHeartbeats 2000000 in
theorem W_impl_NumsParts {W : World} {va0 : Value} {fa0 : List Nat} {a0 : (List Int)} (ha0 : Ro Rp.int W fa0 va0 a0) {r : ((List (Int × (Int × (List Int)))) × Bool)} (hF : F_impl_NumsParts a0 = some r) :
    Calls Try.prog 7 [va0].toArray W (Ret fun u w' => ∃ (u0 : Value) (u1 : Value) (b_u0 : Int) (fs_u0 : List Nat), u = .tuple #[u0, u1] ∧ Ow (Rp.prod Rp.int (Rp.prod Rp.int (Rp.sl 2 Rp.int))) 46 true w' fs_u0 b_u0 u0 r.1 ∧ Zn W b_u0 ∧ (∀ k ∈ fs_u0, W.heap.size ≤ k) ∧ (bl b_u0 ++ fs_u0).Nodup ∧ u1 = .bool r.2 ∧ Ext W w') := by
  refine f_enter Try.func7 rfl Try.ntmps7 rfl ?_
  intro a ha
  replace ha : Fr 56 [(0, va0)] a := ha
  have hE : Chg [] W W := Chg.refl _ _
  unfold F_impl_NumsParts at hF
  refine wp_seq ?_
  refine wp_region_lit ?_
  refine op_g ha rfl (g_assign rfl) ?_; clear ha a; intro a ha
  refine op_g ha rfl (g_assign rfl) ?_; clear ha a; intro a ha
  refine wpList_nil ?_
  replace ha := ha.sub (σ' := [(0, va0)]) ⟨rfl, trivial⟩
  refine e_then ?_
  refine wp_seq ?_
  refine wp_region_lit ?_
  refine o_lit0 (Rp.prod Rp.int (Rp.prod Rp.int (Rp.sl 2 Rp.int))) ha rfl sl23 ?_; clear ha a; intro v1 w2 h3 hx4 a ha
  obtain ⟨b6, hb6⟩ : ∃ b : Int, b = W.heap.size := ⟨_, rfl⟩; rw [← hb6] at h3
  have q7 := zn_of hb6
  have q8 := Zn.upD q7 hE
  have hE9 := Ext.trans hE hx4
  refine op_g ha rfl (g_assign rfl) ?_; clear ha a; intro a ha
  refine wpList_nil ?_
  replace ha := ha.sub (σ' := [(0, va0), (4, v1)]) ⟨rfl, rfl, trivial⟩
  refine e_then ?_
  refine wp_seq ?_
  obtain ⟨o447, ho448, hK449⟩ := bnd_some hF
  obtain ⟨n450, hn451⟩ := lp_some ho448; clear ho448
  have h452 := ha0.ext hE9
  have q454 := Nq.new ha0.bnd q8
  refine c_loop (fun a w => ∃ (l444 : (List (Int × (Int × (List Int))))) (fs441 : List Nat) (v445 : Value) (b446 : Int), Fr 56 [(4, v445)] a ∧ Chg [] W w ∧ Ow (Rp.prod Rp.int (Rp.prod Rp.int (Rp.sl 2 Rp.int))) 46 true w fs441 b446 v445 l444 ∧ Zn W b446 ∧ (∀ k ∈ fs441, W.heap.size ≤ k) ∧ (bl b446 ++ fs441).Nodup ∧ o447 = .inl l444) (fun n a w => ∃ (l218 : (List Int)) (l227 : (List (Int × (Int × (List Int))))) (v219 : Value) (f220 : List Nat) (fs224 : List Nat) (v228 : Value) (b229 : Int), Fr 56 [(0, v219), (4, v228)] a ∧ Chg [] W w ∧ Ro Rp.int w f220 v219 l218 ∧ Ow (Rp.prod Rp.int (Rp.prod Rp.int (Rp.sl 2 Rp.int))) 46 true w fs224 b229 v228 l227 ∧ Zn W b229 ∧ (∀ k ∈ fs224, W.heap.size ≤ k) ∧ (bl b229 ++ fs224).Nodup ∧ Nq (f220) b229 ∧ lpN (fun s => F_impl_NumsParts_l1 s.1 s.2) n (l218, l227) = some o447) n450 ⟨a0, ([] : (List (Int × (Int × (List Int))))), va0, fa0, [], v1, b6, ha.sub ⟨rfl, rfl, trivial⟩, hE9, h452, h3, q8, (zf_nil _), (bl_nodup b6), q454, hn451⟩ ?_ ?_
  · rintro m458 a w215 ⟨l218, l227, v219, f220, fs224, v228, b229, ha, hE231, h217, h222, z223, zf225, nd226, q230, hF⟩
    cases m458 with
    | zero => exact (lpN_zero hF).elim
    | succ m458 =>
      obtain ⟨z457, hF, hN456⟩ := lpN_succ hF
      have hF : F_impl_NumsParts_l1 l218 l227 = some z457 := hF; unfold F_impl_NumsParts_l1 at hF
      refine wp_seq ?_
      refine wp_seq ?_
      refine wp_region_lit ?_
      refine op_g ha rfl (g_move rfl) ?_; clear ha a; intro a ha
      refine op_g ha rfl (g_lenR sl22.und h217 rfl) ?_; clear ha a; intro a ha
      refine op_g ha rfl (g_gtr rfl rfl) ?_; clear ha a; intro a ha
      refine wpList_nil ?_
      replace ha := ha.sub (σ' := [(0, v219), (4, v228), (9, (.bool (decide (0 < (l218.length : Int)))))]) ⟨rfl, rfl, rfl, trivial⟩
      refine e_then ?_
      refine c_cond (0 < (l218.length : Int)) ha rfl (decide_eq_true_iff) (fun hp459 => ?_) (fun hp459 => ?_)
      · replace hF := if_t hp459 hF
        refine wp_skip ?_
        refine e_then ?_
        refine wp_block ?_
        refine wp_seq ?_
        refine wp_seq ?_
        refine wp_region_lit ?_
        refine op_g ha rfl (g_move rfl) ?_; clear ha a; intro a ha
        refine op_g ha rfl (g_lenR sl22.und h217 rfl) ?_; clear ha a; intro a ha
        refine op_g ha rfl (g_lss rfl rfl) ?_; clear ha a; intro a ha
        refine op_g ha rfl (g_move rfl) ?_; clear ha a; intro a ha
        by_cases hp496 : (l218.length : Int) < 3
        · replace hF := if_t hp496 hF
          rw [show (decide ((l218.length : Int) < 3)) = true from (decide_eq_true_iff).2 hp496] at ha
          refine op_unwant ha rfl (yields ha rfl rfl) rfl ?_; clear ha a; intro a ha
          refine op_unwant ha rfl (yields ha rfl rfl) rfl ?_; clear ha a; intro a ha
          refine op_unwant ha rfl (yields ha rfl rfl) rfl ?_; clear ha a; intro a ha
          refine op_unwant ha rfl (yields ha rfl rfl) rfl ?_; clear ha a; intro a ha
          refine op_unwant ha rfl (yields ha rfl rfl) rfl ?_; clear ha a; intro a ha
          refine op_g ha rfl (g_pick rfl rfl) ?_; clear ha a; intro a ha
          refine op_g ha rfl (g_move rfl) ?_; clear ha a; intro a ha
          refine op_unwant ha rfl (yields ha rfl rfl) rfl ?_; clear ha a; intro a ha
          refine op_unwant ha rfl (yields ha rfl rfl) rfl ?_; clear ha a; intro a ha
          refine op_unwant ha rfl (yields ha rfl rfl) rfl ?_; clear ha a; intro a ha
          refine op_unwant ha rfl (yields ha rfl rfl) rfl ?_; clear ha a; intro a ha
          refine op_unwant ha rfl (yields ha rfl rfl) rfl ?_; clear ha a; intro a ha
          refine op_unwant ha rfl (yields ha rfl rfl) rfl ?_; clear ha a; intro a ha
          refine op_unwant ha rfl (yields ha rfl rfl) rfl ?_; clear ha a; intro a ha
          refine op_g ha rfl (g_pick rfl rfl) ?_; clear ha a; intro a ha
          refine op_g ha rfl (g_move rfl) ?_; clear ha a; intro a ha
          refine op_unwant ha rfl (yields ha rfl rfl) rfl ?_; clear ha a; intro a ha
          refine op_unwant ha rfl (yields ha rfl rfl) rfl ?_; clear ha a; intro a ha
          refine op_unwant ha rfl (yields ha rfl rfl) rfl ?_; clear ha a; intro a ha
          refine op_g ha rfl (g_pick rfl rfl) ?_; clear ha a; intro a ha
          refine wpList_nil ?_
          replace ha := ha.sub (σ' := [(0, v219), (4, v228), (33, (.bool true))]) ⟨rfl, rfl, rfl, trivial⟩
          refine e_then ?_
          refine c_true ha rfl ?_
          refine wp_seq ?_
          refine wp_region_lit ?_
          refine op_g ha rfl (g_assign rfl) ?_; clear ha a; intro a ha
          refine op_g ha rfl (g_assign rfl) ?_; clear ha a; intro a ha
          refine wpList_nil ?_
          replace ha := ha.sub (σ' := [(2, (.slice none 0 0)), (3, (.bool false))]) ⟨rfl, rfl, trivial⟩
          refine e_then ?_
          refine wp_ret ?_
          refine e_then_ret ?_
          refine e_blk_ret ?_
          refine e_lq_ret ?_
          refine e_then_ret ?_
          obtain rfl := Option.some.inj hF
          have e497 := LK_inr hN456; subst e497
          have e498 := BK_inr hK449; subst e498
          exact f_ret2 ha rfl rfl rfl ⟨_, _, -1, [], rfl, (Ow.nil (by decide)), (.inl (by decide)), (zf_nil _), (bl_nodup _), rfl, hE231⟩
        · replace hF := if_f hp496 hF
          rw [show (decide ((l218.length : Int) < 3)) = false from b_false (decide_eq_true_iff) hp496] at ha
          refine op_want (yields ha rfl rfl) ?_
          refine op_g ha rfl (g_move rfl) ?_; clear ha a; intro a ha
          refine op_want (yields ha rfl rfl) ?_
          obtain ⟨x499, g500, gx501, hF⟩ := idx_some hF
          obtain ⟨p502, cs503, f504, hf505, hpb506, hat507, hr508, hi509⟩ := h217.at g500 gx501
          obtain ⟨rfl, hI510, rfl⟩ := hr508
          refine op_g ha rfl (hi509.gives sl22 rfl rfl) ?_; clear ha a; intro a ha
          refine op_want (yields ha rfl rfl) ?_
          refine op_g ha rfl (g_load Try.isAgg2 rfl hat507.one) ?_; clear ha a; intro a ha
          refine op_want (yields ha rfl rfl) ?_
          obtain ⟨x511, hc512, hF⟩ := cal_some hF
          refine o_call ha rfl rfl Try.call23 (W_impl_inRange hI510 (show InI 0 from by decide) (show InI 16 from by decide) hc512) ?_; clear ha a; rintro v513 w514 ⟨rfl, hx515⟩ a ha
          replace h217 := h217.ext hx515
          replace h222 := h222.ext hx515
          have hE516 := Ext.trans hE231 hx515
          refine op_want (yields ha rfl rfl) ?_
          refine op_g ha rfl (g_not rfl) ?_; clear ha a; intro a ha
          refine op_g ha rfl (g_pick rfl rfl) ?_; clear ha a; intro a ha
          refine op_g ha rfl (g_move rfl) ?_; clear ha a; intro a ha
          by_cases hp517 : ¬ (x511 = true)
          · replace hF := if_t hp517 hF
            rw [show (!x511) = true from (n_iff (Iff.rfl)).2 hp517] at ha
            refine op_unwant ha rfl (yields ha rfl rfl) rfl ?_; clear ha a; intro a ha
            refine op_unwant ha rfl (yields ha rfl rfl) rfl ?_; clear ha a; intro a ha
            refine op_unwant ha rfl (yields ha rfl rfl) rfl ?_; clear ha a; intro a ha
            refine op_unwant ha rfl (yields ha rfl rfl) rfl ?_; clear ha a; intro a ha
            refine op_unwant ha rfl (yields ha rfl rfl) rfl ?_; clear ha a; intro a ha
            refine op_unwant ha rfl (yields ha rfl rfl) rfl ?_; clear ha a; intro a ha
            refine op_unwant ha rfl (yields ha rfl rfl) rfl ?_; clear ha a; intro a ha
            refine op_g ha rfl (g_pick rfl rfl) ?_; clear ha a; intro a ha
            refine op_g ha rfl (g_move rfl) ?_; clear ha a; intro a ha
            refine op_unwant ha rfl (yields ha rfl rfl) rfl ?_; clear ha a; intro a ha
            refine op_unwant ha rfl (yields ha rfl rfl) rfl ?_; clear ha a; intro a ha
            refine op_unwant ha rfl (yields ha rfl rfl) rfl ?_; clear ha a; intro a ha
            refine op_g ha rfl (g_pick rfl rfl) ?_; clear ha a; intro a ha
            refine wpList_nil ?_
            replace ha := ha.sub (σ' := [(0, v219), (4, v228), (14, v219), (15, (.pointer (some p502))), (16, (.int .i64 x499)), (17, (.bool x511)), (18, (.bool true)), (33, (.bool true))]) ⟨rfl, rfl, rfl, rfl, rfl, rfl, rfl, rfl, trivial⟩
            refine e_then ?_
            refine c_true ha rfl ?_
            refine wp_seq ?_
            refine wp_region_lit ?_
            refine op_g ha rfl (g_assign rfl) ?_; clear ha a; intro a ha
            refine op_g ha rfl (g_assign rfl) ?_; clear ha a; intro a ha
            refine wpList_nil ?_
            replace ha := ha.sub (σ' := [(2, (.slice none 0 0)), (3, (.bool false))]) ⟨rfl, rfl, trivial⟩
            refine e_then ?_
            refine wp_ret ?_
            refine e_then_ret ?_
            refine e_blk_ret ?_
            refine e_lq_ret ?_
            refine e_then_ret ?_
            obtain rfl := Option.some.inj hF
            have e518 := LK_inr hN456; subst e518
            have e519 := BK_inr hK449; subst e519
            exact f_ret2 ha rfl rfl rfl ⟨_, _, -1, [], rfl, (Ow.nil (by decide)), (.inl (by decide)), (zf_nil _), (bl_nodup _), rfl, hE516⟩
          · replace hF := if_f hp517 hF
            rw [show (!x511) = false from b_false (n_iff (Iff.rfl)) hp517] at ha
            refine op_want (yields ha rfl rfl) ?_
            refine op_g ha rfl (g_move rfl) ?_; clear ha a; intro a ha
            refine op_want (yields ha rfl rfl) ?_
            refine op_g ha rfl (g_lenR sl22.und h217 rfl) ?_; clear ha a; intro a ha
            refine op_want (yields ha rfl rfl) ?_
            refine op_g ha rfl (g_move rfl) ?_; clear ha a; intro a ha
            refine op_want (yields ha rfl rfl) ?_
            obtain ⟨x520, g521, gx522, hF⟩ := idx_some hF
            obtain ⟨p523, cs524, f525, hf526, hpb527, hat528, hr529, hi530⟩ := h217.at g521 gx522
            obtain ⟨rfl, hI531, rfl⟩ := hr529
            refine op_g ha rfl (hi530.gives sl22 rfl rfl) ?_; clear ha a; intro a ha
            refine op_want (yields ha rfl rfl) ?_
            refine op_g ha rfl (g_load Try.isAgg2 rfl hat528.one) ?_; clear ha a; intro a ha
            refine op_want (yields ha rfl rfl) ?_
            obtain ⟨hI532, hF⟩ := ck_some hF
            refine op_g ha rfl (g_add rfl rfl hI532) ?_; clear ha a; intro a ha
            refine op_want (yields ha rfl rfl) ?_
            refine op_g ha rfl (g_lss rfl rfl) ?_; clear ha a; intro a ha
            refine op_g ha rfl (g_pick rfl rfl) ?_; clear ha a; intro a ha
            refine op_g ha rfl (g_move rfl) ?_; clear ha a; intro a ha
            by_cases hp534 : (l218.length : Int) < (3 + x520)
            · replace hF := if_t hp534 hF
              rw [show (decide ((l218.length : Int) < (3 + x520))) = true from (decide_eq_true_iff).2 hp534] at ha
              refine op_unwant ha rfl (yields ha rfl rfl) rfl ?_; clear ha a; intro a ha
              refine op_unwant ha rfl (yields ha rfl rfl) rfl ?_; clear ha a; intro a ha
              refine op_unwant ha rfl (yields ha rfl rfl) rfl ?_; clear ha a; intro a ha
              refine op_g ha rfl (g_pick rfl rfl) ?_; clear ha a; intro a ha
              refine wpList_nil ?_
              replace ha := ha.sub (σ' := [(0, v219), (4, v228), (14, v219), (15, (.pointer (some p502))), (16, (.int .i64 x499)), (17, (.bool x511)), (18, (.bool false)), (21, v219), (22, (.int .i64 (l218.length : Int))), (23, v219), (24, (.pointer (some p523))), (25, (.int .i64 x520)), (26, (.int .i64 (3 + x520))), (27, (.bool true)), (33, (.bool true))]) ⟨rfl, rfl, rfl, rfl, rfl, rfl, rfl, rfl, rfl, rfl, rfl, rfl, rfl, rfl, rfl, trivial⟩
              refine e_then ?_
              refine c_true ha rfl ?_
              refine wp_seq ?_
              refine wp_region_lit ?_
              refine op_g ha rfl (g_assign rfl) ?_; clear ha a; intro a ha
              refine op_g ha rfl (g_assign rfl) ?_; clear ha a; intro a ha
              refine wpList_nil ?_
              replace ha := ha.sub (σ' := [(2, (.slice none 0 0)), (3, (.bool false))]) ⟨rfl, rfl, trivial⟩
              refine e_then ?_
              refine wp_ret ?_
              refine e_then_ret ?_
              refine e_blk_ret ?_
              refine e_lq_ret ?_
              refine e_then_ret ?_
              obtain rfl := Option.some.inj hF
              have e535 := LK_inr hN456; subst e535
              have e536 := BK_inr hK449; subst e536
              exact f_ret2 ha rfl rfl rfl ⟨_, _, -1, [], rfl, (Ow.nil (by decide)), (.inl (by decide)), (zf_nil _), (bl_nodup _), rfl, hE516⟩
            · replace hF := if_f hp534 hF
              rw [show (decide ((l218.length : Int) < (3 + x520))) = false from b_false (decide_eq_true_iff) hp534] at ha
              refine op_want (yields ha rfl rfl) ?_
              refine op_g ha rfl (g_move rfl) ?_; clear ha a; intro a ha
              refine op_want (yields ha rfl rfl) ?_
              refine op_g ha rfl (g_lenO sl23.und h222 rfl) ?_; clear ha a; intro a ha
              refine op_want (yields ha rfl rfl) ?_
              refine op_g ha rfl (g_eql rfl rfl) ?_; clear ha a; intro a ha
              refine op_g ha rfl (g_pick rfl rfl) ?_; clear ha a; intro a ha
              refine wpList_nil ?_
              replace ha := ha.sub (σ' := [(0, v219), (4, v228), (14, v219), (15, (.pointer (some p502))), (16, (.int .i64 x499)), (17, (.bool x511)), (18, (.bool false)), (21, v219), (22, (.int .i64 (l218.length : Int))), (23, v219), (24, (.pointer (some p523))), (25, (.int .i64 x520)), (26, (.int .i64 (3 + x520))), (27, (.bool false)), (30, v228), (31, (.int .i64 (l227.length : Int))), (32, (.bool (decide ((l227.length : Int) = 31)))), (33, (.bool (decide ((l227.length : Int) = 31))))]) ⟨rfl, rfl, rfl, rfl, rfl, rfl, rfl, rfl, rfl, rfl, rfl, rfl, rfl, rfl, rfl, rfl, rfl, rfl, trivial⟩
              refine e_then ?_
              refine c_cond ((l227.length : Int) = 31) ha rfl (decide_eq_true_iff) (fun hp537 => ?_) (fun hp537 => ?_)
              · replace hF := if_t hp537 hF
                refine wp_seq ?_
                refine wp_region_lit ?_
                refine op_g ha rfl (g_assign rfl) ?_; clear ha a; intro a ha
                refine op_g ha rfl (g_assign rfl) ?_; clear ha a; intro a ha
                refine wpList_nil ?_
                replace ha := ha.sub (σ' := [(2, (.slice none 0 0)), (3, (.bool false))]) ⟨rfl, rfl, trivial⟩
                refine e_then ?_
                refine wp_ret ?_
                refine e_then_ret ?_
                refine e_blk_ret ?_
                refine e_lq_ret ?_
                refine e_then_ret ?_
                obtain rfl := Option.some.inj hF
                have e538 := LK_inr hN456; subst e538
                have e539 := BK_inr hK449; subst e539
                exact f_ret2 ha rfl rfl rfl ⟨_, _, -1, [], rfl, (Ow.nil (by decide)), (.inl (by decide)), (zf_nil _), (bl_nodup _), rfl, hE516⟩
              · replace hF := if_f hp537 hF
                refine wp_skip ?_
                refine e_then ?_
                refine wp_seq ?_
                refine wp_region_lit ?_
                refine op_g ha rfl (g_move rfl) ?_; clear ha a; intro a ha
                obtain ⟨x540, g541, gx542, hF⟩ := idx_some hF
                obtain ⟨p543, cs544, f545, hf546, hpb547, hat548, hr549, hi550⟩ := h217.at g541 gx542
                obtain ⟨rfl, hI551, rfl⟩ := hr549
                refine op_g ha rfl (hi550.gives sl22 rfl rfl) ?_; clear ha a; intro a ha
                refine op_g ha rfl (g_load Try.isAgg2 rfl hat548.one) ?_; clear ha a; intro a ha
                obtain ⟨hI552, hF⟩ := ck_some hF
                refine op_g ha rfl (g_add rfl rfl hI552) ?_; clear ha a; intro a ha
                refine op_g ha rfl (g_assign rfl) ?_; clear ha a; intro a ha
                refine wpList_nil ?_
                replace ha := ha.sub (σ' := [(0, v219), (4, v228), (5, (.int .i64 (3 + x540))), (14, v219), (15, (.pointer (some p502))), (16, (.int .i64 x499)), (17, (.bool x511)), (18, (.bool false)), (21, v219), (22, (.int .i64 (l218.length : Int))), (23, v219), (24, (.pointer (some p523))), (25, (.int .i64 x520)), (26, (.int .i64 (3 + x520))), (27, (.bool false)), (30, v228), (31, (.int .i64 (l227.length : Int))), (32, (.bool (decide ((l227.length : Int) = 31))))]) ⟨rfl, rfl, rfl, rfl, rfl, rfl, rfl, rfl, rfl, rfl, rfl, rfl, rfl, rfl, rfl, rfl, rfl, rfl, trivial⟩
                refine e_then ?_
                refine wp_seq ?_
                refine d_region 13 hmix ?_
                refine u_g 0 rfl (by kernel_rfl) (want0 _) ha rfl (g_move rfl) ?_; clear ha a; intro a ha
                refine u_g 1 rfl (by kernel_rfl) (want0 _) ha rfl (g_move rfl) ?_; clear ha a; intro a ha
                obtain ⟨x554, g555, gx556, hF⟩ := idx_some hF
                obtain ⟨p557, cs558, f559, hf560, hpb561, hat562, hr563, hi564⟩ := h217.at g555 gx556
                obtain ⟨rfl, hI565, rfl⟩ := hr563
                refine u_g 2 rfl (by kernel_rfl) (want0 _) ha rfl (hi564.gives sl22 rfl rfl) ?_; clear ha a; intro a ha
                refine u_g 3 rfl (by kernel_rfl) (want0 _) ha rfl (g_load Try.isAgg2 rfl hat562.one) ?_; clear ha a; intro a ha
                refine u_g 4 rfl (by kernel_rfl) (want0 _) ha rfl (g_move rfl) ?_; clear ha a; intro a ha
                obtain ⟨x566, g567, gx568, hF⟩ := idx_some hF
                obtain ⟨p569, cs570, f571, hf572, hpb573, hat574, hr575, hi576⟩ := h217.at g567 gx568
                obtain ⟨rfl, hI577, rfl⟩ := hr575
                refine u_g 5 rfl (by kernel_rfl) (want0 _) ha rfl (hi576.gives sl22 rfl rfl) ?_; clear ha a; intro a ha
                refine u_g 6 rfl (by kernel_rfl) (want0 _) ha rfl (g_load Try.isAgg2 rfl hat574.one) ?_; clear ha a; intro a ha
                refine u_g 7 rfl (by kernel_rfl) (want0 _) ha rfl (g_move rfl) ?_; clear ha a; intro a ha
                refine u_g 8 rfl (by kernel_rfl) (want0 _) ha rfl (g_move rfl) ?_; clear ha a; intro a ha
                obtain ⟨hb578a, hb578b, hb578c, hF⟩ := slc_some hF
                obtain ⟨v579, fp580, hrun581, hro582, hsub583⟩ := h217.slice (lo := (some (.int .i64 3))) (hi := (some (.int .i64 (3 + x540)))) (i := 3) (j := 3 + x540) sl22 (.inr ⟨_, rfl⟩) (.inr ⟨_, rfl⟩) ⟨hb578a, hb578b, hb578c⟩
                have q585 := Nq.mono q230 hsub583
                refine u_g 9 rfl (by kernel_rfl) (want0 _) ha rfl (g_slice sl22.und rfl rfl rfl hrun581) ?_; clear ha a; intro a ha
                refine u_only 10 rfl (by kernel_rfl) ?_; intro w586 hx587
                replace h217 := h217.ext hx587
                replace h222 := h222.ext hx587
                replace hro582 := hro582.ext hx587
                have hE588 := Ext.trans hE516 hx587
                obtain ⟨x589, hc590, hF⟩ := cal_some hF
                refine o_call ha rfl rfl Try.call24 (W_slices_Clone_int64 hro582 hc590) ?_; clear ha a; rintro v591 w592 ⟨b594, h595, z596, hx593⟩ a ha
                have q598 := Nq.new h217.bnd z596
                have q599 := Nq.new h222.fpb z596
                have q600 := Nq.madeO z596 h222.blt
                have q601 := Nq.new hro582.bnd z596
                have q602 := Nf.old z596 (zf_nil _) h222.bnd
                replace h217 := h217.ext hx593
                replace h222 := h222.ext hx593
                replace hro582 := hro582.ext hx593
                have hE603 := Ext.trans hE588 hx593
                have q604 := Zn.upD z596 hE588
                refine wpList_nil (e_sq ?_)
                refine ⟨fun _ => hx593, ?_⟩
                refine u_g 11 rfl (by kernel_rfl) (want0 _) ha rfl (g_build (vs := [(0, (.int .i64 x554)), (1, (.int .i64 x566)), (2, v591)]) (cells := #[(.int .i64 x554), (.int .i64 x566), v591]) rfl (by obtain ⟨_, _, rfl⟩ := h595.shape ; rfl)) ?_; clear ha a; intro a ha
                refine u_only 12 rfl (by kernel_rfl) ?_; intro w605 hx606
                replace h217 := h217.ext hx606
                replace h222 := h222.ext hx606
                replace hro582 := hro582.ext hx606
                replace h595 := h595.ext hx606
                have hE607 := Ext.trans hE603 hx606
                refine o_lit1 (o := true) (y := (x554, x566, x589)) (Rp.prod Rp.int (Rp.prod Rp.int (Rp.sl 2 Rp.int))) ha rfl sl23 rfl rfl rfl ⟨[], (bl b594 ++ []), [_], _, rfl, rfl, ⟨rfl, hI565, rfl⟩, ⟨[], (bl b594 ++ []), [_], _, rfl, rfl, ⟨rfl, hI577, rfl⟩, (Rp.mkO h595)⟩⟩ ?_; clear ha a; intro v608 w609 h610 hx611 a ha
                obtain ⟨b613, hb613⟩ : ∃ b : Int, b = w605.heap.size := ⟨_, rfl⟩; rw [← hb613] at h610
                have q614 := zn_of hb613
                have q615 := zf_mv q604 (zf_nil _)
                have q616 := dj_of q599
                have q617 := Nq.new h217.bnd q614
                have q618 := Nq.new h222.fpb q614
                have q619 := Nq.append (Nq.madeL q614 h222.blt) q600
                have q620 := Nq.new hro582.bnd q614
                have q621 := Zn.upD q614 hE607
                have q622 := nd_lit (bl_nodup b594) h595.fpb hb613
                replace h217 := h217.ext hx611
                replace h222 := h222.ext hx611
                replace hro582 := hro582.ext hx611
                have hE623 := Ext.trans hE607 hx611
                refine wpList_nil (e_sq ?_)
                refine ⟨fun _ => hx611, ?_⟩
                refine u_only 13 rfl (by kernel_rfl) ?_; intro w624 hx625
                replace h217 := h217.ext hx625
                replace h222 := h222.ext hx625
                replace hro582 := hro582.ext hx625
                replace h610 := h610.ext hx625
                have hE626 := Ext.trans hE623 hx625
                obtain ⟨hl627, hF⟩ := app_some hF
                have q628 := Nq.right q619
                refine o_append ha rfl sl23 rfl rfl rfl h222 h610.src q628 hl627 ?_; clear ha a; intro v629 w630 b631 h632 hc633 hb634 a ha
                replace h632 : Ow (Rp.prod Rp.int (Rp.prod Rp.int (Rp.sl 2 Rp.int))) 46 true w630 (fs224 ++ (bl b594 ++ [])) b631 v629 _ := h632
                have q636 := zf_app zf225 q615
                have q637 := nd_app nd226 (bl_nodup b594) q616 hb634 h222.fpb h610.bnd
                have q638 := Nq.appY q230 h217.bnd hb634
                have q639 := Nq.appY q585 hro582.bnd hb634
                have q640 := Zn.appD z223 hb634 hE626
                replace h217 := h217.nq hc633 q230
                replace hro582 := hro582.nq hc633 q585
                have hE641 := Ext.then hE626 hc633 (Zn.bl z223)
                refine wpList_nil (e_sq ?_)
                refine ⟨fun h => absurd h (by decide), ?_⟩
                refine u_only 14 rfl (by kernel_rfl) ?_; intro w642 hx643
                replace h217 := h217.ext hx643
                replace hro582 := hro582.ext hx643
                replace h632 := h632.ext hx643
                have hE644 := Ext.trans hE641 hx643
                refine op_g ha rfl (g_assign rfl) ?_; clear ha a; intro a ha
                refine wpList_nil (e_sq ?_)
                refine ⟨fun h => absurd h (by decide), ?_⟩
                refine u_done (by kernel_rfl) ?_; intro w645 hx646
                replace h217 := h217.ext hx646
                replace hro582 := hro582.ext hx646
                replace h632 := h632.ext hx646
                have hE647 := Ext.trans hE644 hx646
                replace ha := ha.sub (σ' := [(0, v219), (4, v629), (5, (.int .i64 (3 + x540))), (14, v219), (15, (.pointer (some p502))), (16, (.int .i64 x499)), (17, (.bool x511)), (18, (.bool false)), (21, v219), (22, (.int .i64 (l218.length : Int))), (23, v219), (24, (.pointer (some p523))), (25, (.int .i64 x520)), (26, (.int .i64 (3 + x520))), (27, (.bool false)), (30, v228), (31, (.int .i64 (l227.length : Int))), (32, (.bool (decide ((l227.length : Int) = 31))))]) ⟨rfl, rfl, rfl, rfl, rfl, rfl, rfl, rfl, rfl, rfl, rfl, rfl, rfl, rfl, rfl, rfl, rfl, rfl, trivial⟩
                refine e_then ?_
                refine wp_region_lit ?_
                refine op_g ha rfl (g_move rfl) ?_; clear ha a; intro a ha
                refine op_g ha rfl (g_move rfl) ?_; clear ha a; intro a ha
                obtain ⟨hb648a, hb648b, hb648c, hF⟩ := slc_some hF
                obtain ⟨v649, fp650, hrun651, hro652, hsub653⟩ := h217.slice (lo := (some (.int .i64 (3 + x540)))) (hi := none) (i := 3 + x540) (j := (l218.length : Int)) sl22 (.inr ⟨_, rfl⟩) (.inl ⟨rfl, rfl⟩) ⟨hb648a, hb648b, hb648c⟩
                have q655 := Nq.mono q638 hsub653
                refine op_g ha rfl (g_slice sl22.und rfl rfl rfl hrun651) ?_; clear ha a; intro a ha
                refine op_g ha rfl (g_assign rfl) ?_; clear ha a; intro a ha
                refine wpList_nil ?_
                replace ha := ha.sub (σ' := [(0, v649), (4, v629), (14, v219), (15, (.pointer (some p502))), (16, (.int .i64 x499)), (17, (.bool x511)), (18, (.bool false)), (21, v219), (22, (.int .i64 (l218.length : Int))), (23, v219), (24, (.pointer (some p523))), (25, (.int .i64 x520)), (26, (.int .i64 (3 + x520))), (27, (.bool false)), (30, v228), (31, (.int .i64 (l227.length : Int))), (32, (.bool (decide ((l227.length : Int) = 31))))]) ⟨rfl, rfl, rfl, rfl, rfl, rfl, rfl, rfl, rfl, rfl, rfl, rfl, rfl, rfl, rfl, rfl, rfl, trivial⟩
                refine e_blk ?_
                refine e_lq ?_
                obtain rfl := Option.some.inj hF
                exact ⟨_, Nat.lt_succ_self _, ((l218.drop (3 + x540 : Int).toNat).take (((l218.length : Int) : Int).toNat - (3 + x540 : Int).toNat)), (l227 ++ ([(x554, x566, x589)])), v649, fp650, (fs224 ++ (bl b594 ++ [])), v629, b631, ha.sub ⟨rfl, rfl, trivial⟩, hE647, hro652, h632, q640, q636, q637, q655, hN456⟩
      · replace hF := if_f hp459 hF
        refine wp_exit ?_
        refine e_then_exit ?_
        refine e_lq_eq ?_
        obtain rfl := Option.some.inj hF
        exact ⟨l227, fs224, v228, b229, ha.sub ⟨rfl, trivial⟩, hE231, h222, z223, zf225, nd226, (LK_inr hN456).symm⟩
  · rintro a w437 ⟨l444, fs441, v445, b446, ha, hE455, h439, z440, zf442, nd443, rfl⟩
    have hF : F_impl_NumsParts_k2 l444 = some _ := hK449; clear hK449; unfold F_impl_NumsParts_k2 at hF
    refine e_then ?_
    refine wp_seq ?_
    refine wp_region_lit ?_
    refine op_g ha rfl (g_move rfl) ?_; clear ha a; intro a ha
    refine op_g ha rfl (g_assign rfl) ?_; clear ha a; intro a ha
    refine op_g ha rfl (g_assign rfl) ?_; clear ha a; intro a ha
    refine wpList_nil ?_
    replace ha := ha.sub (σ' := [(2, v445), (3, (.bool true))]) ⟨rfl, rfl, trivial⟩
    refine e_then ?_
    refine wp_ret ?_
    obtain rfl := Option.some.inj hF
    exact f_ret2 ha rfl rfl rfl ⟨_, _, _, _, rfl, h439, z440, zf442, nd443, rfl, hE455⟩
set_option maxHeartbeats 2000000 in
theorem W_laws_eqInt64S {W : World} {va0 : Value} {fa0 : List Nat} {a0 : (List Int)} (ha0 : Ro Rp.int W fa0 va0 a0) {va1 : Value} {fa1 : List Nat} {a1 : (List Int)} (ha1 : Ro Rp.int W fa1 va1 a1) {r : Bool} (hF : F_laws_eqInt64S a0 a1 = some r) :
    Calls Try.prog 9 [va0, va1].toArray W (Ret fun u w' => u = .bool r ∧ Ext W w') := by
  refine f_enter Try.func9 rfl Try.ntmps9 rfl ?_
  intro a ha
  replace ha : Fr 26 [(0, va0), (1, va1)] a := ha
  have hE : Chg [] W W := Chg.refl _ _
  unfold F_laws_eqInt64S at hF
  refine wp_seq ?_
  refine wp_region_lit ?_
  refine op_g ha rfl (g_assign rfl) ?_; clear ha a; intro a ha
  refine wpList_nil ?_
  replace ha := ha.sub (σ' := [(0, va0), (1, va1)]) ⟨rfl, rfl, trivial⟩
  refine e_then ?_
  refine wp_seq ?_
  refine wp_seq ?_
  refine wp_region_lit ?_
  refine op_g ha rfl (g_move rfl) ?_; clear ha a; intro a ha
  refine op_g ha rfl (g_lenR sl22.und ha0 rfl) ?_; clear ha a; intro a ha
  refine op_g ha rfl (g_move rfl) ?_; clear ha a; intro a ha
  refine op_g ha rfl (g_lenR sl22.und ha1 rfl) ?_; clear ha a; intro a ha
  refine op_g ha rfl (g_neq rfl rfl) ?_; clear ha a; intro a ha
  refine wpList_nil ?_
  replace ha := ha.sub (σ' := [(0, va0), (1, va1), (10, (.bool (decide ((a0.length : Int) ≠ (a1.length : Int)))))]) ⟨rfl, rfl, rfl, trivial⟩
  refine e_then ?_
  refine c_cond ((a0.length : Int) ≠ (a1.length : Int)) ha rfl (decide_eq_true_iff) (fun hp1 => ?_) (fun hp1 => ?_)
  · replace hF := if_t hp1 hF
    refine wp_seq ?_
    refine wp_region_lit ?_
    refine op_g ha rfl (g_assign rfl) ?_; clear ha a; intro a ha
    refine wpList_nil ?_
    replace ha := ha.sub (σ' := [(4, (.bool false))]) ⟨rfl, trivial⟩
    refine e_then ?_
    refine wp_ret ?_
    refine e_then_ret ?_
    obtain rfl := Option.some.inj hF
    exact f_ret1 ha rfl rfl ⟨rfl, hE⟩
  · replace hF := if_f hp1 hF
    refine wp_skip ?_
    refine e_then ?_
    refine wp_seq ?_
    refine wp_seq ?_
    refine wp_region_lit ?_
    refine op_g ha rfl (g_assign rfl) ?_; clear ha a; intro a ha
    refine wpList_nil ?_
    replace ha := ha.sub (σ' := [(0, va0), (1, va1), (5, (.int .i64 0))]) ⟨rfl, rfl, rfl, trivial⟩
    refine e_then ?_
    obtain ⟨o77, ho78, hK79⟩ := bnd_some hF
    obtain ⟨n80, hn81⟩ := lp_some ho78; clear ho78
    refine c_loop (fun a w => Fr 26 [] a ∧ Chg [] W w ∧ o77 = .inl ()) (fun n a w => ∃ (i39 : Int), Fr 26 [(0, va0), (1, va1), (5, (.int .i64 i39))] a ∧ Chg [] W w ∧ InI i39 ∧ lpN (fun s => F_laws_eqInt64S_l1 a0 a1 s) n i39 = some o77) n80 ⟨0, ha.sub ⟨rfl, rfl, rfl, trivial⟩, hE, (show InI 0 from by decide), hn81⟩ ?_ ?_
    · rintro m85 a w38 ⟨i39, ha, hE41, hI40, hF⟩
      cases m85 with
      | zero => exact (lpN_zero hF).elim
      | succ m85 =>
        obtain ⟨z84, hF, hN83⟩ := lpN_succ hF
        have hF : F_laws_eqInt64S_l1 a0 a1 i39 = some z84 := hF; unfold F_laws_eqInt64S_l1 at hF
        refine wp_seq ?_
        refine wp_seq ?_
        refine wp_region_lit ?_
        refine op_g ha rfl (g_move rfl) ?_; clear ha a; intro a ha
        refine op_g ha rfl (g_move rfl) ?_; clear ha a; intro a ha
        refine op_g ha rfl (g_lenR sl22.und ha0 rfl) ?_; clear ha a; intro a ha
        refine op_g ha rfl (g_lss rfl rfl) ?_; clear ha a; intro a ha
        refine wpList_nil ?_
        replace ha := ha.sub (σ' := [(0, va0), (1, va1), (5, (.int .i64 i39)), (14, (.bool (decide (i39 < (a0.length : Int)))))]) ⟨rfl, rfl, rfl, rfl, trivial⟩
        refine e_then ?_
        refine c_cond (i39 < (a0.length : Int)) ha rfl (decide_eq_true_iff) (fun hp86 => ?_) (fun hp86 => ?_)
        · replace hF := if_t hp86 hF
          refine wp_skip ?_
          refine e_then ?_
          refine wp_seq ?_
          refine wp_block ?_
          refine wp_seq ?_
          refine d_quiet hmix (by kernel_rfl) ?_
          refine q_g ha rfl (g_move rfl) ?_; clear ha a; intro a ha
          refine q_g ha rfl (g_move rfl) ?_; clear ha a; intro a ha
          obtain ⟨x87, g88, gx89, hF⟩ := idx_some hF
          obtain ⟨p90, cs91, f92, hf93, hpb94, hat95, hr96, hi97⟩ := ha0.at g88 gx89
          obtain ⟨rfl, hI98, rfl⟩ := hr96
          refine q_g ha rfl (hi97.gives sl22 rfl rfl) ?_; clear ha a; intro a ha
          refine q_g ha rfl (g_load0 hE41 Try.isAgg2 rfl hat95.one) ?_; clear ha a; intro a ha
          refine q_g ha rfl (g_move rfl) ?_; clear ha a; intro a ha
          refine q_g ha rfl (g_move rfl) ?_; clear ha a; intro a ha
          obtain ⟨x99, g100, gx101, hF⟩ := idx_some hF
          obtain ⟨p102, cs103, f104, hf105, hpb106, hat107, hr108, hi109⟩ := ha1.at g100 gx101
          obtain ⟨rfl, hI110, rfl⟩ := hr108
          refine q_g ha rfl (hi109.gives sl22 rfl rfl) ?_; clear ha a; intro a ha
          refine q_g ha rfl (g_load0 hE41 Try.isAgg2 rfl hat107.one) ?_; clear ha a; intro a ha
          refine q_g ha rfl (g_neq rfl rfl) ?_; clear ha a; intro a ha
          refine q_nil ?_; intro w111 hx112
          have hE113 := Ext.trans hE41 hx112
          replace ha := ha.sub (σ' := [(0, va0), (1, va1), (5, (.int .i64 i39)), (25, (.bool (decide (x87 ≠ x99))))]) ⟨rfl, rfl, rfl, rfl, trivial⟩
          refine e_then ?_
          refine c_cond (x87 ≠ x99) ha rfl (decide_eq_true_iff) (fun hp114 => ?_) (fun hp114 => ?_)
          · replace hF := if_t hp114 hF
            refine wp_seq ?_
            refine wp_region_lit ?_
            refine op_g ha rfl (g_assign rfl) ?_; clear ha a; intro a ha
            refine wpList_nil ?_
            replace ha := ha.sub (σ' := [(4, (.bool false))]) ⟨rfl, trivial⟩
            refine e_then ?_
            refine wp_ret ?_
            refine e_blk_ret ?_
            refine e_then_ret ?_
            refine e_lq_ret ?_
            refine e_then_ret ?_
            obtain rfl := Option.some.inj hF
            have e115 := LK_inr hN83; subst e115
            have e116 := BK_inr hK79; subst e116
            exact f_ret1 ha rfl rfl ⟨rfl, hE113⟩
          · replace hF := if_f hp114 hF
            refine wp_skip ?_
            refine e_blk ?_
            refine e_then ?_
            refine wp_region_lit ?_
            refine op_g ha rfl (g_move rfl) ?_; clear ha a; intro a ha
            obtain ⟨hI117, hF⟩ := ck_some hF
            refine op_g ha rfl (g_add rfl rfl hI117) ?_; clear ha a; intro a ha
            refine op_g ha rfl (g_assign rfl) ?_; clear ha a; intro a ha
            refine wpList_nil ?_
            replace ha := ha.sub (σ' := [(0, va0), (1, va1), (5, (.int .i64 (i39 + 1)))]) ⟨rfl, rfl, rfl, trivial⟩
            refine e_lq ?_
            obtain rfl := Option.some.inj hF
            exact ⟨_, Nat.lt_succ_self _, i39 + 1, ha.sub ⟨rfl, rfl, rfl, trivial⟩, hE113, hI117, hN83⟩
        · replace hF := if_f hp86 hF
          refine wp_exit ?_
          refine e_then_exit ?_
          refine e_lq_eq ?_
          obtain rfl := Option.some.inj hF
          exact ⟨ha.sub trivial, hE41, (LK_inr hN83).symm⟩
    · rintro a w76 ⟨ha, hE82, rfl⟩
      have hF : F_laws_eqInt64S_k2 = some _ := hK79; clear hK79; unfold F_laws_eqInt64S_k2 at hF
      refine e_then ?_
      refine wp_seq ?_
      refine wp_region_lit ?_
      refine op_g ha rfl (g_assign rfl) ?_; clear ha a; intro a ha
      refine wpList_nil ?_
      refine e_then ?_
      refine wp_ret ?_
      obtain rfl := Option.some.inj hF
      exact f_ret1 ha rfl rfl ⟨rfl, hE82⟩
set_option maxHeartbeats 2000000 in
theorem W_laws_eqPart {W : World} {a0_0 : Int} (ha0_0 : InI a0_0) {a0_1 : Int} (ha0_1 : InI a0_1) {va0_2 : Value} {fa0_2 : List Nat} {a0_2 : (List Int)} (ha0_2 : Ro Rp.int W fa0_2 va0_2 a0_2) {a1_0 : Int} (ha1_0 : InI a1_0) {a1_1 : Int} (ha1_1 : InI a1_1) {va1_2 : Value} {fa1_2 : List Nat} {a1_2 : (List Int)} (ha1_2 : Ro Rp.int W fa1_2 va1_2 a1_2) {r : Bool} (hF : F_laws_eqPart a0_0 a0_1 a0_2 a1_0 a1_1 a1_2 = some r) :
    Calls Try.prog 25 [.agg #[.int .i64 a0_0, .int .i64 a0_1, va0_2], .agg #[.int .i64 a1_0, .int .i64 a1_1, va1_2]].toArray W (Ret fun u w' => u = .bool r ∧ Ext W w') := by
  refine f_enter Try.func25 rfl Try.ntmps25 rfl ?_
  intro a ha
  replace ha : Fr 21 [(0, (.agg #[(.int .i64 a0_0), (.int .i64 a0_1), va0_2])), (1, (.agg #[(.int .i64 a1_0), (.int .i64 a1_1), va1_2]))] a := ha
  have hE : Chg [] W W := Chg.refl _ _
  unfold F_laws_eqPart at hF
  refine wp_seq ?_
  refine wp_region_lit ?_
  refine o_box ha rfl rfl rfl ?_; clear ha a; intro b1 w2 hB3 hx4 hlo5 a ha
  have q6 := Zn.one hlo5
  have q7 := Zn.upD q6 hE
  have hE8 := Ext.trans hE hx4
  refine o_box ha rfl rfl rfl ?_; clear ha a; intro b9 w10 hB11 hx12 hlo13 a ha
  have q14 := Zn.one hlo13
  have q15 := Nq.new hB3.fpb q14
  have q16 := Nq.made1 hlo13 hB3.bi
  have q17 := Zn.upD q14 hE8
  replace hB3 := hB3.ext hx12
  have hE18 := Ext.trans hE8 hx12
  refine op_g ha rfl (g_assign rfl) ?_; clear ha a; intro a ha
  refine wpList_nil ?_
  replace ha := ha.sub (σ' := [(2, (.pointer (some ⟨b1, 0, none⟩))), (3, (.pointer (some ⟨b9, 0, none⟩)))]) ⟨rfl, rfl, trivial⟩
  refine e_then ?_
  refine wp_seq ?_
  refine wp_seq ?_
  refine wp_region_lit ?_
  refine op_g ha rfl (g_field0 st46_0 rfl) ?_; clear ha a; intro a ha
  refine op_g ha rfl (g_load Try.isAgg2 rfl (hB3.cell rfl)) ?_; clear ha a; intro a ha
  refine op_g ha rfl (g_field0 st46_0 rfl) ?_; clear ha a; intro a ha
  refine op_g ha rfl (g_load Try.isAgg2 rfl (hB11.cell rfl)) ?_; clear ha a; intro a ha
  refine op_g ha rfl (g_neq rfl rfl) ?_; clear ha a; intro a ha
  refine wpList_nil ?_
  replace ha := ha.sub (σ' := [(2, (.pointer (some ⟨b1, 0, none⟩))), (3, (.pointer (some ⟨b9, 0, none⟩))), (9, (.bool (decide (a0_0 ≠ a1_0))))]) ⟨rfl, rfl, rfl, trivial⟩
  refine e_then ?_
  refine c_cond (a0_0 ≠ a1_0) ha rfl (decide_eq_true_iff) (fun hp19 => ?_) (fun hp19 => ?_)
  · replace hF := if_t hp19 hF
    refine wp_seq ?_
    refine wp_region_lit ?_
    refine op_g ha rfl (g_assign rfl) ?_; clear ha a; intro a ha
    refine wpList_nil ?_
    replace ha := ha.sub (σ' := [(4, (.bool false))]) ⟨rfl, trivial⟩
    refine e_then ?_
    refine wp_ret ?_
    refine e_then_ret ?_
    obtain rfl := Option.some.inj hF
    exact f_ret1 ha rfl rfl ⟨rfl, hE18⟩
  · replace hF := if_f hp19 hF
    refine wp_skip ?_
    refine e_then ?_
    refine wp_seq ?_
    refine wp_seq ?_
    refine wp_region_lit ?_
    refine op_g ha rfl (g_field0 st46_1 rfl) ?_; clear ha a; intro a ha
    refine op_g ha rfl (g_load Try.isAgg2 rfl (hB3.cell rfl)) ?_; clear ha a; intro a ha
    refine op_g ha rfl (g_field0 st46_1 rfl) ?_; clear ha a; intro a ha
    refine op_g ha rfl (g_load Try.isAgg2 rfl (hB11.cell rfl)) ?_; clear ha a; intro a ha
    refine op_g ha rfl (g_neq rfl rfl) ?_; clear ha a; intro a ha
    refine wpList_nil ?_
    replace ha := ha.sub (σ' := [(2, (.pointer (some ⟨b1, 0, none⟩))), (3, (.pointer (some ⟨b9, 0, none⟩))), (14, (.bool (decide (a0_1 ≠ a1_1))))]) ⟨rfl, rfl, rfl, trivial⟩
    refine e_then ?_
    refine c_cond (a0_1 ≠ a1_1) ha rfl (decide_eq_true_iff) (fun hp20 => ?_) (fun hp20 => ?_)
    · replace hF := if_t hp20 hF
      refine wp_seq ?_
      refine wp_region_lit ?_
      refine op_g ha rfl (g_assign rfl) ?_; clear ha a; intro a ha
      refine wpList_nil ?_
      replace ha := ha.sub (σ' := [(4, (.bool false))]) ⟨rfl, trivial⟩
      refine e_then ?_
      refine wp_ret ?_
      refine e_then_ret ?_
      obtain rfl := Option.some.inj hF
      exact f_ret1 ha rfl rfl ⟨rfl, hE18⟩
    · replace hF := if_f hp20 hF
      refine wp_skip ?_
      refine e_then ?_
      refine wp_seq ?_
      refine wp_seq ?_
      refine wp_region_lit ?_
      refine op_g ha rfl (g_field0 st46_2 rfl) ?_; clear ha a; intro a ha
      refine op_g ha rfl (g_load Try.isAgg22 rfl (hB3.cell rfl)) ?_; clear ha a; intro a ha
      refine op_g ha rfl (g_field0 st46_2 rfl) ?_; clear ha a; intro a ha
      refine op_g ha rfl (g_load Try.isAgg22 rfl (hB11.cell rfl)) ?_; clear ha a; intro a ha
      obtain ⟨x21, hc22, hF⟩ := cal_some hF
      refine o_call ha rfl rfl Try.call9 (W_laws_eqInt64S (ha0_2.ext hE18) (ha1_2.ext hE18) hc22) ?_; clear ha a; rintro v23 w24 ⟨rfl, hx25⟩ a ha
      replace hB3 := hB3.ext hx25
      replace hB11 := hB11.ext hx25
      have hE26 := Ext.trans hE18 hx25
      refine op_g ha rfl (g_not rfl) ?_; clear ha a; intro a ha
      refine wpList_nil ?_
      replace ha := ha.sub (σ' := [(20, (.bool (!x21)))]) ⟨rfl, trivial⟩
      refine e_then ?_
      refine c_cond (¬ (x21 = true)) ha rfl (n_iff (Iff.rfl)) (fun hp27 => ?_) (fun hp27 => ?_)
      · replace hF := if_t hp27 hF
        refine wp_seq ?_
        refine wp_region_lit ?_
        refine op_g ha rfl (g_assign rfl) ?_; clear ha a; intro a ha
        refine wpList_nil ?_
        replace ha := ha.sub (σ' := [(4, (.bool false))]) ⟨rfl, trivial⟩
        refine e_then ?_
        refine wp_ret ?_
        refine e_then_ret ?_
        obtain rfl := Option.some.inj hF
        exact f_ret1 ha rfl rfl ⟨rfl, hE26⟩
      · replace hF := if_f hp27 hF
        refine wp_skip ?_
        refine e_then ?_
        refine wp_seq ?_
        refine wp_region_lit ?_
        refine op_g ha rfl (g_assign rfl) ?_; clear ha a; intro a ha
        refine wpList_nil ?_
        replace ha := ha.sub (σ' := [(4, (.bool true))]) ⟨rfl, trivial⟩
        refine e_then ?_
        refine wp_ret ?_
        obtain rfl := Option.some.inj hF
        exact f_ret1 ha rfl rfl ⟨rfl, hE26⟩
set_option maxHeartbeats 2000000 in
theorem W_laws_eqPartS {W : World} {va0 : Value} {fa0 : List Nat} {a0 : (List (Int × (Int × (List Int))))} (ha0 : Ro (Rp.prod Rp.int (Rp.prod Rp.int (Rp.sl 2 Rp.int))) W fa0 va0 a0) {va1 : Value} {fa1 : List Nat} {a1 : (List (Int × (Int × (List Int))))} (ha1 : Ro (Rp.prod Rp.int (Rp.prod Rp.int (Rp.sl 2 Rp.int))) W fa1 va1 a1) {r : Bool} (hF : F_laws_eqPartS a0 a1 = some r) :
    Calls Try.prog 8 [va0, va1].toArray W (Ret fun u w' => u = .bool r ∧ Ext W w') := by
  refine f_enter Try.func8 rfl Try.ntmps8 rfl ?_
  intro a ha
  replace ha : Fr 27 [(0, va0), (1, va1)] a := ha
  have hE : Chg [] W W := Chg.refl _ _
  unfold F_laws_eqPartS at hF
  refine wp_seq ?_
  refine wp_region_lit ?_
  refine op_g ha rfl (g_assign rfl) ?_; clear ha a; intro a ha
  refine wpList_nil ?_
  replace ha := ha.sub (σ' := [(0, va0), (1, va1)]) ⟨rfl, rfl, trivial⟩
  refine e_then ?_
  refine wp_seq ?_
  refine wp_seq ?_
  refine wp_region_lit ?_
  refine op_g ha rfl (g_move rfl) ?_; clear ha a; intro a ha
  refine op_g ha rfl (g_lenR sl23.und ha0 rfl) ?_; clear ha a; intro a ha
  refine op_g ha rfl (g_move rfl) ?_; clear ha a; intro a ha
  refine op_g ha rfl (g_lenR sl23.und ha1 rfl) ?_; clear ha a; intro a ha
  refine op_g ha rfl (g_neq rfl rfl) ?_; clear ha a; intro a ha
  refine wpList_nil ?_
  replace ha := ha.sub (σ' := [(0, va0), (1, va1), (10, (.bool (decide ((a0.length : Int) ≠ (a1.length : Int)))))]) ⟨rfl, rfl, rfl, trivial⟩
  refine e_then ?_
  refine c_cond ((a0.length : Int) ≠ (a1.length : Int)) ha rfl (decide_eq_true_iff) (fun hp1 => ?_) (fun hp1 => ?_)
  · replace hF := if_t hp1 hF
    refine wp_seq ?_
    refine wp_region_lit ?_
    refine op_g ha rfl (g_assign rfl) ?_; clear ha a; intro a ha
    refine wpList_nil ?_
    replace ha := ha.sub (σ' := [(4, (.bool false))]) ⟨rfl, trivial⟩
    refine e_then ?_
    refine wp_ret ?_
    refine e_then_ret ?_
    obtain rfl := Option.some.inj hF
    exact f_ret1 ha rfl rfl ⟨rfl, hE⟩
  · replace hF := if_f hp1 hF
    refine wp_skip ?_
    refine e_then ?_
    refine wp_seq ?_
    refine wp_seq ?_
    refine wp_region_lit ?_
    refine op_g ha rfl (g_assign rfl) ?_; clear ha a; intro a ha
    refine wpList_nil ?_
    replace ha := ha.sub (σ' := [(0, va0), (1, va1), (5, (.int .i64 0))]) ⟨rfl, rfl, rfl, trivial⟩
    refine e_then ?_
    obtain ⟨o165, ho166, hK167⟩ := bnd_some hF
    obtain ⟨n168, hn169⟩ := lp_some ho166; clear ho166
    refine c_loop (fun a w => Fr 27 [] a ∧ Chg [] W w ∧ o165 = .inl ()) (fun n a w => ∃ (i83 : Int), Fr 27 [(0, va0), (1, va1), (5, (.int .i64 i83))] a ∧ Chg [] W w ∧ InI i83 ∧ lpN (fun s => F_laws_eqPartS_l1 a0 a1 s) n i83 = some o165) n168 ⟨0, ha.sub ⟨rfl, rfl, rfl, trivial⟩, hE, (show InI 0 from by decide), hn169⟩ ?_ ?_
    · rintro m173 a w82 ⟨i83, ha, hE85, hI84, hF⟩
      cases m173 with
      | zero => exact (lpN_zero hF).elim
      | succ m173 =>
        obtain ⟨z172, hF, hN171⟩ := lpN_succ hF
        have hF : F_laws_eqPartS_l1 a0 a1 i83 = some z172 := hF; unfold F_laws_eqPartS_l1 at hF
        refine wp_seq ?_
        refine wp_seq ?_
        refine wp_region_lit ?_
        refine op_g ha rfl (g_move rfl) ?_; clear ha a; intro a ha
        refine op_g ha rfl (g_move rfl) ?_; clear ha a; intro a ha
        refine op_g ha rfl (g_lenR sl23.und ha0 rfl) ?_; clear ha a; intro a ha
        refine op_g ha rfl (g_lss rfl rfl) ?_; clear ha a; intro a ha
        refine wpList_nil ?_
        replace ha := ha.sub (σ' := [(0, va0), (1, va1), (5, (.int .i64 i83)), (14, (.bool (decide (i83 < (a0.length : Int)))))]) ⟨rfl, rfl, rfl, rfl, trivial⟩
        refine e_then ?_
        refine c_cond (i83 < (a0.length : Int)) ha rfl (decide_eq_true_iff) (fun hp174 => ?_) (fun hp174 => ?_)
        · replace hF := if_t hp174 hF
          refine wp_skip ?_
          refine e_then ?_
          refine wp_seq ?_
          refine wp_block ?_
          refine wp_seq ?_
          refine d_quiet hmix (by kernel_rfl) ?_
          refine q_g ha rfl (g_move rfl) ?_; clear ha a; intro a ha
          refine q_g ha rfl (g_move rfl) ?_; clear ha a; intro a ha
          obtain ⟨x175, g176, gx177, hF⟩ := idx_some hF
          obtain ⟨p178, cs179, f180, hf181, hpb182, hat183, hr184, hi185⟩ := ha0.at g176 gx177
          obtain ⟨f186, f187, c188, c189, rfl, rfl, h190, h191⟩ := hr184
          have hs192 := fun k hk => hf181 k (List.mem_append_left f187 hk)
          have hs193 := fun k hk => hf181 k (List.mem_append_right f186 hk)
          obtain ⟨rfl, hI194, rfl⟩ := h190
          obtain ⟨f195, f196, c197, c198, rfl, rfl, h199, h200⟩ := h191
          have hs201 := fun k hk => hs193 k (List.mem_append_left f196 hk)
          have hs202 := fun k hk => hs193 k (List.mem_append_right f195 hk)
          obtain ⟨rfl, hI203, rfl⟩ := h199
          obtain ⟨v204, rfl, h205⟩ := h200
          have h205 : Ro Rp.int W f196 v204 x175.2.2 := h205
          refine q_g ha rfl (hi185.gives sl23 rfl rfl) ?_; clear ha a; intro a ha
          refine q_g ha rfl (g_loadA0 (cs := [(.int .i64 x175.1), (.int .i64 x175.2.1), v204]) hE85 Try.isAgg46 Try.sizeOf46 rfl (by simp) hat183) ?_; clear ha a; intro a ha
          refine q_g ha rfl (g_move rfl) ?_; clear ha a; intro a ha
          refine q_g ha rfl (g_move rfl) ?_; clear ha a; intro a ha
          obtain ⟨x207, g208, gx209, hF⟩ := idx_some hF
          obtain ⟨p210, cs211, f212, hf213, hpb214, hat215, hr216, hi217⟩ := ha1.at g208 gx209
          obtain ⟨f218, f219, c220, c221, rfl, rfl, h222, h223⟩ := hr216
          have hs224 := fun k hk => hf213 k (List.mem_append_left f219 hk)
          have hs225 := fun k hk => hf213 k (List.mem_append_right f218 hk)
          obtain ⟨rfl, hI226, rfl⟩ := h222
          obtain ⟨f227, f228, c229, c230, rfl, rfl, h231, h232⟩ := h223
          have hs233 := fun k hk => hs225 k (List.mem_append_left f228 hk)
          have hs234 := fun k hk => hs225 k (List.mem_append_right f227 hk)
          obtain ⟨rfl, hI235, rfl⟩ := h231
          obtain ⟨v236, rfl, h237⟩ := h232
          have h237 : Ro Rp.int W f228 v236 x207.2.2 := h237
          refine q_g ha rfl (hi217.gives sl23 rfl rfl) ?_; clear ha a; intro a ha
          refine q_g ha rfl (g_loadA0 (cs := [(.int .i64 x207.1), (.int .i64 x207.2.1), v236]) hE85 Try.isAgg46 Try.sizeOf46 rfl (by simp) hat215) ?_; clear ha a; intro a ha
          obtain ⟨x241, hc242, hF⟩ := cal_some hF
          refine q_call (.bool x241) ha rfl rfl Try.call25 (fun w240 hx239 => W_laws_eqPart hI194 hI203 (h205.ext (Ext.trans hE85 hx239)) hI226 hI235 (h237.ext (Ext.trans hE85 hx239)) hc242) (fun _ _ _ h => ⟨h.1, h.2⟩) ?_; clear ha a; intro a ha
          refine q_g ha rfl (g_not rfl) ?_; clear ha a; intro a ha
          refine q_nil ?_; intro w243 hx244
          have hE245 := Ext.trans hE85 hx244
          replace ha := ha.sub (σ' := [(0, va0), (1, va1), (5, (.int .i64 i83)), (26, (.bool (!x241)))]) ⟨rfl, rfl, rfl, rfl, trivial⟩
          refine e_then ?_
          refine c_cond (¬ (x241 = true)) ha rfl (n_iff (Iff.rfl)) (fun hp246 => ?_) (fun hp246 => ?_)
          · replace hF := if_t hp246 hF
            refine wp_seq ?_
            refine wp_region_lit ?_
            refine op_g ha rfl (g_assign rfl) ?_; clear ha a; intro a ha
            refine wpList_nil ?_
            replace ha := ha.sub (σ' := [(4, (.bool false))]) ⟨rfl, trivial⟩
            refine e_then ?_
            refine wp_ret ?_
            refine e_blk_ret ?_
            refine e_then_ret ?_
            refine e_lq_ret ?_
            refine e_then_ret ?_
            obtain rfl := Option.some.inj hF
            have e247 := LK_inr hN171; subst e247
            have e248 := BK_inr hK167; subst e248
            exact f_ret1 ha rfl rfl ⟨rfl, hE245⟩
          · replace hF := if_f hp246 hF
            refine wp_skip ?_
            refine e_blk ?_
            refine e_then ?_
            refine wp_region_lit ?_
            refine op_g ha rfl (g_move rfl) ?_; clear ha a; intro a ha
            obtain ⟨hI249, hF⟩ := ck_some hF
            refine op_g ha rfl (g_add rfl rfl hI249) ?_; clear ha a; intro a ha
            refine op_g ha rfl (g_assign rfl) ?_; clear ha a; intro a ha
            refine wpList_nil ?_
            replace ha := ha.sub (σ' := [(0, va0), (1, va1), (5, (.int .i64 (i83 + 1)))]) ⟨rfl, rfl, rfl, trivial⟩
            refine e_lq ?_
            obtain rfl := Option.some.inj hF
            exact ⟨_, Nat.lt_succ_self _, i83 + 1, ha.sub ⟨rfl, rfl, rfl, trivial⟩, hE245, hI249, hN171⟩
        · replace hF := if_f hp174 hF
          refine wp_exit ?_
          refine e_then_exit ?_
          refine e_lq_eq ?_
          obtain rfl := Option.some.inj hF
          exact ⟨ha.sub trivial, hE85, (LK_inr hN171).symm⟩
    · rintro a w164 ⟨ha, hE170, rfl⟩
      have hF : F_laws_eqPartS_k2 = some _ := hK167; clear hK167; unfold F_laws_eqPartS_k2 at hF
      refine e_then ?_
      refine wp_seq ?_
      refine wp_region_lit ?_
      refine op_g ha rfl (g_assign rfl) ?_; clear ha a; intro a ha
      refine wpList_nil ?_
      refine e_then ?_
      refine wp_ret ?_
      obtain rfl := Option.some.inj hF
      exact f_ret1 ha rfl rfl ⟨rfl, hE170⟩
set_option maxHeartbeats 2000000 in
theorem W_laws_markInt64S {W : World} {va0 : Value} {ba0 : Int} {a0 : (List Int)} (ha0 : Ow Rp.int 2 true W [] ba0 va0 a0) {a1 : Int} (ha1 : InI a1) {r : (Int × (List Int))} (hF : F_laws_markInt64S a0 a1 = some r) :
    Calls Try.prog 10 [va0, .int .i64 a1].toArray W (Ret fun u w' => (u = .int .i64 r.1 ∧ InI r.1) ∧ Ow Rp.int 2 true w' [] ba0 va0 r.2 ∧ Chg (bl ba0) W w') := by
  refine f_enter Try.func10 rfl Try.ntmps10 rfl ?_
  intro a ha
  replace ha : Fr 19 [(0, va0), (1, (.int .i64 a1))] a := ha
  have hE : Chg (bl ba0) W W := Chg.refl _ _
  unfold F_laws_markInt64S at hF
  refine wp_seq ?_
  refine wp_region_lit ?_
  refine op_g ha rfl (g_assign rfl) ?_; clear ha a; intro a ha
  refine wpList_nil ?_
  replace ha := ha.sub (σ' := [(0, va0), (1, (.int .i64 a1))]) ⟨rfl, rfl, trivial⟩
  refine e_then ?_
  refine wp_seq ?_
  refine wp_seq ?_
  refine wp_region_lit ?_
  refine op_g ha rfl (g_assign rfl) ?_; clear ha a; intro a ha
  refine wpList_nil ?_
  refine e_then ?_
  obtain ⟨o85, ho86, hK87⟩ := bnd_some hF
  obtain ⟨n88, hn89⟩ := lp_some ho86; clear ho86
  refine c_loop (fun a w => ∃ (i79 : Int) (l82 : (List Int)), Fr 19 [(1, (.int .i64 i79))] a ∧ Chg (bl ba0) W w ∧ InI i79 ∧ Ow Rp.int 2 true w [] ba0 va0 l82 ∧ o85 = .inl (i79, l82)) (fun n a w => ∃ (l38 : (List Int)) (i41 : Int) (i43 : Int), Fr 19 [(0, va0), (1, (.int .i64 i41)), (5, (.int .i64 i43))] a ∧ Chg (bl ba0) W w ∧ InI i41 ∧ InI i43 ∧ Ow Rp.int 2 true w [] ba0 va0 l38 ∧ lpN (fun s => F_laws_markInt64S_l1 s.1 s.2.1 s.2.2) n (l38, i41, i43) = some o85) n88 ⟨a0, a1, 0, ha.sub ⟨rfl, rfl, rfl, trivial⟩, hE, ha1, (show InI 0 from by decide), ha0, hn89⟩ ?_ ?_
  · rintro m93 a w36 ⟨l38, i41, i43, ha, hE45, hI42, hI44, h37, hF⟩
    cases m93 with
    | zero => exact (lpN_zero hF).elim
    | succ m93 =>
      obtain ⟨z92, hF, hN91⟩ := lpN_succ hF
      have hF : F_laws_markInt64S_l1 l38 i41 i43 = some z92 := hF; unfold F_laws_markInt64S_l1 at hF
      refine wp_seq ?_
      refine wp_seq ?_
      refine wp_region_lit ?_
      refine op_g ha rfl (g_move rfl) ?_; clear ha a; intro a ha
      refine op_g ha rfl (g_move rfl) ?_; clear ha a; intro a ha
      refine op_g ha rfl (g_lenO sl22.und h37 rfl) ?_; clear ha a; intro a ha
      refine op_g ha rfl (g_lss rfl rfl) ?_; clear ha a; intro a ha
      refine wpList_nil ?_
      replace ha := ha.sub (σ' := [(0, va0), (1, (.int .i64 i41)), (5, (.int .i64 i43)), (9, (.bool (decide (i43 < (l38.length : Int)))))]) ⟨rfl, rfl, rfl, rfl, trivial⟩
      refine e_then ?_
      refine c_cond (i43 < (l38.length : Int)) ha rfl (decide_eq_true_iff) (fun hp94 => ?_) (fun hp94 => ?_)
      · replace hF := if_t hp94 hF
        refine wp_skip ?_
        refine e_then ?_
        refine wp_seq ?_
        refine wp_block ?_
        refine wp_seq ?_
        refine wp_region_lit ?_
        refine op_g ha rfl (g_move rfl) ?_; clear ha a; intro a ha
        refine op_g ha rfl (g_move rfl) ?_; clear ha a; intro a ha
        refine op_g ha rfl (g_move rfl) ?_; clear ha a; intro a ha
        obtain ⟨x95, g96, gx97, hF⟩ := idx_some hF
        obtain ⟨p98, cs99, f100, hf101, hpb102, hat103, hr104, hi105⟩ := h37.at g96 gx97
        obtain ⟨rfl, hI106, rfl⟩ := hr104
        refine op_g ha rfl (hi105.gives sl22 rfl rfl) ?_; clear ha a; intro a ha
        refine o_storeE (f := []) (q := i41) ha Try.sizeOf2 rfl rfl rfl h37 hi105 ⟨rfl, hI42, rfl⟩ (Nq.nil _) ?_; intro w107 fs108 h109 hc110 hs111
        obtain rfl := Subst.nil hs111
        have hE112 := Chg.same hE45 hc110
        refine wpList_nil ?_
        replace ha := ha.sub (σ' := [(0, va0), (1, (.int .i64 i41)), (5, (.int .i64 i43))]) ⟨rfl, rfl, rfl, trivial⟩
        refine e_then ?_
        refine wp_region_lit ?_
        refine op_g ha rfl (g_move rfl) ?_; clear ha a; intro a ha
        obtain ⟨hI113, hF⟩ := ck_some hF
        refine op_g ha rfl (g_add rfl rfl hI113) ?_; clear ha a; intro a ha
        refine op_g ha rfl (g_assign rfl) ?_; clear ha a; intro a ha
        refine wpList_nil ?_
        replace ha := ha.sub (σ' := [(0, va0), (1, (.int .i64 (i41 + 1))), (5, (.int .i64 i43))]) ⟨rfl, rfl, rfl, trivial⟩
        refine e_blk ?_
        refine e_then ?_
        refine wp_region_lit ?_
        refine op_g ha rfl (g_move rfl) ?_; clear ha a; intro a ha
        obtain ⟨hI115, hF⟩ := ck_some hF
        refine op_g ha rfl (g_add rfl rfl hI115) ?_; clear ha a; intro a ha
        refine op_g ha rfl (g_assign rfl) ?_; clear ha a; intro a ha
        refine wpList_nil ?_
        replace ha := ha.sub (σ' := [(0, va0), (1, (.int .i64 (i41 + 1))), (5, (.int .i64 (i43 + 1)))]) ⟨rfl, rfl, rfl, trivial⟩
        refine e_lq ?_
        obtain rfl := Option.some.inj hF
        exact ⟨_, Nat.lt_succ_self _, (l38.set ((i43 : Int).toNat) i41), i41 + 1, i43 + 1, ha.sub ⟨rfl, rfl, rfl, trivial⟩, hE112, hI113, hI115, h109, hN91⟩
      · replace hF := if_f hp94 hF
        refine wp_exit ?_
        refine e_then_exit ?_
        refine e_lq_eq ?_
        obtain rfl := Option.some.inj hF
        exact ⟨i41, l38, ha.sub ⟨rfl, trivial⟩, hE45, hI42, h37, (LK_inr hN91).symm⟩
  · rintro a w78 ⟨i79, l82, ha, hE90, hI80, h81, rfl⟩
    have hF : F_laws_markInt64S_k2 i79 l82 = some _ := hK87; clear hK87; unfold F_laws_markInt64S_k2 at hF
    refine e_then ?_
    refine wp_seq ?_
    refine wp_region_lit ?_
    refine op_g ha rfl (g_move rfl) ?_; clear ha a; intro a ha
    refine op_g ha rfl (g_assign rfl) ?_; clear ha a; intro a ha
    refine wpList_nil ?_
    replace ha := ha.sub (σ' := [(4, (.int .i64 i79))]) ⟨rfl, trivial⟩
    refine e_then ?_
    refine wp_ret ?_
    obtain rfl := Option.some.inj hF
    exact f_ret1 ha rfl rfl ⟨⟨rfl, hI80⟩, h81, hE90⟩
set_option maxHeartbeats 2000000 in
theorem W_laws_markPartS {W : World} {va0 : Value} {ba0 : Int} {fa0 : List Nat} {a0 : (List (Int × (Int × (List Int))))} (ha0 : Ow (Rp.prod Rp.int (Rp.prod Rp.int (Rp.sl 2 Rp.int))) 46 true W fa0 ba0 va0 a0) (nda0 : (bl ba0 ++ fa0).Nodup) {a1 : Int} (ha1 : InI a1) {r : (Int × (List (Int × (Int × (List Int)))))} (hF : F_laws_markPartS a0 a1 = some r) :
    Calls Try.prog 11 [va0, .int .i64 a1].toArray W (Ret fun u w' => (u = .int .i64 r.1 ∧ InI r.1) ∧ Ow (Rp.prod Rp.int (Rp.prod Rp.int (Rp.sl 2 Rp.int))) 46 true w' fa0 ba0 va0 r.2 ∧ Chg ((bl ba0 ++ fa0)) W w') := by
  refine f_enter Try.func11 rfl Try.ntmps11 rfl ?_
  intro a ha
  replace ha : Fr 34 [(0, va0), (1, (.int .i64 a1))] a := ha
  have hE : Chg ((bl ba0 ++ fa0)) W W := Chg.refl _ _
  unfold F_laws_markPartS at hF
  refine wp_seq ?_
  refine wp_region_lit ?_
  refine op_g ha rfl (g_assign rfl) ?_; clear ha a; intro a ha
  refine wpList_nil ?_
  replace ha := ha.sub (σ' := [(0, va0), (1, (.int .i64 a1))]) ⟨rfl, rfl, trivial⟩
  refine e_then ?_
  refine wp_seq ?_
  refine wp_seq ?_
  refine wp_region_lit ?_
  refine op_g ha rfl (g_assign rfl) ?_; clear ha a; intro a ha
  refine wpList_nil ?_
  refine e_then ?_
  obtain ⟨o337, ho338, hK339⟩ := bnd_some hF
  obtain ⟨n340, hn341⟩ := lp_some ho338; clear ho338
  refine c_loop (fun a w => ∃ (i331 : Int) (l334 : (List (Int × (Int × (List Int))))), Fr 34 [(1, (.int .i64 i331))] a ∧ Chg ((bl ba0 ++ fa0)) W w ∧ InI i331 ∧ Ow (Rp.prod Rp.int (Rp.prod Rp.int (Rp.sl 2 Rp.int))) 46 true w fa0 ba0 va0 l334 ∧ o337 = .inl (i331, l334)) (fun n a w => ∃ (l164 : (List (Int × (Int × (List Int))))) (i167 : Int) (i169 : Int), Fr 34 [(0, va0), (1, (.int .i64 i167)), (5, (.int .i64 i169))] a ∧ Chg ((bl ba0 ++ fa0)) W w ∧ InI i167 ∧ InI i169 ∧ Ow (Rp.prod Rp.int (Rp.prod Rp.int (Rp.sl 2 Rp.int))) 46 true w fa0 ba0 va0 l164 ∧ lpN (fun s => F_laws_markPartS_l1 s.1 s.2.1 s.2.2) n (l164, i167, i169) = some o337) n340 ⟨a0, a1, 0, ha.sub ⟨rfl, rfl, rfl, trivial⟩, hE, ha1, (show InI 0 from by decide), ha0, hn341⟩ ?_ ?_
  · rintro m345 a w162 ⟨l164, i167, i169, ha, hE171, hI168, hI170, h163, hF⟩
    cases m345 with
    | zero => exact (lpN_zero hF).elim
    | succ m345 =>
      obtain ⟨z344, hF, hN343⟩ := lpN_succ hF
      have hF : F_laws_markPartS_l1 l164 i167 i169 = some z344 := hF; unfold F_laws_markPartS_l1 at hF
      refine wp_seq ?_
      refine wp_seq ?_
      refine wp_region_lit ?_
      refine op_g ha rfl (g_move rfl) ?_; clear ha a; intro a ha
      refine op_g ha rfl (g_move rfl) ?_; clear ha a; intro a ha
      refine op_g ha rfl (g_lenO sl23.und h163 rfl) ?_; clear ha a; intro a ha
      refine op_g ha rfl (g_lss rfl rfl) ?_; clear ha a; intro a ha
      refine wpList_nil ?_
      replace ha := ha.sub (σ' := [(0, va0), (1, (.int .i64 i167)), (5, (.int .i64 i169)), (9, (.bool (decide (i169 < (l164.length : Int)))))]) ⟨rfl, rfl, rfl, rfl, trivial⟩
      refine e_then ?_
      refine c_cond (i169 < (l164.length : Int)) ha rfl (decide_eq_true_iff) (fun hp346 => ?_) (fun hp346 => ?_)
      · replace hF := if_t hp346 hF
        refine wp_skip ?_
        refine e_then ?_
        refine wp_seq ?_
        refine wp_block ?_
        refine wp_seq ?_
        refine wp_region_lit ?_
        refine op_g ha rfl (g_move rfl) ?_; clear ha a; intro a ha
        refine op_g ha rfl (g_move rfl) ?_; clear ha a; intro a ha
        refine op_g ha rfl (g_move rfl) ?_; clear ha a; intro a ha
        obtain ⟨x347, g348, gx349, hF⟩ := idx_some hF
        obtain ⟨p350, cs351, f352, hf353, hpb354, hat355, hr356, hi357⟩ := h163.at g348 gx349
        obtain ⟨f358, f359, c360, c361, rfl, rfl, h362, h363⟩ := hr356
        have hs364 := fun k hk => (fun k hk => List.mem_append_right (bl ba0) (hf353 k hk)) k (List.mem_append_left f359 hk)
        have hs365 := fun k hk => (fun k hk => List.mem_append_right (bl ba0) (hf353 k hk)) k (List.mem_append_right f358 hk)
        have q366 := fun k hk => hf353 k (List.mem_append_left f359 hk)
        have q367 := fun k hk => hf353 k (List.mem_append_right f358 hk)
        obtain ⟨rfl, hI368, rfl⟩ := h362
        obtain ⟨f369, f370, c371, c372, rfl, rfl, h373, h374⟩ := h363
        have hs375 := fun k hk => hs365 k (List.mem_append_left f370 hk)
        have hs376 := fun k hk => hs365 k (List.mem_append_right f369 hk)
        have q377 := fun k hk => q367 k (List.mem_append_left f370 hk)
        have q378 := fun k hk => q367 k (List.mem_append_right f369 hk)
        obtain ⟨rfl, hI379, rfl⟩ := h373
        replace h374 := (Rp.sl 2 Rp.int).weak h374
        obtain ⟨v380, rfl, h381⟩ := h374
        have h381 : Ro Rp.int w162 f370 v380 x347.2.2 := h381
        have q383 := Nq.mono (Ow.ne h163) q378
        refine op_g ha rfl (hi357.gives sl23 rfl rfl) ?_; clear ha a; intro a ha
        refine op_g ha rfl (g_field st46_0 rfl) ?_; clear ha a; intro a ha
        refine o_storeR fld_here ha Try.sizeOf2 rfl rfl hI168 h163 gx349 hi357 hat355 rfl rfl ?_; intro w389 h390 hc391
        replace h381 := h381.nq hc391 q383
        have hE392 := Chg.join hE171 hc391 (S2.par (fun _ h => List.mem_append_left _ h))
        refine wpList_nil ?_
        replace ha := ha.sub (σ' := [(0, va0), (1, (.int .i64 i167)), (5, (.int .i64 i169))]) ⟨rfl, rfl, rfl, trivial⟩
        refine e_then ?_
        refine wp_seq ?_
        refine wp_region_lit ?_
        refine op_g ha rfl (g_move rfl) ?_; clear ha a; intro a ha
        obtain ⟨hI393, hF⟩ := ck_some hF
        refine op_g ha rfl (g_add rfl rfl hI393) ?_; clear ha a; intro a ha
        refine op_g ha rfl (g_assign rfl) ?_; clear ha a; intro a ha
        refine wpList_nil ?_
        replace ha := ha.sub (σ' := [(0, va0), (1, (.int .i64 (i167 + 1))), (5, (.int .i64 i169))]) ⟨rfl, rfl, rfl, trivial⟩
        refine e_then ?_
        refine wp_seq ?_
        refine wp_region_lit ?_
        refine op_g ha rfl (g_move rfl) ?_; clear ha a; intro a ha
        refine op_g ha rfl (g_move rfl) ?_; clear ha a; intro a ha
        refine op_g ha rfl (g_move rfl) ?_; clear ha a; intro a ha
        obtain ⟨x395, g396, gx397, hF⟩ := idx_some hF
        obtain ⟨p398, cs399, f400, hf401, hpb402, hat403, hr404, hi405⟩ := h390.at g396 gx397
        obtain ⟨f406, f407, c408, c409, rfl, rfl, h410, h411⟩ := hr404
        have hs412 := fun k hk => (fun k hk => List.mem_append_right (bl ba0) (hf401 k hk)) k (List.mem_append_left f407 hk)
        have hs413 := fun k hk => (fun k hk => List.mem_append_right (bl ba0) (hf401 k hk)) k (List.mem_append_right f406 hk)
        have q414 := fun k hk => hf401 k (List.mem_append_left f407 hk)
        have q415 := fun k hk => hf401 k (List.mem_append_right f406 hk)
        obtain ⟨rfl, hI416, rfl⟩ := h410
        obtain ⟨f417, f418, c419, c420, rfl, rfl, h421, h422⟩ := h411
        have hs423 := fun k hk => hs413 k (List.mem_append_left f418 hk)
        have hs424 := fun k hk => hs413 k (List.mem_append_right f417 hk)
        have q425 := fun k hk => q415 k (List.mem_append_left f418 hk)
        have q426 := fun k hk => q415 k (List.mem_append_right f417 hk)
        obtain ⟨rfl, hI427, rfl⟩ := h421
        replace h422 := (Rp.sl 2 Rp.int).weak h422
        obtain ⟨v428, rfl, h429⟩ := h422
        have h429 : Ro Rp.int w389 f418 v428 x395.2.2 := h429
        have q431 := Nq.mono (Ow.ne h390) q426
        refine op_g ha rfl (hi405.gives sl23 rfl rfl) ?_; clear ha a; intro a ha
        refine op_g ha rfl (g_field st46_1 rfl) ?_; clear ha a; intro a ha
        refine o_storeR (fld_snd rfl fld_here) ha Try.sizeOf2 rfl rfl hI393 h390 gx397 hi405 hat403 rfl rfl ?_; intro w437 h438 hc439
        replace h429 := h429.nq hc439 q431
        have hE440 := Chg.join hE392 hc439 (S2.par (fun _ h => List.mem_append_left _ h))
        refine wpList_nil ?_
        replace ha := ha.sub (σ' := [(0, va0), (1, (.int .i64 (i167 + 1))), (5, (.int .i64 i169))]) ⟨rfl, rfl, rfl, trivial⟩
        refine e_then ?_
        refine wp_seq ?_
        refine wp_region_lit ?_
        refine op_g ha rfl (g_move rfl) ?_; clear ha a; intro a ha
        obtain ⟨hI441, hF⟩ := ck_some hF
        refine op_g ha rfl (g_add rfl rfl hI441) ?_; clear ha a; intro a ha
        refine op_g ha rfl (g_assign rfl) ?_; clear ha a; intro a ha
        refine wpList_nil ?_
        replace ha := ha.sub (σ' := [(0, va0), (1, (.int .i64 ((i167 + 1) + 1))), (5, (.int .i64 i169))]) ⟨rfl, rfl, rfl, trivial⟩
        refine e_then ?_
        refine wp_region_lit ?_
        refine op_g ha rfl (g_move rfl) ?_; clear ha a; intro a ha
        refine op_g ha rfl (g_move rfl) ?_; clear ha a; intro a ha
        obtain ⟨x443, g444, gx445, hF⟩ := idx_some hF
        obtain ⟨p446, cs447, f448, hf449, hpb450, hat451, hr452, hi453⟩ := h438.at g444 gx445
        obtain ⟨f454, f455, c456, c457, rfl, rfl, h458, h459⟩ := hr452
        have hs460 := fun k hk => (fun k hk => List.mem_append_right (bl ba0) (hf449 k hk)) k (List.mem_append_left f455 hk)
        have hs461 := fun k hk => (fun k hk => List.mem_append_right (bl ba0) (hf449 k hk)) k (List.mem_append_right f454 hk)
        have q462 := fun k hk => hf449 k (List.mem_append_left f455 hk)
        have q463 := fun k hk => hf449 k (List.mem_append_right f454 hk)
        obtain ⟨rfl, hI464, rfl⟩ := h458
        obtain ⟨f465, f466, c467, c468, rfl, rfl, h469, h470⟩ := h459
        have hs471 := fun k hk => hs461 k (List.mem_append_left f466 hk)
        have hs472 := fun k hk => hs461 k (List.mem_append_right f465 hk)
        have q473 := fun k hk => q463 k (List.mem_append_left f466 hk)
        have q474 := fun k hk => q463 k (List.mem_append_right f465 hk)
        obtain ⟨rfl, hI475, rfl⟩ := h469
        replace h470 := (Rp.sl 2 Rp.int).weak h470
        obtain ⟨v476, rfl, h477⟩ := h470
        have h477 : Ro Rp.int w437 f466 v476 x443.2.2 := h477
        have q479 := Nq.mono (Ow.ne h438) q474
        refine op_g ha rfl (hi453.gives sl23 rfl rfl) ?_; clear ha a; intro a ha
        refine op_g ha rfl (g_field st46_2 rfl) ?_; clear ha a; intro a ha
        refine op_g ha rfl (g_load Try.isAgg22 rfl (hat451 2 _ rfl)) ?_; clear ha a; intro a ha
        refine op_g ha rfl (g_move rfl) ?_; clear ha a; intro a ha
        obtain ⟨b480, h481, hm482, hb483⟩ := Ow.row (k := 2) (lens_snd scal_int rfl (lens_snd scal_int rfl (lens_sl 2 Rp.int))) scal_int h438 nda0 gx445 hi453 hat451 rfl rfl
        obtain ⟨x484, hc485, hF⟩ := cal_some hF
        refine o_call ha rfl rfl Try.call10 (W_laws_markInt64S h481 hI441 hc485) ?_; clear ha a; rintro v486 w487 ⟨⟨rfl, hI489⟩, h490, hx488⟩ a ha
        have h491 := hb483 w487 _ hx488 h490
        have hE492 := Chg.join hE440 hx488 (S2.par hm482)
        refine op_g ha rfl (g_assign rfl) ?_; clear ha a; intro a ha
        refine wpList_nil ?_
        replace ha := ha.sub (σ' := [(0, va0), (1, (.int .i64 x484.1)), (5, (.int .i64 i169))]) ⟨rfl, rfl, rfl, trivial⟩
        refine e_blk ?_
        refine e_then ?_
        refine wp_region_lit ?_
        refine op_g ha rfl (g_move rfl) ?_; clear ha a; intro a ha
        obtain ⟨hI493, hF⟩ := ck_some hF
        refine op_g ha rfl (g_add rfl rfl hI493) ?_; clear ha a; intro a ha
        refine op_g ha rfl (g_assign rfl) ?_; clear ha a; intro a ha
        refine wpList_nil ?_
        replace ha := ha.sub (σ' := [(0, va0), (1, (.int .i64 x484.1)), (5, (.int .i64 (i169 + 1)))]) ⟨rfl, rfl, rfl, trivial⟩
        refine e_lq ?_
        obtain rfl := Option.some.inj hF
        exact ⟨_, Nat.lt_succ_self _, (((l164.set ((i169 : Int).toNat) (i167, x347.2.1, x347.2.2)).set ((i169 : Int).toNat) (x395.1, i167 + 1, x395.2.2)).set ((i169 : Int).toNat) (x443.1, x443.2.1, x484.2)), x484.1, i169 + 1, ha.sub ⟨rfl, rfl, rfl, trivial⟩, hE492, hI489, hI493, h491, hN343⟩
      · replace hF := if_f hp346 hF
        refine wp_exit ?_
        refine e_then_exit ?_
        refine e_lq_eq ?_
        obtain rfl := Option.some.inj hF
        exact ⟨i167, l164, ha.sub ⟨rfl, trivial⟩, hE171, hI168, h163, (LK_inr hN343).symm⟩
  · rintro a w330 ⟨i331, l334, ha, hE342, hI332, h333, rfl⟩
    have hF : F_laws_markPartS_k2 i331 l334 = some _ := hK339; clear hK339; unfold F_laws_markPartS_k2 at hF
    refine e_then ?_
    refine wp_seq ?_
    refine wp_region_lit ?_
    refine op_g ha rfl (g_move rfl) ?_; clear ha a; intro a ha
    refine op_g ha rfl (g_assign rfl) ?_; clear ha a; intro a ha
    refine wpList_nil ?_
    replace ha := ha.sub (σ' := [(4, (.int .i64 i331))]) ⟨rfl, trivial⟩
    refine e_then ?_
    refine wp_ret ?_
    obtain rfl := Option.some.inj hF
    exact f_ret1 ha rfl rfl ⟨⟨rfl, hI332⟩, h333, hE342⟩
set_option maxHeartbeats 2000000 in
theorem W_laws_heldInt64S {W : World} {va0 : Value} {fa0 : List Nat} {a0 : (List Int)} (ha0 : Ro Rp.int W fa0 va0 a0) {a1 : Int} (ha1 : InI a1) {r : Int} (hF : F_laws_heldInt64S a0 a1 = some r) :
    Calls Try.prog 26 [va0, .int .i64 a1].toArray W (Ret fun u w' => (u = .int .i64 r ∧ InI r) ∧ Ext W w') := by
  refine f_enter Try.func26 rfl Try.ntmps26 rfl ?_
  intro a ha
  replace ha : Fr 21 [(0, va0), (1, (.int .i64 a1))] a := ha
  have hE : Chg [] W W := Chg.refl _ _
  unfold F_laws_heldInt64S at hF
  refine wp_seq ?_
  refine wp_region_lit ?_
  refine op_g ha rfl (g_assign rfl) ?_; clear ha a; intro a ha
  refine wpList_nil ?_
  replace ha := ha.sub (σ' := [(0, va0), (1, (.int .i64 a1))]) ⟨rfl, rfl, trivial⟩
  refine e_then ?_
  refine wp_seq ?_
  refine wp_seq ?_
  refine wp_region_lit ?_
  refine op_g ha rfl (g_assign rfl) ?_; clear ha a; intro a ha
  refine wpList_nil ?_
  refine e_then ?_
  obtain ⟨o58, ho59, hK60⟩ := bnd_some hF
  obtain ⟨n61, hn62⟩ := lp_some ho59; clear ho59
  refine c_loop (fun a w => ∃ (i56 : Int), Fr 21 [(1, (.int .i64 i56))] a ∧ Chg [] W w ∧ InI i56 ∧ o58 = .inl i56) (fun n a w => ∃ (i27 : Int) (i29 : Int), Fr 21 [(0, va0), (1, (.int .i64 i27)), (5, (.int .i64 i29))] a ∧ Chg [] W w ∧ InI i27 ∧ InI i29 ∧ lpN (fun s => F_laws_heldInt64S_l1 a0 s.1 s.2) n (i27, i29) = some o58) n61 ⟨a1, 0, ha.sub ⟨rfl, rfl, rfl, trivial⟩, hE, ha1, (show InI 0 from by decide), hn62⟩ ?_ ?_
  · rintro m66 a w26 ⟨i27, i29, ha, hE31, hI28, hI30, hF⟩
    cases m66 with
    | zero => exact (lpN_zero hF).elim
    | succ m66 =>
      obtain ⟨z65, hF, hN64⟩ := lpN_succ hF
      have hF : F_laws_heldInt64S_l1 a0 i27 i29 = some z65 := hF; unfold F_laws_heldInt64S_l1 at hF
      refine wp_seq ?_
      refine wp_seq ?_
      refine wp_region_lit ?_
      refine op_g ha rfl (g_move rfl) ?_; clear ha a; intro a ha
      refine op_g ha rfl (g_move rfl) ?_; clear ha a; intro a ha
      refine op_g ha rfl (g_lenR sl22.und ha0 rfl) ?_; clear ha a; intro a ha
      refine op_g ha rfl (g_lss rfl rfl) ?_; clear ha a; intro a ha
      refine wpList_nil ?_
      replace ha := ha.sub (σ' := [(0, va0), (1, (.int .i64 i27)), (5, (.int .i64 i29)), (9, (.bool (decide (i29 < (a0.length : Int)))))]) ⟨rfl, rfl, rfl, rfl, trivial⟩
      refine e_then ?_
      refine c_cond (i29 < (a0.length : Int)) ha rfl (decide_eq_true_iff) (fun hp67 => ?_) (fun hp67 => ?_)
      · replace hF := if_t hp67 hF
        refine wp_skip ?_
        refine e_then ?_
        refine wp_seq ?_
        refine wp_block ?_
        refine wp_seq ?_
        refine wp_seq ?_
        refine wp_region_lit ?_
        refine op_g ha rfl (g_move rfl) ?_; clear ha a; intro a ha
        refine op_g ha rfl (g_move rfl) ?_; clear ha a; intro a ha
        obtain ⟨x68, g69, gx70, hF⟩ := idx_some hF
        obtain ⟨p71, cs72, f73, hf74, hpb75, hat76, hr77, hi78⟩ := ha0.at g69 gx70
        obtain ⟨rfl, hI79, rfl⟩ := hr77
        refine op_g ha rfl (hi78.gives sl22 rfl rfl) ?_; clear ha a; intro a ha
        refine op_g ha rfl (g_load0 hE31 Try.isAgg2 rfl hat76.one) ?_; clear ha a; intro a ha
        refine op_g ha rfl (g_move rfl) ?_; clear ha a; intro a ha
        refine op_g ha rfl (g_neq rfl rfl) ?_; clear ha a; intro a ha
        refine wpList_nil ?_
        replace ha := ha.sub (σ' := [(0, va0), (1, (.int .i64 i27)), (5, (.int .i64 i29)), (17, (.bool (decide (x68 ≠ i27))))]) ⟨rfl, rfl, rfl, rfl, trivial⟩
        refine e_then ?_
        refine c_cond (x68 ≠ i27) ha rfl (decide_eq_true_iff) (fun hp80 => ?_) (fun hp80 => ?_)
        · replace hF := if_t hp80 hF
          refine wp_seq ?_
          refine wp_region_lit ?_
          refine op_g ha rfl (g_assign rfl) ?_; clear ha a; intro a ha
          refine wpList_nil ?_
          replace ha := ha.sub (σ' := [(4, (.int .i64 (-1)))]) ⟨rfl, trivial⟩
          refine e_then ?_
          refine wp_ret ?_
          refine e_then_ret ?_
          refine e_blk_ret ?_
          refine e_then_ret ?_
          refine e_lq_ret ?_
          refine e_then_ret ?_
          obtain rfl := Option.some.inj hF
          have e81 := LK_inr hN64; subst e81
          have e82 := BK_inr hK60; subst e82
          exact f_ret1 ha rfl rfl ⟨⟨rfl, (show InI (-1) from by decide)⟩, hE31⟩
        · replace hF := if_f hp80 hF
          refine wp_skip ?_
          refine e_then ?_
          refine wp_region_lit ?_
          refine op_g ha rfl (g_move rfl) ?_; clear ha a; intro a ha
          obtain ⟨hI83, hF⟩ := ck_some hF
          refine op_g ha rfl (g_add rfl rfl hI83) ?_; clear ha a; intro a ha
          refine op_g ha rfl (g_assign rfl) ?_; clear ha a; intro a ha
          refine wpList_nil ?_
          replace ha := ha.sub (σ' := [(0, va0), (1, (.int .i64 (i27 + 1))), (5, (.int .i64 i29))]) ⟨rfl, rfl, rfl, trivial⟩
          refine e_blk ?_
          refine e_then ?_
          refine wp_region_lit ?_
          refine op_g ha rfl (g_move rfl) ?_; clear ha a; intro a ha
          obtain ⟨hI85, hF⟩ := ck_some hF
          refine op_g ha rfl (g_add rfl rfl hI85) ?_; clear ha a; intro a ha
          refine op_g ha rfl (g_assign rfl) ?_; clear ha a; intro a ha
          refine wpList_nil ?_
          replace ha := ha.sub (σ' := [(0, va0), (1, (.int .i64 (i27 + 1))), (5, (.int .i64 (i29 + 1)))]) ⟨rfl, rfl, rfl, trivial⟩
          refine e_lq ?_
          obtain rfl := Option.some.inj hF
          exact ⟨_, Nat.lt_succ_self _, i27 + 1, i29 + 1, ha.sub ⟨rfl, rfl, rfl, trivial⟩, hE31, hI83, hI85, hN64⟩
      · replace hF := if_f hp67 hF
        refine wp_exit ?_
        refine e_then_exit ?_
        refine e_lq_eq ?_
        obtain rfl := Option.some.inj hF
        exact ⟨i27, ha.sub ⟨rfl, trivial⟩, hE31, hI28, (LK_inr hN64).symm⟩
  · rintro a w55 ⟨i56, ha, hE63, hI57, rfl⟩
    have hF : F_laws_heldInt64S_k2 i56 = some _ := hK60; clear hK60; unfold F_laws_heldInt64S_k2 at hF
    refine e_then ?_
    refine wp_seq ?_
    refine wp_region_lit ?_
    refine op_g ha rfl (g_move rfl) ?_; clear ha a; intro a ha
    refine op_g ha rfl (g_assign rfl) ?_; clear ha a; intro a ha
    refine wpList_nil ?_
    replace ha := ha.sub (σ' := [(4, (.int .i64 i56))]) ⟨rfl, trivial⟩
    refine e_then ?_
    refine wp_ret ?_
    obtain rfl := Option.some.inj hF
    exact f_ret1 ha rfl rfl ⟨⟨rfl, hI57⟩, hE63⟩
set_option maxHeartbeats 2000000 in
theorem W_laws_heldPartS {W : World} {va0 : Value} {fa0 : List Nat} {a0 : (List (Int × (Int × (List Int))))} (ha0 : Ro (Rp.prod Rp.int (Rp.prod Rp.int (Rp.sl 2 Rp.int))) W fa0 va0 a0) {a1 : Int} (ha1 : InI a1) {r : Int} (hF : F_laws_heldPartS a0 a1 = some r) :
    Calls Try.prog 12 [va0, .int .i64 a1].toArray W (Ret fun u w' => (u = .int .i64 r ∧ InI r) ∧ Ext W w') := by
  refine f_enter Try.func12 rfl Try.ntmps12 rfl ?_
  intro a ha
  replace ha : Fr 40 [(0, va0), (1, (.int .i64 a1))] a := ha
  have hE : Chg [] W W := Chg.refl _ _
  unfold F_laws_heldPartS at hF
  refine wp_seq ?_
  refine wp_region_lit ?_
  refine op_g ha rfl (g_assign rfl) ?_; clear ha a; intro a ha
  refine wpList_nil ?_
  replace ha := ha.sub (σ' := [(0, va0), (1, (.int .i64 a1))]) ⟨rfl, rfl, trivial⟩
  refine e_then ?_
  refine wp_seq ?_
  refine wp_seq ?_
  refine wp_region_lit ?_
  refine op_g ha rfl (g_assign rfl) ?_; clear ha a; intro a ha
  refine wpList_nil ?_
  refine e_then ?_
  obtain ⟨o248, ho249, hK250⟩ := bnd_some hF
  obtain ⟨n251, hn252⟩ := lp_some ho249; clear ho249
  refine c_loop (fun a w => ∃ (i246 : Int), Fr 40 [(1, (.int .i64 i246))] a ∧ Chg [] W w ∧ InI i246 ∧ o248 = .inl i246) (fun n a w => ∃ (i122 : Int) (i124 : Int), Fr 40 [(0, va0), (1, (.int .i64 i122)), (5, (.int .i64 i124))] a ∧ Chg [] W w ∧ InI i122 ∧ InI i124 ∧ lpN (fun s => F_laws_heldPartS_l1 a0 s.1 s.2) n (i122, i124) = some o248) n251 ⟨a1, 0, ha.sub ⟨rfl, rfl, rfl, trivial⟩, hE, ha1, (show InI 0 from by decide), hn252⟩ ?_ ?_
  · rintro m256 a w121 ⟨i122, i124, ha, hE126, hI123, hI125, hF⟩
    cases m256 with
    | zero => exact (lpN_zero hF).elim
    | succ m256 =>
      obtain ⟨z255, hF, hN254⟩ := lpN_succ hF
      have hF : F_laws_heldPartS_l1 a0 i122 i124 = some z255 := hF; unfold F_laws_heldPartS_l1 at hF
      refine wp_seq ?_
      refine wp_seq ?_
      refine wp_region_lit ?_
      refine op_g ha rfl (g_move rfl) ?_; clear ha a; intro a ha
      refine op_g ha rfl (g_move rfl) ?_; clear ha a; intro a ha
      refine op_g ha rfl (g_lenR sl23.und ha0 rfl) ?_; clear ha a; intro a ha
      refine op_g ha rfl (g_lss rfl rfl) ?_; clear ha a; intro a ha
      refine wpList_nil ?_
      replace ha := ha.sub (σ' := [(0, va0), (1, (.int .i64 i122)), (5, (.int .i64 i124)), (9, (.bool (decide (i124 < (a0.length : Int)))))]) ⟨rfl, rfl, rfl, rfl, trivial⟩
      refine e_then ?_
      refine c_cond (i124 < (a0.length : Int)) ha rfl (decide_eq_true_iff) (fun hp257 => ?_) (fun hp257 => ?_)
      · replace hF := if_t hp257 hF
        refine wp_skip ?_
        refine e_then ?_
        refine wp_seq ?_
        refine wp_block ?_
        refine wp_seq ?_
        refine wp_seq ?_
        refine wp_region_lit ?_
        refine op_g ha rfl (g_move rfl) ?_; clear ha a; intro a ha
        refine op_g ha rfl (g_move rfl) ?_; clear ha a; intro a ha
        obtain ⟨x258, g259, gx260, hF⟩ := idx_some hF
        obtain ⟨p261, cs262, f263, hf264, hpb265, hat266, hr267, hi268⟩ := ha0.at g259 gx260
        obtain ⟨f269, f270, c271, c272, rfl, rfl, h273, h274⟩ := hr267
        have hs275 := fun k hk => hf264 k (List.mem_append_left f270 hk)
        have hs276 := fun k hk => hf264 k (List.mem_append_right f269 hk)
        obtain ⟨rfl, hI277, rfl⟩ := h273
        obtain ⟨f278, f279, c280, c281, rfl, rfl, h282, h283⟩ := h274
        have hs284 := fun k hk => hs276 k (List.mem_append_left f279 hk)
        have hs285 := fun k hk => hs276 k (List.mem_append_right f278 hk)
        obtain ⟨rfl, hI286, rfl⟩ := h282
        obtain ⟨v287, rfl, h288⟩ := h283
        have h288 : Ro Rp.int W f279 v287 x258.2.2 := h288
        refine op_g ha rfl (hi268.gives sl23 rfl rfl) ?_; clear ha a; intro a ha
        refine op_g ha rfl (g_field st46_0 rfl) ?_; clear ha a; intro a ha
        refine op_g ha rfl (g_load0 hE126 Try.isAgg2 rfl (hat266 0 _ rfl)) ?_; clear ha a; intro a ha
        refine op_g ha rfl (g_move rfl) ?_; clear ha a; intro a ha
        refine op_g ha rfl (g_neq rfl rfl) ?_; clear ha a; intro a ha
        refine wpList_nil ?_
        replace ha := ha.sub (σ' := [(0, va0), (1, (.int .i64 i122)), (5, (.int .i64 i124)), (18, (.bool (decide (x258.1 ≠ i122))))]) ⟨rfl, rfl, rfl, rfl, trivial⟩
        refine e_then ?_
        refine c_cond (x258.1 ≠ i122) ha rfl (decide_eq_true_iff) (fun hp290 => ?_) (fun hp290 => ?_)
        · replace hF := if_t hp290 hF
          refine wp_seq ?_
          refine wp_region_lit ?_
          refine op_g ha rfl (g_assign rfl) ?_; clear ha a; intro a ha
          refine wpList_nil ?_
          replace ha := ha.sub (σ' := [(4, (.int .i64 (-1)))]) ⟨rfl, trivial⟩
          refine e_then ?_
          refine wp_ret ?_
          refine e_then_ret ?_
          refine e_blk_ret ?_
          refine e_then_ret ?_
          refine e_lq_ret ?_
          refine e_then_ret ?_
          obtain rfl := Option.some.inj hF
          have e291 := LK_inr hN254; subst e291
          have e292 := BK_inr hK250; subst e292
          exact f_ret1 ha rfl rfl ⟨⟨rfl, (show InI (-1) from by decide)⟩, hE126⟩
        · replace hF := if_f hp290 hF
          refine wp_skip ?_
          refine e_then ?_
          refine wp_seq ?_
          refine wp_region_lit ?_
          refine op_g ha rfl (g_move rfl) ?_; clear ha a; intro a ha
          obtain ⟨hI293, hF⟩ := ck_some hF
          refine op_g ha rfl (g_add rfl rfl hI293) ?_; clear ha a; intro a ha
          refine op_g ha rfl (g_assign rfl) ?_; clear ha a; intro a ha
          refine wpList_nil ?_
          replace ha := ha.sub (σ' := [(0, va0), (1, (.int .i64 (i122 + 1))), (5, (.int .i64 i124))]) ⟨rfl, rfl, rfl, trivial⟩
          refine e_then ?_
          refine wp_seq ?_
          refine wp_seq ?_
          refine wp_region_lit ?_
          refine op_g ha rfl (g_move rfl) ?_; clear ha a; intro a ha
          refine op_g ha rfl (g_move rfl) ?_; clear ha a; intro a ha
          obtain ⟨x295, g296, gx297, hF⟩ := idx_some hF
          obtain ⟨p298, cs299, f300, hf301, hpb302, hat303, hr304, hi305⟩ := ha0.at g296 gx297
          obtain ⟨f306, f307, c308, c309, rfl, rfl, h310, h311⟩ := hr304
          have hs312 := fun k hk => hf301 k (List.mem_append_left f307 hk)
          have hs313 := fun k hk => hf301 k (List.mem_append_right f306 hk)
          obtain ⟨rfl, hI314, rfl⟩ := h310
          obtain ⟨f315, f316, c317, c318, rfl, rfl, h319, h320⟩ := h311
          have hs321 := fun k hk => hs313 k (List.mem_append_left f316 hk)
          have hs322 := fun k hk => hs313 k (List.mem_append_right f315 hk)
          obtain ⟨rfl, hI323, rfl⟩ := h319
          obtain ⟨v324, rfl, h325⟩ := h320
          have h325 : Ro Rp.int W f316 v324 x295.2.2 := h325
          refine op_g ha rfl (hi305.gives sl23 rfl rfl) ?_; clear ha a; intro a ha
          refine op_g ha rfl (g_field st46_1 rfl) ?_; clear ha a; intro a ha
          refine op_g ha rfl (g_load0 hE126 Try.isAgg2 rfl (hat303 1 _ rfl)) ?_; clear ha a; intro a ha
          refine op_g ha rfl (g_move rfl) ?_; clear ha a; intro a ha
          refine op_g ha rfl (g_neq rfl rfl) ?_; clear ha a; intro a ha
          refine wpList_nil ?_
          replace ha := ha.sub (σ' := [(0, va0), (1, (.int .i64 (i122 + 1))), (5, (.int .i64 i124)), (27, (.bool (decide (x295.2.1 ≠ (i122 + 1)))))]) ⟨rfl, rfl, rfl, rfl, trivial⟩
          refine e_then ?_
          refine c_cond (x295.2.1 ≠ (i122 + 1)) ha rfl (decide_eq_true_iff) (fun hp327 => ?_) (fun hp327 => ?_)
          · replace hF := if_t hp327 hF
            refine wp_seq ?_
            refine wp_region_lit ?_
            refine op_g ha rfl (g_assign rfl) ?_; clear ha a; intro a ha
            refine wpList_nil ?_
            replace ha := ha.sub (σ' := [(4, (.int .i64 (-1)))]) ⟨rfl, trivial⟩
            refine e_then ?_
            refine wp_ret ?_
            refine e_then_ret ?_
            refine e_blk_ret ?_
            refine e_then_ret ?_
            refine e_lq_ret ?_
            refine e_then_ret ?_
            obtain rfl := Option.some.inj hF
            have e328 := LK_inr hN254; subst e328
            have e329 := BK_inr hK250; subst e329
            exact f_ret1 ha rfl rfl ⟨⟨rfl, (show InI (-1) from by decide)⟩, hE126⟩
          · replace hF := if_f hp327 hF
            refine wp_skip ?_
            refine e_then ?_
            refine wp_seq ?_
            refine wp_region_lit ?_
            refine op_g ha rfl (g_move rfl) ?_; clear ha a; intro a ha
            obtain ⟨hI330, hF⟩ := ck_some hF
            refine op_g ha rfl (g_add rfl rfl hI330) ?_; clear ha a; intro a ha
            refine op_g ha rfl (g_assign rfl) ?_; clear ha a; intro a ha
            refine wpList_nil ?_
            replace ha := ha.sub (σ' := [(0, va0), (1, (.int .i64 ((i122 + 1) + 1))), (5, (.int .i64 i124))]) ⟨rfl, rfl, rfl, trivial⟩
            refine e_then ?_
            refine wp_seq ?_
            refine wp_region_lit ?_
            refine op_g ha rfl (g_move rfl) ?_; clear ha a; intro a ha
            refine op_g ha rfl (g_move rfl) ?_; clear ha a; intro a ha
            obtain ⟨x332, g333, gx334, hF⟩ := idx_some hF
            obtain ⟨p335, cs336, f337, hf338, hpb339, hat340, hr341, hi342⟩ := ha0.at g333 gx334
            obtain ⟨f343, f344, c345, c346, rfl, rfl, h347, h348⟩ := hr341
            have hs349 := fun k hk => hf338 k (List.mem_append_left f344 hk)
            have hs350 := fun k hk => hf338 k (List.mem_append_right f343 hk)
            obtain ⟨rfl, hI351, rfl⟩ := h347
            obtain ⟨f352, f353, c354, c355, rfl, rfl, h356, h357⟩ := h348
            have hs358 := fun k hk => hs350 k (List.mem_append_left f353 hk)
            have hs359 := fun k hk => hs350 k (List.mem_append_right f352 hk)
            obtain ⟨rfl, hI360, rfl⟩ := h356
            obtain ⟨v361, rfl, h362⟩ := h357
            have h362 : Ro Rp.int W f353 v361 x332.2.2 := h362
            refine op_g ha rfl (hi342.gives sl23 rfl rfl) ?_; clear ha a; intro a ha
            refine op_g ha rfl (g_field st46_2 rfl) ?_; clear ha a; intro a ha
            refine op_g ha rfl (g_load0 hE126 Try.isAgg22 rfl (hat340 2 _ rfl)) ?_; clear ha a; intro a ha
            refine op_g ha rfl (g_move rfl) ?_; clear ha a; intro a ha
            obtain ⟨x364, hc365, hF⟩ := cal_some hF
            refine o_call ha rfl rfl Try.call26 (W_laws_heldInt64S (h362.ext hE126) hI330 hc365) ?_; clear ha a; rintro v366 w367 ⟨⟨rfl, hI369⟩, hx368⟩ a ha
            have hE370 := Ext.trans hE126 hx368
            refine op_g ha rfl (g_assign rfl) ?_; clear ha a; intro a ha
            refine wpList_nil ?_
            replace ha := ha.sub (σ' := [(0, va0), (1, (.int .i64 x364)), (5, (.int .i64 i124))]) ⟨rfl, rfl, rfl, trivial⟩
            refine e_then ?_
            refine wp_seq ?_
            refine wp_region_lit ?_
            refine op_g ha rfl (g_move rfl) ?_; clear ha a; intro a ha
            refine op_g ha rfl (g_lss rfl rfl) ?_; clear ha a; intro a ha
            refine wpList_nil ?_
            replace ha := ha.sub (σ' := [(0, va0), (1, (.int .i64 x364)), (5, (.int .i64 i124)), (38, (.bool (decide (x364 < 0))))]) ⟨rfl, rfl, rfl, rfl, trivial⟩
            refine e_then ?_
            refine c_cond (x364 < 0) ha rfl (decide_eq_true_iff) (fun hp371 => ?_) (fun hp371 => ?_)
            · replace hF := if_t hp371 hF
              refine wp_seq ?_
              refine wp_region_lit ?_
              refine op_g ha rfl (g_assign rfl) ?_; clear ha a; intro a ha
              refine wpList_nil ?_
              replace ha := ha.sub (σ' := [(4, (.int .i64 (-1)))]) ⟨rfl, trivial⟩
              refine e_then ?_
              refine wp_ret ?_
              refine e_blk_ret ?_
              refine e_then_ret ?_
              refine e_lq_ret ?_
              refine e_then_ret ?_
              obtain rfl := Option.some.inj hF
              have e372 := LK_inr hN254; subst e372
              have e373 := BK_inr hK250; subst e373
              exact f_ret1 ha rfl rfl ⟨⟨rfl, (show InI (-1) from by decide)⟩, hE370⟩
            · replace hF := if_f hp371 hF
              refine wp_skip ?_
              refine e_blk ?_
              refine e_then ?_
              refine wp_region_lit ?_
              refine op_g ha rfl (g_move rfl) ?_; clear ha a; intro a ha
              obtain ⟨hI374, hF⟩ := ck_some hF
              refine op_g ha rfl (g_add rfl rfl hI374) ?_; clear ha a; intro a ha
              refine op_g ha rfl (g_assign rfl) ?_; clear ha a; intro a ha
              refine wpList_nil ?_
              replace ha := ha.sub (σ' := [(0, va0), (1, (.int .i64 x364)), (5, (.int .i64 (i124 + 1)))]) ⟨rfl, rfl, rfl, trivial⟩
              refine e_lq ?_
              obtain rfl := Option.some.inj hF
              exact ⟨_, Nat.lt_succ_self _, x364, i124 + 1, ha.sub ⟨rfl, rfl, rfl, trivial⟩, hE370, hI369, hI374, hN254⟩
      · replace hF := if_f hp257 hF
        refine wp_exit ?_
        refine e_then_exit ?_
        refine e_lq_eq ?_
        obtain rfl := Option.some.inj hF
        exact ⟨i122, ha.sub ⟨rfl, trivial⟩, hE126, hI123, (LK_inr hN254).symm⟩
  · rintro a w245 ⟨i246, ha, hE253, hI247, rfl⟩
    have hF : F_laws_heldPartS_k2 i246 = some _ := hK250; clear hK250; unfold F_laws_heldPartS_k2 at hF
    refine e_then ?_
    refine wp_seq ?_
    refine wp_region_lit ?_
    refine op_g ha rfl (g_move rfl) ?_; clear ha a; intro a ha
    refine op_g ha rfl (g_assign rfl) ?_; clear ha a; intro a ha
    refine wpList_nil ?_
    replace ha := ha.sub (σ' := [(4, (.int .i64 i246))]) ⟨rfl, trivial⟩
    refine e_then ?_
    refine wp_ret ?_
    obtain rfl := Option.some.inj hF
    exact f_ret1 ha rfl rfl ⟨⟨rfl, hI247⟩, hE253⟩
set_option maxHeartbeats 2000000 in
theorem W_laws_FnExactNumsParts {W : World} {va0 : Value} {fa0 : List Nat} {a0 : (List Int)} (ha0 : Ro Rp.int W fa0 va0 a0) {r : Bool} (hF : F_laws_FnExactNumsParts a0 = some r) :
    Calls Try.prog 3 [va0].toArray W (Ret fun u w' => u = .bool r ∧ Ext W w') := by
  refine f_enter Try.func3 rfl Try.ntmps3 rfl ?_
  intro a ha
  replace ha : Fr 93 [(0, va0)] a := ha
  have hE : Chg [] W W := Chg.refl _ _
  unfold F_laws_FnExactNumsParts at hF
  refine wp_seq ?_
  refine wp_region_lit ?_
  refine op_g ha rfl (g_assign rfl) ?_; clear ha a; intro a ha
  refine wpList_nil ?_
  replace ha := ha.sub (σ' := [(0, va0)]) ⟨rfl, trivial⟩
  refine e_then ?_
  refine wp_seq ?_
  refine wp_seq ?_
  refine wp_region_lit ?_
  refine op_g ha rfl (g_move rfl) ?_; clear ha a; intro a ha
  refine op_g ha rfl (g_lenR sl22.und ha0 rfl) ?_; clear ha a; intro a ha
  refine op_g ha rfl (g_gtr rfl rfl) ?_; clear ha a; intro a ha
  refine wpList_nil ?_
  replace ha := ha.sub (σ' := [(0, va0), (15, (.bool (decide (1048576 < (a0.length : Int)))))]) ⟨rfl, rfl, trivial⟩
  refine e_then ?_
  refine c_cond (1048576 < (a0.length : Int)) ha rfl (decide_eq_true_iff) (fun hp1 => ?_) (fun hp1 => ?_)
  · replace hF := if_t hp1 hF
    refine wp_seq ?_
    refine wp_region_lit ?_
    refine op_g ha rfl (g_assign rfl) ?_; clear ha a; intro a ha
    refine wpList_nil ?_
    replace ha := ha.sub (σ' := [(2, (.bool true))]) ⟨rfl, trivial⟩
    refine e_then ?_
    refine wp_ret ?_
    refine e_then_ret ?_
    obtain rfl := Option.some.inj hF
    exact f_ret1 ha rfl rfl ⟨rfl, hE⟩
  · replace hF := if_f hp1 hF
    refine wp_skip ?_
    refine e_then ?_
    refine wp_seq ?_
    refine wp_region_lit ?_
    refine op_g ha rfl (g_move rfl) ?_; clear ha a; intro a ha
    obtain ⟨x2, hc3, hF⟩ := cal_some hF
    refine o_call ha rfl rfl Try.call6 (W_laws_toInt64S (ha0.ext hE) hc3) ?_; clear ha a; rintro v4 w5 ⟨b7, h8, z9, hx6⟩ a ha
    have hE11 := Ext.trans hE hx6
    have q12 := Zn.upD z9 hE
    obtain ⟨fp13, hro14, -⟩ := h8.weak.ro
    obtain ⟨x15, hc16, hF⟩ := cal_some hF
    refine o_call ha rfl rfl Try.call5 (W_spec_NumsParts hro14 hc16) ?_; clear ha a; rintro v17 w18 ⟨u20, u21, b22, fs26, rfl, h23, z24, zf27, nd28, rfl, hx19⟩ a ha
    have q29 := Nq.new h8.fpb z24
    have q30 := Nq.madeF z24 zf27 h8.blt
    have q31 := Nf.new h8.fpb zf27
    replace h8 := h8.ext hx19
    have hE32 := Ext.trans hE11 hx19
    have q33 := Zn.upD z24 hE11
    have q34 := zf_up zf27 hE11
    refine op_g ha rfl (g_move rfl) ?_; clear ha a; intro a ha
    refine op_g ha rfl (g_extract rfl rfl) ?_; clear ha a; intro a ha
    refine op_g ha rfl (g_extract rfl rfl) ?_; clear ha a; intro a ha
    refine op_g ha rfl (g_assign rfl) ?_; clear ha a; intro a ha
    refine op_g ha rfl (g_assign rfl) ?_; clear ha a; intro a ha
    refine wpList_nil ?_
    replace ha := ha.sub (σ' := [(0, va0), (3, u20), (4, (.bool x15.2))]) ⟨rfl, rfl, rfl, trivial⟩
    refine e_then ?_
    refine wp_seq ?_
    refine wp_region_lit ?_
    refine op_g ha rfl (g_move rfl) ?_; clear ha a; intro a ha
    obtain ⟨x35, hc36, hF⟩ := cal_some hF
    refine o_call ha rfl rfl Try.call6 (W_laws_toInt64S (ha0.ext hE32) hc36) ?_; clear ha a; rintro v37 w38 ⟨b40, h41, z42, hx39⟩ a ha
    have q44 := Nq.new h23.fpb z42
    have q45 := Nq.madeO z42 h23.blt
    have q46 := Nf.old z42 (zf_nil _) h23.bnd
    replace h23 := h23.ext hx39
    have hE47 := Ext.trans hE32 hx39
    have q48 := Zn.upD z42 hE32
    refine op_g ha rfl (g_assign rfl) ?_; clear ha a; intro a ha
    refine wpList_nil ?_
    replace ha := ha.sub (σ' := [(0, va0), (3, u20), (4, (.bool x15.2)), (5, v37)]) ⟨rfl, rfl, rfl, rfl, trivial⟩
    refine e_then ?_
    refine wp_seq ?_
    refine wp_region_lit ?_
    refine op_g ha rfl (g_move rfl) ?_; clear ha a; intro a ha
    obtain ⟨fp49, hro50, -⟩ := h41.weak.ro
    obtain ⟨x51, hc52, hF⟩ := cal_some hF
    refine o_call ha rfl rfl Try.call7 (W_impl_NumsParts hro50 hc52) ?_; clear ha a; rintro v53 w54 ⟨u56, u57, b58, fs62, rfl, h59, z60, zf63, nd64, rfl, hx55⟩ a ha
    have q65 := Nq.new h23.fpb z60
    have q66 := Nq.madeF z60 zf63 h23.blt
    have q67 := Nq.new h41.fpb z60
    have q68 := Nq.madeF z60 zf63 h41.blt
    have q69 := Nf.new h23.fpb zf63
    have q70 := Nf.old z60 zf63 h23.bnd
    have q71 := Nf.new h41.fpb zf63
    replace h23 := h23.ext hx55
    replace h41 := h41.ext hx55
    have hE72 := Ext.trans hE47 hx55
    have q73 := Zn.upD z60 hE47
    have q74 := zf_up zf63 hE47
    refine op_g ha rfl (g_move rfl) ?_; clear ha a; intro a ha
    refine op_g ha rfl (g_extract rfl rfl) ?_; clear ha a; intro a ha
    refine op_g ha rfl (g_extract rfl rfl) ?_; clear ha a; intro a ha
    refine op_g ha rfl (g_assign rfl) ?_; clear ha a; intro a ha
    refine op_g ha rfl (g_assign rfl) ?_; clear ha a; intro a ha
    refine wpList_nil ?_
    replace ha := ha.sub (σ' := [(0, va0), (3, u20), (4, (.bool x15.2)), (5, v37), (6, u56), (7, (.bool x51.2))]) ⟨rfl, rfl, rfl, rfl, rfl, rfl, trivial⟩
    refine e_then ?_
    refine wp_seq ?_
    refine wp_seq ?_
    refine wp_region_lit ?_
    refine op_g ha rfl (g_move rfl) ?_; clear ha a; intro a ha
    refine op_g ha rfl (g_move rfl) ?_; clear ha a; intro a ha
    obtain ⟨fp87, hro88, -⟩ := h59.weak.ro
    obtain ⟨fp89, hro90, -⟩ := h23.weak.ro
    obtain ⟨x91, hc92, hF⟩ := cal_some hF
    refine o_call ha rfl rfl Try.call8 (W_laws_eqPartS hro88 hro90 hc92) ?_; clear ha a; rintro v93 w94 ⟨rfl, hx95⟩ a ha
    replace h23 := h23.ext hx95
    replace h41 := h41.ext hx95
    replace h59 := h59.ext hx95
    have hE96 := Ext.trans hE72 hx95
    refine op_g ha rfl (g_not rfl) ?_; clear ha a; intro a ha
    refine op_g ha rfl (g_move rfl) ?_; clear ha a; intro a ha
    by_cases hp97 : ¬ (x91 = true)
    · replace hF := if_t hp97 hF
      rw [show (!x91) = true from (n_iff (Iff.rfl)).2 hp97] at ha
      refine op_unwant ha rfl (yields ha rfl rfl) rfl ?_; clear ha a; intro a ha
      refine op_unwant ha rfl (yields ha rfl rfl) rfl ?_; clear ha a; intro a ha
      refine op_unwant ha rfl (yields ha rfl rfl) rfl ?_; clear ha a; intro a ha
      refine op_g ha rfl (g_pick rfl rfl) ?_; clear ha a; intro a ha
      refine wpList_nil ?_
      replace ha := ha.sub (σ' := [(0, va0), (3, u20), (4, (.bool x15.2)), (5, v37), (6, u56), (7, (.bool x51.2)), (37, (.bool true))]) ⟨rfl, rfl, rfl, rfl, rfl, rfl, rfl, trivial⟩
      refine e_then ?_
      refine c_true ha rfl ?_
      refine wp_seq ?_
      refine wp_region_lit ?_
      refine op_g ha rfl (g_assign rfl) ?_; clear ha a; intro a ha
      refine wpList_nil ?_
      replace ha := ha.sub (σ' := [(2, (.bool false))]) ⟨rfl, trivial⟩
      refine e_then ?_
      refine wp_ret ?_
      refine e_then_ret ?_
      obtain rfl := Option.some.inj hF
      exact f_ret1 ha rfl rfl ⟨rfl, hE96⟩
    · replace hF := if_f hp97 hF
      rw [show (!x91) = false from b_false (n_iff (Iff.rfl)) hp97] at ha
      refine op_want (yields ha rfl rfl) ?_
      refine op_g ha rfl (g_move rfl) ?_; clear ha a; intro a ha
      refine op_want (yields ha rfl rfl) ?_
      refine op_g ha rfl (g_move rfl) ?_; clear ha a; intro a ha
      refine op_want (yields ha rfl rfl) ?_
      refine op_g ha rfl (gB_neq un4 rfl rfl) ?_; clear ha a; intro a ha
      refine op_g ha rfl (g_pick rfl rfl) ?_; clear ha a; intro a ha
      refine wpList_nil ?_
      replace ha := ha.sub (σ' := [(0, va0), (3, u20), (4, (.bool x15.2)), (5, v37), (6, u56), (7, (.bool x51.2)), (37, (.bool (x51.2 != x15.2)))]) ⟨rfl, rfl, rfl, rfl, rfl, rfl, rfl, trivial⟩
      refine e_then ?_
      refine c_cond ((x51.2 != x15.2) = true) ha rfl (Iff.rfl) (fun hp98 => ?_) (fun hp98 => ?_)
      · replace hF := if_t hp98 hF
        refine wp_seq ?_
        refine wp_region_lit ?_
        refine op_g ha rfl (g_assign rfl) ?_; clear ha a; intro a ha
        refine wpList_nil ?_
        replace ha := ha.sub (σ' := [(2, (.bool false))]) ⟨rfl, trivial⟩
        refine e_then ?_
        refine wp_ret ?_
        refine e_then_ret ?_
        obtain rfl := Option.some.inj hF
        exact f_ret1 ha rfl rfl ⟨rfl, hE96⟩
      · replace hF := if_f hp98 hF
        refine wp_skip ?_
        refine e_then ?_
        refine wp_seq ?_
        refine wp_seq ?_
        refine wp_region_lit ?_
        refine op_g ha rfl (g_move rfl) ?_; clear ha a; intro a ha
        refine op_g ha rfl (g_move rfl) ?_; clear ha a; intro a ha
        obtain ⟨x99, hc100, hF⟩ := cal_some hF
        refine o_call ha rfl rfl Try.call6 (W_laws_toInt64S (ha0.ext hE96) hc100) ?_; clear ha a; rintro v101 w102 ⟨b104, h105, z106, hx103⟩ a ha
        have q108 := Nq.new h23.fpb z106
        have q109 := Nq.madeO z106 h23.blt
        have q110 := Nq.new h41.fpb z106
        have q111 := Nq.madeO z106 h41.blt
        have q112 := Nq.new h59.fpb z106
        have q113 := Nq.madeO z106 h59.blt
        have q114 := Nf.old z106 (zf_nil _) h23.bnd
        have q115 := Nf.old z106 (zf_nil _) h59.bnd
        replace h23 := h23.ext hx103
        replace h41 := h41.ext hx103
        replace h59 := h59.ext hx103
        have hE116 := Ext.trans hE96 hx103
        have q117 := Zn.upD z106 hE96
        obtain ⟨fp118, hro119, -⟩ := h41.weak.ro
        obtain ⟨fp120, hro121, -⟩ := h105.weak.ro
        obtain ⟨x122, hc123, hF⟩ := cal_some hF
        refine o_call ha rfl rfl Try.call9 (W_laws_eqInt64S hro119 hro121 hc123) ?_; clear ha a; rintro v124 w125 ⟨rfl, hx126⟩ a ha
        replace h23 := h23.ext hx126
        replace h41 := h41.ext hx126
        replace h59 := h59.ext hx126
        replace h105 := h105.ext hx126
        have hE127 := Ext.trans hE116 hx126
        refine op_g ha rfl (g_not rfl) ?_; clear ha a; intro a ha
        refine wpList_nil ?_
        replace ha := ha.sub (σ' := [(0, va0), (3, u20), (4, (.bool x15.2)), (5, v37), (6, u56), (7, (.bool x51.2)), (42, (.bool (!x122)))]) ⟨rfl, rfl, rfl, rfl, rfl, rfl, rfl, trivial⟩
        refine e_then ?_
        refine c_cond (¬ (x122 = true)) ha rfl (n_iff (Iff.rfl)) (fun hp128 => ?_) (fun hp128 => ?_)
        · replace hF := if_t hp128 hF
          refine wp_seq ?_
          refine wp_region_lit ?_
          refine op_g ha rfl (g_assign rfl) ?_; clear ha a; intro a ha
          refine wpList_nil ?_
          replace ha := ha.sub (σ' := [(2, (.bool false))]) ⟨rfl, trivial⟩
          refine e_then ?_
          refine wp_ret ?_
          refine e_then_ret ?_
          obtain rfl := Option.some.inj hF
          exact f_ret1 ha rfl rfl ⟨rfl, hE127⟩
        · replace hF := if_f hp128 hF
          refine wp_skip ?_
          refine e_then ?_
          refine wp_seq ?_
          refine wp_region_lit ?_
          refine op_g ha rfl (g_assign rfl) ?_; clear ha a; intro a ha
          refine wpList_nil ?_
          replace ha := ha.sub (σ' := [(0, va0), (3, u20), (4, (.bool x15.2)), (5, v37), (6, u56), (7, (.bool x51.2)), (8, (.int .i64 1))]) ⟨rfl, rfl, rfl, rfl, rfl, rfl, rfl, trivial⟩
          refine e_then ?_
          refine wp_seq ?_
          refine wp_region_lit ?_
          refine op_g ha rfl (g_move rfl) ?_; clear ha a; intro a ha
          refine op_g ha rfl (g_move rfl) ?_; clear ha a; intro a ha
          obtain ⟨x129, hc130, hF⟩ := cal_some hF
          refine o_call ha rfl rfl Try.call10 (W_laws_markInt64S h41 (show InI 1 from by decide) hc130) ?_; clear ha a; rintro v131 w132 ⟨⟨rfl, hI134⟩, h135, hx133⟩ a ha
          replace h23 := h23.off hx133 (Off.flat q44)
          replace h59 := h59.off hx133 (Off.flat q68)
          have hE136 := Chg.join hE127 hx133 (S2.own (Zn.bl q48))
          refine op_g ha rfl (g_assign rfl) ?_; clear ha a; intro a ha
          refine wpList_nil ?_
          replace ha := ha.sub (σ' := [(0, va0), (3, u20), (4, (.bool x15.2)), (6, u56), (7, (.bool x51.2)), (8, (.int .i64 x129.1))]) ⟨rfl, rfl, rfl, rfl, rfl, rfl, trivial⟩
          refine e_then ?_
          refine wp_seq ?_
          refine wp_seq ?_
          refine wp_region_lit ?_
          refine op_g ha rfl (g_move rfl) ?_; clear ha a; intro a ha
          refine op_g ha rfl (g_lss rfl rfl) ?_; clear ha a; intro a ha
          refine op_g ha rfl (g_move rfl) ?_; clear ha a; intro a ha
          by_cases hp150 : x129.1 < 0
          · replace hF := if_t hp150 hF
            rw [show (decide (x129.1 < 0)) = true from (decide_eq_true_iff).2 hp150] at ha
            refine op_unwant ha rfl (yields ha rfl rfl) rfl ?_; clear ha a; intro a ha
            refine op_unwant ha rfl (yields ha rfl rfl) rfl ?_; clear ha a; intro a ha
            refine op_unwant ha rfl (yields ha rfl rfl) rfl ?_; clear ha a; intro a ha
            refine op_unwant ha rfl (yields ha rfl rfl) rfl ?_; clear ha a; intro a ha
            refine op_g ha rfl (g_pick rfl rfl) ?_; clear ha a; intro a ha
            refine op_g ha rfl (g_move rfl) ?_; clear ha a; intro a ha
            refine op_unwant ha rfl (yields ha rfl rfl) rfl ?_; clear ha a; intro a ha
            refine op_unwant ha rfl (yields ha rfl rfl) rfl ?_; clear ha a; intro a ha
            refine op_unwant ha rfl (yields ha rfl rfl) rfl ?_; clear ha a; intro a ha
            refine op_g ha rfl (g_pick rfl rfl) ?_; clear ha a; intro a ha
            refine wpList_nil ?_
            replace ha := ha.sub (σ' := [(0, va0), (3, u20), (4, (.bool x15.2)), (6, u56), (58, (.bool true))]) ⟨rfl, rfl, rfl, rfl, rfl, trivial⟩
            refine e_then ?_
            refine c_true ha rfl ?_
            refine wp_seq ?_
            refine wp_region_lit ?_
            refine op_g ha rfl (g_assign rfl) ?_; clear ha a; intro a ha
            refine wpList_nil ?_
            replace ha := ha.sub (σ' := [(2, (.bool false))]) ⟨rfl, trivial⟩
            refine e_then ?_
            refine wp_ret ?_
            refine e_then_ret ?_
            obtain rfl := Option.some.inj hF
            exact f_ret1 ha rfl rfl ⟨rfl, hE136⟩
          · replace hF := if_f hp150 hF
            rw [show (decide (x129.1 < 0)) = false from b_false (decide_eq_true_iff) hp150] at ha
            refine op_want (yields ha rfl rfl) ?_
            refine op_g ha rfl (g_move rfl) ?_; clear ha a; intro a ha
            refine op_want (yields ha rfl rfl) ?_
            refine op_g ha rfl (g_move rfl) ?_; clear ha a; intro a ha
            refine op_want (yields ha rfl rfl) ?_
            obtain ⟨fp151, hro152, -⟩ := h59.weak.ro
            obtain ⟨fp153, hro154, -⟩ := h23.weak.ro
            obtain ⟨x155, hc156, hF⟩ := cal_some hF
            refine o_call ha rfl rfl Try.call8 (W_laws_eqPartS hro152 hro154 hc156) ?_; clear ha a; rintro v157 w158 ⟨rfl, hx159⟩ a ha
            replace h23 := h23.ext hx159
            replace h59 := h59.ext hx159
            have hE160 := Ext.trans hE136 hx159
            refine op_want (yields ha rfl rfl) ?_
            refine op_g ha rfl (g_not rfl) ?_; clear ha a; intro a ha
            refine op_g ha rfl (g_pick rfl rfl) ?_; clear ha a; intro a ha
            refine op_g ha rfl (g_move rfl) ?_; clear ha a; intro a ha
            by_cases hp161 : ¬ (x155 = true)
            · replace hF := if_t hp161 hF
              rw [show (!x155) = true from (n_iff (Iff.rfl)).2 hp161] at ha
              refine op_unwant ha rfl (yields ha rfl rfl) rfl ?_; clear ha a; intro a ha
              refine op_unwant ha rfl (yields ha rfl rfl) rfl ?_; clear ha a; intro a ha
              refine op_unwant ha rfl (yields ha rfl rfl) rfl ?_; clear ha a; intro a ha
              refine op_g ha rfl (g_pick rfl rfl) ?_; clear ha a; intro a ha
              refine wpList_nil ?_
              replace ha := ha.sub (σ' := [(0, va0), (3, u20), (4, (.bool x15.2)), (6, u56), (58, (.bool true))]) ⟨rfl, rfl, rfl, rfl, rfl, trivial⟩
              refine e_then ?_
              refine c_true ha rfl ?_
              refine wp_seq ?_
              refine wp_region_lit ?_
              refine op_g ha rfl (g_assign rfl) ?_; clear ha a; intro a ha
              refine wpList_nil ?_
              replace ha := ha.sub (σ' := [(2, (.bool false))]) ⟨rfl, trivial⟩
              refine e_then ?_
              refine wp_ret ?_
              refine e_then_ret ?_
              obtain rfl := Option.some.inj hF
              exact f_ret1 ha rfl rfl ⟨rfl, hE160⟩
            · replace hF := if_f hp161 hF
              rw [show (!x155) = false from b_false (n_iff (Iff.rfl)) hp161] at ha
              refine op_want (yields ha rfl rfl) ?_
              refine op_g ha rfl (g_move rfl) ?_; clear ha a; intro a ha
              refine op_want (yields ha rfl rfl) ?_
              refine op_g ha rfl (g_move rfl) ?_; clear ha a; intro a ha
              refine op_want (yields ha rfl rfl) ?_
              refine op_g ha rfl (gB_neq un4 rfl rfl) ?_; clear ha a; intro a ha
              refine op_g ha rfl (g_pick rfl rfl) ?_; clear ha a; intro a ha
              refine wpList_nil ?_
              replace ha := ha.sub (σ' := [(0, va0), (3, u20), (4, (.bool x15.2)), (6, u56), (58, (.bool (x51.2 != x15.2)))]) ⟨rfl, rfl, rfl, rfl, rfl, trivial⟩
              refine e_then ?_
              refine c_cond ((x51.2 != x15.2) = true) ha rfl (Iff.rfl) (fun hp162 => ?_) (fun hp162 => ?_)
              · replace hF := if_t hp162 hF
                refine wp_seq ?_
                refine wp_region_lit ?_
                refine op_g ha rfl (g_assign rfl) ?_; clear ha a; intro a ha
                refine wpList_nil ?_
                replace ha := ha.sub (σ' := [(2, (.bool false))]) ⟨rfl, trivial⟩
                refine e_then ?_
                refine wp_ret ?_
                refine e_then_ret ?_
                obtain rfl := Option.some.inj hF
                exact f_ret1 ha rfl rfl ⟨rfl, hE160⟩
              · replace hF := if_f hp162 hF
                refine wp_skip ?_
                refine e_then ?_
                refine wp_seq ?_
                refine wp_region_lit ?_
                refine op_g ha rfl (g_assign rfl) ?_; clear ha a; intro a ha
                refine wpList_nil ?_
                replace ha := ha.sub (σ' := [(0, va0), (3, u20), (4, (.bool x15.2)), (6, u56), (9, (.int .i64 1))]) ⟨rfl, rfl, rfl, rfl, rfl, trivial⟩
                refine e_then ?_
                refine wp_seq ?_
                refine wp_region_lit ?_
                refine op_g ha rfl (g_move rfl) ?_; clear ha a; intro a ha
                refine op_g ha rfl (g_move rfl) ?_; clear ha a; intro a ha
                obtain ⟨x163, hc164, hF⟩ := cal_some hF
                refine o_call ha rfl rfl Try.call11 (W_laws_markPartS h59 nd64 (show InI 1 from by decide) hc164) ?_; clear ha a; rintro v165 w166 ⟨⟨rfl, hI168⟩, h169, hx167⟩ a ha
                replace h23 := h23.off hx167 (Off.nest q65 q69)
                have hE170 := Chg.join hE160 hx167 (S2.nest q73 q74)
                refine op_g ha rfl (g_assign rfl) ?_; clear ha a; intro a ha
                refine wpList_nil ?_
                replace ha := ha.sub (σ' := [(0, va0), (3, u20), (4, (.bool x15.2)), (6, u56), (9, (.int .i64 x163.1))]) ⟨rfl, rfl, rfl, rfl, rfl, trivial⟩
                refine e_then ?_
                refine wp_seq ?_
                refine wp_region_lit ?_
                refine op_g ha rfl (g_assign rfl) ?_; clear ha a; intro a ha
                refine wpList_nil ?_
                replace ha := ha.sub (σ' := [(0, va0), (3, u20), (4, (.bool x15.2)), (6, u56), (9, (.int .i64 x163.1)), (10, (.int .i64 1))]) ⟨rfl, rfl, rfl, rfl, rfl, rfl, trivial⟩
                refine e_then ?_
                refine wp_seq ?_
                refine wp_region_lit ?_
                refine op_g ha rfl (g_move rfl) ?_; clear ha a; intro a ha
                refine op_g ha rfl (g_move rfl) ?_; clear ha a; intro a ha
                obtain ⟨fp171, hro172, -⟩ := h169.weak.ro
                obtain ⟨x173, hc174, hF⟩ := cal_some hF
                refine o_call ha rfl rfl Try.call12 (W_laws_heldPartS hro172 (show InI 1 from by decide) hc174) ?_; clear ha a; rintro v175 w176 ⟨⟨rfl, hI178⟩, hx177⟩ a ha
                replace h23 := h23.ext hx177
                replace h169 := h169.ext hx177
                have hE179 := Ext.trans hE170 hx177
                refine op_g ha rfl (g_assign rfl) ?_; clear ha a; intro a ha
                refine wpList_nil ?_
                replace ha := ha.sub (σ' := [(0, va0), (3, u20), (4, (.bool x15.2)), (6, u56), (9, (.int .i64 x163.1)), (10, (.int .i64 x173))]) ⟨rfl, rfl, rfl, rfl, rfl, rfl, trivial⟩
                refine e_then ?_
                refine wp_seq ?_
                refine wp_seq ?_
                refine wp_region_lit ?_
                refine op_g ha rfl (g_move rfl) ?_; clear ha a; intro a ha
                refine op_g ha rfl (g_lss rfl rfl) ?_; clear ha a; intro a ha
                refine wpList_nil ?_
                replace ha := ha.sub (σ' := [(0, va0), (3, u20), (4, (.bool x15.2)), (6, u56), (9, (.int .i64 x163.1)), (10, (.int .i64 x173)), (66, (.bool (decide (x173 < 0))))]) ⟨rfl, rfl, rfl, rfl, rfl, rfl, rfl, trivial⟩
                refine e_then ?_
                refine c_cond (x173 < 0) ha rfl (decide_eq_true_iff) (fun hp180 => ?_) (fun hp180 => ?_)
                · replace hF := if_t hp180 hF
                  refine wp_seq ?_
                  refine wp_region_lit ?_
                  refine op_g ha rfl (g_assign rfl) ?_; clear ha a; intro a ha
                  refine wpList_nil ?_
                  replace ha := ha.sub (σ' := [(2, (.bool false))]) ⟨rfl, trivial⟩
                  refine e_then ?_
                  refine wp_ret ?_
                  refine e_then_ret ?_
                  obtain rfl := Option.some.inj hF
                  exact f_ret1 ha rfl rfl ⟨rfl, hE179⟩
                · replace hF := if_f hp180 hF
                  refine wp_skip ?_
                  refine e_then ?_
                  refine wp_seq ?_
                  refine wp_seq ?_
                  refine wp_region_lit ?_
                  refine op_g ha rfl (g_move rfl) ?_; clear ha a; intro a ha
                  refine op_g ha rfl (g_move rfl) ?_; clear ha a; intro a ha
                  refine op_g ha rfl (g_neq rfl rfl) ?_; clear ha a; intro a ha
                  refine wpList_nil ?_
                  replace ha := ha.sub (σ' := [(0, va0), (3, u20), (4, (.bool x15.2)), (6, u56), (9, (.int .i64 x163.1)), (69, (.bool (decide (x173 ≠ x163.1))))]) ⟨rfl, rfl, rfl, rfl, rfl, rfl, trivial⟩
                  refine e_then ?_
                  refine c_cond (x173 ≠ x163.1) ha rfl (decide_eq_true_iff) (fun hp181 => ?_) (fun hp181 => ?_)
                  · replace hF := if_t hp181 hF
                    refine wp_seq ?_
                    refine wp_region_lit ?_
                    refine op_g ha rfl (g_assign rfl) ?_; clear ha a; intro a ha
                    refine wpList_nil ?_
                    replace ha := ha.sub (σ' := [(2, (.bool false))]) ⟨rfl, trivial⟩
                    refine e_then ?_
                    refine wp_ret ?_
                    refine e_then_ret ?_
                    obtain rfl := Option.some.inj hF
                    exact f_ret1 ha rfl rfl ⟨rfl, hE179⟩
                  · replace hF := if_f hp181 hF
                    refine wp_skip ?_
                    refine e_then ?_
                    refine wp_seq ?_
                    refine wp_region_lit ?_
                    refine op_g ha rfl (g_move rfl) ?_; clear ha a; intro a ha
                    obtain ⟨x182, hc183, hF⟩ := cal_some hF
                    refine o_call ha rfl rfl Try.call6 (W_laws_toInt64S (ha0.ext hE179) hc183) ?_; clear ha a; rintro v184 w185 ⟨b187, h188, z189, hx186⟩ a ha
                    have q191 := Nq.new h23.fpb z189
                    have q192 := Nq.madeO z189 h23.blt
                    have q193 := Nq.new h169.fpb z189
                    have q194 := Nq.madeO z189 h169.blt
                    have q195 := Nf.old z189 (zf_nil _) h23.bnd
                    have q196 := Nf.old z189 (zf_nil _) h169.bnd
                    replace h23 := h23.ext hx186
                    replace h169 := h169.ext hx186
                    have hE197 := Ext.trans hE179 hx186
                    have q198 := Zn.upD z189 hE179
                    obtain ⟨fp199, hro200, -⟩ := h188.weak.ro
                    obtain ⟨x201, hc202, hF⟩ := cal_some hF
                    refine o_call ha rfl rfl Try.call7 (W_impl_NumsParts hro200 hc202) ?_; clear ha a; rintro v203 w204 ⟨u206, u207, b208, fs212, rfl, h209, z210, zf213, nd214, rfl, hx205⟩ a ha
                    have q215 := Nq.new h23.fpb z210
                    have q216 := Nq.madeF z210 zf213 h23.blt
                    have q217 := Nq.new h169.fpb z210
                    have q218 := Nq.madeF z210 zf213 h169.blt
                    have q219 := Nq.new h188.fpb z210
                    have q220 := Nq.madeF z210 zf213 h188.blt
                    have q221 := Nf.new h23.fpb zf213
                    have q222 := Nf.old z210 zf213 h23.bnd
                    have q223 := Nf.new h169.fpb zf213
                    have q224 := Nf.old z210 zf213 h169.bnd
                    have q225 := Nf.new h188.fpb zf213
                    replace h23 := h23.ext hx205
                    replace h169 := h169.ext hx205
                    replace h188 := h188.ext hx205
                    have hE226 := Ext.trans hE197 hx205
                    have q227 := Zn.upD z210 hE197
                    have q228 := zf_up zf213 hE197
                    refine op_g ha rfl (g_move rfl) ?_; clear ha a; intro a ha
                    refine op_g ha rfl (g_extract rfl rfl) ?_; clear ha a; intro a ha
                    refine op_g ha rfl (g_extract rfl rfl) ?_; clear ha a; intro a ha
                    refine op_g ha rfl (g_assign rfl) ?_; clear ha a; intro a ha
                    refine op_g ha rfl (g_assign rfl) ?_; clear ha a; intro a ha
                    refine wpList_nil ?_
                    replace ha := ha.sub (σ' := [(3, u20), (4, (.bool x15.2)), (6, u56), (9, (.int .i64 x163.1)), (11, u206), (12, (.bool x201.2))]) ⟨rfl, rfl, rfl, rfl, rfl, rfl, trivial⟩
                    refine e_then ?_
                    refine wp_seq ?_
                    refine wp_seq ?_
                    refine wp_region_lit ?_
                    refine op_g ha rfl (g_move rfl) ?_; clear ha a; intro a ha
                    refine op_g ha rfl (g_move rfl) ?_; clear ha a; intro a ha
                    obtain ⟨fp241, hro242, -⟩ := h209.weak.ro
                    obtain ⟨fp243, hro244, -⟩ := h23.weak.ro
                    obtain ⟨x245, hc246, hF⟩ := cal_some hF
                    refine o_call ha rfl rfl Try.call8 (W_laws_eqPartS hro242 hro244 hc246) ?_; clear ha a; rintro v247 w248 ⟨rfl, hx249⟩ a ha
                    replace h23 := h23.ext hx249
                    replace h169 := h169.ext hx249
                    replace h209 := h209.ext hx249
                    have hE250 := Ext.trans hE226 hx249
                    refine op_g ha rfl (g_not rfl) ?_; clear ha a; intro a ha
                    refine op_g ha rfl (g_move rfl) ?_; clear ha a; intro a ha
                    by_cases hp251 : ¬ (x245 = true)
                    · replace hF := if_t hp251 hF
                      rw [show (!x245) = true from (n_iff (Iff.rfl)).2 hp251] at ha
                      refine op_unwant ha rfl (yields ha rfl rfl) rfl ?_; clear ha a; intro a ha
                      refine op_unwant ha rfl (yields ha rfl rfl) rfl ?_; clear ha a; intro a ha
                      refine op_unwant ha rfl (yields ha rfl rfl) rfl ?_; clear ha a; intro a ha
                      refine op_g ha rfl (g_pick rfl rfl) ?_; clear ha a; intro a ha
                      refine wpList_nil ?_
                      replace ha := ha.sub (σ' := [(6, u56), (9, (.int .i64 x163.1)), (84, (.bool true))]) ⟨rfl, rfl, rfl, trivial⟩
                      refine e_then ?_
                      refine c_true ha rfl ?_
                      refine wp_seq ?_
                      refine wp_region_lit ?_
                      refine op_g ha rfl (g_assign rfl) ?_; clear ha a; intro a ha
                      refine wpList_nil ?_
                      replace ha := ha.sub (σ' := [(2, (.bool false))]) ⟨rfl, trivial⟩
                      refine e_then ?_
                      refine wp_ret ?_
                      refine e_then_ret ?_
                      obtain rfl := Option.some.inj hF
                      exact f_ret1 ha rfl rfl ⟨rfl, hE250⟩
                    · replace hF := if_f hp251 hF
                      rw [show (!x245) = false from b_false (n_iff (Iff.rfl)) hp251] at ha
                      refine op_want (yields ha rfl rfl) ?_
                      refine op_g ha rfl (g_move rfl) ?_; clear ha a; intro a ha
                      refine op_want (yields ha rfl rfl) ?_
                      refine op_g ha rfl (g_move rfl) ?_; clear ha a; intro a ha
                      refine op_want (yields ha rfl rfl) ?_
                      refine op_g ha rfl (gB_neq un4 rfl rfl) ?_; clear ha a; intro a ha
                      refine op_g ha rfl (g_pick rfl rfl) ?_; clear ha a; intro a ha
                      refine wpList_nil ?_
                      replace ha := ha.sub (σ' := [(6, u56), (9, (.int .i64 x163.1)), (84, (.bool (x201.2 != x15.2)))]) ⟨rfl, rfl, rfl, trivial⟩
                      refine e_then ?_
                      refine c_cond ((x201.2 != x15.2) = true) ha rfl (Iff.rfl) (fun hp252 => ?_) (fun hp252 => ?_)
                      · replace hF := if_t hp252 hF
                        refine wp_seq ?_
                        refine wp_region_lit ?_
                        refine op_g ha rfl (g_assign rfl) ?_; clear ha a; intro a ha
                        refine wpList_nil ?_
                        replace ha := ha.sub (σ' := [(2, (.bool false))]) ⟨rfl, trivial⟩
                        refine e_then ?_
                        refine wp_ret ?_
                        refine e_then_ret ?_
                        obtain rfl := Option.some.inj hF
                        exact f_ret1 ha rfl rfl ⟨rfl, hE250⟩
                      · replace hF := if_f hp252 hF
                        refine wp_skip ?_
                        refine e_then ?_
                        refine wp_seq ?_
                        refine wp_region_lit ?_
                        refine op_g ha rfl (g_assign rfl) ?_; clear ha a; intro a ha
                        refine wpList_nil ?_
                        replace ha := ha.sub (σ' := [(6, u56), (9, (.int .i64 x163.1)), (10, (.int .i64 1))]) ⟨rfl, rfl, rfl, trivial⟩
                        refine e_then ?_
                        refine wp_seq ?_
                        refine wp_region_lit ?_
                        refine op_g ha rfl (g_move rfl) ?_; clear ha a; intro a ha
                        refine op_g ha rfl (g_move rfl) ?_; clear ha a; intro a ha
                        obtain ⟨fp253, hro254, -⟩ := h169.weak.ro
                        obtain ⟨x255, hc256, hF⟩ := cal_some hF
                        refine o_call ha rfl rfl Try.call12 (W_laws_heldPartS hro254 (show InI 1 from by decide) hc256) ?_; clear ha a; rintro v257 w258 ⟨⟨rfl, hI260⟩, hx259⟩ a ha
                        replace h169 := h169.ext hx259
                        have hE261 := Ext.trans hE250 hx259
                        refine op_g ha rfl (g_assign rfl) ?_; clear ha a; intro a ha
                        refine wpList_nil ?_
                        replace ha := ha.sub (σ' := [(9, (.int .i64 x163.1)), (10, (.int .i64 x255))]) ⟨rfl, rfl, trivial⟩
                        refine e_then ?_
                        refine wp_seq ?_
                        refine wp_seq ?_
                        refine wp_region_lit ?_
                        refine op_g ha rfl (g_move rfl) ?_; clear ha a; intro a ha
                        refine op_g ha rfl (g_lss rfl rfl) ?_; clear ha a; intro a ha
                        refine wpList_nil ?_
                        replace ha := ha.sub (σ' := [(9, (.int .i64 x163.1)), (10, (.int .i64 x255)), (89, (.bool (decide (x255 < 0))))]) ⟨rfl, rfl, rfl, trivial⟩
                        refine e_then ?_
                        refine c_cond (x255 < 0) ha rfl (decide_eq_true_iff) (fun hp262 => ?_) (fun hp262 => ?_)
                        · replace hF := if_t hp262 hF
                          refine wp_seq ?_
                          refine wp_region_lit ?_
                          refine op_g ha rfl (g_assign rfl) ?_; clear ha a; intro a ha
                          refine wpList_nil ?_
                          replace ha := ha.sub (σ' := [(2, (.bool false))]) ⟨rfl, trivial⟩
                          refine e_then ?_
                          refine wp_ret ?_
                          refine e_then_ret ?_
                          obtain rfl := Option.some.inj hF
                          exact f_ret1 ha rfl rfl ⟨rfl, hE261⟩
                        · replace hF := if_f hp262 hF
                          refine wp_skip ?_
                          refine e_then ?_
                          refine wp_seq ?_
                          refine wp_seq ?_
                          refine wp_region_lit ?_
                          refine op_g ha rfl (g_move rfl) ?_; clear ha a; intro a ha
                          refine op_g ha rfl (g_move rfl) ?_; clear ha a; intro a ha
                          refine op_g ha rfl (g_neq rfl rfl) ?_; clear ha a; intro a ha
                          refine wpList_nil ?_
                          replace ha := ha.sub (σ' := [(92, (.bool (decide (x255 ≠ x163.1))))]) ⟨rfl, trivial⟩
                          refine e_then ?_
                          refine c_cond (x255 ≠ x163.1) ha rfl (decide_eq_true_iff) (fun hp263 => ?_) (fun hp263 => ?_)
                          · replace hF := if_t hp263 hF
                            refine wp_seq ?_
                            refine wp_region_lit ?_
                            refine op_g ha rfl (g_assign rfl) ?_; clear ha a; intro a ha
                            refine wpList_nil ?_
                            replace ha := ha.sub (σ' := [(2, (.bool false))]) ⟨rfl, trivial⟩
                            refine e_then ?_
                            refine wp_ret ?_
                            refine e_then_ret ?_
                            obtain rfl := Option.some.inj hF
                            exact f_ret1 ha rfl rfl ⟨rfl, hE261⟩
                          · replace hF := if_f hp263 hF
                            refine wp_skip ?_
                            refine e_then ?_
                            refine wp_seq ?_
                            refine wp_region_lit ?_
                            refine op_g ha rfl (g_assign rfl) ?_; clear ha a; intro a ha
                            refine wpList_nil ?_
                            replace ha := ha.sub (σ' := [(2, (.bool true))]) ⟨rfl, trivial⟩
                            refine e_then ?_
                            refine wp_ret ?_
                            obtain rfl := Option.some.inj hF
                            exact f_ret1 ha rfl rfl ⟨rfl, hE261⟩
end Go.Proofs.Ytgikmgceiiahpaa
