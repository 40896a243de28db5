/- Walks, printed by gen.py. -/
import Derived.Test.YtgikmgceiiahpaaF
import Derived.Test.YtgikmgceiiahpaaW1
import Derived.Test.YtgikmgceiiahpaaProg
import Derived.KernelRfl
set_option maxRecDepth 100000
namespace Go.Proofs.Ytgikmgceiiahpaa
open Go Go.RowKit

set_option maxHeartbeats 2000000 in
theorem W_impl_maskOf {W : World} {va0 : Value} {fa0 : List Nat} {a0 : (List Int)} (ha0 : Ro Rp.int W fa0 va0 a0) {r : (BitVec 32)} (hF : F_impl_maskOf a0 = some r) :
    Calls Try.prog 33 [va0].toArray W (Ret fun u w' => u = .int .u32 (BitVec.toNat r : Int) ∧ Ext W w') := by
  refine f_enter Try.func33 rfl Try.ntmps33 rfl ?_
  intro a ha
  replace ha : Fr 18 [(0, va0)] a := ha
  have hE : Chg [] W W := Chg.refl _ _
  unfold F_impl_maskOf at hF
  refine wp_seq ?_
  refine wp_region_lit ?_
  refine op_g ha rfl (g_assign rfl) ?_; clear ha a; intro a ha
  refine wpList_nil ?_
  replace ha := ha.sub (σ' := [(0, va0)]) ⟨rfl, trivial⟩
  refine e_then ?_
  refine wp_seq ?_
  refine wp_region_lit ?_
  refine op_g ha rfl (g_assign rfl) ?_; clear ha a; intro a ha
  refine wpList_nil ?_
  refine e_then ?_
  refine wp_seq ?_
  refine wp_seq ?_
  refine wp_region_lit ?_
  refine op_g ha rfl (g_move rfl) ?_; clear ha a; intro a ha
  refine op_g ha rfl (g_lenR sl22.und ha0 rfl) ?_; clear ha a; intro a ha
  refine op_g ha rfl (g_move rfl) ?_; clear ha a; intro a ha
  refine wpList_nil ?_
  replace ha := ha.sub (σ' := [(3, (.int .u32 (BitVec.toNat (0#32) : Int))), (6, va0), (7, (.int .i64 (a0.length : Int))), (8, (.int .i64 0))]) ⟨rfl, rfl, rfl, rfl, trivial⟩
  refine e_then ?_
  obtain ⟨o60, ho61, hK62⟩ := bnd_some hF
  obtain ⟨n63, hn64⟩ := lp_some ho61; clear ho61
  refine c_loop (fun a w => ∃ (u59 : BitVec 32), Fr 18 [(3, (.int .u32 (BitVec.toNat u59 : Int)))] a ∧ Chg [] W w ∧ o60 = .inl u59) (fun n a w => ∃ (u29 : BitVec 32) (i30 : Int), Fr 18 [(3, (.int .u32 (BitVec.toNat u29 : Int))), (6, va0), (7, (.int .i64 (a0.length : Int))), (8, (.int .i64 i30))] a ∧ Chg [] W w ∧ InI i30 ∧ lpN (fun s => F_impl_maskOf_l1 a0 s.1 s.2) n (u29, i30) = some o60) n63 ⟨0#32, 0, ha.sub ⟨rfl, rfl, rfl, rfl, trivial⟩, hE, (show InI 0 from by decide), hn64⟩ ?_ ?_
  · rintro m68 a w28 ⟨u29, i30, ha, hE32, hI31, hF⟩
    cases m68 with
    | zero => exact (lpN_zero hF).elim
    | succ m68 =>
      obtain ⟨z67, hF, hN66⟩ := lpN_succ hF
      have hF : F_impl_maskOf_l1 a0 u29 i30 = some z67 := hF; unfold F_impl_maskOf_l1 at hF
      refine wp_seq ?_
      refine wp_region_lit ?_
      refine op_g ha rfl (g_lss rfl rfl) ?_; clear ha a; intro a ha
      refine wpList_nil ?_
      replace ha := ha.sub (σ' := [(3, (.int .u32 (BitVec.toNat u29 : Int))), (6, va0), (7, (.int .i64 (a0.length : Int))), (8, (.int .i64 i30)), (9, (.bool (decide (i30 < (a0.length : Int)))))]) ⟨rfl, rfl, rfl, rfl, rfl, trivial⟩
      refine e_then ?_
      refine wp_seq ?_
      refine c_cond (i30 < (a0.length : Int)) ha rfl (decide_eq_true_iff) (fun hp69 => ?_) (fun hp69 => ?_)
      · replace hF := if_t hp69 hF
        refine wp_skip ?_
        refine e_then ?_
        refine wp_seq ?_
        refine wp_block ?_
        refine wp_seq ?_
        refine wp_region_lit ?_
        obtain ⟨x70, g71, gx72, hF⟩ := idx_some hF
        obtain ⟨p73, cs74, f75, hf76, hpb77, hat78, hr79, hi80⟩ := ha0.at g71 gx72
        obtain ⟨rfl, hI81, rfl⟩ := hr79
        refine op_g ha rfl (hi80.gives sl22 rfl rfl) ?_; clear ha a; intro a ha
        refine op_g ha rfl (g_load0 hE32 Try.isAgg2 rfl hat78.one) ?_; clear ha a; intro a ha
        refine op_g ha rfl (g_assign rfl) ?_; clear ha a; intro a ha
        refine wpList_nil ?_
        replace ha := ha.sub (σ' := [(3, (.int .u32 (BitVec.toNat u29 : Int))), (5, (.int .i64 x70)), (6, va0), (7, (.int .i64 (a0.length : Int))), (8, (.int .i64 i30))]) ⟨rfl, rfl, rfl, rfl, rfl, trivial⟩
        refine e_then ?_
        refine wp_region_lit ?_
        refine op_g ha rfl (g_move rfl) ?_; clear ha a; intro a ha
        refine op_g ha rfl (g_move rfl) ?_; clear ha a; intro a ha
        obtain ⟨x82, hc83, hF⟩ := cal_some hF
        refine o_call ha rfl rfl Try.call41 (W_impl_one hI81 hc83) ?_; clear ha a; rintro v84 w85 ⟨rfl, hx86⟩ a ha
        have hE87 := Ext.trans hE32 hx86
        refine op_g ha rfl (g32_or (m := u29) (n := x82) rfl rfl) ?_; clear ha a; intro a ha
        refine op_g ha rfl (g_assign rfl) ?_; clear ha a; intro a ha
        refine wpList_nil ?_
        replace ha := ha.sub (σ' := [(3, (.int .u32 (BitVec.toNat (u29 ||| x82) : Int))), (6, va0), (7, (.int .i64 (a0.length : Int))), (8, (.int .i64 i30))]) ⟨rfl, rfl, rfl, rfl, trivial⟩
        refine e_blk ?_
        refine e_then ?_
        refine wp_region_lit ?_
        obtain ⟨hI88, hF⟩ := ck_some hF
        refine op_g ha rfl (g_add rfl rfl hI88) ?_; clear ha a; intro a ha
        refine op_g ha rfl (g_move rfl) ?_; clear ha a; intro a ha
        refine wpList_nil ?_
        replace ha := ha.sub (σ' := [(3, (.int .u32 (BitVec.toNat (u29 ||| x82) : Int))), (6, va0), (7, (.int .i64 (a0.length : Int))), (8, (.int .i64 (i30 + 1)))]) ⟨rfl, rfl, rfl, rfl, trivial⟩
        refine e_lq ?_
        obtain rfl := Option.some.inj hF
        exact ⟨_, Nat.lt_succ_self _, u29 ||| x82, i30 + 1, ha.sub ⟨rfl, rfl, rfl, rfl, trivial⟩, hE87, hI88, hN66⟩
      · replace hF := if_f hp69 hF
        refine wp_exit ?_
        refine e_then_exit ?_
        refine e_lq_eq ?_
        obtain rfl := Option.some.inj hF
        exact ⟨u29, ha.sub ⟨rfl, trivial⟩, hE32, (LK_inr hN66).symm⟩
  · rintro a w58 ⟨u59, ha, hE65, rfl⟩
    have hF : F_impl_maskOf_k2 u59 = some _ := hK62; clear hK62; unfold F_impl_maskOf_k2 at hF
    refine e_then ?_
    refine wp_seq ?_
    refine wp_region_lit ?_
    refine op_g ha rfl (g_move rfl) ?_; clear ha a; intro a ha
    refine op_g ha rfl (g_assign rfl) ?_; clear ha a; intro a ha
    refine wpList_nil ?_
    replace ha := ha.sub (σ' := [(2, (.int .u32 (BitVec.toNat u59 : Int)))]) ⟨rfl, trivial⟩
    refine e_then ?_
    refine wp_ret ?_
    obtain rfl := Option.some.inj hF
    exact f_ret1 ha rfl rfl ⟨rfl, hE65⟩
set_option maxHeartbeats 2000000 in
theorem W_impl_MatchOk {W : World} {va0_0 : Value} {fa0_0 : List Nat} {a0_0 : (List (List Int))} (ha0_0 : Ro (Rp.sl 2 Rp.int) W fa0_0 va0_0 a0_0) {va1 : Value} {fa1 : List Nat} {a1 : (List (List Int))} (ha1 : Ro (Rp.sl 2 Rp.int) W fa1 va1 a1) {r : Bool} (hF : F_impl_MatchOk a0_0 a1 = some r) :
    Calls Try.prog 18 [.agg #[va0_0], va1].toArray W (Ret fun u w' => u = .bool r ∧ Ext W w') := by
  refine f_enter Try.func18 rfl Try.ntmps18 rfl ?_
  intro a ha
  replace ha : Fr 51 [(0, (.agg #[va0_0])), (1, va1)] a := ha
  have hE : Chg [] W W := Chg.refl _ _
  unfold F_impl_MatchOk at hF
  refine wp_seq ?_
  refine wp_region_lit ?_
  refine o_box ha rfl rfl rfl ?_; clear ha a; intro b1 w2 hB3 hx4 hlo5 a ha
  have q6 := Zn.one hlo5
  have q7 := Zn.upD q6 hE
  have hE8 := Ext.trans hE hx4
  refine op_g ha rfl (g_assign rfl) ?_; clear ha a; intro a ha
  refine wpList_nil ?_
  replace ha := ha.sub (σ' := [(1, va1), (2, (.pointer (some ⟨b1, 0, none⟩)))]) ⟨rfl, rfl, trivial⟩
  refine e_then ?_
  refine wp_seq ?_
  refine wp_seq ?_
  refine wp_region_lit ?_
  refine op_g ha rfl (g_loadA (cs := [va0_0]) Try.isAgg38 Try.sizeOf38 rfl (by simp) hB3.all) ?_; clear ha a; intro a ha
  obtain ⟨x9, hc10, hF⟩ := cal_some hF
  refine o_call ha rfl rfl Try.call31 (W_impl_GraphOk (ha0_0.ext hE8) hc10) ?_; clear ha a; rintro v11 w12 ⟨rfl, hx13⟩ a ha
  replace hB3 := hB3.ext hx13
  have hE14 := Ext.trans hE8 hx13
  refine op_g ha rfl (g_not rfl) ?_; clear ha a; intro a ha
  refine wpList_nil ?_
  replace ha := ha.sub (σ' := [(1, va1), (2, (.pointer (some ⟨b1, 0, none⟩))), (10, (.bool (!x9)))]) ⟨rfl, rfl, rfl, trivial⟩
  refine e_then ?_
  refine c_cond (¬ (x9 = true)) ha rfl (n_iff (Iff.rfl)) (fun hp15 => ?_) (fun hp15 => ?_)
  · replace hF := if_t hp15 hF
    refine wp_seq ?_
    refine wp_region_lit ?_
    refine op_g ha rfl (g_assign rfl) ?_; clear ha a; intro a ha
    refine wpList_nil ?_
    replace ha := ha.sub (σ' := [(4, (.bool false))]) ⟨rfl, trivial⟩
    refine e_then ?_
    refine wp_ret ?_
    refine e_then_ret ?_
    obtain rfl := Option.some.inj hF
    exact f_ret1 ha rfl rfl ⟨rfl, hE14⟩
  · replace hF := if_f hp15 hF
    refine wp_skip ?_
    refine e_then ?_
    refine wp_seq ?_
    refine wp_region_lit ?_
    refine op_g ha rfl (g_assign rfl) ?_; clear ha a; intro a ha
    refine wpList_nil ?_
    replace ha := ha.sub (σ' := [(1, va1), (2, (.pointer (some ⟨b1, 0, none⟩))), (5, (.int .u32 (BitVec.toNat (0#32) : Int)))]) ⟨rfl, rfl, rfl, trivial⟩
    refine e_then ?_
    refine wp_seq ?_
    refine wp_seq ?_
    refine wp_region_lit ?_
    refine op_g ha rfl (g_move rfl) ?_; clear ha a; intro a ha
    refine op_g ha rfl (g_lenR sl32.und ha1 rfl) ?_; clear ha a; intro a ha
    refine op_g ha rfl (g_move rfl) ?_; clear ha a; intro a ha
    refine wpList_nil ?_
    replace ha := ha.sub (σ' := [(1, va1), (2, (.pointer (some ⟨b1, 0, none⟩))), (5, (.int .u32 (BitVec.toNat (0#32) : Int))), (11, va1), (12, (.int .i64 (a1.length : Int))), (13, (.int .i64 0))]) ⟨rfl, rfl, rfl, rfl, rfl, rfl, trivial⟩
    refine e_then ?_
    obtain ⟨o230, ho231, hK232⟩ := bnd_some hF
    obtain ⟨n233, hn234⟩ := lp_some ho231; clear ho231
    refine c_loop (fun a w => Fr 51 [] a ∧ Chg [] W w ∧ o230 = .inl ()) (fun n a w => ∃ (u124 : BitVec 32) (i125 : Int), Fr 51 [(1, va1), (2, (.pointer (some ⟨b1, 0, none⟩))), (5, (.int .u32 (BitVec.toNat u124 : Int))), (11, va1), (12, (.int .i64 (a1.length : Int))), (13, (.int .i64 i125))] a ∧ Chg [] W w ∧ InI i125 ∧ Bx w b1 [va0_0] 38 ∧ Zn W (b1 : Int) ∧ lpN (fun s => F_impl_MatchOk_l1 a0_0 a1 s.1 s.2) n (u124, i125) = some o230) n233 ⟨0#32, 0, ha.sub ⟨rfl, rfl, rfl, rfl, rfl, rfl, trivial⟩, hE14, (show InI 0 from by decide), hB3, q7, hn234⟩ ?_ ?_
    · rintro m238 a w121 ⟨u124, i125, ha, hE127, hI126, hB122, z123, hF⟩
      cases m238 with
      | zero => exact (lpN_zero hF).elim
      | succ m238 =>
        obtain ⟨z237, hF, hN236⟩ := lpN_succ hF
        have hF : F_impl_MatchOk_l1 a0_0 a1 u124 i125 = some z237 := hF; unfold F_impl_MatchOk_l1 at hF
        refine wp_seq ?_
        refine wp_region_lit ?_
        refine op_g ha rfl (g_lss rfl rfl) ?_; clear ha a; intro a ha
        refine wpList_nil ?_
        replace ha := ha.sub (σ' := [(1, va1), (2, (.pointer (some ⟨b1, 0, none⟩))), (5, (.int .u32 (BitVec.toNat u124 : Int))), (11, va1), (12, (.int .i64 (a1.length : Int))), (13, (.int .i64 i125)), (14, (.bool (decide (i125 < (a1.length : Int)))))]) ⟨rfl, rfl, rfl, rfl, rfl, rfl, rfl, trivial⟩
        refine e_then ?_
        refine wp_seq ?_
        refine c_cond (i125 < (a1.length : Int)) ha rfl (decide_eq_true_iff) (fun hp239 => ?_) (fun hp239 => ?_)
        · replace hF := if_t hp239 hF
          refine wp_skip ?_
          refine e_then ?_
          refine wp_seq ?_
          refine wp_block ?_
          refine wp_seq ?_
          refine wp_region_lit ?_
          refine op_g ha rfl (g_move rfl) ?_; clear ha a; intro a ha
          obtain ⟨x240, g241, gx242, hF⟩ := idx_some hF
          obtain ⟨p243, cs244, f245, hf246, hpb247, hat248, hr249, hi250⟩ := ha1.at g241 gx242
          obtain ⟨v251, rfl, h252⟩ := hr249
          have h252 : Ro Rp.int W f245 v251 x240 := h252
          refine op_g ha rfl (hi250.gives sl32 rfl rfl) ?_; clear ha a; intro a ha
          refine op_g ha rfl (g_load0 hE127 Try.isAgg22 rfl hat248.one) ?_; clear ha a; intro a ha
          refine op_g ha rfl (g_assign rfl) ?_; clear ha a; intro a ha
          refine op_g ha rfl (g_assign rfl) ?_; clear ha a; intro a ha
          refine wpList_nil ?_
          replace ha := ha.sub (σ' := [(1, va1), (2, (.pointer (some ⟨b1, 0, none⟩))), (5, (.int .u32 (BitVec.toNat u124 : Int))), (6, (.int .i64 i125)), (7, v251), (11, va1), (12, (.int .i64 (a1.length : Int))), (13, (.int .i64 i125))]) ⟨rfl, rfl, rfl, rfl, rfl, rfl, rfl, rfl, trivial⟩
          refine e_then ?_
          refine wp_seq ?_
          refine wp_seq ?_
          refine d_quiet hmix (by kernel_rfl) ?_
          refine q_g ha rfl (g_loadA (cs := [va0_0]) Try.isAgg38 Try.sizeOf38 rfl (by simp) hB122.all) ?_; clear ha a; intro a ha
          refine q_g ha rfl (g_move rfl) ?_; clear ha a; intro a ha
          obtain ⟨x256, hc257, hF⟩ := cal_some hF
          refine q_call (.bool x256) ha rfl rfl Try.call32 (fun w255 hx254 => W_impl_isEdge (ha0_0.ext (Ext.trans hE127 hx254)) (h252.ext (Ext.trans hE127 hx254)) hc257) (fun _ _ _ h => ⟨h.1, h.2⟩) ?_; clear ha a; intro a ha
          refine q_g ha rfl (g_not rfl) ?_; clear ha a; intro a ha
          refine q_g ha rfl (g_move rfl) ?_; clear ha a; intro a ha
          by_cases hp258 : ¬ (x256 = true)
          · replace hF := if_t hp258 hF
            rw [show (!x256) = true from (n_iff (Iff.rfl)).2 hp258] at ha
            refine q_unwant ha rfl (yields ha rfl rfl) rfl ?_; clear ha a; intro a ha
            refine q_unwant ha rfl (yields ha rfl rfl) rfl ?_; clear ha a; intro a ha
            refine q_unwant ha rfl (yields ha rfl rfl) rfl ?_; clear ha a; intro a ha
            refine q_unwant ha rfl (yields ha rfl rfl) rfl ?_; clear ha a; intro a ha
            refine q_unwant ha rfl (yields ha rfl rfl) rfl ?_; clear ha a; intro a ha
            refine q_g ha rfl (g_pick rfl rfl) ?_; clear ha a; intro a ha
            refine q_g ha rfl (g_move rfl) ?_; clear ha a; intro a ha
            refine q_unwant ha rfl (yields ha rfl rfl) rfl ?_; clear ha a; intro a ha
            refine q_unwant ha rfl (yields ha rfl rfl) rfl ?_; clear ha a; intro a ha
            refine q_unwant ha rfl (yields ha rfl rfl) rfl ?_; clear ha a; intro a ha
            refine q_unwant0 ha rfl (yields0 ha rfl rfl) ?_; clear ha a; intro a ha
            refine q_unwant0 ha rfl (yields0 ha rfl rfl) ?_; clear ha a; intro a ha
            refine q_unwant0 ha rfl (yields0 ha rfl rfl) ?_; clear ha a; intro a ha
            refine q_unwant0 ha rfl (yields0 ha rfl rfl) ?_; clear ha a; intro a ha
            refine q_unwant0 ha rfl (yields0 ha rfl rfl) ?_; clear ha a; intro a ha
            refine q_unwant0 ha rfl (yields0 ha rfl rfl) ?_; clear ha a; intro a ha
            refine q_unwant0 ha rfl (yields0 ha rfl rfl) ?_; clear ha a; intro a ha
            refine q_unwant0 ha rfl (yields0 ha rfl rfl) ?_; clear ha a; intro a ha
            refine q_unwant0 ha rfl (yields0 ha rfl rfl) ?_; clear ha a; intro a ha
            refine q_unwant0 ha rfl (yields0 ha rfl rfl) ?_; clear ha a; intro a ha
            refine q_unwant0 ha rfl (yields0 ha rfl rfl) ?_; clear ha a; intro a ha
            refine q_unwant ha rfl (yields ha rfl rfl) rfl ?_; clear ha a; intro a ha
            refine q_g ha rfl (g_pick rfl rfl) ?_; clear ha a; intro a ha
            refine q_nil ?_; intro w259 hx260
            replace hB122 := hB122.ext hx260
            have hE261 := Ext.trans hE127 hx260
            replace ha := ha.sub (σ' := [(1, va1), (2, (.pointer (some ⟨b1, 0, none⟩))), (5, (.int .u32 (BitVec.toNat u124 : Int))), (7, v251), (11, va1), (12, (.int .i64 (a1.length : Int))), (13, (.int .i64 i125)), (45, (.bool true))]) ⟨rfl, rfl, rfl, rfl, rfl, rfl, rfl, rfl, trivial⟩
            refine e_then ?_
            refine c_true ha rfl ?_
            refine wp_seq ?_
            refine wp_region_lit ?_
            refine op_g ha rfl (g_assign rfl) ?_; clear ha a; intro a ha
            refine wpList_nil ?_
            replace ha := ha.sub (σ' := [(4, (.bool false))]) ⟨rfl, trivial⟩
            refine e_then ?_
            refine wp_ret ?_
            refine e_then_ret ?_
            refine e_blk_ret ?_
            refine e_then_ret ?_
            refine e_lq_ret ?_
            refine e_then_ret ?_
            obtain rfl := Option.some.inj hF
            have e262 := LK_inr hN236; subst e262
            have e263 := BK_inr hK232; subst e263
            exact f_ret1 ha rfl rfl ⟨rfl, hE261⟩
          · replace hF := if_f hp258 hF
            rw [show (!x256) = false from b_false (n_iff (Iff.rfl)) hp258] at ha
            refine q_want (yields ha rfl rfl) ?_
            refine q_g ha rfl (g_move rfl) ?_; clear ha a; intro a ha
            refine q_want (yields ha rfl rfl) ?_
            obtain ⟨x266, hc267, hF⟩ := cal_some hF
            refine q_call (.int .u32 (BitVec.toNat x266 : Int)) ha rfl rfl Try.call33 (fun w265 hx264 => W_impl_maskOf (h252.ext (Ext.trans hE127 hx264)) hc267) (fun _ _ _ h => ⟨h.1, h.2⟩) ?_; clear ha a; intro a ha
            refine q_want (yields ha rfl rfl) ?_
            refine q_g ha rfl (g_move rfl) ?_; clear ha a; intro a ha
            refine q_want (yields ha rfl rfl) ?_
            refine q_g ha rfl (g32_and (m := x266) (n := u124) rfl rfl) ?_; clear ha a; intro a ha
            refine q_want (yields ha rfl rfl) ?_
            refine q_g ha rfl (g32_neq (m := (x266 &&& u124)) (n := (0#32)) rfl rfl) ?_; clear ha a; intro a ha
            refine q_g ha rfl (g_pick rfl rfl) ?_; clear ha a; intro a ha
            refine q_g ha rfl (g_move rfl) ?_; clear ha a; intro a ha
            by_cases hp268 : (x266 &&& u124) ≠ (0#32)
            · replace hF := if_t hp268 hF
              rw [show (decide ((x266 &&& u124) ≠ (0#32))) = true from (decide_eq_true_iff).2 hp268] at ha
              refine q_unwant ha rfl (yields ha rfl rfl) rfl ?_; clear ha a; intro a ha
              refine q_unwant ha rfl (yields ha rfl rfl) rfl ?_; clear ha a; intro a ha
              refine q_unwant ha rfl (yields ha rfl rfl) rfl ?_; clear ha a; intro a ha
              refine q_unwant0 ha rfl (yields0 ha rfl rfl) ?_; clear ha a; intro a ha
              refine q_unwant0 ha rfl (yields0 ha rfl rfl) ?_; clear ha a; intro a ha
              refine q_unwant0 ha rfl (yields0 ha rfl rfl) ?_; clear ha a; intro a ha
              refine q_unwant0 ha rfl (yields0 ha rfl rfl) ?_; clear ha a; intro a ha
              refine q_unwant0 ha rfl (yields0 ha rfl rfl) ?_; clear ha a; intro a ha
              refine q_unwant0 ha rfl (yields0 ha rfl rfl) ?_; clear ha a; intro a ha
              refine q_unwant0 ha rfl (yields0 ha rfl rfl) ?_; clear ha a; intro a ha
              refine q_unwant0 ha rfl (yields0 ha rfl rfl) ?_; clear ha a; intro a ha
              refine q_unwant0 ha rfl (yields0 ha rfl rfl) ?_; clear ha a; intro a ha
              refine q_unwant0 ha rfl (yields0 ha rfl rfl) ?_; clear ha a; intro a ha
              refine q_unwant0 ha rfl (yields0 ha rfl rfl) ?_; clear ha a; intro a ha
              refine q_unwant ha rfl (yields ha rfl rfl) rfl ?_; clear ha a; intro a ha
              refine q_g ha rfl (g_pick rfl rfl) ?_; clear ha a; intro a ha
              refine q_nil ?_; intro w269 hx270
              replace hB122 := hB122.ext hx270
              have hE271 := Ext.trans hE127 hx270
              replace ha := ha.sub (σ' := [(1, va1), (2, (.pointer (some ⟨b1, 0, none⟩))), (5, (.int .u32 (BitVec.toNat u124 : Int))), (7, v251), (11, va1), (12, (.int .i64 (a1.length : Int))), (13, (.int .i64 i125)), (23, v251), (24, (.int .u32 (BitVec.toNat x266 : Int))), (25, (.int .u32 (BitVec.toNat u124 : Int))), (26, (.int .u32 (BitVec.toNat (x266 &&& u124) : Int))), (27, (.bool true)), (45, (.bool true))]) ⟨rfl, rfl, rfl, rfl, rfl, rfl, rfl, rfl, rfl, rfl, rfl, rfl, rfl, trivial⟩
              refine e_then ?_
              refine c_true ha rfl ?_
              refine wp_seq ?_
              refine wp_region_lit ?_
              refine op_g ha rfl (g_assign rfl) ?_; clear ha a; intro a ha
              refine wpList_nil ?_
              replace ha := ha.sub (σ' := [(4, (.bool false))]) ⟨rfl, trivial⟩
              refine e_then ?_
              refine wp_ret ?_
              refine e_then_ret ?_
              refine e_blk_ret ?_
              refine e_then_ret ?_
              refine e_lq_ret ?_
              refine e_then_ret ?_
              obtain rfl := Option.some.inj hF
              have e272 := LK_inr hN236; subst e272
              have e273 := BK_inr hK232; subst e273
              exact f_ret1 ha rfl rfl ⟨rfl, hE271⟩
            · replace hF := if_f hp268 hF
              rw [show (decide ((x266 &&& u124) ≠ (0#32))) = false from b_false (decide_eq_true_iff) hp268] at ha
              refine q_want (yields ha rfl rfl) ?_
              refine q_g ha rfl (g_move rfl) ?_; clear ha a; intro a ha
              refine q_want (yields ha rfl rfl) ?_
              refine q_g ha rfl (g_gtr rfl rfl) ?_; clear ha a; intro a ha
              refine q_want (yields ha rfl rfl) ?_
              refine q_g ha rfl (g_move rfl) ?_; clear ha a; intro a ha
              by_cases hp274 : 0 < i125
              · replace hF := if_t hp274 hF
                rw [show (decide (0 < i125)) = true from (decide_eq_true_iff).2 hp274] at ha
                refine q_want (yields ha rfl rfl) ?_
                refine q_g ha rfl (g_move rfl) ?_; clear ha a; intro a ha
                refine q_want (yields ha rfl rfl) ?_
                refine q_g ha rfl (g_move rfl) ?_; clear ha a; intro a ha
                refine q_want (yields ha rfl rfl) ?_
                obtain ⟨hI275, hF⟩ := ck_some hF
                refine q_g ha rfl (g_sub rfl rfl hI275) ?_; clear ha a; intro a ha
                refine q_want (yields ha rfl rfl) ?_
                obtain ⟨x277, g278, gx279, hF⟩ := idx_some hF
                obtain ⟨p280, cs281, f282, hf283, hpb284, hat285, hr286, hi287⟩ := ha1.at g278 gx279
                obtain ⟨v288, rfl, h289⟩ := hr286
                have h289 : Ro Rp.int W f282 v288 x277 := h289
                refine q_g ha rfl (hi287.gives sl32 rfl rfl) ?_; clear ha a; intro a ha
                refine q_want (yields ha rfl rfl) ?_
                refine q_g ha rfl (g_load0 hE127 Try.isAgg22 rfl hat285.one) ?_; clear ha a; intro a ha
                refine q_want (yields ha rfl rfl) ?_
                obtain ⟨x291, g292, gx293, hF⟩ := idx_some hF
                obtain ⟨p294, cs295, f296, hf297, hpb298, hat299, hr300, hi301⟩ := h289.at g292 gx293
                obtain ⟨rfl, hI302, rfl⟩ := hr300
                refine q_g ha rfl (hi301.gives sl22 rfl rfl) ?_; clear ha a; intro a ha
                refine q_want (yields ha rfl rfl) ?_
                refine q_g ha rfl (g_load0 hE127 Try.isAgg2 rfl hat299.one) ?_; clear ha a; intro a ha
                refine q_want (yields ha rfl rfl) ?_
                refine q_g ha rfl (g_move rfl) ?_; clear ha a; intro a ha
                refine q_want (yields ha rfl rfl) ?_
                obtain ⟨x303, g304, gx305, hF⟩ := idx_some hF
                obtain ⟨p306, cs307, f308, hf309, hpb310, hat311, hr312, hi313⟩ := h252.at g304 gx305
                obtain ⟨rfl, hI314, rfl⟩ := hr312
                refine q_g ha rfl (hi313.gives sl22 rfl rfl) ?_; clear ha a; intro a ha
                refine q_want (yields ha rfl rfl) ?_
                refine q_g ha rfl (g_load0 hE127 Try.isAgg2 rfl hat311.one) ?_; clear ha a; intro a ha
                refine q_want (yields ha rfl rfl) ?_
                refine q_g ha rfl (g_geq rfl rfl) ?_; clear ha a; intro a ha
                refine q_want (yields ha rfl rfl) ?_
                refine q_g ha rfl (g_pick rfl rfl) ?_; clear ha a; intro a ha
                refine q_g ha rfl (g_pick rfl rfl) ?_; clear ha a; intro a ha
                refine q_nil ?_; intro w315 hx316
                replace hB122 := hB122.ext hx316
                have hE317 := Ext.trans hE127 hx316
                replace ha := ha.sub (σ' := [(1, va1), (2, (.pointer (some ⟨b1, 0, none⟩))), (5, (.int .u32 (BitVec.toNat u124 : Int))), (7, v251), (11, va1), (12, (.int .i64 (a1.length : Int))), (13, (.int .i64 i125)), (23, v251), (24, (.int .u32 (BitVec.toNat x266 : Int))), (25, (.int .u32 (BitVec.toNat u124 : Int))), (26, (.int .u32 (BitVec.toNat (x266 &&& u124) : Int))), (27, (.bool false)), (30, (.int .i64 i125)), (31, (.bool true)), (32, (.bool true)), (33, va1), (34, (.int .i64 i125)), (35, (.int .i64 (i125 - 1))), (36, (.pointer (some p280))), (37, v288), (38, (.pointer (some p294))), (39, (.int .i64 x291)), (40, v251), (41, (.pointer (some p306))), (42, (.int .i64 x303)), (43, (.bool (decide (x303 ≤ x291)))), (44, (.bool (decide (x303 ≤ x291)))), (45, (.bool (decide (x303 ≤ x291))))]) ⟨rfl, rfl, rfl, rfl, rfl, rfl, rfl, rfl, rfl, rfl, rfl, rfl, rfl, rfl, rfl, rfl, rfl, rfl, rfl, rfl, rfl, rfl, rfl, rfl, rfl, rfl, rfl, rfl, trivial⟩
                refine e_then ?_
                refine c_cond (x303 ≤ x291) ha rfl (decide_eq_true_iff) (fun hp318 => ?_) (fun hp318 => ?_)
                · replace hF := if_t hp318 hF
                  refine wp_seq ?_
                  refine wp_region_lit ?_
                  refine op_g ha rfl (g_assign rfl) ?_; clear ha a; intro a ha
                  refine wpList_nil ?_
                  replace ha := ha.sub (σ' := [(4, (.bool false))]) ⟨rfl, trivial⟩
                  refine e_then ?_
                  refine wp_ret ?_
                  refine e_then_ret ?_
                  refine e_blk_ret ?_
                  refine e_then_ret ?_
                  refine e_lq_ret ?_
                  refine e_then_ret ?_
                  obtain rfl := Option.some.inj hF
                  have e319 := LK_inr hN236; subst e319
                  have e320 := BK_inr hK232; subst e320
                  exact f_ret1 ha rfl rfl ⟨rfl, hE317⟩
                · replace hF := if_f hp318 hF
                  refine wp_skip ?_
                  refine e_then ?_
                  refine wp_region_lit ?_
                  refine op_g ha rfl (g_move rfl) ?_; clear ha a; intro a ha
                  refine op_g ha rfl (g_move rfl) ?_; clear ha a; intro a ha
                  obtain ⟨x321, hc322, hF⟩ := cal_some hF
                  refine o_call ha rfl rfl Try.call33 (W_impl_maskOf (h252.ext hE317) hc322) ?_; clear ha a; rintro v323 w324 ⟨rfl, hx325⟩ a ha
                  replace hB122 := hB122.ext hx325
                  have hE326 := Ext.trans hE317 hx325
                  refine op_g ha rfl (g32_or (m := u124) (n := x321) rfl rfl) ?_; clear ha a; intro a ha
                  refine op_g ha rfl (g_assign rfl) ?_; clear ha a; intro a ha
                  refine wpList_nil ?_
                  replace ha := ha.sub (σ' := [(1, va1), (2, (.pointer (some ⟨b1, 0, none⟩))), (5, (.int .u32 (BitVec.toNat (u124 ||| x321) : Int))), (11, va1), (12, (.int .i64 (a1.length : Int))), (13, (.int .i64 i125)), (23, v251), (24, (.int .u32 (BitVec.toNat x266 : Int))), (25, (.int .u32 (BitVec.toNat u124 : Int))), (26, (.int .u32 (BitVec.toNat (x266 &&& u124) : Int))), (27, (.bool false)), (30, (.int .i64 i125)), (31, (.bool true)), (32, (.bool true)), (33, va1), (34, (.int .i64 i125)), (35, (.int .i64 (i125 - 1))), (36, (.pointer (some p280))), (37, v288), (38, (.pointer (some p294))), (39, (.int .i64 x291)), (40, v251), (41, (.pointer (some p306))), (42, (.int .i64 x303)), (43, (.bool (decide (x303 ≤ x291)))), (44, (.bool (decide (x303 ≤ x291))))]) ⟨rfl, rfl, rfl, rfl, rfl, rfl, rfl, rfl, rfl, rfl, rfl, rfl, rfl, rfl, rfl, rfl, rfl, rfl, rfl, rfl, rfl, rfl, rfl, rfl, rfl, rfl, trivial⟩
                  refine e_blk ?_
                  refine e_then ?_
                  refine wp_region_lit ?_
                  obtain ⟨hI327, hF⟩ := ck_some hF
                  refine op_g ha rfl (g_add rfl rfl hI327) ?_; clear ha a; intro a ha
                  refine op_g ha rfl (g_move rfl) ?_; clear ha a; intro a ha
                  refine wpList_nil ?_
                  replace ha := ha.sub (σ' := [(1, va1), (2, (.pointer (some ⟨b1, 0, none⟩))), (5, (.int .u32 (BitVec.toNat (u124 ||| x321) : Int))), (11, va1), (12, (.int .i64 (a1.length : Int))), (13, (.int .i64 (i125 + 1))), (23, v251), (24, (.int .u32 (BitVec.toNat x266 : Int))), (25, (.int .u32 (BitVec.toNat u124 : Int))), (26, (.int .u32 (BitVec.toNat (x266 &&& u124) : Int))), (27, (.bool false)), (30, (.int .i64 i125)), (31, (.bool true)), (32, (.bool true)), (33, va1), (34, (.int .i64 i125)), (35, (.int .i64 (i125 - 1))), (36, (.pointer (some p280))), (37, v288), (38, (.pointer (some p294))), (39, (.int .i64 x291)), (40, v251), (41, (.pointer (some p306))), (42, (.int .i64 x303)), (43, (.bool (decide (x303 ≤ x291)))), (44, (.bool (decide (x303 ≤ x291))))]) ⟨rfl, rfl, rfl, rfl, rfl, rfl, rfl, rfl, rfl, rfl, rfl, rfl, rfl, rfl, rfl, rfl, rfl, rfl, rfl, rfl, rfl, rfl, rfl, rfl, rfl, rfl, trivial⟩
                  refine e_lq ?_
                  obtain rfl := Option.some.inj hF
                  exact ⟨_, Nat.lt_succ_self _, u124 ||| x321, i125 + 1, ha.sub ⟨rfl, rfl, rfl, rfl, rfl, rfl, trivial⟩, hE326, hI327, hB122, z123, hN236⟩
              · replace hF := if_f hp274 hF
                rw [show (decide (0 < i125)) = false from b_false (decide_eq_true_iff) hp274] at ha
                refine q_unwant ha rfl (yields ha rfl rfl) rfl ?_; clear ha a; intro a ha
                refine q_unwant ha rfl (yields ha rfl rfl) rfl ?_; clear ha a; intro a ha
                refine q_unwant ha rfl (yields ha rfl rfl) rfl ?_; clear ha a; intro a ha
                refine q_unwant ha rfl (yields ha rfl rfl) rfl ?_; clear ha a; intro a ha
                refine q_unwant ha rfl (yields ha rfl rfl) rfl ?_; clear ha a; intro a ha
                refine q_unwant ha rfl (yields ha rfl rfl) rfl ?_; clear ha a; intro a ha
                refine q_unwant ha rfl (yields ha rfl rfl) rfl ?_; clear ha a; intro a ha
                refine q_unwant ha rfl (yields ha rfl rfl) rfl ?_; clear ha a; intro a ha
                refine q_unwant ha rfl (yields ha rfl rfl) rfl ?_; clear ha a; intro a ha
                refine q_unwant ha rfl (yields ha rfl rfl) rfl ?_; clear ha a; intro a ha
                refine q_unwant ha rfl (yields ha rfl rfl) rfl ?_; clear ha a; intro a ha
                refine q_want (yields ha rfl rfl) ?_
                refine q_g ha rfl (g_pick rfl rfl) ?_; clear ha a; intro a ha
                refine q_g ha rfl (g_pick rfl rfl) ?_; clear ha a; intro a ha
                refine q_nil ?_; intro w329 hx330
                replace hB122 := hB122.ext hx330
                have hE331 := Ext.trans hE127 hx330
                replace ha := ha.sub (σ' := [(1, va1), (2, (.pointer (some ⟨b1, 0, none⟩))), (5, (.int .u32 (BitVec.toNat u124 : Int))), (7, v251), (11, va1), (12, (.int .i64 (a1.length : Int))), (13, (.int .i64 i125)), (23, v251), (24, (.int .u32 (BitVec.toNat x266 : Int))), (25, (.int .u32 (BitVec.toNat u124 : Int))), (26, (.int .u32 (BitVec.toNat (x266 &&& u124) : Int))), (27, (.bool false)), (30, (.int .i64 i125)), (31, (.bool false)), (32, (.bool false)), (44, (.bool false)), (45, (.bool false))]) ⟨rfl, rfl, rfl, rfl, rfl, rfl, rfl, rfl, rfl, rfl, rfl, rfl, rfl, rfl, rfl, rfl, rfl, trivial⟩
                refine e_then ?_
                refine c_false ha rfl ?_
                refine wp_skip ?_
                refine e_then ?_
                refine wp_region_lit ?_
                refine op_g ha rfl (g_move rfl) ?_; clear ha a; intro a ha
                refine op_g ha rfl (g_move rfl) ?_; clear ha a; intro a ha
                obtain ⟨x332, hc333, hF⟩ := cal_some hF
                refine o_call ha rfl rfl Try.call33 (W_impl_maskOf (h252.ext hE331) hc333) ?_; clear ha a; rintro v334 w335 ⟨rfl, hx336⟩ a ha
                replace hB122 := hB122.ext hx336
                have hE337 := Ext.trans hE331 hx336
                refine op_g ha rfl (g32_or (m := u124) (n := x332) rfl rfl) ?_; clear ha a; intro a ha
                refine op_g ha rfl (g_assign rfl) ?_; clear ha a; intro a ha
                refine wpList_nil ?_
                replace ha := ha.sub (σ' := [(1, va1), (2, (.pointer (some ⟨b1, 0, none⟩))), (5, (.int .u32 (BitVec.toNat (u124 ||| x332) : Int))), (11, va1), (12, (.int .i64 (a1.length : Int))), (13, (.int .i64 i125)), (23, v251), (24, (.int .u32 (BitVec.toNat x266 : Int))), (25, (.int .u32 (BitVec.toNat u124 : Int))), (26, (.int .u32 (BitVec.toNat (x266 &&& u124) : Int))), (27, (.bool false)), (30, (.int .i64 i125)), (31, (.bool false)), (32, (.bool false)), (44, (.bool false))]) ⟨rfl, rfl, rfl, rfl, rfl, rfl, rfl, rfl, rfl, rfl, rfl, rfl, rfl, rfl, rfl, trivial⟩
                refine e_blk ?_
                refine e_then ?_
                refine wp_region_lit ?_
                obtain ⟨hI338, hF⟩ := ck_some hF
                refine op_g ha rfl (g_add rfl rfl hI338) ?_; clear ha a; intro a ha
                refine op_g ha rfl (g_move rfl) ?_; clear ha a; intro a ha
                refine wpList_nil ?_
                replace ha := ha.sub (σ' := [(1, va1), (2, (.pointer (some ⟨b1, 0, none⟩))), (5, (.int .u32 (BitVec.toNat (u124 ||| x332) : Int))), (11, va1), (12, (.int .i64 (a1.length : Int))), (13, (.int .i64 (i125 + 1))), (23, v251), (24, (.int .u32 (BitVec.toNat x266 : Int))), (25, (.int .u32 (BitVec.toNat u124 : Int))), (26, (.int .u32 (BitVec.toNat (x266 &&& u124) : Int))), (27, (.bool false)), (30, (.int .i64 i125)), (31, (.bool false)), (32, (.bool false)), (44, (.bool false))]) ⟨rfl, rfl, rfl, rfl, rfl, rfl, rfl, rfl, rfl, rfl, rfl, rfl, rfl, rfl, rfl, trivial⟩
                refine e_lq ?_
                obtain rfl := Option.some.inj hF
                exact ⟨_, Nat.lt_succ_self _, u124 ||| x332, i125 + 1, ha.sub ⟨rfl, rfl, rfl, rfl, rfl, rfl, trivial⟩, hE337, hI338, hB122, z123, hN236⟩
        · replace hF := if_f hp239 hF
          refine wp_exit ?_
          refine e_then_exit ?_
          refine e_lq_eq ?_
          obtain rfl := Option.some.inj hF
          exact ⟨ha.sub trivial, hE127, (LK_inr hN236).symm⟩
    · rintro a w229 ⟨ha, hE235, rfl⟩
      have hF : F_impl_MatchOk_k2 = some _ := hK232; clear hK232; unfold F_impl_MatchOk_k2 at hF
      refine e_then ?_
      refine wp_seq ?_
      refine wp_region_lit ?_
      refine op_g ha rfl (g_assign rfl) ?_; clear ha a; intro a ha
      refine wpList_nil ?_
      refine e_then ?_
      refine wp_ret ?_
      obtain rfl := Option.some.inj hF
      exact f_ret1 ha rfl rfl ⟨rfl, hE235⟩
set_option maxHeartbeats 2000000 in
theorem W_laws_eqInt64S {W : World} {va0 : Value} {fa0 : List Nat} {a0 : (List Int)} (ha0 : Ro Rp.int W fa0 va0 a0) {va1 : Value} {fa1 : List Nat} {a1 : (List Int)} (ha1 : Ro Rp.int W fa1 va1 a1) {r : Bool} (hF : F_laws_eqInt64S a0 a1 = some r) :
    Calls Try.prog 9 [va0, va1].toArray W (Ret fun u w' => u = .bool r ∧ Ext W w') := by
  refine f_enter Try.func9 rfl Try.ntmps9 rfl ?_
  intro a ha
  replace ha : Fr 26 [(0, va0), (1, va1)] a := ha
  have hE : Chg [] W W := Chg.refl _ _
  unfold F_laws_eqInt64S at hF
  refine wp_seq ?_
  refine wp_region_lit ?_
  refine op_g ha rfl (g_assign rfl) ?_; clear ha a; intro a ha
  refine wpList_nil ?_
  replace ha := ha.sub (σ' := [(0, va0), (1, va1)]) ⟨rfl, rfl, trivial⟩
  refine e_then ?_
  refine wp_seq ?_
  refine wp_seq ?_
  refine wp_region_lit ?_
  refine op_g ha rfl (g_move rfl) ?_; clear ha a; intro a ha
  refine op_g ha rfl (g_lenR sl22.und ha0 rfl) ?_; clear ha a; intro a ha
  refine op_g ha rfl (g_move rfl) ?_; clear ha a; intro a ha
  refine op_g ha rfl (g_lenR sl22.und ha1 rfl) ?_; clear ha a; intro a ha
  refine op_g ha rfl (g_neq rfl rfl) ?_; clear ha a; intro a ha
  refine wpList_nil ?_
  replace ha := ha.sub (σ' := [(0, va0), (1, va1), (10, (.bool (decide ((a0.length : Int) ≠ (a1.length : Int)))))]) ⟨rfl, rfl, rfl, trivial⟩
  refine e_then ?_
  refine c_cond ((a0.length : Int) ≠ (a1.length : Int)) ha rfl (decide_eq_true_iff) (fun hp1 => ?_) (fun hp1 => ?_)
  · replace hF := if_t hp1 hF
    refine wp_seq ?_
    refine wp_region_lit ?_
    refine op_g ha rfl (g_assign rfl) ?_; clear ha a; intro a ha
    refine wpList_nil ?_
    replace ha := ha.sub (σ' := [(4, (.bool false))]) ⟨rfl, trivial⟩
    refine e_then ?_
    refine wp_ret ?_
    refine e_then_ret ?_
    obtain rfl := Option.some.inj hF
    exact f_ret1 ha rfl rfl ⟨rfl, hE⟩
  · replace hF := if_f hp1 hF
    refine wp_skip ?_
    refine e_then ?_
    refine wp_seq ?_
    refine wp_seq ?_
    refine wp_region_lit ?_
    refine op_g ha rfl (g_assign rfl) ?_; clear ha a; intro a ha
    refine wpList_nil ?_
    replace ha := ha.sub (σ' := [(0, va0), (1, va1), (5, (.int .i64 0))]) ⟨rfl, rfl, rfl, trivial⟩
    refine e_then ?_
    obtain ⟨o77, ho78, hK79⟩ := bnd_some hF
    obtain ⟨n80, hn81⟩ := lp_some ho78; clear ho78
    refine c_loop (fun a w => Fr 26 [] a ∧ Chg [] W w ∧ o77 = .inl ()) (fun n a w => ∃ (i39 : Int), Fr 26 [(0, va0), (1, va1), (5, (.int .i64 i39))] a ∧ Chg [] W w ∧ InI i39 ∧ lpN (fun s => F_laws_eqInt64S_l1 a0 a1 s) n i39 = some o77) n80 ⟨0, ha.sub ⟨rfl, rfl, rfl, trivial⟩, hE, (show InI 0 from by decide), hn81⟩ ?_ ?_
    · rintro m85 a w38 ⟨i39, ha, hE41, hI40, hF⟩
      cases m85 with
      | zero => exact (lpN_zero hF).elim
      | succ m85 =>
        obtain ⟨z84, hF, hN83⟩ := lpN_succ hF
        have hF : F_laws_eqInt64S_l1 a0 a1 i39 = some z84 := hF; unfold F_laws_eqInt64S_l1 at hF
        refine wp_seq ?_
        refine wp_seq ?_
        refine wp_region_lit ?_
        refine op_g ha rfl (g_move rfl) ?_; clear ha a; intro a ha
        refine op_g ha rfl (g_move rfl) ?_; clear ha a; intro a ha
        refine op_g ha rfl (g_lenR sl22.und ha0 rfl) ?_; clear ha a; intro a ha
        refine op_g ha rfl (g_lss rfl rfl) ?_; clear ha a; intro a ha
        refine wpList_nil ?_
        replace ha := ha.sub (σ' := [(0, va0), (1, va1), (5, (.int .i64 i39)), (14, (.bool (decide (i39 < (a0.length : Int)))))]) ⟨rfl, rfl, rfl, rfl, trivial⟩
        refine e_then ?_
        refine c_cond (i39 < (a0.length : Int)) ha rfl (decide_eq_true_iff) (fun hp86 => ?_) (fun hp86 => ?_)
        · replace hF := if_t hp86 hF
          refine wp_skip ?_
          refine e_then ?_
          refine wp_seq ?_
          refine wp_block ?_
          refine wp_seq ?_
          refine d_quiet hmix (by kernel_rfl) ?_
          refine q_g ha rfl (g_move rfl) ?_; clear ha a; intro a ha
          refine q_g ha rfl (g_move rfl) ?_; clear ha a; intro a ha
          obtain ⟨x87, g88, gx89, hF⟩ := idx_some hF
          obtain ⟨p90, cs91, f92, hf93, hpb94, hat95, hr96, hi97⟩ := ha0.at g88 gx89
          obtain ⟨rfl, hI98, rfl⟩ := hr96
          refine q_g ha rfl (hi97.gives sl22 rfl rfl) ?_; clear ha a; intro a ha
          refine q_g ha rfl (g_load0 hE41 Try.isAgg2 rfl hat95.one) ?_; clear ha a; intro a ha
          refine q_g ha rfl (g_move rfl) ?_; clear ha a; intro a ha
          refine q_g ha rfl (g_move rfl) ?_; clear ha a; intro a ha
          obtain ⟨x99, g100, gx101, hF⟩ := idx_some hF
          obtain ⟨p102, cs103, f104, hf105, hpb106, hat107, hr108, hi109⟩ := ha1.at g100 gx101
          obtain ⟨rfl, hI110, rfl⟩ := hr108
          refine q_g ha rfl (hi109.gives sl22 rfl rfl) ?_; clear ha a; intro a ha
          refine q_g ha rfl (g_load0 hE41 Try.isAgg2 rfl hat107.one) ?_; clear ha a; intro a ha
          refine q_g ha rfl (g_neq rfl rfl) ?_; clear ha a; intro a ha
          refine q_nil ?_; intro w111 hx112
          have hE113 := Ext.trans hE41 hx112
          replace ha := ha.sub (σ' := [(0, va0), (1, va1), (5, (.int .i64 i39)), (25, (.bool (decide (x87 ≠ x99))))]) ⟨rfl, rfl, rfl, rfl, trivial⟩
          refine e_then ?_
          refine c_cond (x87 ≠ x99) ha rfl (decide_eq_true_iff) (fun hp114 => ?_) (fun hp114 => ?_)
          · replace hF := if_t hp114 hF
            refine wp_seq ?_
            refine wp_region_lit ?_
            refine op_g ha rfl (g_assign rfl) ?_; clear ha a; intro a ha
            refine wpList_nil ?_
            replace ha := ha.sub (σ' := [(4, (.bool false))]) ⟨rfl, trivial⟩
            refine e_then ?_
            refine wp_ret ?_
            refine e_blk_ret ?_
            refine e_then_ret ?_
            refine e_lq_ret ?_
            refine e_then_ret ?_
            obtain rfl := Option.some.inj hF
            have e115 := LK_inr hN83; subst e115
            have e116 := BK_inr hK79; subst e116
            exact f_ret1 ha rfl rfl ⟨rfl, hE113⟩
          · replace hF := if_f hp114 hF
            refine wp_skip ?_
            refine e_blk ?_
            refine e_then ?_
            refine wp_region_lit ?_
            refine op_g ha rfl (g_move rfl) ?_; clear ha a; intro a ha
            obtain ⟨hI117, hF⟩ := ck_some hF
            refine op_g ha rfl (g_add rfl rfl hI117) ?_; clear ha a; intro a ha
            refine op_g ha rfl (g_assign rfl) ?_; clear ha a; intro a ha
            refine wpList_nil ?_
            replace ha := ha.sub (σ' := [(0, va0), (1, va1), (5, (.int .i64 (i39 + 1)))]) ⟨rfl, rfl, rfl, trivial⟩
            refine e_lq ?_
            obtain rfl := Option.some.inj hF
            exact ⟨_, Nat.lt_succ_self _, i39 + 1, ha.sub ⟨rfl, rfl, rfl, trivial⟩, hE113, hI117, hN83⟩
        · replace hF := if_f hp86 hF
          refine wp_exit ?_
          refine e_then_exit ?_
          refine e_lq_eq ?_
          obtain rfl := Option.some.inj hF
          exact ⟨ha.sub trivial, hE41, (LK_inr hN83).symm⟩
    · rintro a w76 ⟨ha, hE82, rfl⟩
      have hF : F_laws_eqInt64S_k2 = some _ := hK79; clear hK79; unfold F_laws_eqInt64S_k2 at hF
      refine e_then ?_
      refine wp_seq ?_
      refine wp_region_lit ?_
      refine op_g ha rfl (g_assign rfl) ?_; clear ha a; intro a ha
      refine wpList_nil ?_
      refine e_then ?_
      refine wp_ret ?_
      obtain rfl := Option.some.inj hF
      exact f_ret1 ha rfl rfl ⟨rfl, hE82⟩
set_option maxHeartbeats 2000000 in
theorem W_laws_eqInt64SS {W : World} {va0 : Value} {fa0 : List Nat} {a0 : (List (List Int))} (ha0 : Ro (Rp.sl 2 Rp.int) W fa0 va0 a0) {va1 : Value} {fa1 : List Nat} {a1 : (List (List Int))} (ha1 : Ro (Rp.sl 2 Rp.int) W fa1 va1 a1) {r : Bool} (hF : F_laws_eqInt64SS a0 a1 = some r) :
    Calls Try.prog 20 [va0, va1].toArray W (Ret fun u w' => u = .bool r ∧ Ext W w') := by
  refine f_enter Try.func20 rfl Try.ntmps20 rfl ?_
  intro a ha
  replace ha : Fr 27 [(0, va0), (1, va1)] a := ha
  have hE : Chg [] W W := Chg.refl _ _
  unfold F_laws_eqInt64SS at hF
  refine wp_seq ?_
  refine wp_region_lit ?_
  refine op_g ha rfl (g_assign rfl) ?_; clear ha a; intro a ha
  refine wpList_nil ?_
  replace ha := ha.sub (σ' := [(0, va0), (1, va1)]) ⟨rfl, rfl, trivial⟩
  refine e_then ?_
  refine wp_seq ?_
  refine wp_seq ?_
  refine wp_region_lit ?_
  refine op_g ha rfl (g_move rfl) ?_; clear ha a; intro a ha
  refine op_g ha rfl (g_lenR sl32.und ha0 rfl) ?_; clear ha a; intro a ha
  refine op_g ha rfl (g_move rfl) ?_; clear ha a; intro a ha
  refine op_g ha rfl (g_lenR sl32.und ha1 rfl) ?_; clear ha a; intro a ha
  refine op_g ha rfl (g_neq rfl rfl) ?_; clear ha a; intro a ha
  refine wpList_nil ?_
  replace ha := ha.sub (σ' := [(0, va0), (1, va1), (10, (.bool (decide ((a0.length : Int) ≠ (a1.length : Int)))))]) ⟨rfl, rfl, rfl, trivial⟩
  refine e_then ?_
  refine c_cond ((a0.length : Int) ≠ (a1.length : Int)) ha rfl (decide_eq_true_iff) (fun hp1 => ?_) (fun hp1 => ?_)
  · replace hF := if_t hp1 hF
    refine wp_seq ?_
    refine wp_region_lit ?_
    refine op_g ha rfl (g_assign rfl) ?_; clear ha a; intro a ha
    refine wpList_nil ?_
    replace ha := ha.sub (σ' := [(4, (.bool false))]) ⟨rfl, trivial⟩
    refine e_then ?_
    refine wp_ret ?_
    refine e_then_ret ?_
    obtain rfl := Option.some.inj hF
    exact f_ret1 ha rfl rfl ⟨rfl, hE⟩
  · replace hF := if_f hp1 hF
    refine wp_skip ?_
    refine e_then ?_
    refine wp_seq ?_
    refine wp_seq ?_
    refine wp_region_lit ?_
    refine op_g ha rfl (g_assign rfl) ?_; clear ha a; intro a ha
    refine wpList_nil ?_
    replace ha := ha.sub (σ' := [(0, va0), (1, va1), (5, (.int .i64 0))]) ⟨rfl, rfl, rfl, trivial⟩
    refine e_then ?_
    obtain ⟨o93, ho94, hK95⟩ := bnd_some hF
    obtain ⟨n96, hn97⟩ := lp_some ho94; clear ho94
    refine c_loop (fun a w => Fr 27 [] a ∧ Chg [] W w ∧ o93 = .inl ()) (fun n a w => ∃ (i47 : Int), Fr 27 [(0, va0), (1, va1), (5, (.int .i64 i47))] a ∧ Chg [] W w ∧ InI i47 ∧ lpN (fun s => F_laws_eqInt64SS_l1 a0 a1 s) n i47 = some o93) n96 ⟨0, ha.sub ⟨rfl, rfl, rfl, trivial⟩, hE, (show InI 0 from by decide), hn97⟩ ?_ ?_
    · rintro m101 a w46 ⟨i47, ha, hE49, hI48, hF⟩
      cases m101 with
      | zero => exact (lpN_zero hF).elim
      | succ m101 =>
        obtain ⟨z100, hF, hN99⟩ := lpN_succ hF
        have hF : F_laws_eqInt64SS_l1 a0 a1 i47 = some z100 := hF; unfold F_laws_eqInt64SS_l1 at hF
        refine wp_seq ?_
        refine wp_seq ?_
        refine wp_region_lit ?_
        refine op_g ha rfl (g_move rfl) ?_; clear ha a; intro a ha
        refine op_g ha rfl (g_move rfl) ?_; clear ha a; intro a ha
        refine op_g ha rfl (g_lenR sl32.und ha0 rfl) ?_; clear ha a; intro a ha
        refine op_g ha rfl (g_lss rfl rfl) ?_; clear ha a; intro a ha
        refine wpList_nil ?_
        replace ha := ha.sub (σ' := [(0, va0), (1, va1), (5, (.int .i64 i47)), (14, (.bool (decide (i47 < (a0.length : Int)))))]) ⟨rfl, rfl, rfl, rfl, trivial⟩
        refine e_then ?_
        refine c_cond (i47 < (a0.length : Int)) ha rfl (decide_eq_true_iff) (fun hp102 => ?_) (fun hp102 => ?_)
        · replace hF := if_t hp102 hF
          refine wp_skip ?_
          refine e_then ?_
          refine wp_seq ?_
          refine wp_block ?_
          refine wp_seq ?_
          refine d_quiet hmix (by kernel_rfl) ?_
          refine q_g ha rfl (g_move rfl) ?_; clear ha a; intro a ha
          refine q_g ha rfl (g_move rfl) ?_; clear ha a; intro a ha
          obtain ⟨x103, g104, gx105, hF⟩ := idx_some hF
          obtain ⟨p106, cs107, f108, hf109, hpb110, hat111, hr112, hi113⟩ := ha0.at g104 gx105
          obtain ⟨v114, rfl, h115⟩ := hr112
          have h115 : Ro Rp.int W f108 v114 x103 := h115
          refine q_g ha rfl (hi113.gives sl32 rfl rfl) ?_; clear ha a; intro a ha
          refine q_g ha rfl (g_load0 hE49 Try.isAgg22 rfl hat111.one) ?_; clear ha a; intro a ha
          refine q_g ha rfl (g_move rfl) ?_; clear ha a; intro a ha
          refine q_g ha rfl (g_move rfl) ?_; clear ha a; intro a ha
          obtain ⟨x117, g118, gx119, hF⟩ := idx_some hF
          obtain ⟨p120, cs121, f122, hf123, hpb124, hat125, hr126, hi127⟩ := ha1.at g118 gx119
          obtain ⟨v128, rfl, h129⟩ := hr126
          have h129 : Ro Rp.int W f122 v128 x117 := h129
          refine q_g ha rfl (hi127.gives sl32 rfl rfl) ?_; clear ha a; intro a ha
          refine q_g ha rfl (g_load0 hE49 Try.isAgg22 rfl hat125.one) ?_; clear ha a; intro a ha
          obtain ⟨x133, hc134, hF⟩ := cal_some hF
          refine q_call (.bool x133) ha rfl rfl Try.call9 (fun w132 hx131 => W_laws_eqInt64S (h115.ext (Ext.trans hE49 hx131)) (h129.ext (Ext.trans hE49 hx131)) hc134) (fun _ _ _ h => ⟨h.1, h.2⟩) ?_; clear ha a; intro a ha
          refine q_g ha rfl (g_not rfl) ?_; clear ha a; intro a ha
          refine q_nil ?_; intro w135 hx136
          have hE137 := Ext.trans hE49 hx136
          replace ha := ha.sub (σ' := [(0, va0), (1, va1), (5, (.int .i64 i47)), (26, (.bool (!x133)))]) ⟨rfl, rfl, rfl, rfl, trivial⟩
          refine e_then ?_
          refine c_cond (¬ (x133 = true)) ha rfl (n_iff (Iff.rfl)) (fun hp138 => ?_) (fun hp138 => ?_)
          · replace hF := if_t hp138 hF
            refine wp_seq ?_
            refine wp_region_lit ?_
            refine op_g ha rfl (g_assign rfl) ?_; clear ha a; intro a ha
            refine wpList_nil ?_
            replace ha := ha.sub (σ' := [(4, (.bool false))]) ⟨rfl, trivial⟩
            refine e_then ?_
            refine wp_ret ?_
            refine e_blk_ret ?_
            refine e_then_ret ?_
            refine e_lq_ret ?_
            refine e_then_ret ?_
            obtain rfl := Option.some.inj hF
            have e139 := LK_inr hN99; subst e139
            have e140 := BK_inr hK95; subst e140
            exact f_ret1 ha rfl rfl ⟨rfl, hE137⟩
          · replace hF := if_f hp138 hF
            refine wp_skip ?_
            refine e_blk ?_
            refine e_then ?_
            refine wp_region_lit ?_
            refine op_g ha rfl (g_move rfl) ?_; clear ha a; intro a ha
            obtain ⟨hI141, hF⟩ := ck_some hF
            refine op_g ha rfl (g_add rfl rfl hI141) ?_; clear ha a; intro a ha
            refine op_g ha rfl (g_assign rfl) ?_; clear ha a; intro a ha
            refine wpList_nil ?_
            replace ha := ha.sub (σ' := [(0, va0), (1, va1), (5, (.int .i64 (i47 + 1)))]) ⟨rfl, rfl, rfl, trivial⟩
            refine e_lq ?_
            obtain rfl := Option.some.inj hF
            exact ⟨_, Nat.lt_succ_self _, i47 + 1, ha.sub ⟨rfl, rfl, rfl, trivial⟩, hE137, hI141, hN99⟩
        · replace hF := if_f hp102 hF
          refine wp_exit ?_
          refine e_then_exit ?_
          refine e_lq_eq ?_
          obtain rfl := Option.some.inj hF
          exact ⟨ha.sub trivial, hE49, (LK_inr hN99).symm⟩
    · rintro a w92 ⟨ha, hE98, rfl⟩
      have hF : F_laws_eqInt64SS_k2 = some _ := hK95; clear hK95; unfold F_laws_eqInt64SS_k2 at hF
      refine e_then ?_
      refine wp_seq ?_
      refine wp_region_lit ?_
      refine op_g ha rfl (g_assign rfl) ?_; clear ha a; intro a ha
      refine wpList_nil ?_
      refine e_then ?_
      refine wp_ret ?_
      obtain rfl := Option.some.inj hF
      exact f_ret1 ha rfl rfl ⟨rfl, hE98⟩
set_option maxHeartbeats 2000000 in
theorem W_laws_eqGraph {W : World} {va0_0 : Value} {fa0_0 : List Nat} {a0_0 : (List (List Int))} (ha0_0 : Ro (Rp.sl 2 Rp.int) W fa0_0 va0_0 a0_0) {va1_0 : Value} {fa1_0 : List Nat} {a1_0 : (List (List Int))} (ha1_0 : Ro (Rp.sl 2 Rp.int) W fa1_0 va1_0 a1_0) {r : Bool} (hF : F_laws_eqGraph a0_0 a1_0 = some r) :
    Calls Try.prog 19 [.agg #[va0_0], .agg #[va1_0]].toArray W (Ret fun u w' => u = .bool r ∧ Ext W w') := by
  refine f_enter Try.func19 rfl Try.ntmps19 rfl ?_
  intro a ha
  replace ha : Fr 11 [(0, (.agg #[va0_0])), (1, (.agg #[va1_0]))] a := ha
  have hE : Chg [] W W := Chg.refl _ _
  unfold F_laws_eqGraph at hF
  refine wp_seq ?_
  refine wp_region_lit ?_
  refine o_box ha rfl rfl rfl ?_; clear ha a; intro b1 w2 hB3 hx4 hlo5 a ha
  have q6 := Zn.one hlo5
  have q7 := Zn.upD q6 hE
  have hE8 := Ext.trans hE hx4
  refine o_box ha rfl rfl rfl ?_; clear ha a; intro b9 w10 hB11 hx12 hlo13 a ha
  have q14 := Zn.one hlo13
  have q15 := Nq.new hB3.fpb q14
  have q16 := Nq.made1 hlo13 hB3.bi
  have q17 := Zn.upD q14 hE8
  replace hB3 := hB3.ext hx12
  have hE18 := Ext.trans hE8 hx12
  refine op_g ha rfl (g_assign rfl) ?_; clear ha a; intro a ha
  refine wpList_nil ?_
  replace ha := ha.sub (σ' := [(2, (.pointer (some ⟨b1, 0, none⟩))), (3, (.pointer (some ⟨b9, 0, none⟩)))]) ⟨rfl, rfl, trivial⟩
  refine e_then ?_
  refine wp_seq ?_
  refine wp_seq ?_
  refine wp_region_lit ?_
  refine op_g ha rfl (g_field0 st38_0 rfl) ?_; clear ha a; intro a ha
  refine op_g ha rfl (g_load Try.isAgg32 rfl (hB3.cell rfl)) ?_; clear ha a; intro a ha
  refine op_g ha rfl (g_field0 st38_0 rfl) ?_; clear ha a; intro a ha
  refine op_g ha rfl (g_load Try.isAgg32 rfl (hB11.cell rfl)) ?_; clear ha a; intro a ha
  obtain ⟨x19, hc20, hF⟩ := cal_some hF
  refine o_call ha rfl rfl Try.call20 (W_laws_eqInt64SS (ha0_0.ext hE18) (ha1_0.ext hE18) hc20) ?_; clear ha a; rintro v21 w22 ⟨rfl, hx23⟩ a ha
  replace hB3 := hB3.ext hx23
  replace hB11 := hB11.ext hx23
  have hE24 := Ext.trans hE18 hx23
  refine op_g ha rfl (g_not rfl) ?_; clear ha a; intro a ha
  refine wpList_nil ?_
  replace ha := ha.sub (σ' := [(10, (.bool (!x19)))]) ⟨rfl, trivial⟩
  refine e_then ?_
  refine c_cond (¬ (x19 = true)) ha rfl (n_iff (Iff.rfl)) (fun hp25 => ?_) (fun hp25 => ?_)
  · replace hF := if_t hp25 hF
    refine wp_seq ?_
    refine wp_region_lit ?_
    refine op_g ha rfl (g_assign rfl) ?_; clear ha a; intro a ha
    refine wpList_nil ?_
    replace ha := ha.sub (σ' := [(4, (.bool false))]) ⟨rfl, trivial⟩
    refine e_then ?_
    refine wp_ret ?_
    refine e_then_ret ?_
    obtain rfl := Option.some.inj hF
    exact f_ret1 ha rfl rfl ⟨rfl, hE24⟩
  · replace hF := if_f hp25 hF
    refine wp_skip ?_
    refine e_then ?_
    refine wp_seq ?_
    refine wp_region_lit ?_
    refine op_g ha rfl (g_assign rfl) ?_; clear ha a; intro a ha
    refine wpList_nil ?_
    replace ha := ha.sub (σ' := [(4, (.bool true))]) ⟨rfl, trivial⟩
    refine e_then ?_
    refine wp_ret ?_
    obtain rfl := Option.some.inj hF
    exact f_ret1 ha rfl rfl ⟨rfl, hE24⟩
set_option maxHeartbeats 2000000 in
theorem W_laws_FnExactMatchOk {W : World} {va0_0 : Value} {fa0_0 : List Nat} {a0_0 : (List (List Int))} (ha0_0 : Ro (Rp.sl 2 Rp.int) W fa0_0 va0_0 a0_0) {va1 : Value} {fa1 : List Nat} {a1 : (List (List Int))} (ha1 : Ro (Rp.sl 2 Rp.int) W fa1 va1 a1) {r : Bool} (hF : F_laws_FnExactMatchOk a0_0 a1 = some r) :
    Calls Try.prog 4 [.agg #[va0_0], va1].toArray W (Ret fun u w' => u = .bool r ∧ Ext W w') := by
  refine f_enter Try.func4 rfl Try.ntmps4 rfl ?_
  intro a ha
  replace ha : Fr 45 [(0, (.agg #[va0_0])), (1, va1)] a := ha
  have hE : Chg [] W W := Chg.refl _ _
  unfold F_laws_FnExactMatchOk at hF
  refine wp_seq ?_
  refine wp_region_lit ?_
  refine o_box ha rfl rfl rfl ?_; clear ha a; intro b1 w2 hB3 hx4 hlo5 a ha
  have q6 := Zn.one hlo5
  have q7 := Zn.upD q6 hE
  have hE8 := Ext.trans hE hx4
  refine op_g ha rfl (g_assign rfl) ?_; clear ha a; intro a ha
  refine wpList_nil ?_
  replace ha := ha.sub (σ' := [(1, va1), (2, (.pointer (some ⟨b1, 0, none⟩)))]) ⟨rfl, rfl, trivial⟩
  refine e_then ?_
  refine wp_seq ?_
  refine wp_region_lit ?_
  refine op_g ha rfl (g_assign rfl) ?_; clear ha a; intro a ha
  refine wpList_nil ?_
  refine e_then ?_
  refine wp_seq ?_
  refine wp_region_lit ?_
  refine op_g ha rfl (g_loadA (cs := [va0_0]) Try.isAgg34 Try.sizeOf34 rfl (by simp) hB3.all) ?_; clear ha a; intro a ha
  refine op_g ha rfl (g_move rfl) ?_; clear ha a; intro a ha
  obtain ⟨x9, hc10, hF⟩ := cal_some hF
  refine o_call ha rfl rfl Try.call13 (W_laws_szGraph (ha0_0.ext hE8) (show InI 1048576 from by decide) hc10) ?_; clear ha a; rintro v11 w12 ⟨⟨rfl, hI14⟩, hx13⟩ a ha
  replace hB3 := hB3.ext hx13
  have hE15 := Ext.trans hE8 hx13
  refine op_g ha rfl (g_assign rfl) ?_; clear ha a; intro a ha
  refine wpList_nil ?_
  replace ha := ha.sub (σ' := [(1, va1), (2, (.pointer (some ⟨b1, 0, none⟩))), (5, (.int .i64 x9))]) ⟨rfl, rfl, rfl, trivial⟩
  refine e_then ?_
  refine wp_seq ?_
  refine wp_seq ?_
  refine wp_region_lit ?_
  refine op_g ha rfl (g_move rfl) ?_; clear ha a; intro a ha
  refine op_g ha rfl (g_lss rfl rfl) ?_; clear ha a; intro a ha
  refine wpList_nil ?_
  replace ha := ha.sub (σ' := [(1, va1), (2, (.pointer (some ⟨b1, 0, none⟩))), (5, (.int .i64 x9)), (14, (.bool (decide (x9 < 0))))]) ⟨rfl, rfl, rfl, rfl, trivial⟩
  refine e_then ?_
  refine c_cond (x9 < 0) ha rfl (decide_eq_true_iff) (fun hp16 => ?_) (fun hp16 => ?_)
  · replace hF := if_t hp16 hF
    refine wp_seq ?_
    refine wp_region_lit ?_
    refine op_g ha rfl (g_assign rfl) ?_; clear ha a; intro a ha
    refine wpList_nil ?_
    replace ha := ha.sub (σ' := [(4, (.bool true))]) ⟨rfl, trivial⟩
    refine e_then ?_
    refine wp_ret ?_
    refine e_then_ret ?_
    obtain rfl := Option.some.inj hF
    exact f_ret1 ha rfl rfl ⟨rfl, hE15⟩
  · replace hF := if_f hp16 hF
    refine wp_skip ?_
    refine e_then ?_
    refine wp_seq ?_
    refine wp_region_lit ?_
    refine op_g ha rfl (g_move rfl) ?_; clear ha a; intro a ha
    refine op_g ha rfl (g_move rfl) ?_; clear ha a; intro a ha
    obtain ⟨x17, hc18, hF⟩ := cal_some hF
    refine o_call ha rfl rfl Try.call14 (W_laws_szInt64SS (ha1.ext hE15) hI14 hc18) ?_; clear ha a; rintro v19 w20 ⟨⟨rfl, hI22⟩, hx21⟩ a ha
    replace hB3 := hB3.ext hx21
    have hE23 := Ext.trans hE15 hx21
    refine op_g ha rfl (g_assign rfl) ?_; clear ha a; intro a ha
    refine wpList_nil ?_
    replace ha := ha.sub (σ' := [(1, va1), (2, (.pointer (some ⟨b1, 0, none⟩))), (5, (.int .i64 x17))]) ⟨rfl, rfl, rfl, trivial⟩
    refine e_then ?_
    refine wp_seq ?_
    refine wp_seq ?_
    refine wp_region_lit ?_
    refine op_g ha rfl (g_move rfl) ?_; clear ha a; intro a ha
    refine op_g ha rfl (g_lss rfl rfl) ?_; clear ha a; intro a ha
    refine wpList_nil ?_
    replace ha := ha.sub (σ' := [(1, va1), (2, (.pointer (some ⟨b1, 0, none⟩))), (19, (.bool (decide (x17 < 0))))]) ⟨rfl, rfl, rfl, trivial⟩
    refine e_then ?_
    refine c_cond (x17 < 0) ha rfl (decide_eq_true_iff) (fun hp24 => ?_) (fun hp24 => ?_)
    · replace hF := if_t hp24 hF
      refine wp_seq ?_
      refine wp_region_lit ?_
      refine op_g ha rfl (g_assign rfl) ?_; clear ha a; intro a ha
      refine wpList_nil ?_
      replace ha := ha.sub (σ' := [(4, (.bool true))]) ⟨rfl, trivial⟩
      refine e_then ?_
      refine wp_ret ?_
      refine e_then_ret ?_
      obtain rfl := Option.some.inj hF
      exact f_ret1 ha rfl rfl ⟨rfl, hE23⟩
    · replace hF := if_f hp24 hF
      refine wp_skip ?_
      refine e_then ?_
      refine wp_seq ?_
      refine wp_region_lit ?_
      refine op_g ha rfl (g_loadA (cs := [va0_0]) Try.isAgg34 Try.sizeOf34 rfl (by simp) hB3.all) ?_; clear ha a; intro a ha
      obtain ⟨x25, hc26, hF⟩ := cal_some hF
      refine o_call ha rfl rfl Try.call16 (W_laws_toGraph (ha0_0.ext hE23) hc26) ?_; clear ha a; rintro v27 w28 ⟨u30, b31, fs35, rfl, h32, z33, zf36, nd37, hx29⟩ a ha
      have q38 := Nq.new hB3.fpb z33
      have q39 := Nq.madeF z33 zf36 hB3.bi
      have q40 := Nf.new hB3.fpb zf36
      replace hB3 := hB3.ext hx29
      have hE41 := Ext.trans hE23 hx29
      have q42 := Zn.upD z33 hE23
      have q43 := zf_up zf36 hE23
      refine op_g ha rfl (g_move rfl) ?_; clear ha a; intro a ha
      obtain ⟨x44, hc45, hF⟩ := cal_some hF
      refine o_call ha rfl rfl Try.call17 (W_laws_toInt64SS (ha1.ext hE41) hc45) ?_; clear ha a; rintro v46 w47 ⟨b49, fs53, h50, z51, zf54, nd55, hx48⟩ a ha
      have q56 := Nq.new hB3.fpb z51
      have q57 := Nq.madeF z51 zf54 hB3.bi
      have q58 := Nq.new h32.fpb z51
      have q59 := Nq.madeF z51 zf54 h32.blt
      have q60 := Nf.new hB3.fpb zf54
      have q61 := Nf.new h32.fpb zf54
      have q62 := Nf.old z51 zf54 h32.bnd
      replace hB3 := hB3.ext hx48
      replace h32 := h32.ext hx48
      have hE63 := Ext.trans hE41 hx48
      have q64 := Zn.upD z51 hE41
      have q65 := zf_up zf54 hE41
      obtain ⟨fp66, hro67, -⟩ := h32.weak.ro
      obtain ⟨fp68, hro69, -⟩ := h50.weak.ro
      obtain ⟨x70, hc71, hF⟩ := cal_some hF
      refine o_call ha rfl rfl Try.call15 (W_spec_MatchOk hro67 hro69 hc71) ?_; clear ha a; rintro v72 w73 ⟨rfl, hx74⟩ a ha
      replace hB3 := hB3.ext hx74
      replace h32 := h32.ext hx74
      replace h50 := h50.ext hx74
      have hE75 := Ext.trans hE63 hx74
      refine op_g ha rfl (g_assign rfl) ?_; clear ha a; intro a ha
      refine wpList_nil ?_
      replace ha := ha.sub (σ' := [(1, va1), (2, (.pointer (some ⟨b1, 0, none⟩))), (6, (.bool x70))]) ⟨rfl, rfl, rfl, trivial⟩
      refine e_then ?_
      refine wp_seq ?_
      refine wp_region_lit ?_
      refine op_g ha rfl (g_loadA (cs := [va0_0]) Try.isAgg34 Try.sizeOf34 rfl (by simp) hB3.all) ?_; clear ha a; intro a ha
      obtain ⟨x76, hc77, hF⟩ := cal_some hF
      refine o_call ha rfl rfl Try.call16 (W_laws_toGraph (ha0_0.ext hE75) hc77) ?_; clear ha a; rintro v78 w79 ⟨u81, b82, fs86, rfl, h83, z84, zf87, nd88, hx80⟩ a ha
      have q89 := Nq.new hB3.fpb z84
      have q90 := Nq.madeF z84 zf87 hB3.bi
      have q91 := Nf.new hB3.fpb zf87
      replace hB3 := hB3.ext hx80
      have hE92 := Ext.trans hE75 hx80
      have q93 := Zn.upD z84 hE75
      have q94 := zf_up zf87 hE75
      refine o_alloc (cs := [(.slice none 0 0)]) ha rfl Try.zeroValue38 rfl ?_; clear ha a; intro b95 w96 hB97 hx98 hlo99 a ha
      have q100 := Zn.one hlo99
      have q101 := Nq.new hB3.fpb q100
      have q102 := Nq.made1 hlo99 hB3.bi
      have q103 := Nq.new h83.fpb q100
      have q104 := Nq.made1 hlo99 h83.blt
      have q105 := Zn.upD q100 hE92
      replace hB3 := hB3.ext hx98
      replace h83 := h83.ext hx98
      have hE106 := Ext.trans hE92 hx98
      refine o_storeA (vs := [u81]) ha hB97 Try.sizeOf38 rfl rfl (by intro c hc; simp only [List.mem_cons, List.not_mem_nil, or_false] at hc; rcases hc with hc <;> subst hc <;> first | rfl | exact h83.oneC) rfl ?_; intro w107 hB108 hc109
      replace hc109 := hc109.bl
      replace hB108 : Bx w107 b95 [u81] 38 := hB108
      replace hB3 := hB3.nq hc109 q101
      replace h83 := h83.nq hc109 q103
      have hE110 := Ext.then hE106 hc109 (Zn.bl q105)
      refine wpList_nil ?_
      replace ha := ha.sub (σ' := [(1, va1), (2, (.pointer (some ⟨b1, 0, none⟩))), (6, (.bool x70)), (7, (.pointer (some ⟨b95, 0, none⟩)))]) ⟨rfl, rfl, rfl, rfl, trivial⟩
      refine e_then ?_
      refine wp_seq ?_
      refine wp_region_lit ?_
      refine op_g ha rfl (g_move rfl) ?_; clear ha a; intro a ha
      obtain ⟨x111, hc112, hF⟩ := cal_some hF
      refine o_call ha rfl rfl Try.call17 (W_laws_toInt64SS (ha1.ext hE110) hc112) ?_; clear ha a; rintro v113 w114 ⟨b116, fs120, h117, z118, zf121, nd122, hx115⟩ a ha
      have q123 := Nq.new hB3.fpb z118
      have q124 := Nq.madeF z118 zf121 hB3.bi
      have q125 := Nq.new h83.fpb z118
      have q126 := Nq.madeF z118 zf121 h83.blt
      have q127 := Nq.new hB108.fpb z118
      have q128 := Nq.madeF z118 zf121 hB108.bi
      have q129 := Nf.new hB3.fpb zf121
      have q130 := Nf.new h83.fpb zf121
      have q131 := Nf.old z118 zf121 h83.bnd
      have q132 := Nf.new hB108.fpb zf121
      replace hB3 := hB3.ext hx115
      replace h83 := h83.ext hx115
      replace hB108 := hB108.ext hx115
      have hE133 := Ext.trans hE110 hx115
      have q134 := Zn.upD z118 hE110
      have q135 := zf_up zf121 hE110
      refine op_g ha rfl (g_assign rfl) ?_; clear ha a; intro a ha
      refine wpList_nil ?_
      replace ha := ha.sub (σ' := [(1, va1), (2, (.pointer (some ⟨b1, 0, none⟩))), (6, (.bool x70)), (7, (.pointer (some ⟨b95, 0, none⟩))), (8, v113)]) ⟨rfl, rfl, rfl, rfl, rfl, trivial⟩
      refine e_then ?_
      refine wp_seq ?_
      refine wp_region_lit ?_
      refine op_g ha rfl (g_loadA (cs := [u81]) Try.isAgg38 Try.sizeOf38 rfl (by simp) hB108.all) ?_; clear ha a; intro a ha
      refine op_g ha rfl (g_move rfl) ?_; clear ha a; intro a ha
      obtain ⟨fp136, hro137, -⟩ := h83.weak.ro
      obtain ⟨fp138, hro139, -⟩ := h117.weak.ro
      obtain ⟨x140, hc141, hF⟩ := cal_some hF
      refine o_call ha rfl rfl Try.call18 (W_impl_MatchOk hro137 hro139 hc141) ?_; clear ha a; rintro v142 w143 ⟨rfl, hx144⟩ a ha
      replace hB3 := hB3.ext hx144
      replace h83 := h83.ext hx144
      replace hB108 := hB108.ext hx144
      replace h117 := h117.ext hx144
      have hE145 := Ext.trans hE133 hx144
      refine op_g ha rfl (g_assign rfl) ?_; clear ha a; intro a ha
      refine wpList_nil ?_
      replace ha := ha.sub (σ' := [(1, va1), (2, (.pointer (some ⟨b1, 0, none⟩))), (6, (.bool x70)), (7, (.pointer (some ⟨b95, 0, none⟩))), (8, v113), (9, (.bool x140))]) ⟨rfl, rfl, rfl, rfl, rfl, rfl, trivial⟩
      refine e_then ?_
      refine wp_seq ?_
      refine wp_seq ?_
      refine wp_region_lit ?_
      refine op_g ha rfl (g_move rfl) ?_; clear ha a; intro a ha
      refine op_g ha rfl (g_move rfl) ?_; clear ha a; intro a ha
      refine op_g ha rfl (gB_neq un4 rfl rfl) ?_; clear ha a; intro a ha
      refine wpList_nil ?_
      replace ha := ha.sub (σ' := [(1, va1), (2, (.pointer (some ⟨b1, 0, none⟩))), (7, (.pointer (some ⟨b95, 0, none⟩))), (8, v113), (34, (.bool (x140 != x70)))]) ⟨rfl, rfl, rfl, rfl, rfl, trivial⟩
      refine e_then ?_
      refine c_cond ((x140 != x70) = true) ha rfl (Iff.rfl) (fun hp146 => ?_) (fun hp146 => ?_)
      · replace hF := if_t hp146 hF
        refine wp_seq ?_
        refine wp_region_lit ?_
        refine op_g ha rfl (g_assign rfl) ?_; clear ha a; intro a ha
        refine wpList_nil ?_
        replace ha := ha.sub (σ' := [(4, (.bool false))]) ⟨rfl, trivial⟩
        refine e_then ?_
        refine wp_ret ?_
        refine e_then_ret ?_
        obtain rfl := Option.some.inj hF
        exact f_ret1 ha rfl rfl ⟨rfl, hE145⟩
      · replace hF := if_f hp146 hF
        refine wp_skip ?_
        refine e_then ?_
        refine wp_seq ?_
        refine wp_seq ?_
        refine d_region 5 hmix ?_
        refine u_g 0 rfl (by kernel_rfl) (want0 _) ha rfl (g_loadA (cs := [u81]) Try.isAgg38 Try.sizeOf38 rfl (by simp) hB108.all) ?_; clear ha a; intro a ha
        refine u_g 1 rfl (by kernel_rfl) (want0 _) ha rfl (g_loadA (cs := [va0_0]) Try.isAgg34 Try.sizeOf34 rfl (by simp) hB3.all) ?_; clear ha a; intro a ha
        refine u_only 2 rfl (by kernel_rfl) ?_; intro w147 hx148
        replace hB3 := hB3.ext hx148
        replace h83 := h83.ext hx148
        replace hB108 := hB108.ext hx148
        replace h117 := h117.ext hx148
        have hE149 := Ext.trans hE145 hx148
        obtain ⟨x150, hc151, hF⟩ := cal_some hF
        refine o_call ha rfl rfl Try.call16 (W_laws_toGraph (ha0_0.ext hE149) hc151) ?_; clear ha a; rintro v152 w153 ⟨u155, b156, fs160, rfl, h157, z158, zf161, nd162, hx154⟩ a ha
        have q163 := Nq.new hB3.fpb z158
        have q164 := Nq.madeF z158 zf161 hB3.bi
        have q165 := Nq.new h83.fpb z158
        have q166 := Nq.madeF z158 zf161 h83.blt
        have q167 := Nq.new hB108.fpb z158
        have q168 := Nq.madeF z158 zf161 hB108.bi
        have q169 := Nq.new h117.fpb z158
        have q170 := Nq.madeF z158 zf161 h117.blt
        have q171 := Nf.new hB3.fpb zf161
        have q172 := Nf.new h83.fpb zf161
        have q173 := Nf.old z158 zf161 h83.bnd
        have q174 := Nf.new hB108.fpb zf161
        have q175 := Nf.new h117.fpb zf161
        have q176 := Nf.old z158 zf161 h117.bnd
        replace hB3 := hB3.ext hx154
        replace h83 := h83.ext hx154
        replace hB108 := hB108.ext hx154
        replace h117 := h117.ext hx154
        have hE177 := Ext.trans hE149 hx154
        have q178 := Zn.upD z158 hE149
        have q179 := zf_up zf161 hE149
        refine wpList_nil (e_sq ?_)
        refine ⟨fun _ => hx154, ?_⟩
        obtain ⟨fp182, hro183, -⟩ := h83.weak.ro
        obtain ⟨fp184, hro185, -⟩ := h157.weak.ro
        obtain ⟨x186, hc187, hF⟩ := cal_some hF
        refine u_call (.bool x186) 3 rfl (by kernel_rfl) (want0 _) ha rfl rfl Try.call19 (fun w181 hx180 => W_laws_eqGraph (hro183.ext hx180) (hro185.ext hx180) hc187) (fun _ _ _ h => ⟨h.1, h.2⟩) ?_; clear ha a; intro a ha
        refine u_g 4 rfl (by kernel_rfl) (want0 _) ha rfl (g_not rfl) ?_; clear ha a; intro a ha
        refine u_done (by kernel_rfl) ?_; intro w188 hx189
        replace hB3 := hB3.ext hx189
        replace h83 := h83.ext hx189
        replace hB108 := hB108.ext hx189
        replace h117 := h117.ext hx189
        replace h157 := h157.ext hx189
        have hE190 := Ext.trans hE177 hx189
        replace ha := ha.sub (σ' := [(1, va1), (8, v113), (39, (.bool (!x186)))]) ⟨rfl, rfl, rfl, trivial⟩
        refine e_then ?_
        refine c_cond (¬ (x186 = true)) ha rfl (n_iff (Iff.rfl)) (fun hp191 => ?_) (fun hp191 => ?_)
        · replace hF := if_t hp191 hF
          refine wp_seq ?_
          refine wp_region_lit ?_
          refine op_g ha rfl (g_assign rfl) ?_; clear ha a; intro a ha
          refine wpList_nil ?_
          replace ha := ha.sub (σ' := [(4, (.bool false))]) ⟨rfl, trivial⟩
          refine e_then ?_
          refine wp_ret ?_
          refine e_then_ret ?_
          obtain rfl := Option.some.inj hF
          exact f_ret1 ha rfl rfl ⟨rfl, hE190⟩
        · replace hF := if_f hp191 hF
          refine wp_skip ?_
          refine e_then ?_
          refine wp_seq ?_
          refine wp_seq ?_
          refine wp_region_lit ?_
          refine op_g ha rfl (g_move rfl) ?_; clear ha a; intro a ha
          refine op_g ha rfl (g_move rfl) ?_; clear ha a; intro a ha
          obtain ⟨x192, hc193, hF⟩ := cal_some hF
          refine o_call ha rfl rfl Try.call17 (W_laws_toInt64SS (ha1.ext hE190) hc193) ?_; clear ha a; rintro v194 w195 ⟨b197, fs201, h198, z199, zf202, nd203, hx196⟩ a ha
          have q204 := Nq.new h117.fpb z199
          have q205 := Nq.madeF z199 zf202 h117.blt
          have q206 := Nf.new h117.fpb zf202
          have q207 := Nf.old z199 zf202 h117.bnd
          replace h117 := h117.ext hx196
          have hE208 := Ext.trans hE190 hx196
          have q209 := Zn.upD z199 hE190
          have q210 := zf_up zf202 hE190
          obtain ⟨fp211, hro212, -⟩ := h117.weak.ro
          obtain ⟨fp213, hro214, -⟩ := h198.weak.ro
          obtain ⟨x215, hc216, hF⟩ := cal_some hF
          refine o_call ha rfl rfl Try.call20 (W_laws_eqInt64SS hro212 hro214 hc216) ?_; clear ha a; rintro v217 w218 ⟨rfl, hx219⟩ a ha
          replace h117 := h117.ext hx219
          replace h198 := h198.ext hx219
          have hE220 := Ext.trans hE208 hx219
          refine op_g ha rfl (g_not rfl) ?_; clear ha a; intro a ha
          refine wpList_nil ?_
          replace ha := ha.sub (σ' := [(44, (.bool (!x215)))]) ⟨rfl, trivial⟩
          refine e_then ?_
          refine c_cond (¬ (x215 = true)) ha rfl (n_iff (Iff.rfl)) (fun hp221 => ?_) (fun hp221 => ?_)
          · replace hF := if_t hp221 hF
            refine wp_seq ?_
            refine wp_region_lit ?_
            refine op_g ha rfl (g_assign rfl) ?_; clear ha a; intro a ha
            refine wpList_nil ?_
            replace ha := ha.sub (σ' := [(4, (.bool false))]) ⟨rfl, trivial⟩
            refine e_then ?_
            refine wp_ret ?_
            refine e_then_ret ?_
            obtain rfl := Option.some.inj hF
            exact f_ret1 ha rfl rfl ⟨rfl, hE220⟩
          · replace hF := if_f hp221 hF
            refine wp_skip ?_
            refine e_then ?_
            refine wp_seq ?_
            refine wp_region_lit ?_
            refine op_g ha rfl (g_assign rfl) ?_; clear ha a; intro a ha
            refine wpList_nil ?_
            replace ha := ha.sub (σ' := [(4, (.bool true))]) ⟨rfl, trivial⟩
            refine e_then ?_
            refine wp_ret ?_
            obtain rfl := Option.some.inj hF
            exact f_ret1 ha rfl rfl ⟨rfl, hE220⟩
end Go.Proofs.Ytgikmgceiiahpaa
