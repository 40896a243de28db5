/- Walks, printed by gen.py. -/
import Derived.Test.YtacgmkncleiblaaF
import Derived.Test.YtacgmkncleiblaaAid
import Derived.Test.YtacgmkncleiblaaProg
import Derived.KernelRfl
set_option maxRecDepth 100000
namespace Go.Proofs.Ytacgmkncleiblaa
open Go Go.RowKit

theorem hmix : Try.prog.follows .mixedOrders = true := by kernel_rfl
theorem st49_1 : stF Try.prog 49 1 = some 1 := by kernel_rfl
theorem sl22 : SlT Try.prog 22 2 1 8 (.int .i64 0) := ⟨by kernel_rfl, by kernel_rfl, by rfl⟩
theorem st49_2 : stF Try.prog 49 2 = some 2 := by kernel_rfl
theorem sl47 : SlT Try.prog 47 22 1 24 (.slice none 0 0) := ⟨by kernel_rfl, by kernel_rfl, by rfl⟩
theorem st49_0 : stF Try.prog 49 0 = some 0 := by kernel_rfl
theorem st52_0 : stF Try.prog 52 0 = some 0 := by kernel_rfl
theorem st52_1 : stF Try.prog 52 1 = some 1 := by kernel_rfl
theorem st52_2 : stF Try.prog 52 2 = some 2 := by kernel_rfl
theorem un4 : Try.prog.underlying 4 = some .bool := by kernel_rfl
set_option maxHeartbeats 2000000 in
theorem W_laws_szInt64S {W : World} {va0 : Value} {fa0 : List Nat} {a0 : (List Int)} (ha0 : Ro Rp.int W fa0 va0 a0) {a1 : Int} (ha1 : InI a1) {r : Int} (hF : F_laws_szInt64S a0 a1 = some r) :
    Calls Try.prog 50 [va0, .int .i64 a1].toArray W (Ret fun u w' => (u = .int .i64 r ∧ InI r) ∧ Ext W w') := by
  refine f_enter Try.func50 rfl Try.ntmps50 rfl ?_
  intro a ha
  replace ha : Fr 12 [(0, va0), (1, (.int .i64 a1))] a := ha
  have hE : Chg [] W W := Chg.refl _ _
  unfold F_laws_szInt64S at hF
  refine wp_seq ?_
  refine wp_region_lit ?_
  refine op_g ha rfl (g_assign rfl) ?_; clear ha a; intro a ha
  refine wpList_nil ?_
  replace ha := ha.sub (σ' := [(0, va0), (1, (.int .i64 a1))]) ⟨rfl, rfl, trivial⟩
  refine e_then ?_
  refine wp_seq ?_
  refine wp_region_lit ?_
  refine op_g ha rfl (g_move rfl) ?_; clear ha a; intro a ha
  refine op_g ha rfl (g_move rfl) ?_; clear ha a; intro a ha
  refine op_g ha rfl (g_lenR sl22.und ha0 rfl) ?_; clear ha a; intro a ha
  obtain ⟨hI1, hF⟩ := ck_some hF
  refine op_g ha rfl (g_sub rfl rfl hI1) ?_; clear ha a; intro a ha
  refine op_g ha rfl (g_assign rfl) ?_; clear ha a; intro a ha
  refine wpList_nil ?_
  replace ha := ha.sub (σ' := [(1, (.int .i64 (a1 - (a0.length : Int))))]) ⟨rfl, trivial⟩
  refine e_then ?_
  refine wp_seq ?_
  refine wp_seq ?_
  refine wp_region_lit ?_
  refine op_g ha rfl (g_move rfl) ?_; clear ha a; intro a ha
  refine op_g ha rfl (g_lss rfl rfl) ?_; clear ha a; intro a ha
  refine wpList_nil ?_
  replace ha := ha.sub (σ' := [(1, (.int .i64 (a1 - (a0.length : Int)))), (10, (.bool (decide ((a1 - (a0.length : Int)) < 0))))]) ⟨rfl, rfl, trivial⟩
  refine e_then ?_
  refine c_cond ((a1 - (a0.length : Int)) < 0) ha rfl (decide_eq_true_iff) (fun hp3 => ?_) (fun hp3 => ?_)
  · replace hF := if_t hp3 hF
    refine wp_seq ?_
    refine wp_region_lit ?_
    refine op_g ha rfl (g_assign rfl) ?_; clear ha a; intro a ha
    refine wpList_nil ?_
    replace ha := ha.sub (σ' := [(4, (.int .i64 (-1)))]) ⟨rfl, trivial⟩
    refine e_then ?_
    refine wp_ret ?_
    refine e_then_ret ?_
    obtain rfl := Option.some.inj hF
    exact f_ret1 ha rfl rfl ⟨⟨rfl, (by decide)⟩, hE⟩
  · replace hF := if_f hp3 hF
    refine wp_skip ?_
    refine e_then ?_
    refine wp_seq ?_
    refine wp_region_lit ?_
    refine op_g ha rfl (g_move rfl) ?_; clear ha a; intro a ha
    refine op_g ha rfl (g_assign rfl) ?_; clear ha a; intro a ha
    refine wpList_nil ?_
    replace ha := ha.sub (σ' := [(4, (.int .i64 (a1 - (a0.length : Int))))]) ⟨rfl, trivial⟩
    refine e_then ?_
    refine wp_ret ?_
    obtain rfl := Option.some.inj hF
    exact f_ret1 ha rfl rfl ⟨⟨rfl, hI1⟩, hE⟩
set_option maxHeartbeats 2000000 in
theorem W_laws_szInt64SS {W : World} {va0 : Value} {fa0 : List Nat} {a0 : (List (List Int))} (ha0 : Ro (Rp.sl 2 Rp.int) W fa0 va0 a0) {a1 : Int} (ha1 : InI a1) {r : Int} (hF : F_laws_szInt64SS a0 a1 = some r) :
    Calls Try.prog 51 [va0, .int .i64 a1].toArray W (Ret fun u w' => (u = .int .i64 r ∧ InI r) ∧ Ext W w') := by
  refine f_enter Try.func51 rfl Try.ntmps51 rfl ?_
  intro a ha
  replace ha : Fr 27 [(0, va0), (1, (.int .i64 a1))] a := ha
  have hE : Chg [] W W := Chg.refl _ _
  unfold F_laws_szInt64SS at hF
  refine wp_seq ?_
  refine wp_region_lit ?_
  refine op_g ha rfl (g_assign rfl) ?_; clear ha a; intro a ha
  refine wpList_nil ?_
  replace ha := ha.sub (σ' := [(0, va0), (1, (.int .i64 a1))]) ⟨rfl, rfl, trivial⟩
  refine e_then ?_
  refine wp_seq ?_
  refine wp_region_lit ?_
  refine op_g ha rfl (g_move rfl) ?_; clear ha a; intro a ha
  refine op_g ha rfl (g_move rfl) ?_; clear ha a; intro a ha
  refine op_g ha rfl (g_lenR sl47.und ha0 rfl) ?_; clear ha a; intro a ha
  obtain ⟨hI1, hF⟩ := ck_some hF
  refine op_g ha rfl (g_sub rfl rfl hI1) ?_; clear ha a; intro a ha
  refine op_g ha rfl (g_assign rfl) ?_; clear ha a; intro a ha
  refine wpList_nil ?_
  replace ha := ha.sub (σ' := [(0, va0), (1, (.int .i64 (a1 - (a0.length : Int))))]) ⟨rfl, rfl, trivial⟩
  refine e_then ?_
  refine wp_seq ?_
  refine wp_seq ?_
  refine wp_region_lit ?_
  refine op_g ha rfl (g_move rfl) ?_; clear ha a; intro a ha
  refine op_g ha rfl (g_lss rfl rfl) ?_; clear ha a; intro a ha
  refine wpList_nil ?_
  replace ha := ha.sub (σ' := [(0, va0), (1, (.int .i64 (a1 - (a0.length : Int)))), (11, (.bool (decide ((a1 - (a0.length : Int)) < 0))))]) ⟨rfl, rfl, rfl, trivial⟩
  refine e_then ?_
  refine c_cond ((a1 - (a0.length : Int)) < 0) ha rfl (decide_eq_true_iff) (fun hp3 => ?_) (fun hp3 => ?_)
  · replace hF := if_t hp3 hF
    refine wp_seq ?_
    refine wp_region_lit ?_
    refine op_g ha rfl (g_assign rfl) ?_; clear ha a; intro a ha
    refine wpList_nil ?_
    replace ha := ha.sub (σ' := [(4, (.int .i64 (-1)))]) ⟨rfl, trivial⟩
    refine e_then ?_
    refine wp_ret ?_
    refine e_then_ret ?_
    obtain rfl := Option.some.inj hF
    exact f_ret1 ha rfl rfl ⟨⟨rfl, (by decide)⟩, hE⟩
  · replace hF := if_f hp3 hF
    refine wp_skip ?_
    refine e_then ?_
    refine wp_seq ?_
    refine wp_seq ?_
    refine wp_region_lit ?_
    refine op_g ha rfl (g_assign rfl) ?_; clear ha a; intro a ha
    refine wpList_nil ?_
    replace ha := ha.sub (σ' := [(0, va0), (1, (.int .i64 (a1 - (a0.length : Int)))), (5, (.int .i64 0))]) ⟨rfl, rfl, rfl, trivial⟩
    refine e_then ?_
    obtain ⟨o75, ho76, hK77⟩ := bnd_some hF
    obtain ⟨n78, hn79⟩ := lp_some ho76; clear ho76
    refine c_loop (fun a w => ∃ (i73 : Int), Fr 27 [(1, (.int .i64 i73))] a ∧ Chg [] W w ∧ InI i73 ∧ o75 = .inl i73) (fun n a w => ∃ (i37 : Int) (i39 : Int), Fr 27 [(0, va0), (1, (.int .i64 i37)), (5, (.int .i64 i39))] a ∧ Chg [] W w ∧ InI i37 ∧ InI i39 ∧ lpN (fun s => F_laws_szInt64SS_l1 a0 s.1 s.2) n (i37, i39) = some o75) n78 ⟨a1 - (a0.length : Int), 0, ha.sub ⟨rfl, rfl, rfl, trivial⟩, hE, hI1, (by decide), hn79⟩ ?_ ?_
    · rintro m83 a w36 ⟨i37, i39, ha, hE41, hI38, hI40, hF⟩
      cases m83 with
      | zero => exact (lpN_zero hF).elim
      | succ m83 =>
        obtain ⟨z82, hF, hN81⟩ := lpN_succ hF
        have hF : F_laws_szInt64SS_l1 a0 i37 i39 = some z82 := hF; unfold F_laws_szInt64SS_l1 at hF
        refine wp_seq ?_
        refine wp_seq ?_
        refine wp_region_lit ?_
        refine op_g ha rfl (g_move rfl) ?_; clear ha a; intro a ha
        refine op_g ha rfl (g_move rfl) ?_; clear ha a; intro a ha
        refine op_g ha rfl (g_lenR sl47.und ha0 rfl) ?_; clear ha a; intro a ha
        refine op_g ha rfl (g_lss rfl rfl) ?_; clear ha a; intro a ha
        refine wpList_nil ?_
        replace ha := ha.sub (σ' := [(0, va0), (1, (.int .i64 i37)), (5, (.int .i64 i39)), (15, (.bool (decide (i39 < (a0.length : Int)))))]) ⟨rfl, rfl, rfl, rfl, trivial⟩
        refine e_then ?_
        refine c_cond (i39 < (a0.length : Int)) ha rfl (decide_eq_true_iff) (fun hp84 => ?_) (fun hp84 => ?_)
        · replace hF := if_t hp84 hF
          refine wp_skip ?_
          refine e_then ?_
          refine wp_seq ?_
          refine wp_block ?_
          refine wp_seq ?_
          refine wp_region_lit ?_
          refine op_g ha rfl (g_move rfl) ?_; clear ha a; intro a ha
          refine op_g ha rfl (g_move rfl) ?_; clear ha a; intro a ha
          obtain ⟨x85, g86, gx87, hF⟩ := idx_some hF
          obtain ⟨p88, cs89, f90, hf91, hpb92, hat93, hr94, hi95⟩ := ha0.at g86 gx87
          obtain ⟨v96, rfl, h97⟩ := hr94
          have h97 : Ro Rp.int W f90 v96 x85 := h97
          refine op_g ha rfl (hi95.gives sl47 rfl rfl) ?_; clear ha a; intro a ha
          refine op_g ha rfl (g_load0 hE41 Try.isAgg22 rfl hat93.one) ?_; clear ha a; intro a ha
          refine op_g ha rfl (g_move rfl) ?_; clear ha a; intro a ha
          obtain ⟨x99, hc100, hF⟩ := cal_some hF
          refine o_call ha rfl rfl Try.call50 (W_laws_szInt64S (h97.ext hE41) hI38 hc100) ?_; clear ha a; rintro v101 w102 ⟨⟨rfl, hI104⟩, hx103⟩ a ha
          have hE105 := Ext.trans hE41 hx103
          refine op_g ha rfl (g_assign rfl) ?_; clear ha a; intro a ha
          refine wpList_nil ?_
          replace ha := ha.sub (σ' := [(0, va0), (1, (.int .i64 x99)), (5, (.int .i64 i39))]) ⟨rfl, rfl, rfl, trivial⟩
          refine e_then ?_
          refine wp_seq ?_
          refine wp_region_lit ?_
          refine op_g ha rfl (g_move rfl) ?_; clear ha a; intro a ha
          refine op_g ha rfl (g_lss rfl rfl) ?_; clear ha a; intro a ha
          refine wpList_nil ?_
          replace ha := ha.sub (σ' := [(0, va0), (1, (.int .i64 x99)), (5, (.int .i64 i39)), (25, (.bool (decide (x99 < 0))))]) ⟨rfl, rfl, rfl, rfl, trivial⟩
          refine e_then ?_
          refine c_cond (x99 < 0) ha rfl (decide_eq_true_iff) (fun hp106 => ?_) (fun hp106 => ?_)
          · replace hF := if_t hp106 hF
            refine wp_seq ?_
            refine wp_region_lit ?_
            refine op_g ha rfl (g_assign rfl) ?_; clear ha a; intro a ha
            refine wpList_nil ?_
            replace ha := ha.sub (σ' := [(4, (.int .i64 (-1)))]) ⟨rfl, trivial⟩
            refine e_then ?_
            refine wp_ret ?_
            refine e_blk_ret ?_
            refine e_then_ret ?_
            refine e_lq_ret ?_
            refine e_then_ret ?_
            obtain rfl := Option.some.inj hF
            have e107 := LK_inr hN81; subst e107
            have e108 := BK_inr hK77; subst e108
            exact f_ret1 ha rfl rfl ⟨⟨rfl, (by decide)⟩, hE105⟩
          · replace hF := if_f hp106 hF
            refine wp_skip ?_
            refine e_blk ?_
            refine e_then ?_
            refine wp_region_lit ?_
            refine op_g ha rfl (g_move rfl) ?_; clear ha a; intro a ha
            obtain ⟨hI109, hF⟩ := ck_some hF
            refine op_g ha rfl (g_add rfl rfl hI109) ?_; clear ha a; intro a ha
            refine op_g ha rfl (g_assign rfl) ?_; clear ha a; intro a ha
            refine wpList_nil ?_
            replace ha := ha.sub (σ' := [(0, va0), (1, (.int .i64 x99)), (5, (.int .i64 (i39 + 1)))]) ⟨rfl, rfl, rfl, trivial⟩
            refine e_lq ?_
            obtain rfl := Option.some.inj hF
            exact ⟨_, Nat.lt_succ_self _, x99, i39 + 1, ha.sub ⟨rfl, rfl, rfl, trivial⟩, hE105, hI104, hI109, hN81⟩
        · replace hF := if_f hp84 hF
          refine wp_exit ?_
          refine e_then_exit ?_
          refine e_lq_eq ?_
          obtain rfl := Option.some.inj hF
          exact ⟨i37, ha.sub ⟨rfl, trivial⟩, hE41, hI38, (LK_inr hN81).symm⟩
    · rintro a w72 ⟨i73, ha, hE80, hI74, rfl⟩
      have hF : F_laws_szInt64SS_k2 i73 = some _ := hK77; clear hK77; unfold F_laws_szInt64SS_k2 at hF
      refine e_then ?_
      refine wp_seq ?_
      refine wp_region_lit ?_
      refine op_g ha rfl (g_move rfl) ?_; clear ha a; intro a ha
      refine op_g ha rfl (g_assign rfl) ?_; clear ha a; intro a ha
      refine wpList_nil ?_
      replace ha := ha.sub (σ' := [(4, (.int .i64 i73))]) ⟨rfl, trivial⟩
      refine e_then ?_
      refine wp_ret ?_
      obtain rfl := Option.some.inj hF
      exact f_ret1 ha rfl rfl ⟨⟨rfl, hI74⟩, hE80⟩
set_option maxHeartbeats 2000000 in
theorem W_laws_szCert {W : World} {a0_0 : Int} (ha0_0 : InI a0_0) {va0_1 : Value} {fa0_1 : List Nat} {a0_1 : (List Int)} (ha0_1 : Ro Rp.int W fa0_1 va0_1 a0_1) {va0_2 : Value} {fa0_2 : List Nat} {a0_2 : (List (List Int))} (ha0_2 : Ro (Rp.sl 2 Rp.int) W fa0_2 va0_2 a0_2) {a1 : Int} (ha1 : InI a1) {r : Int} (hF : F_laws_szCert a0_0 a0_1 a0_2 a1 = some r) :
    Calls Try.prog 29 [.agg #[.int .i64 a0_0, va0_1, va0_2], .int .i64 a1].toArray W (Ret fun u w' => (u = .int .i64 r ∧ InI r) ∧ Ext W w') := by
  refine f_enter Try.func29 rfl Try.ntmps29 rfl ?_
  intro a ha
  replace ha : Fr 18 [(0, (.agg #[(.int .i64 a0_0), va0_1, va0_2])), (1, (.int .i64 a1))] a := ha
  have hE : Chg [] W W := Chg.refl _ _
  unfold F_laws_szCert at hF
  refine wp_seq ?_
  refine wp_region_lit ?_
  refine o_box ha rfl rfl rfl ?_; clear ha a; intro b1 w2 hB3 hx4 hlo5 a ha
  have q6 := Zn.one hlo5
  have q7 := Zn.upD q6 hE
  have hE8 := Ext.trans hE hx4
  refine op_g ha rfl (g_assign rfl) ?_; clear ha a; intro a ha
  refine wpList_nil ?_
  replace ha := ha.sub (σ' := [(1, (.int .i64 a1)), (2, (.pointer (some ⟨b1, 0, none⟩)))]) ⟨rfl, rfl, trivial⟩
  refine e_then ?_
  refine wp_seq ?_
  refine wp_region_lit ?_
  refine op_g ha rfl (g_field0 st49_1 rfl) ?_; clear ha a; intro a ha
  refine op_g ha rfl (g_load Try.isAgg22 rfl (hB3.cell rfl)) ?_; clear ha a; intro a ha
  refine op_g ha rfl (g_move rfl) ?_; clear ha a; intro a ha
  obtain ⟨x9, hc10, hF⟩ := cal_some hF
  refine o_call ha rfl rfl Try.call50 (W_laws_szInt64S (ha0_1.ext hE8) ha1 hc10) ?_; clear ha a; rintro v11 w12 ⟨⟨rfl, hI14⟩, hx13⟩ a ha
  replace hB3 := hB3.ext hx13
  have hE15 := Ext.trans hE8 hx13
  refine op_g ha rfl (g_assign rfl) ?_; clear ha a; intro a ha
  refine wpList_nil ?_
  replace ha := ha.sub (σ' := [(1, (.int .i64 x9)), (2, (.pointer (some ⟨b1, 0, none⟩)))]) ⟨rfl, rfl, trivial⟩
  refine e_then ?_
  refine wp_seq ?_
  refine wp_seq ?_
  refine wp_region_lit ?_
  refine op_g ha rfl (g_move rfl) ?_; clear ha a; intro a ha
  refine op_g ha rfl (g_lss rfl rfl) ?_; clear ha a; intro a ha
  refine wpList_nil ?_
  replace ha := ha.sub (σ' := [(1, (.int .i64 x9)), (2, (.pointer (some ⟨b1, 0, none⟩))), (10, (.bool (decide (x9 < 0))))]) ⟨rfl, rfl, rfl, trivial⟩
  refine e_then ?_
  refine c_cond (x9 < 0) ha rfl (decide_eq_true_iff) (fun hp16 => ?_) (fun hp16 => ?_)
  · replace hF := if_t hp16 hF
    refine wp_seq ?_
    refine wp_region_lit ?_
    refine op_g ha rfl (g_assign rfl) ?_; clear ha a; intro a ha
    refine wpList_nil ?_
    replace ha := ha.sub (σ' := [(4, (.int .i64 (-1)))]) ⟨rfl, trivial⟩
    refine e_then ?_
    refine wp_ret ?_
    refine e_then_ret ?_
    obtain rfl := Option.some.inj hF
    exact f_ret1 ha rfl rfl ⟨⟨rfl, (by decide)⟩, hE15⟩
  · replace hF := if_f hp16 hF
    refine wp_skip ?_
    refine e_then ?_
    refine wp_seq ?_
    refine wp_region_lit ?_
    refine op_g ha rfl (g_field0 st49_2 rfl) ?_; clear ha a; intro a ha
    refine op_g ha rfl (g_load Try.isAgg47 rfl (hB3.cell rfl)) ?_; clear ha a; intro a ha
    refine op_g ha rfl (g_move rfl) ?_; clear ha a; intro a ha
    obtain ⟨x17, hc18, hF⟩ := cal_some hF
    refine o_call ha rfl rfl Try.call51 (W_laws_szInt64SS (ha0_2.ext hE15) hI14 hc18) ?_; clear ha a; rintro v19 w20 ⟨⟨rfl, hI22⟩, hx21⟩ a ha
    replace hB3 := hB3.ext hx21
    have hE23 := Ext.trans hE15 hx21
    refine op_g ha rfl (g_assign rfl) ?_; clear ha a; intro a ha
    refine wpList_nil ?_
    replace ha := ha.sub (σ' := [(1, (.int .i64 x17))]) ⟨rfl, trivial⟩
    refine e_then ?_
    refine wp_seq ?_
    refine wp_seq ?_
    refine wp_region_lit ?_
    refine op_g ha rfl (g_move rfl) ?_; clear ha a; intro a ha
    refine op_g ha rfl (g_lss rfl rfl) ?_; clear ha a; intro a ha
    refine wpList_nil ?_
    replace ha := ha.sub (σ' := [(1, (.int .i64 x17)), (16, (.bool (decide (x17 < 0))))]) ⟨rfl, rfl, trivial⟩
    refine e_then ?_
    refine c_cond (x17 < 0) ha rfl (decide_eq_true_iff) (fun hp24 => ?_) (fun hp24 => ?_)
    · replace hF := if_t hp24 hF
      refine wp_seq ?_
      refine wp_region_lit ?_
      refine op_g ha rfl (g_assign rfl) ?_; clear ha a; intro a ha
      refine wpList_nil ?_
      replace ha := ha.sub (σ' := [(4, (.int .i64 (-1)))]) ⟨rfl, trivial⟩
      refine e_then ?_
      refine wp_ret ?_
      refine e_then_ret ?_
      obtain rfl := Option.some.inj hF
      exact f_ret1 ha rfl rfl ⟨⟨rfl, (by decide)⟩, hE23⟩
    · replace hF := if_f hp24 hF
      refine wp_skip ?_
      refine e_then ?_
      refine wp_seq ?_
      refine wp_region_lit ?_
      refine op_g ha rfl (g_move rfl) ?_; clear ha a; intro a ha
      refine op_g ha rfl (g_assign rfl) ?_; clear ha a; intro a ha
      refine wpList_nil ?_
      replace ha := ha.sub (σ' := [(4, (.int .i64 x17))]) ⟨rfl, trivial⟩
      refine e_then ?_
      refine wp_ret ?_
      obtain rfl := Option.some.inj hF
      exact f_ret1 ha rfl rfl ⟨⟨rfl, hI22⟩, hE23⟩
set_option maxHeartbeats 2000000 in
theorem W_laws_toInt64S {W : World} {va0 : Value} {fa0 : List Nat} {a0 : (List Int)} (ha0 : Ro Rp.int W fa0 va0 a0) {r : (List Int)} (hF : F_laws_toInt64S a0 = some r) :
    Calls Try.prog 10 [va0].toArray W (Ret fun u w' => ∃ (b_u : Int), Ow Rp.int 2 true w' [] b_u u r ∧ Zn W b_u ∧ Ext W w') := by
  refine f_enter Try.func10 rfl Try.ntmps10 rfl ?_
  intro a ha
  replace ha : Fr 22 [(0, va0)] a := ha
  have hE : Chg [] W W := Chg.refl _ _
  unfold F_laws_toInt64S at hF
  refine wp_seq ?_
  refine wp_region_lit ?_
  refine op_g ha rfl (g_assign rfl) ?_; clear ha a; intro a ha
  refine wpList_nil ?_
  replace ha := ha.sub (σ' := [(0, va0)]) ⟨rfl, trivial⟩
  refine e_then ?_
  refine wp_seq ?_
  refine wp_region_lit ?_
  refine op_g ha rfl (g_move rfl) ?_; clear ha a; intro a ha
  refine op_g ha rfl (g_lenR sl22.und ha0 rfl) ?_; clear ha a; intro a ha
  obtain ⟨g5, g5b, hF⟩ := mkS_some hF
  refine o_make (z0 := (0 : Int)) Rp.int ha rfl sl22 rfl (fun w => ⟨rfl, by decide, rfl⟩) rfl g5 g5b ?_; clear ha a; intro v1 w2 h3 hx4 a ha
  obtain ⟨b8, hb8⟩ : ∃ b : Int, b = W.heap.size := ⟨_, rfl⟩; rw [← hb8] at h3
  have q9 := zn_of hb8
  have q10 := Zn.upD q9 hE
  have hE11 := Ext.trans hE hx4
  refine op_g ha rfl (g_assign rfl) ?_; clear ha a; intro a ha
  refine wpList_nil ?_
  replace ha := ha.sub (σ' := [(0, va0), (3, v1)]) ⟨rfl, rfl, trivial⟩
  refine e_then ?_
  refine wp_seq ?_
  refine wp_seq ?_
  refine wp_region_lit ?_
  refine op_g ha rfl (g_assign rfl) ?_; clear ha a; intro a ha
  refine wpList_nil ?_
  refine e_then ?_
  obtain ⟨o118, ho119, hK120⟩ := bnd_some hF
  obtain ⟨n121, hn122⟩ := lp_some ho119; clear ho119
  refine c_loop (fun a w => ∃ (l115 : (List Int)) (v116 : Value) (b117 : Int), Fr 22 [(3, v116)] a ∧ Chg [] W w ∧ Ow Rp.int 2 true w [] b117 v116 l115 ∧ Zn W b117 ∧ o118 = .inl l115) (fun n a w => ∃ (l63 : (List Int)) (i66 : Int) (v64 : Value) (b65 : Int), Fr 22 [(0, va0), (3, v64), (4, (.int .i64 i66))] a ∧ Chg [] W w ∧ InI i66 ∧ Ow Rp.int 2 true w [] b65 v64 l63 ∧ Zn W b65 ∧ lpN (fun s => F_laws_toInt64S_l1 a0 s.1 s.2) n (l63, i66) = some o118) n121 ⟨(List.replicate ((a0.length : Int)).toNat (0 : Int)), 0, v1, b8, ha.sub ⟨rfl, rfl, rfl, trivial⟩, hE11, (by decide), h3, q10, hn122⟩ ?_ ?_
  · rintro m126 a w59 ⟨l63, i66, v64, b65, ha, hE68, hI67, h61, z62, hF⟩
    cases m126 with
    | zero => exact (lpN_zero hF).elim
    | succ m126 =>
      obtain ⟨z125, hF, hN124⟩ := lpN_succ hF
      have hF : F_laws_toInt64S_l1 a0 l63 i66 = some z125 := hF; unfold F_laws_toInt64S_l1 at hF
      refine wp_seq ?_
      refine wp_seq ?_
      refine wp_region_lit ?_
      refine op_g ha rfl (g_move rfl) ?_; clear ha a; intro a ha
      refine op_g ha rfl (g_move rfl) ?_; clear ha a; intro a ha
      refine op_g ha rfl (g_lenR sl22.und ha0 rfl) ?_; clear ha a; intro a ha
      refine op_g ha rfl (g_lss rfl rfl) ?_; clear ha a; intro a ha
      refine wpList_nil ?_
      replace ha := ha.sub (σ' := [(0, va0), (3, v64), (4, (.int .i64 i66)), (11, (.bool (decide (i66 < (a0.length : Int)))))]) ⟨rfl, rfl, rfl, rfl, trivial⟩
      refine e_then ?_
      refine c_cond (i66 < (a0.length : Int)) ha rfl (decide_eq_true_iff) (fun hp127 => ?_) (fun hp127 => ?_)
      · replace hF := if_t hp127 hF
        refine wp_skip ?_
        refine e_then ?_
        refine wp_seq ?_
        refine wp_block ?_
        refine wp_region_lit ?_
        refine op_g ha rfl (g_move rfl) ?_; clear ha a; intro a ha
        refine op_g ha rfl (g_move rfl) ?_; clear ha a; intro a ha
        refine op_g ha rfl (g_move rfl) ?_; clear ha a; intro a ha
        refine op_g ha rfl (g_move rfl) ?_; clear ha a; intro a ha
        obtain ⟨x128, g129, gx130, hF⟩ := idx_some hF
        obtain ⟨p131, cs132, f133, hf134, hpb135, hat136, hr137, hi138⟩ := ha0.at g129 gx130
        obtain ⟨rfl, hI139, rfl⟩ := hr137
        refine op_g ha rfl (hi138.gives sl22 rfl rfl) ?_; clear ha a; intro a ha
        refine op_g ha rfl (g_load0 hE68 Try.isAgg2 rfl hat136.one) ?_; clear ha a; intro a ha
        obtain ⟨x140, g141, gx142, hF⟩ := idx_some hF
        obtain ⟨p143, cs144, f145, hf146, hpb147, hat148, hr149, hi150⟩ := h61.at g141 gx142
        obtain ⟨rfl, hI151, rfl⟩ := hr149
        refine op_g ha rfl (hi150.gives sl22 rfl rfl) ?_; clear ha a; intro a ha
        refine o_storeE (f := []) (q := x128) ha Try.sizeOf2 rfl rfl rfl h61 hi150 ⟨rfl, hI139, rfl⟩ (Nq.nil _) ?_; intro w152 fs153 h154 hc155 hs156
        obtain rfl := Subst.nil hs156
        have hE157 := Ext.then hE68 hc155 (Zn.bl z62)
        refine wpList_nil ?_
        replace ha := ha.sub (σ' := [(0, va0), (3, v64), (4, (.int .i64 i66))]) ⟨rfl, rfl, rfl, trivial⟩
        refine e_blk ?_
        refine e_then ?_
        refine wp_region_lit ?_
        refine op_g ha rfl (g_move rfl) ?_; clear ha a; intro a ha
        obtain ⟨hI158, hF⟩ := ck_some hF
        refine op_g ha rfl (g_add rfl rfl hI158) ?_; clear ha a; intro a ha
        refine op_g ha rfl (g_assign rfl) ?_; clear ha a; intro a ha
        refine wpList_nil ?_
        replace ha := ha.sub (σ' := [(0, va0), (3, v64), (4, (.int .i64 (i66 + 1)))]) ⟨rfl, rfl, rfl, trivial⟩
        refine e_lq ?_
        obtain rfl := Option.some.inj hF
        exact ⟨_, Nat.lt_succ_self _, (l63.set ((i66).toNat) x128), i66 + 1, v64, b65, ha.sub ⟨rfl, rfl, rfl, trivial⟩, hE157, hI158, h154, z62, hN124⟩
      · replace hF := if_f hp127 hF
        refine wp_exit ?_
        refine e_then_exit ?_
        refine e_lq_eq ?_
        obtain rfl := Option.some.inj hF
        exact ⟨l63, v64, b65, ha.sub ⟨rfl, trivial⟩, hE68, h61, z62, (LK_inr hN124).symm⟩
  · rintro a w111 ⟨l115, v116, b117, ha, hE123, h113, z114, rfl⟩
    have hF : F_laws_toInt64S_k2 l115 = some _ := hK120; clear hK120; unfold F_laws_toInt64S_k2 at hF
    refine e_then ?_
    refine wp_seq ?_
    refine wp_region_lit ?_
    refine op_g ha rfl (g_move rfl) ?_; clear ha a; intro a ha
    refine op_g ha rfl (g_assign rfl) ?_; clear ha a; intro a ha
    refine wpList_nil ?_
    replace ha := ha.sub (σ' := [(2, v116)]) ⟨rfl, trivial⟩
    refine e_then ?_
    refine wp_ret ?_
    obtain rfl := Option.some.inj hF
    exact f_ret1 ha rfl rfl ⟨_, h113, z114, hE123⟩
set_option maxHeartbeats 2000000 in
theorem W_laws_toInt64SS {W : World} {va0 : Value} {fa0 : List Nat} {a0 : (List (List Int))} (ha0 : Ro (Rp.sl 2 Rp.int) W fa0 va0 a0) {r : (List (List Int))} (hF : F_laws_toInt64SS a0 = some r) :
    Calls Try.prog 53 [va0].toArray W (Ret fun u w' => ∃ (b_u : Int) (fs_u : List Nat), Ow (Rp.sl 2 Rp.int) 22 true w' fs_u b_u u r ∧ Zn W b_u ∧ (∀ k ∈ fs_u, W.heap.size ≤ k) ∧ (bl b_u ++ fs_u).Nodup ∧ Ext W w') := by
  refine f_enter Try.func53 rfl Try.ntmps53 rfl ?_
  intro a ha
  replace ha : Fr 23 [(0, va0)] a := ha
  have hE : Chg [] W W := Chg.refl _ _
  unfold F_laws_toInt64SS at hF
  refine wp_seq ?_
  refine wp_region_lit ?_
  refine op_g ha rfl (g_assign rfl) ?_; clear ha a; intro a ha
  refine wpList_nil ?_
  replace ha := ha.sub (σ' := [(0, va0)]) ⟨rfl, trivial⟩
  refine e_then ?_
  refine wp_seq ?_
  refine wp_region_lit ?_
  refine op_g ha rfl (g_move rfl) ?_; clear ha a; intro a ha
  refine op_g ha rfl (g_lenR sl47.und ha0 rfl) ?_; clear ha a; intro a ha
  obtain ⟨g5, g5b, hF⟩ := mkS_some hF
  refine o_make (z0 := ([] : (List Int))) (Rp.sl 2 Rp.int) ha rfl sl47 rfl (fun w => nil_rep w) rfl g5 g5b ?_; clear ha a; intro v1 w2 h3 hx4 a ha
  obtain ⟨b8, hb8⟩ : ∃ b : Int, b = W.heap.size := ⟨_, rfl⟩; rw [← hb8] at h3
  have q9 := zn_of hb8
  have q10 := Zn.upD q9 hE
  have hE11 := Ext.trans hE hx4
  refine op_g ha rfl (g_assign rfl) ?_; clear ha a; intro a ha
  refine wpList_nil ?_
  replace ha := ha.sub (σ' := [(0, va0), (3, v1)]) ⟨rfl, rfl, trivial⟩
  refine e_then ?_
  refine wp_seq ?_
  refine wp_seq ?_
  refine wp_region_lit ?_
  refine op_g ha rfl (g_assign rfl) ?_; clear ha a; intro a ha
  refine wpList_nil ?_
  refine e_then ?_
  obtain ⟨o179, ho180, hK181⟩ := bnd_some hF
  obtain ⟨n182, hn183⟩ := lp_some ho180; clear ho180
  refine c_loop (fun a w => ∃ (l176 : (List (List Int))) (fs173 : List Nat) (v177 : Value) (b178 : Int), Fr 23 [(3, v177)] a ∧ Chg [] W w ∧ Ow (Rp.sl 2 Rp.int) 22 true w fs173 b178 v177 l176 ∧ Zn W b178 ∧ (∀ k ∈ fs173, W.heap.size ≤ k) ∧ (bl b178 ++ fs173).Nodup ∧ o179 = .inl l176) (fun n a w => ∃ (l95 : (List (List Int))) (i98 : Int) (fs92 : List Nat) (v96 : Value) (b97 : Int), Fr 23 [(0, va0), (3, v96), (4, (.int .i64 i98))] a ∧ Chg [] W w ∧ InI i98 ∧ Ow (Rp.sl 2 Rp.int) 22 true w fs92 b97 v96 l95 ∧ Zn W b97 ∧ (∀ k ∈ fs92, W.heap.size ≤ k) ∧ (bl b97 ++ fs92).Nodup ∧ lpN (fun s => F_laws_toInt64SS_l1 a0 s.1 s.2) n (l95, i98) = some o179) n182 ⟨(List.replicate ((a0.length : Int)).toNat ([] : (List Int))), 0, [], v1, b8, ha.sub ⟨rfl, rfl, rfl, trivial⟩, hE11, (by decide), h3, q10, (zf_nil _), (bl_nodup _), hn183⟩ ?_ ?_
  · rintro m187 a w88 ⟨l95, i98, fs92, v96, b97, ha, hE100, hI99, h90, z91, zf93, nd94, hF⟩
    cases m187 with
    | zero => exact (lpN_zero hF).elim
    | succ m187 =>
      obtain ⟨z186, hF, hN185⟩ := lpN_succ hF
      have hF : F_laws_toInt64SS_l1 a0 l95 i98 = some z186 := hF; unfold F_laws_toInt64SS_l1 at hF
      refine wp_seq ?_
      refine wp_seq ?_
      refine wp_region_lit ?_
      refine op_g ha rfl (g_move rfl) ?_; clear ha a; intro a ha
      refine op_g ha rfl (g_move rfl) ?_; clear ha a; intro a ha
      refine op_g ha rfl (g_lenR sl47.und ha0 rfl) ?_; clear ha a; intro a ha
      refine op_g ha rfl (g_lss rfl rfl) ?_; clear ha a; intro a ha
      refine wpList_nil ?_
      replace ha := ha.sub (σ' := [(0, va0), (3, v96), (4, (.int .i64 i98)), (11, (.bool (decide (i98 < (a0.length : Int)))))]) ⟨rfl, rfl, rfl, rfl, trivial⟩
      refine e_then ?_
      refine c_cond (i98 < (a0.length : Int)) ha rfl (decide_eq_true_iff) (fun hp188 => ?_) (fun hp188 => ?_)
      · replace hF := if_t hp188 hF
        refine wp_skip ?_
        refine e_then ?_
        refine wp_seq ?_
        refine wp_block ?_
        refine wp_region_lit ?_
        refine op_g ha rfl (g_move rfl) ?_; clear ha a; intro a ha
        refine op_g ha rfl (g_move rfl) ?_; clear ha a; intro a ha
        refine op_g ha rfl (g_move rfl) ?_; clear ha a; intro a ha
        refine op_g ha rfl (g_move rfl) ?_; clear ha a; intro a ha
        obtain ⟨x189, g190, gx191, hF⟩ := idx_some hF
        obtain ⟨p192, cs193, f194, hf195, hpb196, hat197, hr198, hi199⟩ := ha0.at g190 gx191
        obtain ⟨v200, rfl, h201⟩ := hr198
        have h201 : Ro Rp.int W f194 v200 x189 := h201
        refine op_g ha rfl (hi199.gives sl47 rfl rfl) ?_; clear ha a; intro a ha
        refine op_g ha rfl (g_load0 hE100 Try.isAgg22 rfl hat197.one) ?_; clear ha a; intro a ha
        obtain ⟨x203, hc204, hF⟩ := cal_some hF
        refine o_call ha rfl rfl Try.call10 (W_laws_toInt64S (h201.ext hE100) hc204) ?_; clear ha a; rintro v205 w206 ⟨b208, h209, z210, hx207⟩ a ha
        have q212 := Nq.new h90.fpb z210
        have q213 := Nq.madeO z210 h90.blt
        replace h90 := h90.ext hx207
        have hE214 := Ext.trans hE100 hx207
        have q215 := Zn.upD z210 hE100
        obtain ⟨x216, g217, gx218, hF⟩ := idx_some hF
        obtain ⟨p219, cs220, f221, hf222, hpb223, hat224, hr225, hi226⟩ := h90.at g217 gx218
        replace hr225 := (Rp.sl 2 Rp.int).weak hr225
        obtain ⟨v227, rfl, h228⟩ := hr225
        have h228 : Ro Rp.int w206 f221 v227 x216 := h228
        have q230 := Nq.mono q212 (fun k hk => List.mem_append_right _ (hf222 k hk))
        have q231 := Nq.mono (Ow.ne h90) hf222
        refine op_g ha rfl (hi226.gives sl47 rfl rfl) ?_; clear ha a; intro a ha
        refine o_storeE (f := (bl b208 ++ [])) (q := x203) ha Try.sizeOf22 rfl rfl h209.cells h90 hi226 (Rp.mkO h209) q213 ?_; intro w232 fs233 h234 hc235 hs236
        have q237 := zf_mv q215 (zf_nil _)
        have q238 := dj_of q212
        have q239 := zf_set hs236 zf93 q237
        have q240 := Subst.nd hs236 nd94 (bl_nodup _) q238
        replace h228 := h228.nq hc235 q231
        have hE241 := Ext.then hE214 hc235 (Zn.bl z91)
        refine wpList_nil ?_
        replace ha := ha.sub (σ' := [(0, va0), (3, v96), (4, (.int .i64 i98))]) ⟨rfl, rfl, rfl, trivial⟩
        refine e_blk ?_
        refine e_then ?_
        refine wp_region_lit ?_
        refine op_g ha rfl (g_move rfl) ?_; clear ha a; intro a ha
        obtain ⟨hI242, hF⟩ := ck_some hF
        refine op_g ha rfl (g_add rfl rfl hI242) ?_; clear ha a; intro a ha
        refine op_g ha rfl (g_assign rfl) ?_; clear ha a; intro a ha
        refine wpList_nil ?_
        replace ha := ha.sub (σ' := [(0, va0), (3, v96), (4, (.int .i64 (i98 + 1)))]) ⟨rfl, rfl, rfl, trivial⟩
        refine e_lq ?_
        obtain rfl := Option.some.inj hF
        exact ⟨_, Nat.lt_succ_self _, (l95.set ((i98).toNat) x203), i98 + 1, fs233, v96, b97, ha.sub ⟨rfl, rfl, rfl, trivial⟩, hE241, hI242, h234, z91, q239, q240, hN185⟩
      · replace hF := if_f hp188 hF
        refine wp_exit ?_
        refine e_then_exit ?_
        refine e_lq_eq ?_
        obtain rfl := Option.some.inj hF
        exact ⟨l95, fs92, v96, b97, ha.sub ⟨rfl, trivial⟩, hE100, h90, z91, zf93, nd94, (LK_inr hN185).symm⟩
  · rintro a w169 ⟨l176, fs173, v177, b178, ha, hE184, h171, z172, zf174, nd175, rfl⟩
    have hF : F_laws_toInt64SS_k2 l176 = some _ := hK181; clear hK181; unfold F_laws_toInt64SS_k2 at hF
    refine e_then ?_
    refine wp_seq ?_
    refine wp_region_lit ?_
    refine op_g ha rfl (g_move rfl) ?_; clear ha a; intro a ha
    refine op_g ha rfl (g_assign rfl) ?_; clear ha a; intro a ha
    refine wpList_nil ?_
    replace ha := ha.sub (σ' := [(2, v177)]) ⟨rfl, trivial⟩
    refine e_then ?_
    refine wp_ret ?_
    obtain rfl := Option.some.inj hF
    exact f_ret1 ha rfl rfl ⟨_, _, h171, z172, zf174, nd175, hE184⟩
set_option maxHeartbeats 2000000 in
theorem W_laws_toCert {W : World} {a0_0 : Int} (ha0_0 : InI a0_0) {va0_1 : Value} {fa0_1 : List Nat} {a0_1 : (List Int)} (ha0_1 : Ro Rp.int W fa0_1 va0_1 a0_1) {va0_2 : Value} {fa0_2 : List Nat} {a0_2 : (List (List Int))} (ha0_2 : Ro (Rp.sl 2 Rp.int) W fa0_2 va0_2 a0_2) {r : (Int × ((List Int) × (List (List Int))))} (hF : F_laws_toCert a0_0 a0_1 a0_2 = some r) :
    Calls Try.prog 31 [.agg #[.int .i64 a0_0, va0_1, va0_2]].toArray W (Ret fun u w' => ∃ (u_0 : Value) (u_1 : Value) (u_2 : Value) (b_u_1 : Int) (b_u_2 : Int) (fs_u_2 : List Nat), u = .agg #[u_0, u_1, u_2] ∧ (u_0 = .int .i64 r.1 ∧ InI r.1) ∧ Ow Rp.int 2 true w' [] b_u_1 u_1 r.2.1 ∧ Zn W b_u_1 ∧ Ow (Rp.sl 2 Rp.int) 22 true w' fs_u_2 b_u_2 u_2 r.2.2 ∧ Zn W b_u_2 ∧ (∀ k ∈ fs_u_2, W.heap.size ≤ k) ∧ (bl b_u_2 ++ fs_u_2).Nodup ∧ Nq (bl b_u_1 ++ []) b_u_2 ∧ Nq (bl b_u_2 ++ fs_u_2) b_u_1 ∧ Ext W w') := by
  refine f_enter Try.func31 rfl Try.ntmps31 rfl ?_
  intro a ha
  replace ha : Fr 16 [(0, (.agg #[(.int .i64 a0_0), va0_1, va0_2]))] a := ha
  have hE : Chg [] W W := Chg.refl _ _
  unfold F_laws_toCert at hF
  refine wp_seq ?_
  refine wp_region_lit ?_
  refine o_box ha rfl rfl rfl ?_; clear ha a; intro b1 w2 hB3 hx4 hlo5 a ha
  have q6 := Zn.one hlo5
  have q7 := Zn.upD q6 hE
  have hE8 := Ext.trans hE hx4
  refine o_alloc (cs := [(.int .i64 0), (.slice none 0 0), (.slice none 0 0)]) ha rfl Try.zeroValue52 rfl ?_; clear ha a; intro b9 w10 hB11 hx12 hlo13 a ha
  have q14 := Zn.one hlo13
  have q15 := Nq.new hB3.fpb q14
  have q16 := Nq.made1 hlo13 hB3.bi
  have q17 := Zn.upD q14 hE8
  replace hB3 := hB3.ext hx12
  have hE18 := Ext.trans hE8 hx12
  refine wpList_nil ?_
  replace ha := ha.sub (σ' := [(1, (.pointer (some ⟨b1, 0, none⟩))), (2, (.pointer (some ⟨b9, 0, none⟩)))]) ⟨rfl, rfl, trivial⟩
  refine e_then ?_
  refine wp_seq ?_
  refine wp_region_lit ?_
  refine o_alloc (cs := [(.int .i64 0), (.slice none 0 0), (.slice none 0 0)]) ha rfl Try.zeroValue52 rfl ?_; clear ha a; intro b19 w20 hB21 hx22 hlo23 a ha
  have q24 := Zn.one hlo23
  have q25 := Nq.new hB3.fpb q24
  have q26 := Nq.made1 hlo23 hB3.bi
  have q27 := Nq.new hB11.fpb q24
  have q28 := Nq.made1 hlo23 hB11.bi
  have q29 := Zn.upD q24 hE18
  replace hB3 := hB3.ext hx22
  replace hB11 := hB11.ext hx22
  have hE30 := Ext.trans hE18 hx22
  refine wpList_nil ?_
  refine e_then ?_
  refine wp_seq ?_
  refine wp_region_lit ?_
  refine op_g ha rfl (g_field0 st49_0 rfl) ?_; clear ha a; intro a ha
  refine op_g ha rfl (g_load Try.isAgg2 rfl (hB3.cell rfl)) ?_; clear ha a; intro a ha
  refine op_g ha rfl (g_field0 st52_0 rfl) ?_; clear ha a; intro a ha
  refine o_storeB ha hB21 Try.sizeOf2 rfl rfl rfl rfl (Nat.le_of_ble_eq_true rfl) ?_; intro w31 hB32 hc33
  replace hc33 := hc33.bl
  replace hB32 : Bx w31 b19 [(.int .i64 a0_0), (.slice none 0 0), (.slice none 0 0)] 52 := hB32
  replace hB3 := hB3.nq hc33 q25
  replace hB11 := hB11.nq hc33 q27
  have hE34 := Ext.then hE30 hc33 (Zn.bl q29)
  refine wpList_nil ?_
  replace ha := ha.sub (σ' := [(1, (.pointer (some ⟨b1, 0, none⟩))), (2, (.pointer (some ⟨b9, 0, none⟩))), (3, (.pointer (some ⟨b19, 0, none⟩)))]) ⟨rfl, rfl, rfl, trivial⟩
  refine e_then ?_
  refine wp_seq ?_
  refine wp_region_lit ?_
  refine op_g ha rfl (g_field0 st49_1 rfl) ?_; clear ha a; intro a ha
  refine op_g ha rfl (g_load Try.isAgg22 rfl (hB3.cell rfl)) ?_; clear ha a; intro a ha
  obtain ⟨x35, hc36, hF⟩ := cal_some hF
  refine o_call ha rfl rfl Try.call10 (W_laws_toInt64S (ha0_1.ext hE34) hc36) ?_; clear ha a; rintro v37 w38 ⟨b40, h41, z42, hx39⟩ a ha
  have q44 := Nq.new hB3.fpb z42
  have q45 := Nq.madeO z42 hB3.bi
  have q46 := Nq.new hB11.fpb z42
  have q47 := Nq.madeO z42 hB11.bi
  have q48 := Nq.new hB32.fpb z42
  have q49 := Nq.madeO z42 hB32.bi
  replace hB3 := hB3.ext hx39
  replace hB11 := hB11.ext hx39
  replace hB32 := hB32.ext hx39
  have hE50 := Ext.trans hE34 hx39
  have q51 := Zn.upD z42 hE34
  refine op_g ha rfl (g_field0 st52_1 rfl) ?_; clear ha a; intro a ha
  refine o_storeB ha hB32 Try.sizeOf22 rfl rfl h41.cells h41.oneC (Nat.le_of_ble_eq_true rfl) ?_; intro w52 hB53 hc54
  replace hc54 := hc54.bl
  replace hB53 : Bx w52 b19 [(.int .i64 a0_0), v37, (.slice none 0 0)] 52 := hB53
  replace hB3 := hB3.nq hc54 q25
  replace hB11 := hB11.nq hc54 q27
  replace h41 := h41.nq hc54 q49
  have hE55 := Ext.then hE50 hc54 (Zn.bl q29)
  refine wpList_nil ?_
  replace ha := ha.sub (σ' := [(1, (.pointer (some ⟨b1, 0, none⟩))), (2, (.pointer (some ⟨b9, 0, none⟩))), (3, (.pointer (some ⟨b19, 0, none⟩)))]) ⟨rfl, rfl, rfl, trivial⟩
  refine e_then ?_
  refine wp_seq ?_
  refine wp_region_lit ?_
  refine op_g ha rfl (g_field0 st49_2 rfl) ?_; clear ha a; intro a ha
  refine op_g ha rfl (g_load Try.isAgg47 rfl (hB3.cell rfl)) ?_; clear ha a; intro a ha
  obtain ⟨x56, hc57, hF⟩ := cal_some hF
  refine o_call ha rfl rfl Try.call53 (W_laws_toInt64SS (ha0_2.ext hE55) hc57) ?_; clear ha a; rintro v58 w59 ⟨b61, fs65, h62, z63, zf66, nd67, hx60⟩ a ha
  have q68 := Nq.new hB3.fpb z63
  have q69 := Nq.madeF z63 zf66 hB3.bi
  have q70 := Nq.new hB11.fpb z63
  have q71 := Nq.madeF z63 zf66 hB11.bi
  have q72 := Nq.new hB53.fpb z63
  have q73 := Nq.madeF z63 zf66 hB53.bi
  have q74 := Nq.new h41.fpb z63
  have q75 := Nq.madeF z63 zf66 h41.blt
  replace hB3 := hB3.ext hx60
  replace hB11 := hB11.ext hx60
  replace hB53 := hB53.ext hx60
  replace h41 := h41.ext hx60
  have hE76 := Ext.trans hE55 hx60
  have q77 := Zn.upD z63 hE55
  have q78 := zf_up zf66 hE55
  refine op_g ha rfl (g_field0 st52_2 rfl) ?_; clear ha a; intro a ha
  refine o_storeB ha hB53 Try.sizeOf47 rfl rfl h62.cells h62.oneC (Nat.le_of_ble_eq_true rfl) ?_; intro w79 hB80 hc81
  replace hc81 := hc81.bl
  replace hB80 : Bx w79 b19 [(.int .i64 a0_0), v37, v58] 52 := hB80
  replace hB3 := hB3.nq hc81 q25
  replace hB11 := hB11.nq hc81 q27
  replace h41 := h41.nq hc81 q49
  replace h62 := h62.nq hc81 q73
  have hE82 := Ext.then hE76 hc81 (Zn.bl q29)
  refine wpList_nil ?_
  replace ha := ha.sub (σ' := [(2, (.pointer (some ⟨b9, 0, none⟩))), (3, (.pointer (some ⟨b19, 0, none⟩)))]) ⟨rfl, rfl, trivial⟩
  refine e_then ?_
  refine wp_seq ?_
  refine wp_region_lit ?_
  refine op_g ha rfl (g_loadA (cs := [(.int .i64 a0_0), v37, v58]) Try.isAgg52 Try.sizeOf52 rfl (by simp) hB80.all) ?_; clear ha a; intro a ha
  refine o_storeA (vs := [(.int .i64 a0_0), v37, v58]) ha hB11 Try.sizeOf52 rfl rfl (by intro c hc; simp only [List.mem_cons, List.not_mem_nil, or_false] at hc; rcases hc with hc | hc | hc <;> subst hc <;> first | rfl | exact rfl | exact h41.oneC | exact h62.oneC) rfl ?_; intro w83 hB84 hc85
  replace hc85 := hc85.bl
  replace hB84 : Bx w83 b9 [(.int .i64 a0_0), v37, v58] 52 := hB84
  replace hB80 := hB80.nq hc85 q28
  replace h41 := h41.nq hc85 q47
  replace h62 := h62.nq hc85 q71
  have hE86 := Ext.then hE82 hc85 (Zn.bl q17)
  refine wpList_nil ?_
  replace ha := ha.sub (σ' := [(2, (.pointer (some ⟨b9, 0, none⟩)))]) ⟨rfl, trivial⟩
  refine e_then ?_
  refine wp_ret ?_
  obtain rfl := Option.some.inj hF
  exact f_retC (cs := [(.int .i64 a0_0), v37, v58]) ha rfl rfl Try.isAgg52 Try.sizeOf52 hB84 ⟨_, _, _, _, _, _, rfl, ⟨rfl, ha0_0⟩, h41, q51, h62, q77, q78, nd67, q74, q75, hE86⟩
set_option maxHeartbeats 2000000 in
theorem W_spec_l1Same {W : World} {va0 : Value} {fa0 : List Nat} {a0 : (List Int)} (ha0 : Ro Rp.int W fa0 va0 a0) {va1 : Value} {fa1 : List Nat} {a1 : (List Int)} (ha1 : Ro Rp.int W fa1 va1 a1) {r : Bool} (hF : F_spec_l1Same a0 a1 = some r) :
    Calls Try.prog 52 [va0, va1].toArray W (Ret fun u w' => u = .bool r ∧ Ext W w') := by
  refine f_enter Try.func52 rfl Try.ntmps52 rfl ?_
  intro a ha
  replace ha : Fr 26 [(0, va0), (1, va1)] a := ha
  have hE : Chg [] W W := Chg.refl _ _
  unfold F_spec_l1Same at hF
  refine wp_seq ?_
  refine wp_region_lit ?_
  refine op_g ha rfl (g_assign rfl) ?_; clear ha a; intro a ha
  refine wpList_nil ?_
  replace ha := ha.sub (σ' := [(0, va0), (1, va1)]) ⟨rfl, rfl, trivial⟩
  refine e_then ?_
  refine wp_seq ?_
  refine wp_seq ?_
  refine wp_region_lit ?_
  refine op_g ha rfl (g_move rfl) ?_; clear ha a; intro a ha
  refine op_g ha rfl (g_lenR sl22.und ha0 rfl) ?_; clear ha a; intro a ha
  refine op_g ha rfl (g_move rfl) ?_; clear ha a; intro a ha
  refine op_g ha rfl (g_lenR sl22.und ha1 rfl) ?_; clear ha a; intro a ha
  refine op_g ha rfl (g_neq rfl rfl) ?_; clear ha a; intro a ha
  refine wpList_nil ?_
  replace ha := ha.sub (σ' := [(0, va0), (1, va1), (10, (.bool (decide ((a0.length : Int) ≠ (a1.length : Int)))))]) ⟨rfl, rfl, rfl, trivial⟩
  refine e_then ?_
  refine c_cond ((a0.length : Int) ≠ (a1.length : Int)) ha rfl (decide_eq_true_iff) (fun hp1 => ?_) (fun hp1 => ?_)
  · replace hF := if_t hp1 hF
    refine wp_seq ?_
    refine wp_region_lit ?_
    refine op_g ha rfl (g_assign rfl) ?_; clear ha a; intro a ha
    refine wpList_nil ?_
    replace ha := ha.sub (σ' := [(4, (.bool false))]) ⟨rfl, trivial⟩
    refine e_then ?_
    refine wp_ret ?_
    refine e_then_ret ?_
    obtain rfl := Option.some.inj hF
    exact f_ret1 ha rfl rfl ⟨rfl, hE⟩
  · replace hF := if_f hp1 hF
    refine wp_skip ?_
    refine e_then ?_
    refine wp_seq ?_
    refine wp_seq ?_
    refine wp_region_lit ?_
    refine op_g ha rfl (g_assign rfl) ?_; clear ha a; intro a ha
    refine wpList_nil ?_
    replace ha := ha.sub (σ' := [(0, va0), (1, va1), (5, (.int .i64 0))]) ⟨rfl, rfl, rfl, trivial⟩
    refine e_then ?_
    obtain ⟨o77, ho78, hK79⟩ := bnd_some hF
    obtain ⟨n80, hn81⟩ := lp_some ho78; clear ho78
    refine c_loop (fun a w => Fr 26 [] a ∧ Chg [] W w ∧ o77 = .inl ()) (fun n a w => ∃ (i39 : Int), Fr 26 [(0, va0), (1, va1), (5, (.int .i64 i39))] a ∧ Chg [] W w ∧ InI i39 ∧ lpN (fun s => F_spec_l1Same_l1 a0 a1 s) n i39 = some o77) n80 ⟨0, ha.sub ⟨rfl, rfl, rfl, trivial⟩, hE, (by decide), hn81⟩ ?_ ?_
    · rintro m85 a w38 ⟨i39, ha, hE41, hI40, hF⟩
      cases m85 with
      | zero => exact (lpN_zero hF).elim
      | succ m85 =>
        obtain ⟨z84, hF, hN83⟩ := lpN_succ hF
        have hF : F_spec_l1Same_l1 a0 a1 i39 = some z84 := hF; unfold F_spec_l1Same_l1 at hF
        refine wp_seq ?_
        refine wp_seq ?_
        refine wp_region_lit ?_
        refine op_g ha rfl (g_move rfl) ?_; clear ha a; intro a ha
        refine op_g ha rfl (g_move rfl) ?_; clear ha a; intro a ha
        refine op_g ha rfl (g_lenR sl22.und ha0 rfl) ?_; clear ha a; intro a ha
        refine op_g ha rfl (g_lss rfl rfl) ?_; clear ha a; intro a ha
        refine wpList_nil ?_
        replace ha := ha.sub (σ' := [(0, va0), (1, va1), (5, (.int .i64 i39)), (14, (.bool (decide (i39 < (a0.length : Int)))))]) ⟨rfl, rfl, rfl, rfl, trivial⟩
        refine e_then ?_
        refine c_cond (i39 < (a0.length : Int)) ha rfl (decide_eq_true_iff) (fun hp86 => ?_) (fun hp86 => ?_)
        · replace hF := if_t hp86 hF
          refine wp_skip ?_
          refine e_then ?_
          refine wp_seq ?_
          refine wp_block ?_
          refine wp_seq ?_
          refine d_quiet hmix (by kernel_rfl) ?_
          refine q_g ha rfl (g_move rfl) ?_; clear ha a; intro a ha
          refine q_g ha rfl (g_move rfl) ?_; clear ha a; intro a ha
          obtain ⟨x87, g88, gx89, hF⟩ := idx_some hF
          obtain ⟨p90, cs91, f92, hf93, hpb94, hat95, hr96, hi97⟩ := ha0.at g88 gx89
          obtain ⟨rfl, hI98, rfl⟩ := hr96
          refine q_g ha rfl (hi97.gives sl22 rfl rfl) ?_; clear ha a; intro a ha
          refine q_g ha rfl (g_load0 hE41 Try.isAgg2 rfl hat95.one) ?_; clear ha a; intro a ha
          refine q_g ha rfl (g_move rfl) ?_; clear ha a; intro a ha
          refine q_g ha rfl (g_move rfl) ?_; clear ha a; intro a ha
          obtain ⟨x99, g100, gx101, hF⟩ := idx_some hF
          obtain ⟨p102, cs103, f104, hf105, hpb106, hat107, hr108, hi109⟩ := ha1.at g100 gx101
          obtain ⟨rfl, hI110, rfl⟩ := hr108
          refine q_g ha rfl (hi109.gives sl22 rfl rfl) ?_; clear ha a; intro a ha
          refine q_g ha rfl (g_load0 hE41 Try.isAgg2 rfl hat107.one) ?_; clear ha a; intro a ha
          refine q_g ha rfl (g_neq rfl rfl) ?_; clear ha a; intro a ha
          refine q_nil ?_; intro w111 hx112
          have hE113 := Ext.trans hE41 hx112
          replace ha := ha.sub (σ' := [(0, va0), (1, va1), (5, (.int .i64 i39)), (25, (.bool (decide (x87 ≠ x99))))]) ⟨rfl, rfl, rfl, rfl, trivial⟩
          refine e_then ?_
          refine c_cond (x87 ≠ x99) ha rfl (decide_eq_true_iff) (fun hp114 => ?_) (fun hp114 => ?_)
          · replace hF := if_t hp114 hF
            refine wp_seq ?_
            refine wp_region_lit ?_
            refine op_g ha rfl (g_assign rfl) ?_; clear ha a; intro a ha
            refine wpList_nil ?_
            replace ha := ha.sub (σ' := [(4, (.bool false))]) ⟨rfl, trivial⟩
            refine e_then ?_
            refine wp_ret ?_
            refine e_blk_ret ?_
            refine e_then_ret ?_
            refine e_lq_ret ?_
            refine e_then_ret ?_
            obtain rfl := Option.some.inj hF
            have e115 := LK_inr hN83; subst e115
            have e116 := BK_inr hK79; subst e116
            exact f_ret1 ha rfl rfl ⟨rfl, hE113⟩
          · replace hF := if_f hp114 hF
            refine wp_skip ?_
            refine e_blk ?_
            refine e_then ?_
            refine wp_region_lit ?_
            refine op_g ha rfl (g_move rfl) ?_; clear ha a; intro a ha
            obtain ⟨hI117, hF⟩ := ck_some hF
            refine op_g ha rfl (g_add rfl rfl hI117) ?_; clear ha a; intro a ha
            refine op_g ha rfl (g_assign rfl) ?_; clear ha a; intro a ha
            refine wpList_nil ?_
            replace ha := ha.sub (σ' := [(0, va0), (1, va1), (5, (.int .i64 (i39 + 1)))]) ⟨rfl, rfl, rfl, trivial⟩
            refine e_lq ?_
            obtain rfl := Option.some.inj hF
            exact ⟨_, Nat.lt_succ_self _, i39 + 1, ha.sub ⟨rfl, rfl, rfl, trivial⟩, hE113, hI117, hN83⟩
        · replace hF := if_f hp86 hF
          refine wp_exit ?_
          refine e_then_exit ?_
          refine e_lq_eq ?_
          obtain rfl := Option.some.inj hF
          exact ⟨ha.sub trivial, hE41, (LK_inr hN83).symm⟩
    · rintro a w76 ⟨ha, hE82, rfl⟩
      have hF : F_spec_l1Same_k2 = some _ := hK79; clear hK79; unfold F_spec_l1Same_k2 at hF
      refine e_then ?_
      refine wp_seq ?_
      refine wp_region_lit ?_
      refine op_g ha rfl (g_assign rfl) ?_; clear ha a; intro a ha
      refine wpList_nil ?_
      refine e_then ?_
      refine wp_ret ?_
      obtain rfl := Option.some.inj hF
      exact f_ret1 ha rfl rfl ⟨rfl, hE82⟩
set_option maxHeartbeats 2000000 in
theorem W_spec_SameCert {W : World} {a0_0 : Int} (ha0_0 : InI a0_0) {va0_1 : Value} {fa0_1 : List Nat} {a0_1 : (List Int)} (ha0_1 : Ro Rp.int W fa0_1 va0_1 a0_1) {va0_2 : Value} {fa0_2 : List Nat} {a0_2 : (List (List Int))} (ha0_2 : Ro (Rp.sl 2 Rp.int) W fa0_2 va0_2 a0_2) {a1_0 : Int} (ha1_0 : InI a1_0) {va1_1 : Value} {fa1_1 : List Nat} {a1_1 : (List Int)} (ha1_1 : Ro Rp.int W fa1_1 va1_1 a1_1) {va1_2 : Value} {fa1_2 : List Nat} {a1_2 : (List (List Int))} (ha1_2 : Ro (Rp.sl 2 Rp.int) W fa1_2 va1_2 a1_2) {r : Bool} (hF : F_spec_SameCert a0_0 a0_1 a0_2 a1_0 a1_1 a1_2 = some r) :
    Calls Try.prog 30 [.agg #[.int .i64 a0_0, va0_1, va0_2], .agg #[.int .i64 a1_0, va1_1, va1_2]].toArray W (Ret fun u w' => u = .bool r ∧ Ext W w') := by
  refine f_enter Try.func30 rfl Try.ntmps30 rfl ?_
  intro a ha
  replace ha : Fr 47 [(0, (.agg #[(.int .i64 a0_0), va0_1, va0_2])), (1, (.agg #[(.int .i64 a1_0), va1_1, va1_2]))] a := ha
  have hE : Chg [] W W := Chg.refl _ _
  unfold F_spec_SameCert at hF
  refine wp_seq ?_
  refine wp_region_lit ?_
  refine o_box ha rfl rfl rfl ?_; clear ha a; intro b1 w2 hB3 hx4 hlo5 a ha
  have q6 := Zn.one hlo5
  have q7 := Zn.upD q6 hE
  have hE8 := Ext.trans hE hx4
  refine o_box ha rfl rfl rfl ?_; clear ha a; intro b9 w10 hB11 hx12 hlo13 a ha
  have q14 := Zn.one hlo13
  have q15 := Nq.new hB3.fpb q14
  have q16 := Nq.made1 hlo13 hB3.bi
  have q17 := Zn.upD q14 hE8
  replace hB3 := hB3.ext hx12
  have hE18 := Ext.trans hE8 hx12
  refine op_g ha rfl (g_assign rfl) ?_; clear ha a; intro a ha
  refine wpList_nil ?_
  replace ha := ha.sub (σ' := [(2, (.pointer (some ⟨b1, 0, none⟩))), (3, (.pointer (some ⟨b9, 0, none⟩)))]) ⟨rfl, rfl, trivial⟩
  refine e_then ?_
  refine wp_seq ?_
  refine wp_seq ?_
  refine wp_region_lit ?_
  refine op_g ha rfl (g_field0 st52_0 rfl) ?_; clear ha a; intro a ha
  refine op_g ha rfl (g_load Try.isAgg2 rfl (hB3.cell rfl)) ?_; clear ha a; intro a ha
  refine op_g ha rfl (g_field0 st52_0 rfl) ?_; clear ha a; intro a ha
  refine op_g ha rfl (g_load Try.isAgg2 rfl (hB11.cell rfl)) ?_; clear ha a; intro a ha
  refine op_g ha rfl (g_neq rfl rfl) ?_; clear ha a; intro a ha
  refine op_g ha rfl (g_move rfl) ?_; clear ha a; intro a ha
  by_cases hp28 : a0_0 ≠ a1_0
  · replace hF := if_t hp28 hF
    rw [show (decide (a0_0 ≠ a1_0)) = true from (decide_eq_true_iff).2 hp28] at ha
    refine op_unwant ha rfl (yields ha rfl rfl) rfl ?_; clear ha a; intro a ha
    refine op_unwant ha rfl (yields ha rfl rfl) rfl ?_; clear ha a; intro a ha
    refine op_unwant ha rfl (yields ha rfl rfl) rfl ?_; clear ha a; intro a ha
    refine op_unwant ha rfl (yields ha rfl rfl) rfl ?_; clear ha a; intro a ha
    refine op_unwant ha rfl (yields ha rfl rfl) rfl ?_; clear ha a; intro a ha
    refine op_unwant ha rfl (yields ha rfl rfl) rfl ?_; clear ha a; intro a ha
    refine op_g ha rfl (g_pick rfl rfl) ?_; clear ha a; intro a ha
    refine op_g ha rfl (g_move rfl) ?_; clear ha a; intro a ha
    refine op_unwant ha rfl (yields ha rfl rfl) rfl ?_; clear ha a; intro a ha
    refine op_unwant ha rfl (yields ha rfl rfl) rfl ?_; clear ha a; intro a ha
    refine op_unwant ha rfl (yields ha rfl rfl) rfl ?_; clear ha a; intro a ha
    refine op_unwant ha rfl (yields ha rfl rfl) rfl ?_; clear ha a; intro a ha
    refine op_unwant ha rfl (yields ha rfl rfl) rfl ?_; clear ha a; intro a ha
    refine op_unwant ha rfl (yields ha rfl rfl) rfl ?_; clear ha a; intro a ha
    refine op_unwant ha rfl (yields ha rfl rfl) rfl ?_; clear ha a; intro a ha
    refine op_g ha rfl (g_pick rfl rfl) ?_; clear ha a; intro a ha
    refine wpList_nil ?_
    replace ha := ha.sub (σ' := [(2, (.pointer (some ⟨b1, 0, none⟩))), (3, (.pointer (some ⟨b9, 0, none⟩))), (27, (.bool true))]) ⟨rfl, rfl, rfl, trivial⟩
    refine e_then ?_
    refine c_true ha rfl ?_
    refine wp_seq ?_
    refine wp_region_lit ?_
    refine op_g ha rfl (g_assign rfl) ?_; clear ha a; intro a ha
    refine wpList_nil ?_
    replace ha := ha.sub (σ' := [(4, (.bool false))]) ⟨rfl, trivial⟩
    refine e_then ?_
    refine wp_ret ?_
    refine e_then_ret ?_
    obtain rfl := Option.some.inj hF
    exact f_ret1 ha rfl rfl ⟨rfl, hE18⟩
  · replace hF := if_f hp28 hF
    rw [show (decide (a0_0 ≠ a1_0)) = false from b_false (decide_eq_true_iff) hp28] at ha
    refine op_want (yields ha rfl rfl) ?_
    refine op_g ha rfl (g_field0 st52_1 rfl) ?_; clear ha a; intro a ha
    refine op_want (yields ha rfl rfl) ?_
    refine op_g ha rfl (g_load Try.isAgg22 rfl (hB3.cell rfl)) ?_; clear ha a; intro a ha
    refine op_want (yields ha rfl rfl) ?_
    refine op_g ha rfl (g_field0 st52_1 rfl) ?_; clear ha a; intro a ha
    refine op_want (yields ha rfl rfl) ?_
    refine op_g ha rfl (g_load Try.isAgg22 rfl (hB11.cell rfl)) ?_; clear ha a; intro a ha
    refine op_want (yields ha rfl rfl) ?_
    obtain ⟨x29, hc30, hF⟩ := cal_some hF
    refine o_call ha rfl rfl Try.call52 (W_spec_l1Same (ha0_1.ext hE18) (ha1_1.ext hE18) hc30) ?_; clear ha a; rintro v31 w32 ⟨rfl, hx33⟩ a ha
    replace hB3 := hB3.ext hx33
    replace hB11 := hB11.ext hx33
    have hE34 := Ext.trans hE18 hx33
    refine op_want (yields ha rfl rfl) ?_
    refine op_g ha rfl (g_not rfl) ?_; clear ha a; intro a ha
    refine op_g ha rfl (g_pick rfl rfl) ?_; clear ha a; intro a ha
    refine op_g ha rfl (g_move rfl) ?_; clear ha a; intro a ha
    by_cases hp35 : ¬ (x29 = true)
    · replace hF := if_t hp35 hF
      rw [show (!x29) = true from (n_iff (Iff.rfl)).2 hp35] at ha
      refine op_unwant ha rfl (yields ha rfl rfl) rfl ?_; clear ha a; intro a ha
      refine op_unwant ha rfl (yields ha rfl rfl) rfl ?_; clear ha a; intro a ha
      refine op_unwant ha rfl (yields ha rfl rfl) rfl ?_; clear ha a; intro a ha
      refine op_unwant ha rfl (yields ha rfl rfl) rfl ?_; clear ha a; intro a ha
      refine op_unwant ha rfl (yields ha rfl rfl) rfl ?_; clear ha a; intro a ha
      refine op_unwant ha rfl (yields ha rfl rfl) rfl ?_; clear ha a; intro a ha
      refine op_unwant ha rfl (yields ha rfl rfl) rfl ?_; clear ha a; intro a ha
      refine op_g ha rfl (g_pick rfl rfl) ?_; clear ha a; intro a ha
      refine wpList_nil ?_
      replace ha := ha.sub (σ' := [(2, (.pointer (some ⟨b1, 0, none⟩))), (3, (.pointer (some ⟨b9, 0, none⟩))), (27, (.bool true))]) ⟨rfl, rfl, rfl, trivial⟩
      refine e_then ?_
      refine c_true ha rfl ?_
      refine wp_seq ?_
      refine wp_region_lit ?_
      refine op_g ha rfl (g_assign rfl) ?_; clear ha a; intro a ha
      refine wpList_nil ?_
      replace ha := ha.sub (σ' := [(4, (.bool false))]) ⟨rfl, trivial⟩
      refine e_then ?_
      refine wp_ret ?_
      refine e_then_ret ?_
      obtain rfl := Option.some.inj hF
      exact f_ret1 ha rfl rfl ⟨rfl, hE34⟩
    · replace hF := if_f hp35 hF
      rw [show (!x29) = false from b_false (n_iff (Iff.rfl)) hp35] at ha
      refine op_want (yields ha rfl rfl) ?_
      refine op_g ha rfl (g_field0 st52_2 rfl) ?_; clear ha a; intro a ha
      refine op_want (yields ha rfl rfl) ?_
      refine op_g ha rfl (g_load Try.isAgg47 rfl (hB3.cell rfl)) ?_; clear ha a; intro a ha
      refine op_want (yields ha rfl rfl) ?_
      refine op_g ha rfl (g_lenR sl47.und ha0_2 rfl) ?_; clear ha a; intro a ha
      refine op_want (yields ha rfl rfl) ?_
      refine op_g ha rfl (g_field0 st52_2 rfl) ?_; clear ha a; intro a ha
      refine op_want (yields ha rfl rfl) ?_
      refine op_g ha rfl (g_load Try.isAgg47 rfl (hB11.cell rfl)) ?_; clear ha a; intro a ha
      refine op_want (yields ha rfl rfl) ?_
      refine op_g ha rfl (g_lenR sl47.und ha1_2 rfl) ?_; clear ha a; intro a ha
      refine op_want (yields ha rfl rfl) ?_
      refine op_g ha rfl (g_neq rfl rfl) ?_; clear ha a; intro a ha
      refine op_g ha rfl (g_pick rfl rfl) ?_; clear ha a; intro a ha
      refine wpList_nil ?_
      replace ha := ha.sub (σ' := [(2, (.pointer (some ⟨b1, 0, none⟩))), (3, (.pointer (some ⟨b9, 0, none⟩))), (27, (.bool (decide ((a0_2.length : Int) ≠ (a1_2.length : Int)))))]) ⟨rfl, rfl, rfl, trivial⟩
      refine e_then ?_
      refine c_cond ((a0_2.length : Int) ≠ (a1_2.length : Int)) ha rfl (decide_eq_true_iff) (fun hp36 => ?_) (fun hp36 => ?_)
      · replace hF := if_t hp36 hF
        refine wp_seq ?_
        refine wp_region_lit ?_
        refine op_g ha rfl (g_assign rfl) ?_; clear ha a; intro a ha
        refine wpList_nil ?_
        replace ha := ha.sub (σ' := [(4, (.bool false))]) ⟨rfl, trivial⟩
        refine e_then ?_
        refine wp_ret ?_
        refine e_then_ret ?_
        obtain rfl := Option.some.inj hF
        exact f_ret1 ha rfl rfl ⟨rfl, hE34⟩
      · replace hF := if_f hp36 hF
        refine wp_skip ?_
        refine e_then ?_
        refine wp_seq ?_
        refine wp_seq ?_
        refine wp_region_lit ?_
        refine op_g ha rfl (g_assign rfl) ?_; clear ha a; intro a ha
        refine wpList_nil ?_
        replace ha := ha.sub (σ' := [(2, (.pointer (some ⟨b1, 0, none⟩))), (3, (.pointer (some ⟨b9, 0, none⟩))), (5, (.int .i64 0))]) ⟨rfl, rfl, rfl, trivial⟩
        refine e_then ?_
        obtain ⟨o152, ho153, hK154⟩ := bnd_some hF
        obtain ⟨n155, hn156⟩ := lp_some ho153; clear ho153
        refine c_loop (fun a w => Fr 47 [] a ∧ Chg [] W w ∧ o152 = .inl ()) (fun n a w => ∃ (i98 : Int), Fr 47 [(2, (.pointer (some ⟨b1, 0, none⟩))), (3, (.pointer (some ⟨b9, 0, none⟩))), (5, (.int .i64 i98))] a ∧ Chg [] W w ∧ InI i98 ∧ Bx w b1 [(.int .i64 a0_0), va0_1, va0_2] 52 ∧ Zn W (b1 : Int) ∧ Bx w b9 [(.int .i64 a1_0), va1_1, va1_2] 52 ∧ Zn W (b9 : Int) ∧ Nq ([b1]) (b9 : Int) ∧ Nq ([b9]) (b1 : Int) ∧ lpN (fun s => F_spec_SameCert_l1 a0_2 a1_2 s) n i98 = some o152) n155 ⟨0, ha.sub ⟨rfl, rfl, rfl, trivial⟩, hE34, (by decide), hB3, q7, hB11, q17, q15, q16, hn156⟩ ?_ ?_
        · rintro m160 a w93 ⟨i98, ha, hE102, hI99, hB94, z95, hB96, z97, q100, q101, hF⟩
          cases m160 with
          | zero => exact (lpN_zero hF).elim
          | succ m160 =>
            obtain ⟨z159, hF, hN158⟩ := lpN_succ hF
            have hF : F_spec_SameCert_l1 a0_2 a1_2 i98 = some z159 := hF; unfold F_spec_SameCert_l1 at hF
            refine wp_seq ?_
            refine wp_seq ?_
            refine wp_region_lit ?_
            refine op_g ha rfl (g_move rfl) ?_; clear ha a; intro a ha
            refine op_g ha rfl (g_field0 st52_2 rfl) ?_; clear ha a; intro a ha
            refine op_g ha rfl (g_load Try.isAgg47 rfl (hB94.cell rfl)) ?_; clear ha a; intro a ha
            refine op_g ha rfl (g_lenR sl47.und ha0_2 rfl) ?_; clear ha a; intro a ha
            refine op_g ha rfl (g_lss rfl rfl) ?_; clear ha a; intro a ha
            refine wpList_nil ?_
            replace ha := ha.sub (σ' := [(2, (.pointer (some ⟨b1, 0, none⟩))), (3, (.pointer (some ⟨b9, 0, none⟩))), (5, (.int .i64 i98)), (32, (.bool (decide (i98 < (a0_2.length : Int)))))]) ⟨rfl, rfl, rfl, rfl, trivial⟩
            refine e_then ?_
            refine c_cond (i98 < (a0_2.length : Int)) ha rfl (decide_eq_true_iff) (fun hp161 => ?_) (fun hp161 => ?_)
            · replace hF := if_t hp161 hF
              refine wp_skip ?_
              refine e_then ?_
              refine wp_seq ?_
              refine wp_block ?_
              refine wp_seq ?_
              refine d_quiet hmix (by kernel_rfl) ?_
              refine q_g ha rfl (g_field0 st52_2 rfl) ?_; clear ha a; intro a ha
              refine q_g ha rfl (g_load Try.isAgg47 rfl (hB94.cell rfl)) ?_; clear ha a; intro a ha
              refine q_g ha rfl (g_move rfl) ?_; clear ha a; intro a ha
              obtain ⟨x162, g163, gx164, hF⟩ := idx_some hF
              obtain ⟨p165, cs166, f167, hf168, hpb169, hat170, hr171, hi172⟩ := ha0_2.at g163 gx164
              obtain ⟨v173, rfl, h174⟩ := hr171
              have h174 : Ro Rp.int W f167 v173 x162 := h174
              refine q_g ha rfl (hi172.gives sl47 rfl rfl) ?_; clear ha a; intro a ha
              refine q_g ha rfl (g_load0 hE102 Try.isAgg22 rfl hat170.one) ?_; clear ha a; intro a ha
              refine q_g ha rfl (g_field0 st52_2 rfl) ?_; clear ha a; intro a ha
              refine q_g ha rfl (g_load Try.isAgg47 rfl (hB96.cell rfl)) ?_; clear ha a; intro a ha
              refine q_g ha rfl (g_move rfl) ?_; clear ha a; intro a ha
              obtain ⟨x176, g177, gx178, hF⟩ := idx_some hF
              obtain ⟨p179, cs180, f181, hf182, hpb183, hat184, hr185, hi186⟩ := ha1_2.at g177 gx178
              obtain ⟨v187, rfl, h188⟩ := hr185
              have h188 : Ro Rp.int W f181 v187 x176 := h188
              refine q_g ha rfl (hi186.gives sl47 rfl rfl) ?_; clear ha a; intro a ha
              refine q_g ha rfl (g_load0 hE102 Try.isAgg22 rfl hat184.one) ?_; clear ha a; intro a ha
              obtain ⟨x192, hc193, hF⟩ := cal_some hF
              refine q_call (.bool x192) ha rfl rfl Try.call52 (fun w191 hx190 => W_spec_l1Same (h174.ext (Ext.trans hE102 hx190)) (h188.ext (Ext.trans hE102 hx190)) hc193) (fun _ _ _ h => ⟨h.1, h.2⟩) ?_; clear ha a; intro a ha
              refine q_g ha rfl (g_not rfl) ?_; clear ha a; intro a ha
              refine q_nil ?_; intro w194 hx195
              replace hB94 := hB94.ext hx195
              replace hB96 := hB96.ext hx195
              have hE196 := Ext.trans hE102 hx195
              replace ha := ha.sub (σ' := [(2, (.pointer (some ⟨b1, 0, none⟩))), (3, (.pointer (some ⟨b9, 0, none⟩))), (5, (.int .i64 i98)), (46, (.bool (!x192)))]) ⟨rfl, rfl, rfl, rfl, trivial⟩
              refine e_then ?_
              refine c_cond (¬ (x192 = true)) ha rfl (n_iff (Iff.rfl)) (fun hp197 => ?_) (fun hp197 => ?_)
              · replace hF := if_t hp197 hF
                refine wp_seq ?_
                refine wp_region_lit ?_
                refine op_g ha rfl (g_assign rfl) ?_; clear ha a; intro a ha
                refine wpList_nil ?_
                replace ha := ha.sub (σ' := [(4, (.bool false))]) ⟨rfl, trivial⟩
                refine e_then ?_
                refine wp_ret ?_
                refine e_blk_ret ?_
                refine e_then_ret ?_
                refine e_lq_ret ?_
                refine e_then_ret ?_
                obtain rfl := Option.some.inj hF
                have e198 := LK_inr hN158; subst e198
                have e199 := BK_inr hK154; subst e199
                exact f_ret1 ha rfl rfl ⟨rfl, hE196⟩
              · replace hF := if_f hp197 hF
                refine wp_skip ?_
                refine e_blk ?_
                refine e_then ?_
                refine wp_region_lit ?_
                refine op_g ha rfl (g_move rfl) ?_; clear ha a; intro a ha
                obtain ⟨hI200, hF⟩ := ck_some hF
                refine op_g ha rfl (g_add rfl rfl hI200) ?_; clear ha a; intro a ha
                refine op_g ha rfl (g_assign rfl) ?_; clear ha a; intro a ha
                refine wpList_nil ?_
                replace ha := ha.sub (σ' := [(2, (.pointer (some ⟨b1, 0, none⟩))), (3, (.pointer (some ⟨b9, 0, none⟩))), (5, (.int .i64 (i98 + 1)))]) ⟨rfl, rfl, rfl, trivial⟩
                refine e_lq ?_
                obtain rfl := Option.some.inj hF
                exact ⟨_, Nat.lt_succ_self _, i98 + 1, ha.sub ⟨rfl, rfl, rfl, trivial⟩, hE196, hI200, hB94, z95, hB96, z97, q100, q101, hN158⟩
            · replace hF := if_f hp161 hF
              refine wp_exit ?_
              refine e_then_exit ?_
              refine e_lq_eq ?_
              obtain rfl := Option.some.inj hF
              exact ⟨ha.sub trivial, hE102, (LK_inr hN158).symm⟩
        · rintro a w151 ⟨ha, hE157, rfl⟩
          have hF : F_spec_SameCert_k2 = some _ := hK154; clear hK154; unfold F_spec_SameCert_k2 at hF
          refine e_then ?_
          refine wp_seq ?_
          refine wp_region_lit ?_
          refine op_g ha rfl (g_assign rfl) ?_; clear ha a; intro a ha
          refine wpList_nil ?_
          refine e_then ?_
          refine wp_ret ?_
          obtain rfl := Option.some.inj hF
          exact f_ret1 ha rfl rfl ⟨rfl, hE157⟩
set_option maxHeartbeats 2000000 in
theorem W_slices_Equal_int64 {W : World} {va0 : Value} {fa0 : List Nat} {a0 : (List Int)} (ha0 : Ro Rp.int W fa0 va0 a0) {va1 : Value} {fa1 : List Nat} {a1 : (List Int)} (ha1 : Ro Rp.int W fa1 va1 a1) {r : Bool} (hF : F_slices_Equal_int64 a0 a1 = some r) :
    Calls Try.prog 54 [va0, va1].toArray W (Ret fun u w' => u = .bool r ∧ Ext W w') := by
  refine f_enter Try.func54 rfl Try.ntmps54 rfl ?_
  intro a ha
  replace ha : Fr 26 [(0, va0), (1, va1)] a := ha
  have hE : Chg [] W W := Chg.refl _ _
  unfold F_slices_Equal_int64 at hF
  refine wp_seq ?_
  refine wp_region_lit ?_
  refine op_g ha rfl (g_assign rfl) ?_; clear ha a; intro a ha
  refine wpList_nil ?_
  replace ha := ha.sub (σ' := [(0, va0), (1, va1)]) ⟨rfl, rfl, trivial⟩
  refine e_then ?_
  refine wp_seq ?_
  refine wp_seq ?_
  refine wp_region_lit ?_
  refine op_g ha rfl (g_move rfl) ?_; clear ha a; intro a ha
  refine op_g ha rfl (g_lenR sl22.und ha0 rfl) ?_; clear ha a; intro a ha
  refine op_g ha rfl (g_move rfl) ?_; clear ha a; intro a ha
  refine op_g ha rfl (g_lenR sl22.und ha1 rfl) ?_; clear ha a; intro a ha
  refine op_g ha rfl (g_neq rfl rfl) ?_; clear ha a; intro a ha
  refine wpList_nil ?_
  replace ha := ha.sub (σ' := [(0, va0), (1, va1), (10, (.bool (decide ((a0.length : Int) ≠ (a1.length : Int)))))]) ⟨rfl, rfl, rfl, trivial⟩
  refine e_then ?_
  refine c_cond ((a0.length : Int) ≠ (a1.length : Int)) ha rfl (decide_eq_true_iff) (fun hp1 => ?_) (fun hp1 => ?_)
  · replace hF := if_t hp1 hF
    refine wp_seq ?_
    refine wp_region_lit ?_
    refine op_g ha rfl (g_assign rfl) ?_; clear ha a; intro a ha
    refine wpList_nil ?_
    replace ha := ha.sub (σ' := [(4, (.bool false))]) ⟨rfl, trivial⟩
    refine e_then ?_
    refine wp_ret ?_
    refine e_then_ret ?_
    obtain rfl := Option.some.inj hF
    exact f_ret1 ha rfl rfl ⟨rfl, hE⟩
  · replace hF := if_f hp1 hF
    refine wp_skip ?_
    refine e_then ?_
    refine wp_seq ?_
    refine wp_seq ?_
    refine wp_region_lit ?_
    refine op_g ha rfl (g_move rfl) ?_; clear ha a; intro a ha
    refine op_g ha rfl (g_lenR sl22.und ha0 rfl) ?_; clear ha a; intro a ha
    refine op_g ha rfl (g_move rfl) ?_; clear ha a; intro a ha
    refine wpList_nil ?_
    replace ha := ha.sub (σ' := [(0, va0), (1, va1), (12, (.int .i64 (a0.length : Int))), (13, (.int .i64 0))]) ⟨rfl, rfl, rfl, rfl, trivial⟩
    refine e_then ?_
    obtain ⟨o77, ho78, hK79⟩ := bnd_some hF
    obtain ⟨n80, hn81⟩ := lp_some ho78; clear ho78
    refine c_loop (fun a w => Fr 26 [] a ∧ Chg [] W w ∧ o77 = .inl ()) (fun n a w => ∃ (i39 : Int), Fr 26 [(0, va0), (1, va1), (12, (.int .i64 (a0.length : Int))), (13, (.int .i64 i39))] a ∧ Chg [] W w ∧ InI i39 ∧ lpN (fun s => F_slices_Equal_int64_l1 a0 a1 s) n i39 = some o77) n80 ⟨0, ha.sub ⟨rfl, rfl, rfl, rfl, trivial⟩, hE, (by decide), hn81⟩ ?_ ?_
    · rintro m85 a w38 ⟨i39, ha, hE41, hI40, hF⟩
      cases m85 with
      | zero => exact (lpN_zero hF).elim
      | succ m85 =>
        obtain ⟨z84, hF, hN83⟩ := lpN_succ hF
        have hF : F_slices_Equal_int64_l1 a0 a1 i39 = some z84 := hF; unfold F_slices_Equal_int64_l1 at hF
        refine wp_seq ?_
        refine wp_region_lit ?_
        refine op_g ha rfl (g_lss rfl rfl) ?_; clear ha a; intro a ha
        refine wpList_nil ?_
        replace ha := ha.sub (σ' := [(0, va0), (1, va1), (12, (.int .i64 (a0.length : Int))), (13, (.int .i64 i39)), (14, (.bool (decide (i39 < (a0.length : Int)))))]) ⟨rfl, rfl, rfl, rfl, rfl, trivial⟩
        refine e_then ?_
        refine wp_seq ?_
        refine c_cond (i39 < (a0.length : Int)) ha rfl (decide_eq_true_iff) (fun hp86 => ?_) (fun hp86 => ?_)
        · replace hF := if_t hp86 hF
          refine wp_skip ?_
          refine e_then ?_
          refine wp_seq ?_
          refine wp_block ?_
          refine wp_seq ?_
          refine wp_region_lit ?_
          refine op_g ha rfl (g_move rfl) ?_; clear ha a; intro a ha
          refine op_g ha rfl (g_assign rfl) ?_; clear ha a; intro a ha
          refine wpList_nil ?_
          replace ha := ha.sub (σ' := [(0, va0), (1, va1), (5, (.int .i64 i39)), (12, (.int .i64 (a0.length : Int))), (13, (.int .i64 i39))]) ⟨rfl, rfl, rfl, rfl, rfl, trivial⟩
          refine e_then ?_
          refine wp_seq ?_
          refine d_quiet hmix (by kernel_rfl) ?_
          refine q_g ha rfl (g_move rfl) ?_; clear ha a; intro a ha
          refine q_g ha rfl (g_move rfl) ?_; clear ha a; intro a ha
          obtain ⟨x87, g88, gx89, hF⟩ := idx_some hF
          obtain ⟨p90, cs91, f92, hf93, hpb94, hat95, hr96, hi97⟩ := ha0.at g88 gx89
          obtain ⟨rfl, hI98, rfl⟩ := hr96
          refine q_g ha rfl (hi97.gives sl22 rfl rfl) ?_; clear ha a; intro a ha
          refine q_g ha rfl (g_load0 hE41 Try.isAgg2 rfl hat95.one) ?_; clear ha a; intro a ha
          refine q_g ha rfl (g_move rfl) ?_; clear ha a; intro a ha
          refine q_g ha rfl (g_move rfl) ?_; clear ha a; intro a ha
          obtain ⟨x99, g100, gx101, hF⟩ := idx_some hF
          obtain ⟨p102, cs103, f104, hf105, hpb106, hat107, hr108, hi109⟩ := ha1.at g100 gx101
          obtain ⟨rfl, hI110, rfl⟩ := hr108
          refine q_g ha rfl (hi109.gives sl22 rfl rfl) ?_; clear ha a; intro a ha
          refine q_g ha rfl (g_load0 hE41 Try.isAgg2 rfl hat107.one) ?_; clear ha a; intro a ha
          refine q_g ha rfl (g_neq rfl rfl) ?_; clear ha a; intro a ha
          refine q_nil ?_; intro w111 hx112
          have hE113 := Ext.trans hE41 hx112
          replace ha := ha.sub (σ' := [(0, va0), (1, va1), (12, (.int .i64 (a0.length : Int))), (13, (.int .i64 i39)), (24, (.bool (decide (x87 ≠ x99))))]) ⟨rfl, rfl, rfl, rfl, rfl, trivial⟩
          refine e_then ?_
          refine c_cond (x87 ≠ x99) ha rfl (decide_eq_true_iff) (fun hp114 => ?_) (fun hp114 => ?_)
          · replace hF := if_t hp114 hF
            refine wp_seq ?_
            refine wp_region_lit ?_
            refine op_g ha rfl (g_assign rfl) ?_; clear ha a; intro a ha
            refine wpList_nil ?_
            replace ha := ha.sub (σ' := [(4, (.bool false))]) ⟨rfl, trivial⟩
            refine e_then ?_
            refine wp_ret ?_
            refine e_blk_ret ?_
            refine e_then_ret ?_
            refine e_lq_ret ?_
            refine e_then_ret ?_
            obtain rfl := Option.some.inj hF
            have e115 := LK_inr hN83; subst e115
            have e116 := BK_inr hK79; subst e116
            exact f_ret1 ha rfl rfl ⟨rfl, hE113⟩
          · replace hF := if_f hp114 hF
            refine wp_skip ?_
            refine e_blk ?_
            refine e_then ?_
            refine wp_region_lit ?_
            obtain ⟨hI117, hF⟩ := ck_some hF
            refine op_g ha rfl (g_add rfl rfl hI117) ?_; clear ha a; intro a ha
            refine op_g ha rfl (g_move rfl) ?_; clear ha a; intro a ha
            refine wpList_nil ?_
            replace ha := ha.sub (σ' := [(0, va0), (1, va1), (12, (.int .i64 (a0.length : Int))), (13, (.int .i64 (i39 + 1)))]) ⟨rfl, rfl, rfl, rfl, trivial⟩
            refine e_lq ?_
            obtain rfl := Option.some.inj hF
            exact ⟨_, Nat.lt_succ_self _, i39 + 1, ha.sub ⟨rfl, rfl, rfl, rfl, trivial⟩, hE113, hI117, hN83⟩
        · replace hF := if_f hp86 hF
          refine wp_exit ?_
          refine e_then_exit ?_
          refine e_lq_eq ?_
          obtain rfl := Option.some.inj hF
          exact ⟨ha.sub trivial, hE41, (LK_inr hN83).symm⟩
    · rintro a w76 ⟨ha, hE82, rfl⟩
      have hF : F_slices_Equal_int64_k2 = some _ := hK79; clear hK79; unfold F_slices_Equal_int64_k2 at hF
      refine e_then ?_
      refine wp_seq ?_
      refine wp_region_lit ?_
      refine op_g ha rfl (g_assign rfl) ?_; clear ha a; intro a ha
      refine wpList_nil ?_
      refine e_then ?_
      refine wp_ret ?_
      obtain rfl := Option.some.inj hF
      exact f_ret1 ha rfl rfl ⟨rfl, hE82⟩
set_option maxHeartbeats 2000000 in
theorem W_slices_EqualFunc_Sint64 {W : World} {va0 : Value} {fa0 : List Nat} {a0 : (List (List Int))} (ha0 : Ro (Rp.sl 2 Rp.int) W fa0 va0 a0) {va1 : Value} {fa1 : List Nat} {a1 : (List (List Int))} (ha1 : Ro (Rp.sl 2 Rp.int) W fa1 va1 a1) {ga2 : FuncId} {ga2c : List Value} {a2 : (List Int) → (List Int) → Option Bool} (hga2 : ∀ w', Ext W w' → ∀ {vz0 : Value} {fz0 : List Nat} {z0 : (List Int)} (hz0 : Ro Rp.int w' fz0 vz0 z0) {vz1 : Value} {fz1 : List Nat} {z1 : (List Int)} (hz1 : Ro Rp.int w' fz1 vz1 z1) {r : Bool}, a2 z0 z1 = some r → Calls Try.prog ga2 ([vz0, vz1] ++ ga2c).toArray w' (Ret fun u w'' => u = .bool r ∧ Ext w' w'')) (hca2 : ∀ args w, (callFunc ga2 args).run Try.prog w = .ok (.enter ga2 args) w) {r : Bool} (hF : F_slices_EqualFunc_Sint64 a0 a1 a2 = some r) :
    Calls Try.prog 55 [va0, va1, .func (.func ga2) #[] ga2c.toArray].toArray W (Ret fun u w' => u = .bool r ∧ Ext W w') := by
  refine f_enter Try.func55 rfl Try.ntmps55 rfl ?_
  intro a ha
  replace ha : Fr 32 [(0, va0), (1, va1), (2, (.func (.func ga2) #[] ga2c.toArray))] a := ha
  have hE : Chg [] W W := Chg.refl _ _
  unfold F_slices_EqualFunc_Sint64 at hF
  refine wp_seq ?_
  refine wp_region_lit ?_
  refine op_g ha rfl (g_assign rfl) ?_; clear ha a; intro a ha
  refine wpList_nil ?_
  replace ha := ha.sub (σ' := [(0, va0), (1, va1), (2, (.func (.func ga2) #[] ga2c.toArray))]) ⟨rfl, rfl, rfl, trivial⟩
  refine e_then ?_
  refine wp_seq ?_
  refine wp_seq ?_
  refine wp_region_lit ?_
  refine op_g ha rfl (g_move rfl) ?_; clear ha a; intro a ha
  refine op_g ha rfl (g_lenR sl47.und ha0 rfl) ?_; clear ha a; intro a ha
  refine op_g ha rfl (g_move rfl) ?_; clear ha a; intro a ha
  refine op_g ha rfl (g_lenR sl47.und ha1 rfl) ?_; clear ha a; intro a ha
  refine op_g ha rfl (g_neq rfl rfl) ?_; clear ha a; intro a ha
  refine wpList_nil ?_
  replace ha := ha.sub (σ' := [(0, va0), (1, va1), (2, (.func (.func ga2) #[] ga2c.toArray)), (14, (.bool (decide ((a0.length : Int) ≠ (a1.length : Int)))))]) ⟨rfl, rfl, rfl, rfl, trivial⟩
  refine e_then ?_
  refine c_cond ((a0.length : Int) ≠ (a1.length : Int)) ha rfl (decide_eq_true_iff) (fun hp1 => ?_) (fun hp1 => ?_)
  · replace hF := if_t hp1 hF
    refine wp_seq ?_
    refine wp_region_lit ?_
    refine op_g ha rfl (g_assign rfl) ?_; clear ha a; intro a ha
    refine wpList_nil ?_
    replace ha := ha.sub (σ' := [(6, (.bool false))]) ⟨rfl, trivial⟩
    refine e_then ?_
    refine wp_ret ?_
    refine e_then_ret ?_
    obtain rfl := Option.some.inj hF
    exact f_ret1 ha rfl rfl ⟨rfl, hE⟩
  · replace hF := if_f hp1 hF
    refine wp_skip ?_
    refine e_then ?_
    refine wp_seq ?_
    refine wp_seq ?_
    refine wp_region_lit ?_
    refine op_g ha rfl (g_move rfl) ?_; clear ha a; intro a ha
    refine op_g ha rfl (g_lenR sl47.und ha0 rfl) ?_; clear ha a; intro a ha
    refine op_g ha rfl (g_move rfl) ?_; clear ha a; intro a ha
    refine wpList_nil ?_
    replace ha := ha.sub (σ' := [(1, va1), (2, (.func (.func ga2) #[] ga2c.toArray)), (15, va0), (16, (.int .i64 (a0.length : Int))), (17, (.int .i64 0))]) ⟨rfl, rfl, rfl, rfl, rfl, trivial⟩
    refine e_then ?_
    obtain ⟨o91, ho92, hK93⟩ := bnd_some hF
    obtain ⟨n94, hn95⟩ := lp_some ho92; clear ho92
    refine c_loop (fun a w => Fr 32 [] a ∧ Chg [] W w ∧ o91 = .inl ()) (fun n a w => ∃ (i46 : Int), Fr 32 [(1, va1), (2, (.func (.func ga2) #[] ga2c.toArray)), (15, va0), (16, (.int .i64 (a0.length : Int))), (17, (.int .i64 i46))] a ∧ Chg [] W w ∧ InI i46 ∧ lpN (fun s => F_slices_EqualFunc_Sint64_l1 a0 a1 a2 s) n i46 = some o91) n94 ⟨0, ha.sub ⟨rfl, rfl, rfl, rfl, rfl, trivial⟩, hE, (by decide), hn95⟩ ?_ ?_
    · rintro m99 a w45 ⟨i46, ha, hE48, hI47, hF⟩
      cases m99 with
      | zero => exact (lpN_zero hF).elim
      | succ m99 =>
        obtain ⟨z98, hF, hN97⟩ := lpN_succ hF
        have hF : F_slices_EqualFunc_Sint64_l1 a0 a1 a2 i46 = some z98 := hF; unfold F_slices_EqualFunc_Sint64_l1 at hF
        refine wp_seq ?_
        refine wp_region_lit ?_
        refine op_g ha rfl (g_lss rfl rfl) ?_; clear ha a; intro a ha
        refine wpList_nil ?_
        replace ha := ha.sub (σ' := [(1, va1), (2, (.func (.func ga2) #[] ga2c.toArray)), (15, va0), (16, (.int .i64 (a0.length : Int))), (17, (.int .i64 i46)), (18, (.bool (decide (i46 < (a0.length : Int)))))]) ⟨rfl, rfl, rfl, rfl, rfl, rfl, trivial⟩
        refine e_then ?_
        refine wp_seq ?_
        refine c_cond (i46 < (a0.length : Int)) ha rfl (decide_eq_true_iff) (fun hp100 => ?_) (fun hp100 => ?_)
        · replace hF := if_t hp100 hF
          refine wp_skip ?_
          refine e_then ?_
          refine wp_seq ?_
          refine wp_block ?_
          refine wp_seq ?_
          refine wp_region_lit ?_
          refine op_g ha rfl (g_move rfl) ?_; clear ha a; intro a ha
          obtain ⟨x101, g102, gx103, hF⟩ := idx_some hF
          obtain ⟨p104, cs105, f106, hf107, hpb108, hat109, hr110, hi111⟩ := ha0.at g102 gx103
          obtain ⟨v112, rfl, h113⟩ := hr110
          have h113 : Ro Rp.int W f106 v112 x101 := h113
          refine op_g ha rfl (hi111.gives sl47 rfl rfl) ?_; clear ha a; intro a ha
          refine op_g ha rfl (g_load0 hE48 Try.isAgg22 rfl hat109.one) ?_; clear ha a; intro a ha
          refine op_g ha rfl (g_assign rfl) ?_; clear ha a; intro a ha
          refine op_g ha rfl (g_assign rfl) ?_; clear ha a; intro a ha
          refine wpList_nil ?_
          replace ha := ha.sub (σ' := [(1, va1), (2, (.func (.func ga2) #[] ga2c.toArray)), (7, (.int .i64 i46)), (8, v112), (15, va0), (16, (.int .i64 (a0.length : Int))), (17, (.int .i64 i46))]) ⟨rfl, rfl, rfl, rfl, rfl, rfl, rfl, trivial⟩
          refine e_then ?_
          refine wp_seq ?_
          refine wp_region_lit ?_
          refine op_g ha rfl (g_move rfl) ?_; clear ha a; intro a ha
          refine op_g ha rfl (g_move rfl) ?_; clear ha a; intro a ha
          obtain ⟨x115, g116, gx117, hF⟩ := idx_some hF
          obtain ⟨p118, cs119, f120, hf121, hpb122, hat123, hr124, hi125⟩ := ha1.at g116 gx117
          obtain ⟨v126, rfl, h127⟩ := hr124
          have h127 : Ro Rp.int W f120 v126 x115 := h127
          refine op_g ha rfl (hi125.gives sl47 rfl rfl) ?_; clear ha a; intro a ha
          refine op_g ha rfl (g_load0 hE48 Try.isAgg22 rfl hat123.one) ?_; clear ha a; intro a ha
          refine op_g ha rfl (g_assign rfl) ?_; clear ha a; intro a ha
          refine wpList_nil ?_
          replace ha := ha.sub (σ' := [(1, va1), (2, (.func (.func ga2) #[] ga2c.toArray)), (8, v112), (9, v126), (15, va0), (16, (.int .i64 (a0.length : Int))), (17, (.int .i64 i46))]) ⟨rfl, rfl, rfl, rfl, rfl, rfl, rfl, trivial⟩
          refine e_then ?_
          refine wp_seq ?_
          refine wp_region_lit ?_
          refine op_g ha rfl (g_move rfl) ?_; clear ha a; intro a ha
          refine op_g ha rfl (g_move rfl) ?_; clear ha a; intro a ha
          refine op_g ha rfl (g_move rfl) ?_; clear ha a; intro a ha
          obtain ⟨x129, hc130, hF⟩ := cal_some hF
          refine o_callv ha rfl rfl rfl hca2 (hga2 _ hE48 (h113.ext hE48) (h127.ext hE48) hc130) ?_; clear ha a; rintro v131 w132 ⟨rfl, hx133⟩ a ha
          have hE134 := Ext.trans hE48 hx133
          refine op_g ha rfl (g_not rfl) ?_; clear ha a; intro a ha
          refine wpList_nil ?_
          replace ha := ha.sub (σ' := [(1, va1), (2, (.func (.func ga2) #[] ga2c.toArray)), (15, va0), (16, (.int .i64 (a0.length : Int))), (17, (.int .i64 i46)), (30, (.bool (!x129)))]) ⟨rfl, rfl, rfl, rfl, rfl, rfl, trivial⟩
          refine e_then ?_
          refine c_cond (¬ (x129 = true)) ha rfl (n_iff (Iff.rfl)) (fun hp135 => ?_) (fun hp135 => ?_)
          · replace hF := if_t hp135 hF
            refine wp_seq ?_
            refine wp_region_lit ?_
            refine op_g ha rfl (g_assign rfl) ?_; clear ha a; intro a ha
            refine wpList_nil ?_
            replace ha := ha.sub (σ' := [(6, (.bool false))]) ⟨rfl, trivial⟩
            refine e_then ?_
            refine wp_ret ?_
            refine e_blk_ret ?_
            refine e_then_ret ?_
            refine e_lq_ret ?_
            refine e_then_ret ?_
            obtain rfl := Option.some.inj hF
            have e136 := LK_inr hN97; subst e136
            have e137 := BK_inr hK93; subst e137
            exact f_ret1 ha rfl rfl ⟨rfl, hE134⟩
          · replace hF := if_f hp135 hF
            refine wp_skip ?_
            refine e_blk ?_
            refine e_then ?_
            refine wp_region_lit ?_
            obtain ⟨hI138, hF⟩ := ck_some hF
            refine op_g ha rfl (g_add rfl rfl hI138) ?_; clear ha a; intro a ha
            refine op_g ha rfl (g_move rfl) ?_; clear ha a; intro a ha
            refine wpList_nil ?_
            replace ha := ha.sub (σ' := [(1, va1), (2, (.func (.func ga2) #[] ga2c.toArray)), (15, va0), (16, (.int .i64 (a0.length : Int))), (17, (.int .i64 (i46 + 1)))]) ⟨rfl, rfl, rfl, rfl, rfl, trivial⟩
            refine e_lq ?_
            obtain rfl := Option.some.inj hF
            exact ⟨_, Nat.lt_succ_self _, i46 + 1, ha.sub ⟨rfl, rfl, rfl, rfl, rfl, trivial⟩, hE134, hI138, hN97⟩
        · replace hF := if_f hp100 hF
          refine wp_exit ?_
          refine e_then_exit ?_
          refine e_lq_eq ?_
          obtain rfl := Option.some.inj hF
          exact ⟨ha.sub trivial, hE48, (LK_inr hN97).symm⟩
    · rintro a w90 ⟨ha, hE96, rfl⟩
      have hF : F_slices_EqualFunc_Sint64_k2 = some _ := hK93; clear hK93; unfold F_slices_EqualFunc_Sint64_k2 at hF
      refine e_then ?_
      refine wp_seq ?_
      refine wp_region_lit ?_
      refine op_g ha rfl (g_assign rfl) ?_; clear ha a; intro a ha
      refine wpList_nil ?_
      refine e_then ?_
      refine wp_ret ?_
      obtain rfl := Option.some.inj hF
      exact f_ret1 ha rfl rfl ⟨rfl, hE96⟩
set_option maxHeartbeats 2000000 in
theorem W_impl_SameCert {W : World} {a0_0 : Int} (ha0_0 : InI a0_0) {va0_1 : Value} {fa0_1 : List Nat} {a0_1 : (List Int)} (ha0_1 : Ro Rp.int W fa0_1 va0_1 a0_1) {va0_2 : Value} {fa0_2 : List Nat} {a0_2 : (List (List Int))} (ha0_2 : Ro (Rp.sl 2 Rp.int) W fa0_2 va0_2 a0_2) {a1_0 : Int} (ha1_0 : InI a1_0) {va1_1 : Value} {fa1_1 : List Nat} {a1_1 : (List Int)} (ha1_1 : Ro Rp.int W fa1_1 va1_1 a1_1) {va1_2 : Value} {fa1_2 : List Nat} {a1_2 : (List (List Int))} (ha1_2 : Ro (Rp.sl 2 Rp.int) W fa1_2 va1_2 a1_2) {r : Bool} (hF : F_impl_SameCert a0_0 a0_1 a0_2 a1_0 a1_1 a1_2 = some r) :
    Calls Try.prog 32 [.agg #[.int .i64 a0_0, va0_1, va0_2], .agg #[.int .i64 a1_0, va1_1, va1_2]].toArray W (Ret fun u w' => u = .bool r ∧ Ext W w') := by
  refine f_enter Try.func32 rfl Try.ntmps32 rfl ?_
  intro a ha
  replace ha : Fr 24 [(0, (.agg #[(.int .i64 a0_0), va0_1, va0_2])), (1, (.agg #[(.int .i64 a1_0), va1_1, va1_2]))] a := ha
  have hE : Chg [] W W := Chg.refl _ _
  unfold F_impl_SameCert at hF
  refine wp_seq ?_
  refine wp_region_lit ?_
  refine o_box ha rfl rfl rfl ?_; clear ha a; intro b1 w2 hB3 hx4 hlo5 a ha
  have q6 := Zn.one hlo5
  have q7 := Zn.upD q6 hE
  have hE8 := Ext.trans hE hx4
  refine o_box ha rfl rfl rfl ?_; clear ha a; intro b9 w10 hB11 hx12 hlo13 a ha
  have q14 := Zn.one hlo13
  have q15 := Nq.new hB3.fpb q14
  have q16 := Nq.made1 hlo13 hB3.bi
  have q17 := Zn.upD q14 hE8
  replace hB3 := hB3.ext hx12
  have hE18 := Ext.trans hE8 hx12
  refine op_g ha rfl (g_assign rfl) ?_; clear ha a; intro a ha
  refine wpList_nil ?_
  replace ha := ha.sub (σ' := [(2, (.pointer (some ⟨b1, 0, none⟩))), (3, (.pointer (some ⟨b9, 0, none⟩)))]) ⟨rfl, rfl, trivial⟩
  refine e_then ?_
  refine wp_seq ?_
  refine wp_region_lit ?_
  refine op_g ha rfl (g_field0 st52_0 rfl) ?_; clear ha a; intro a ha
  refine op_g ha rfl (g_load Try.isAgg2 rfl (hB3.cell rfl)) ?_; clear ha a; intro a ha
  refine op_g ha rfl (g_field0 st52_0 rfl) ?_; clear ha a; intro a ha
  refine op_g ha rfl (g_load Try.isAgg2 rfl (hB11.cell rfl)) ?_; clear ha a; intro a ha
  refine op_g ha rfl (g_eql rfl rfl) ?_; clear ha a; intro a ha
  refine op_g ha rfl (g_move rfl) ?_; clear ha a; intro a ha
  by_cases hp19 : a0_0 = a1_0
  · replace hF := if_t hp19 hF
    rw [show (decide (a0_0 = a1_0)) = true from (decide_eq_true_iff).2 hp19] at ha
    refine op_want (yields ha rfl rfl) ?_
    refine op_g ha rfl (g_field0 st52_1 rfl) ?_; clear ha a; intro a ha
    refine op_want (yields ha rfl rfl) ?_
    refine op_g ha rfl (g_load Try.isAgg22 rfl (hB3.cell rfl)) ?_; clear ha a; intro a ha
    refine op_want (yields ha rfl rfl) ?_
    refine op_g ha rfl (g_field0 st52_1 rfl) ?_; clear ha a; intro a ha
    refine op_want (yields ha rfl rfl) ?_
    refine op_g ha rfl (g_load Try.isAgg22 rfl (hB11.cell rfl)) ?_; clear ha a; intro a ha
    refine op_want (yields ha rfl rfl) ?_
    obtain ⟨x20, hc21, hF⟩ := cal_some hF
    refine o_call ha rfl rfl Try.call54 (W_slices_Equal_int64 (ha0_1.ext hE18) (ha1_1.ext hE18) hc21) ?_; clear ha a; rintro v22 w23 ⟨rfl, hx24⟩ a ha
    replace hB3 := hB3.ext hx24
    replace hB11 := hB11.ext hx24
    have hE25 := Ext.trans hE18 hx24
    refine op_g ha rfl (g_pick rfl rfl) ?_; clear ha a; intro a ha
    refine op_g ha rfl (g_move rfl) ?_; clear ha a; intro a ha
    by_cases hp26 : x20 = true
    · replace hF := if_t hp26 hF
      rw [show (x20) = true from (Iff.rfl).2 hp26] at ha
      refine op_want (yields ha rfl rfl) ?_
      refine op_g ha rfl (g_field0 st52_2 rfl) ?_; clear ha a; intro a ha
      refine op_want (yields ha rfl rfl) ?_
      refine op_g ha rfl (g_load Try.isAgg47 rfl (hB3.cell rfl)) ?_; clear ha a; intro a ha
      refine op_want (yields ha rfl rfl) ?_
      refine op_g ha rfl (g_field0 st52_2 rfl) ?_; clear ha a; intro a ha
      refine op_want (yields ha rfl rfl) ?_
      refine op_g ha rfl (g_load Try.isAgg47 rfl (hB11.cell rfl)) ?_; clear ha a; intro a ha
      refine op_want (yields ha rfl rfl) ?_
      obtain ⟨x30, hc31, hF⟩ := cal_some hF
      refine o_call ha rfl rfl Try.call55 (W_slices_EqualFunc_Sint64 (ha0_2.ext hE25) (ha1_2.ext hE25) (by intro _ hy29 vz27 fz27 z27 hz27 vz28 fz28 z28 hz28 r hr; exact W_slices_Equal_int64 hz27 hz28 hr) Try.call54 hc31) ?_; clear ha a; rintro v32 w33 ⟨rfl, hx34⟩ a ha
      replace hB3 := hB3.ext hx34
      replace hB11 := hB11.ext hx34
      have hE35 := Ext.trans hE25 hx34
      refine op_g ha rfl (g_pick rfl rfl) ?_; clear ha a; intro a ha
      refine op_g ha rfl (g_assign rfl) ?_; clear ha a; intro a ha
      refine wpList_nil ?_
      replace ha := ha.sub (σ' := [(4, (.bool x30))]) ⟨rfl, trivial⟩
      refine e_then ?_
      refine wp_ret ?_
      obtain rfl := Option.some.inj hF
      exact f_ret1 ha rfl rfl ⟨rfl, hE35⟩
    · replace hF := if_f hp26 hF
      rw [show (x20) = false from b_false (Iff.rfl) hp26] at ha
      refine op_unwant ha rfl (yields ha rfl rfl) rfl ?_; clear ha a; intro a ha
      refine op_unwant ha rfl (yields ha rfl rfl) rfl ?_; clear ha a; intro a ha
      refine op_unwant ha rfl (yields ha rfl rfl) rfl ?_; clear ha a; intro a ha
      refine op_unwant ha rfl (yields ha rfl rfl) rfl ?_; clear ha a; intro a ha
      refine op_unwant ha rfl (yields ha rfl rfl) rfl ?_; clear ha a; intro a ha
      refine op_g ha rfl (g_pick rfl rfl) ?_; clear ha a; intro a ha
      refine op_g ha rfl (g_assign rfl) ?_; clear ha a; intro a ha
      refine wpList_nil ?_
      replace ha := ha.sub (σ' := [(4, (.bool false))]) ⟨rfl, trivial⟩
      refine e_then ?_
      refine wp_ret ?_
      obtain rfl := Option.some.inj hF
      exact f_ret1 ha rfl rfl ⟨rfl, hE25⟩
  · replace hF := if_f hp19 hF
    rw [show (decide (a0_0 = a1_0)) = false from b_false (decide_eq_true_iff) hp19] at ha
    refine op_unwant ha rfl (yields ha rfl rfl) rfl ?_; clear ha a; intro a ha
    refine op_unwant ha rfl (yields ha rfl rfl) rfl ?_; clear ha a; intro a ha
    refine op_unwant ha rfl (yields ha rfl rfl) rfl ?_; clear ha a; intro a ha
    refine op_unwant ha rfl (yields ha rfl rfl) rfl ?_; clear ha a; intro a ha
    refine op_unwant ha rfl (yields ha rfl rfl) rfl ?_; clear ha a; intro a ha
    refine op_g ha rfl (g_pick rfl rfl) ?_; clear ha a; intro a ha
    refine op_g ha rfl (g_move rfl) ?_; clear ha a; intro a ha
    refine op_unwant ha rfl (yields ha rfl rfl) rfl ?_; clear ha a; intro a ha
    refine op_unwant ha rfl (yields ha rfl rfl) rfl ?_; clear ha a; intro a ha
    refine op_unwant ha rfl (yields ha rfl rfl) rfl ?_; clear ha a; intro a ha
    refine op_unwant ha rfl (yields ha rfl rfl) rfl ?_; clear ha a; intro a ha
    refine op_unwant ha rfl (yields ha rfl rfl) rfl ?_; clear ha a; intro a ha
    refine op_g ha rfl (g_pick rfl rfl) ?_; clear ha a; intro a ha
    refine op_g ha rfl (g_assign rfl) ?_; clear ha a; intro a ha
    refine wpList_nil ?_
    replace ha := ha.sub (σ' := [(4, (.bool false))]) ⟨rfl, trivial⟩
    refine e_then ?_
    refine wp_ret ?_
    obtain rfl := Option.some.inj hF
    exact f_ret1 ha rfl rfl ⟨rfl, hE18⟩
set_option maxHeartbeats 2000000 in
theorem W_laws_eqInt64S {W : World} {va0 : Value} {fa0 : List Nat} {a0 : (List Int)} (ha0 : Ro Rp.int W fa0 va0 a0) {va1 : Value} {fa1 : List Nat} {a1 : (List Int)} (ha1 : Ro Rp.int W fa1 va1 a1) {r : Bool} (hF : F_laws_eqInt64S a0 a1 = some r) :
    Calls Try.prog 12 [va0, va1].toArray W (Ret fun u w' => u = .bool r ∧ Ext W w') := by
  refine f_enter Try.func12 rfl Try.ntmps12 rfl ?_
  intro a ha
  replace ha : Fr 26 [(0, va0), (1, va1)] a := ha
  have hE : Chg [] W W := Chg.refl _ _
  unfold F_laws_eqInt64S at hF
  refine wp_seq ?_
  refine wp_region_lit ?_
  refine op_g ha rfl (g_assign rfl) ?_; clear ha a; intro a ha
  refine wpList_nil ?_
  replace ha := ha.sub (σ' := [(0, va0), (1, va1)]) ⟨rfl, rfl, trivial⟩
  refine e_then ?_
  refine wp_seq ?_
  refine wp_seq ?_
  refine wp_region_lit ?_
  refine op_g ha rfl (g_move rfl) ?_; clear ha a; intro a ha
  refine op_g ha rfl (g_lenR sl22.und ha0 rfl) ?_; clear ha a; intro a ha
  refine op_g ha rfl (g_move rfl) ?_; clear ha a; intro a ha
  refine op_g ha rfl (g_lenR sl22.und ha1 rfl) ?_; clear ha a; intro a ha
  refine op_g ha rfl (g_neq rfl rfl) ?_; clear ha a; intro a ha
  refine wpList_nil ?_
  replace ha := ha.sub (σ' := [(0, va0), (1, va1), (10, (.bool (decide ((a0.length : Int) ≠ (a1.length : Int)))))]) ⟨rfl, rfl, rfl, trivial⟩
  refine e_then ?_
  refine c_cond ((a0.length : Int) ≠ (a1.length : Int)) ha rfl (decide_eq_true_iff) (fun hp1 => ?_) (fun hp1 => ?_)
  · replace hF := if_t hp1 hF
    refine wp_seq ?_
    refine wp_region_lit ?_
    refine op_g ha rfl (g_assign rfl) ?_; clear ha a; intro a ha
    refine wpList_nil ?_
    replace ha := ha.sub (σ' := [(4, (.bool false))]) ⟨rfl, trivial⟩
    refine e_then ?_
    refine wp_ret ?_
    refine e_then_ret ?_
    obtain rfl := Option.some.inj hF
    exact f_ret1 ha rfl rfl ⟨rfl, hE⟩
  · replace hF := if_f hp1 hF
    refine wp_skip ?_
    refine e_then ?_
    refine wp_seq ?_
    refine wp_seq ?_
    refine wp_region_lit ?_
    refine op_g ha rfl (g_assign rfl) ?_; clear ha a; intro a ha
    refine wpList_nil ?_
    replace ha := ha.sub (σ' := [(0, va0), (1, va1), (5, (.int .i64 0))]) ⟨rfl, rfl, rfl, trivial⟩
    refine e_then ?_
    obtain ⟨o77, ho78, hK79⟩ := bnd_some hF
    obtain ⟨n80, hn81⟩ := lp_some ho78; clear ho78
    refine c_loop (fun a w => Fr 26 [] a ∧ Chg [] W w ∧ o77 = .inl ()) (fun n a w => ∃ (i39 : Int), Fr 26 [(0, va0), (1, va1), (5, (.int .i64 i39))] a ∧ Chg [] W w ∧ InI i39 ∧ lpN (fun s => F_laws_eqInt64S_l1 a0 a1 s) n i39 = some o77) n80 ⟨0, ha.sub ⟨rfl, rfl, rfl, trivial⟩, hE, (by decide), hn81⟩ ?_ ?_
    · rintro m85 a w38 ⟨i39, ha, hE41, hI40, hF⟩
      cases m85 with
      | zero => exact (lpN_zero hF).elim
      | succ m85 =>
        obtain ⟨z84, hF, hN83⟩ := lpN_succ hF
        have hF : F_laws_eqInt64S_l1 a0 a1 i39 = some z84 := hF; unfold F_laws_eqInt64S_l1 at hF
        refine wp_seq ?_
        refine wp_seq ?_
        refine wp_region_lit ?_
        refine op_g ha rfl (g_move rfl) ?_; clear ha a; intro a ha
        refine op_g ha rfl (g_move rfl) ?_; clear ha a; intro a ha
        refine op_g ha rfl (g_lenR sl22.und ha0 rfl) ?_; clear ha a; intro a ha
        refine op_g ha rfl (g_lss rfl rfl) ?_; clear ha a; intro a ha
        refine wpList_nil ?_
        replace ha := ha.sub (σ' := [(0, va0), (1, va1), (5, (.int .i64 i39)), (14, (.bool (decide (i39 < (a0.length : Int)))))]) ⟨rfl, rfl, rfl, rfl, trivial⟩
        refine e_then ?_
        refine c_cond (i39 < (a0.length : Int)) ha rfl (decide_eq_true_iff) (fun hp86 => ?_) (fun hp86 => ?_)
        · replace hF := if_t hp86 hF
          refine wp_skip ?_
          refine e_then ?_
          refine wp_seq ?_
          refine wp_block ?_
          refine wp_seq ?_
          refine d_quiet hmix (by kernel_rfl) ?_
          refine q_g ha rfl (g_move rfl) ?_; clear ha a; intro a ha
          refine q_g ha rfl (g_move rfl) ?_; clear ha a; intro a ha
          obtain ⟨x87, g88, gx89, hF⟩ := idx_some hF
          obtain ⟨p90, cs91, f92, hf93, hpb94, hat95, hr96, hi97⟩ := ha0.at g88 gx89
          obtain ⟨rfl, hI98, rfl⟩ := hr96
          refine q_g ha rfl (hi97.gives sl22 rfl rfl) ?_; clear ha a; intro a ha
          refine q_g ha rfl (g_load0 hE41 Try.isAgg2 rfl hat95.one) ?_; clear ha a; intro a ha
          refine q_g ha rfl (g_move rfl) ?_; clear ha a; intro a ha
          refine q_g ha rfl (g_move rfl) ?_; clear ha a; intro a ha
          obtain ⟨x99, g100, gx101, hF⟩ := idx_some hF
          obtain ⟨p102, cs103, f104, hf105, hpb106, hat107, hr108, hi109⟩ := ha1.at g100 gx101
          obtain ⟨rfl, hI110, rfl⟩ := hr108
          refine q_g ha rfl (hi109.gives sl22 rfl rfl) ?_; clear ha a; intro a ha
          refine q_g ha rfl (g_load0 hE41 Try.isAgg2 rfl hat107.one) ?_; clear ha a; intro a ha
          refine q_g ha rfl (g_neq rfl rfl) ?_; clear ha a; intro a ha
          refine q_nil ?_; intro w111 hx112
          have hE113 := Ext.trans hE41 hx112
          replace ha := ha.sub (σ' := [(0, va0), (1, va1), (5, (.int .i64 i39)), (25, (.bool (decide (x87 ≠ x99))))]) ⟨rfl, rfl, rfl, rfl, trivial⟩
          refine e_then ?_
          refine c_cond (x87 ≠ x99) ha rfl (decide_eq_true_iff) (fun hp114 => ?_) (fun hp114 => ?_)
          · replace hF := if_t hp114 hF
            refine wp_seq ?_
            refine wp_region_lit ?_
            refine op_g ha rfl (g_assign rfl) ?_; clear ha a; intro a ha
            refine wpList_nil ?_
            replace ha := ha.sub (σ' := [(4, (.bool false))]) ⟨rfl, trivial⟩
            refine e_then ?_
            refine wp_ret ?_
            refine e_blk_ret ?_
            refine e_then_ret ?_
            refine e_lq_ret ?_
            refine e_then_ret ?_
            obtain rfl := Option.some.inj hF
            have e115 := LK_inr hN83; subst e115
            have e116 := BK_inr hK79; subst e116
            exact f_ret1 ha rfl rfl ⟨rfl, hE113⟩
          · replace hF := if_f hp114 hF
            refine wp_skip ?_
            refine e_blk ?_
            refine e_then ?_
            refine wp_region_lit ?_
            refine op_g ha rfl (g_move rfl) ?_; clear ha a; intro a ha
            obtain ⟨hI117, hF⟩ := ck_some hF
            refine op_g ha rfl (g_add rfl rfl hI117) ?_; clear ha a; intro a ha
            refine op_g ha rfl (g_assign rfl) ?_; clear ha a; intro a ha
            refine wpList_nil ?_
            replace ha := ha.sub (σ' := [(0, va0), (1, va1), (5, (.int .i64 (i39 + 1)))]) ⟨rfl, rfl, rfl, trivial⟩
            refine e_lq ?_
            obtain rfl := Option.some.inj hF
            exact ⟨_, Nat.lt_succ_self _, i39 + 1, ha.sub ⟨rfl, rfl, rfl, trivial⟩, hE113, hI117, hN83⟩
        · replace hF := if_f hp86 hF
          refine wp_exit ?_
          refine e_then_exit ?_
          refine e_lq_eq ?_
          obtain rfl := Option.some.inj hF
          exact ⟨ha.sub trivial, hE41, (LK_inr hN83).symm⟩
    · rintro a w76 ⟨ha, hE82, rfl⟩
      have hF : F_laws_eqInt64S_k2 = some _ := hK79; clear hK79; unfold F_laws_eqInt64S_k2 at hF
      refine e_then ?_
      refine wp_seq ?_
      refine wp_region_lit ?_
      refine op_g ha rfl (g_assign rfl) ?_; clear ha a; intro a ha
      refine wpList_nil ?_
      refine e_then ?_
      refine wp_ret ?_
      obtain rfl := Option.some.inj hF
      exact f_ret1 ha rfl rfl ⟨rfl, hE82⟩
set_option maxHeartbeats 2000000 in
theorem W_laws_eqInt64SS {W : World} {va0 : Value} {fa0 : List Nat} {a0 : (List (List Int))} (ha0 : Ro (Rp.sl 2 Rp.int) W fa0 va0 a0) {va1 : Value} {fa1 : List Nat} {a1 : (List (List Int))} (ha1 : Ro (Rp.sl 2 Rp.int) W fa1 va1 a1) {r : Bool} (hF : F_laws_eqInt64SS a0 a1 = some r) :
    Calls Try.prog 56 [va0, va1].toArray W (Ret fun u w' => u = .bool r ∧ Ext W w') := by
  refine f_enter Try.func56 rfl Try.ntmps56 rfl ?_
  intro a ha
  replace ha : Fr 27 [(0, va0), (1, va1)] a := ha
  have hE : Chg [] W W := Chg.refl _ _
  unfold F_laws_eqInt64SS at hF
  refine wp_seq ?_
  refine wp_region_lit ?_
  refine op_g ha rfl (g_assign rfl) ?_; clear ha a; intro a ha
  refine wpList_nil ?_
  replace ha := ha.sub (σ' := [(0, va0), (1, va1)]) ⟨rfl, rfl, trivial⟩
  refine e_then ?_
  refine wp_seq ?_
  refine wp_seq ?_
  refine wp_region_lit ?_
  refine op_g ha rfl (g_move rfl) ?_; clear ha a; intro a ha
  refine op_g ha rfl (g_lenR sl47.und ha0 rfl) ?_; clear ha a; intro a ha
  refine op_g ha rfl (g_move rfl) ?_; clear ha a; intro a ha
  refine op_g ha rfl (g_lenR sl47.und ha1 rfl) ?_; clear ha a; intro a ha
  refine op_g ha rfl (g_neq rfl rfl) ?_; clear ha a; intro a ha
  refine wpList_nil ?_
  replace ha := ha.sub (σ' := [(0, va0), (1, va1), (10, (.bool (decide ((a0.length : Int) ≠ (a1.length : Int)))))]) ⟨rfl, rfl, rfl, trivial⟩
  refine e_then ?_
  refine c_cond ((a0.length : Int) ≠ (a1.length : Int)) ha rfl (decide_eq_true_iff) (fun hp1 => ?_) (fun hp1 => ?_)
  · replace hF := if_t hp1 hF
    refine wp_seq ?_
    refine wp_region_lit ?_
    refine op_g ha rfl (g_assign rfl) ?_; clear ha a; intro a ha
    refine wpList_nil ?_
    replace ha := ha.sub (σ' := [(4, (.bool false))]) ⟨rfl, trivial⟩
    refine e_then ?_
    refine wp_ret ?_
    refine e_then_ret ?_
    obtain rfl := Option.some.inj hF
    exact f_ret1 ha rfl rfl ⟨rfl, hE⟩
  · replace hF := if_f hp1 hF
    refine wp_skip ?_
    refine e_then ?_
    refine wp_seq ?_
    refine wp_seq ?_
    refine wp_region_lit ?_
    refine op_g ha rfl (g_assign rfl) ?_; clear ha a; intro a ha
    refine wpList_nil ?_
    replace ha := ha.sub (σ' := [(0, va0), (1, va1), (5, (.int .i64 0))]) ⟨rfl, rfl, rfl, trivial⟩
    refine e_then ?_
    obtain ⟨o93, ho94, hK95⟩ := bnd_some hF
    obtain ⟨n96, hn97⟩ := lp_some ho94; clear ho94
    refine c_loop (fun a w => Fr 27 [] a ∧ Chg [] W w ∧ o93 = .inl ()) (fun n a w => ∃ (i47 : Int), Fr 27 [(0, va0), (1, va1), (5, (.int .i64 i47))] a ∧ Chg [] W w ∧ InI i47 ∧ lpN (fun s => F_laws_eqInt64SS_l1 a0 a1 s) n i47 = some o93) n96 ⟨0, ha.sub ⟨rfl, rfl, rfl, trivial⟩, hE, (by decide), hn97⟩ ?_ ?_
    · rintro m101 a w46 ⟨i47, ha, hE49, hI48, hF⟩
      cases m101 with
      | zero => exact (lpN_zero hF).elim
      | succ m101 =>
        obtain ⟨z100, hF, hN99⟩ := lpN_succ hF
        have hF : F_laws_eqInt64SS_l1 a0 a1 i47 = some z100 := hF; unfold F_laws_eqInt64SS_l1 at hF
        refine wp_seq ?_
        refine wp_seq ?_
        refine wp_region_lit ?_
        refine op_g ha rfl (g_move rfl) ?_; clear ha a; intro a ha
        refine op_g ha rfl (g_move rfl) ?_; clear ha a; intro a ha
        refine op_g ha rfl (g_lenR sl47.und ha0 rfl) ?_; clear ha a; intro a ha
        refine op_g ha rfl (g_lss rfl rfl) ?_; clear ha a; intro a ha
        refine wpList_nil ?_
        replace ha := ha.sub (σ' := [(0, va0), (1, va1), (5, (.int .i64 i47)), (14, (.bool (decide (i47 < (a0.length : Int)))))]) ⟨rfl, rfl, rfl, rfl, trivial⟩
        refine e_then ?_
        refine c_cond (i47 < (a0.length : Int)) ha rfl (decide_eq_true_iff) (fun hp102 => ?_) (fun hp102 => ?_)
        · replace hF := if_t hp102 hF
          refine wp_skip ?_
          refine e_then ?_
          refine wp_seq ?_
          refine wp_block ?_
          refine wp_seq ?_
          refine d_quiet hmix (by kernel_rfl) ?_
          refine q_g ha rfl (g_move rfl) ?_; clear ha a; intro a ha
          refine q_g ha rfl (g_move rfl) ?_; clear ha a; intro a ha
          obtain ⟨x103, g104, gx105, hF⟩ := idx_some hF
          obtain ⟨p106, cs107, f108, hf109, hpb110, hat111, hr112, hi113⟩ := ha0.at g104 gx105
          obtain ⟨v114, rfl, h115⟩ := hr112
          have h115 : Ro Rp.int W f108 v114 x103 := h115
          refine q_g ha rfl (hi113.gives sl47 rfl rfl) ?_; clear ha a; intro a ha
          refine q_g ha rfl (g_load0 hE49 Try.isAgg22 rfl hat111.one) ?_; clear ha a; intro a ha
          refine q_g ha rfl (g_move rfl) ?_; clear ha a; intro a ha
          refine q_g ha rfl (g_move rfl) ?_; clear ha a; intro a ha
          obtain ⟨x117, g118, gx119, hF⟩ := idx_some hF
          obtain ⟨p120, cs121, f122, hf123, hpb124, hat125, hr126, hi127⟩ := ha1.at g118 gx119
          obtain ⟨v128, rfl, h129⟩ := hr126
          have h129 : Ro Rp.int W f122 v128 x117 := h129
          refine q_g ha rfl (hi127.gives sl47 rfl rfl) ?_; clear ha a; intro a ha
          refine q_g ha rfl (g_load0 hE49 Try.isAgg22 rfl hat125.one) ?_; clear ha a; intro a ha
          obtain ⟨x133, hc134, hF⟩ := cal_some hF
          refine q_call (.bool x133) ha rfl rfl Try.call12 (fun w132 hx131 => W_laws_eqInt64S (h115.ext (Ext.trans hE49 hx131)) (h129.ext (Ext.trans hE49 hx131)) hc134) (fun _ _ _ h => ⟨h.1, h.2⟩) ?_; clear ha a; intro a ha
          refine q_g ha rfl (g_not rfl) ?_; clear ha a; intro a ha
          refine q_nil ?_; intro w135 hx136
          have hE137 := Ext.trans hE49 hx136
          replace ha := ha.sub (σ' := [(0, va0), (1, va1), (5, (.int .i64 i47)), (26, (.bool (!x133)))]) ⟨rfl, rfl, rfl, rfl, trivial⟩
          refine e_then ?_
          refine c_cond (¬ (x133 = true)) ha rfl (n_iff (Iff.rfl)) (fun hp138 => ?_) (fun hp138 => ?_)
          · replace hF := if_t hp138 hF
            refine wp_seq ?_
            refine wp_region_lit ?_
            refine op_g ha rfl (g_assign rfl) ?_; clear ha a; intro a ha
            refine wpList_nil ?_
            replace ha := ha.sub (σ' := [(4, (.bool false))]) ⟨rfl, trivial⟩
            refine e_then ?_
            refine wp_ret ?_
            refine e_blk_ret ?_
            refine e_then_ret ?_
            refine e_lq_ret ?_
            refine e_then_ret ?_
            obtain rfl := Option.some.inj hF
            have e139 := LK_inr hN99; subst e139
            have e140 := BK_inr hK95; subst e140
            exact f_ret1 ha rfl rfl ⟨rfl, hE137⟩
          · replace hF := if_f hp138 hF
            refine wp_skip ?_
            refine e_blk ?_
            refine e_then ?_
            refine wp_region_lit ?_
            refine op_g ha rfl (g_move rfl) ?_; clear ha a; intro a ha
            obtain ⟨hI141, hF⟩ := ck_some hF
            refine op_g ha rfl (g_add rfl rfl hI141) ?_; clear ha a; intro a ha
            refine op_g ha rfl (g_assign rfl) ?_; clear ha a; intro a ha
            refine wpList_nil ?_
            replace ha := ha.sub (σ' := [(0, va0), (1, va1), (5, (.int .i64 (i47 + 1)))]) ⟨rfl, rfl, rfl, trivial⟩
            refine e_lq ?_
            obtain rfl := Option.some.inj hF
            exact ⟨_, Nat.lt_succ_self _, i47 + 1, ha.sub ⟨rfl, rfl, rfl, trivial⟩, hE137, hI141, hN99⟩
        · replace hF := if_f hp102 hF
          refine wp_exit ?_
          refine e_then_exit ?_
          refine e_lq_eq ?_
          obtain rfl := Option.some.inj hF
          exact ⟨ha.sub trivial, hE49, (LK_inr hN99).symm⟩
    · rintro a w92 ⟨ha, hE98, rfl⟩
      have hF : F_laws_eqInt64SS_k2 = some _ := hK95; clear hK95; unfold F_laws_eqInt64SS_k2 at hF
      refine e_then ?_
      refine wp_seq ?_
      refine wp_region_lit ?_
      refine op_g ha rfl (g_assign rfl) ?_; clear ha a; intro a ha
      refine wpList_nil ?_
      refine e_then ?_
      refine wp_ret ?_
      obtain rfl := Option.some.inj hF
      exact f_ret1 ha rfl rfl ⟨rfl, hE98⟩
set_option maxHeartbeats 2000000 in
theorem W_laws_eqCert {W : World} {a0_0 : Int} (ha0_0 : InI a0_0) {va0_1 : Value} {fa0_1 : List Nat} {a0_1 : (List Int)} (ha0_1 : Ro Rp.int W fa0_1 va0_1 a0_1) {va0_2 : Value} {fa0_2 : List Nat} {a0_2 : (List (List Int))} (ha0_2 : Ro (Rp.sl 2 Rp.int) W fa0_2 va0_2 a0_2) {a1_0 : Int} (ha1_0 : InI a1_0) {va1_1 : Value} {fa1_1 : List Nat} {a1_1 : (List Int)} (ha1_1 : Ro Rp.int W fa1_1 va1_1 a1_1) {va1_2 : Value} {fa1_2 : List Nat} {a1_2 : (List (List Int))} (ha1_2 : Ro (Rp.sl 2 Rp.int) W fa1_2 va1_2 a1_2) {r : Bool} (hF : F_laws_eqCert a0_0 a0_1 a0_2 a1_0 a1_1 a1_2 = some r) :
    Calls Try.prog 33 [.agg #[.int .i64 a0_0, va0_1, va0_2], .agg #[.int .i64 a1_0, va1_1, va1_2]].toArray W (Ret fun u w' => u = .bool r ∧ Ext W w') := by
  refine f_enter Try.func33 rfl Try.ntmps33 rfl ?_
  intro a ha
  replace ha : Fr 22 [(0, (.agg #[(.int .i64 a0_0), va0_1, va0_2])), (1, (.agg #[(.int .i64 a1_0), va1_1, va1_2]))] a := ha
  have hE : Chg [] W W := Chg.refl _ _
  unfold F_laws_eqCert at hF
  refine wp_seq ?_
  refine wp_region_lit ?_
  refine o_box ha rfl rfl rfl ?_; clear ha a; intro b1 w2 hB3 hx4 hlo5 a ha
  have q6 := Zn.one hlo5
  have q7 := Zn.upD q6 hE
  have hE8 := Ext.trans hE hx4
  refine o_box ha rfl rfl rfl ?_; clear ha a; intro b9 w10 hB11 hx12 hlo13 a ha
  have q14 := Zn.one hlo13
  have q15 := Nq.new hB3.fpb q14
  have q16 := Nq.made1 hlo13 hB3.bi
  have q17 := Zn.upD q14 hE8
  replace hB3 := hB3.ext hx12
  have hE18 := Ext.trans hE8 hx12
  refine op_g ha rfl (g_assign rfl) ?_; clear ha a; intro a ha
  refine wpList_nil ?_
  replace ha := ha.sub (σ' := [(2, (.pointer (some ⟨b1, 0, none⟩))), (3, (.pointer (some ⟨b9, 0, none⟩)))]) ⟨rfl, rfl, trivial⟩
  refine e_then ?_
  refine wp_seq ?_
  refine wp_seq ?_
  refine wp_region_lit ?_
  refine op_g ha rfl (g_field0 st52_0 rfl) ?_; clear ha a; intro a ha
  refine op_g ha rfl (g_load Try.isAgg2 rfl (hB3.cell rfl)) ?_; clear ha a; intro a ha
  refine op_g ha rfl (g_field0 st52_0 rfl) ?_; clear ha a; intro a ha
  refine op_g ha rfl (g_load Try.isAgg2 rfl (hB11.cell rfl)) ?_; clear ha a; intro a ha
  refine op_g ha rfl (g_neq rfl rfl) ?_; clear ha a; intro a ha
  refine wpList_nil ?_
  replace ha := ha.sub (σ' := [(2, (.pointer (some ⟨b1, 0, none⟩))), (3, (.pointer (some ⟨b9, 0, none⟩))), (9, (.bool (decide (a0_0 ≠ a1_0))))]) ⟨rfl, rfl, rfl, trivial⟩
  refine e_then ?_
  refine c_cond (a0_0 ≠ a1_0) ha rfl (decide_eq_true_iff) (fun hp19 => ?_) (fun hp19 => ?_)
  · replace hF := if_t hp19 hF
    refine wp_seq ?_
    refine wp_region_lit ?_
    refine op_g ha rfl (g_assign rfl) ?_; clear ha a; intro a ha
    refine wpList_nil ?_
    replace ha := ha.sub (σ' := [(4, (.bool false))]) ⟨rfl, trivial⟩
    refine e_then ?_
    refine wp_ret ?_
    refine e_then_ret ?_
    obtain rfl := Option.some.inj hF
    exact f_ret1 ha rfl rfl ⟨rfl, hE18⟩
  · replace hF := if_f hp19 hF
    refine wp_skip ?_
    refine e_then ?_
    refine wp_seq ?_
    refine wp_seq ?_
    refine wp_region_lit ?_
    refine op_g ha rfl (g_field0 st52_1 rfl) ?_; clear ha a; intro a ha
    refine op_g ha rfl (g_load Try.isAgg22 rfl (hB3.cell rfl)) ?_; clear ha a; intro a ha
    refine op_g ha rfl (g_field0 st52_1 rfl) ?_; clear ha a; intro a ha
    refine op_g ha rfl (g_load Try.isAgg22 rfl (hB11.cell rfl)) ?_; clear ha a; intro a ha
    obtain ⟨x20, hc21, hF⟩ := cal_some hF
    refine o_call ha rfl rfl Try.call12 (W_laws_eqInt64S (ha0_1.ext hE18) (ha1_1.ext hE18) hc21) ?_; clear ha a; rintro v22 w23 ⟨rfl, hx24⟩ a ha
    replace hB3 := hB3.ext hx24
    replace hB11 := hB11.ext hx24
    have hE25 := Ext.trans hE18 hx24
    refine op_g ha rfl (g_not rfl) ?_; clear ha a; intro a ha
    refine wpList_nil ?_
    replace ha := ha.sub (σ' := [(2, (.pointer (some ⟨b1, 0, none⟩))), (3, (.pointer (some ⟨b9, 0, none⟩))), (15, (.bool (!x20)))]) ⟨rfl, rfl, rfl, trivial⟩
    refine e_then ?_
    refine c_cond (¬ (x20 = true)) ha rfl (n_iff (Iff.rfl)) (fun hp26 => ?_) (fun hp26 => ?_)
    · replace hF := if_t hp26 hF
      refine wp_seq ?_
      refine wp_region_lit ?_
      refine op_g ha rfl (g_assign rfl) ?_; clear ha a; intro a ha
      refine wpList_nil ?_
      replace ha := ha.sub (σ' := [(4, (.bool false))]) ⟨rfl, trivial⟩
      refine e_then ?_
      refine wp_ret ?_
      refine e_then_ret ?_
      obtain rfl := Option.some.inj hF
      exact f_ret1 ha rfl rfl ⟨rfl, hE25⟩
    · replace hF := if_f hp26 hF
      refine wp_skip ?_
      refine e_then ?_
      refine wp_seq ?_
      refine wp_seq ?_
      refine wp_region_lit ?_
      refine op_g ha rfl (g_field0 st52_2 rfl) ?_; clear ha a; intro a ha
      refine op_g ha rfl (g_load Try.isAgg47 rfl (hB3.cell rfl)) ?_; clear ha a; intro a ha
      refine op_g ha rfl (g_field0 st52_2 rfl) ?_; clear ha a; intro a ha
      refine op_g ha rfl (g_load Try.isAgg47 rfl (hB11.cell rfl)) ?_; clear ha a; intro a ha
      obtain ⟨x27, hc28, hF⟩ := cal_some hF
      refine o_call ha rfl rfl Try.call56 (W_laws_eqInt64SS (ha0_2.ext hE25) (ha1_2.ext hE25) hc28) ?_; clear ha a; rintro v29 w30 ⟨rfl, hx31⟩ a ha
      replace hB3 := hB3.ext hx31
      replace hB11 := hB11.ext hx31
      have hE32 := Ext.trans hE25 hx31
      refine op_g ha rfl (g_not rfl) ?_; clear ha a; intro a ha
      refine wpList_nil ?_
      replace ha := ha.sub (σ' := [(21, (.bool (!x27)))]) ⟨rfl, trivial⟩
      refine e_then ?_
      refine c_cond (¬ (x27 = true)) ha rfl (n_iff (Iff.rfl)) (fun hp33 => ?_) (fun hp33 => ?_)
      · replace hF := if_t hp33 hF
        refine wp_seq ?_
        refine wp_region_lit ?_
        refine op_g ha rfl (g_assign rfl) ?_; clear ha a; intro a ha
        refine wpList_nil ?_
        replace ha := ha.sub (σ' := [(4, (.bool false))]) ⟨rfl, trivial⟩
        refine e_then ?_
        refine wp_ret ?_
        refine e_then_ret ?_
        obtain rfl := Option.some.inj hF
        exact f_ret1 ha rfl rfl ⟨rfl, hE32⟩
      · replace hF := if_f hp33 hF
        refine wp_skip ?_
        refine e_then ?_
        refine wp_seq ?_
        refine wp_region_lit ?_
        refine op_g ha rfl (g_assign rfl) ?_; clear ha a; intro a ha
        refine wpList_nil ?_
        replace ha := ha.sub (σ' := [(4, (.bool true))]) ⟨rfl, trivial⟩
        refine e_then ?_
        refine wp_ret ?_
        obtain rfl := Option.some.inj hF
        exact f_ret1 ha rfl rfl ⟨rfl, hE32⟩
set_option maxHeartbeats 2000000 in
theorem W_laws_FnExactSameCert {W : World} {a0_0 : Int} (ha0_0 : InI a0_0) {va0_1 : Value} {fa0_1 : List Nat} {a0_1 : (List Int)} (ha0_1 : Ro Rp.int W fa0_1 va0_1 a0_1) {va0_2 : Value} {fa0_2 : List Nat} {a0_2 : (List (List Int))} (ha0_2 : Ro (Rp.sl 2 Rp.int) W fa0_2 va0_2 a0_2) {a1_0 : Int} (ha1_0 : InI a1_0) {va1_1 : Value} {fa1_1 : List Nat} {a1_1 : (List Int)} (ha1_1 : Ro Rp.int W fa1_1 va1_1 a1_1) {va1_2 : Value} {fa1_2 : List Nat} {a1_2 : (List (List Int))} (ha1_2 : Ro (Rp.sl 2 Rp.int) W fa1_2 va1_2 a1_2) {r : Bool} (hF : F_laws_FnExactSameCert a0_0 a0_1 a0_2 a1_0 a1_1 a1_2 = some r) :
    Calls Try.prog 7 [.agg #[.int .i64 a0_0, va0_1, va0_2], .agg #[.int .i64 a1_0, va1_1, va1_2]].toArray W (Ret fun u w' => u = .bool r ∧ Ext W w') := by
  refine f_enter Try.func7 rfl Try.ntmps7 rfl ?_
  intro a ha
  replace ha : Fr 45 [(0, (.agg #[(.int .i64 a0_0), va0_1, va0_2])), (1, (.agg #[(.int .i64 a1_0), va1_1, va1_2]))] a := ha
  have hE : Chg [] W W := Chg.refl _ _
  unfold F_laws_FnExactSameCert at hF
  refine wp_seq ?_
  refine wp_region_lit ?_
  refine o_box ha rfl rfl rfl ?_; clear ha a; intro b1 w2 hB3 hx4 hlo5 a ha
  have q6 := Zn.one hlo5
  have q7 := Zn.upD q6 hE
  have hE8 := Ext.trans hE hx4
  refine o_box ha rfl rfl rfl ?_; clear ha a; intro b9 w10 hB11 hx12 hlo13 a ha
  have q14 := Zn.one hlo13
  have q15 := Nq.new hB3.fpb q14
  have q16 := Nq.made1 hlo13 hB3.bi
  have q17 := Zn.upD q14 hE8
  replace hB3 := hB3.ext hx12
  have hE18 := Ext.trans hE8 hx12
  refine op_g ha rfl (g_assign rfl) ?_; clear ha a; intro a ha
  refine wpList_nil ?_
  replace ha := ha.sub (σ' := [(2, (.pointer (some ⟨b1, 0, none⟩))), (3, (.pointer (some ⟨b9, 0, none⟩)))]) ⟨rfl, rfl, trivial⟩
  refine e_then ?_
  refine wp_seq ?_
  refine wp_region_lit ?_
  refine op_g ha rfl (g_assign rfl) ?_; clear ha a; intro a ha
  refine wpList_nil ?_
  refine e_then ?_
  refine wp_seq ?_
  refine wp_region_lit ?_
  refine op_g ha rfl (g_loadA (cs := [(.int .i64 a0_0), va0_1, va0_2]) Try.isAgg49 Try.sizeOf49 rfl (by simp) hB3.all) ?_; clear ha a; intro a ha
  refine op_g ha rfl (g_move rfl) ?_; clear ha a; intro a ha
  obtain ⟨x19, hc20, hF⟩ := cal_some hF
  refine o_call ha rfl rfl Try.call29 (W_laws_szCert ha0_0 (ha0_1.ext hE18) (ha0_2.ext hE18) (by decide) hc20) ?_; clear ha a; rintro v21 w22 ⟨⟨rfl, hI24⟩, hx23⟩ a ha
  replace hB3 := hB3.ext hx23
  replace hB11 := hB11.ext hx23
  have hE25 := Ext.trans hE18 hx23
  refine op_g ha rfl (g_assign rfl) ?_; clear ha a; intro a ha
  refine wpList_nil ?_
  replace ha := ha.sub (σ' := [(2, (.pointer (some ⟨b1, 0, none⟩))), (3, (.pointer (some ⟨b9, 0, none⟩))), (5, (.int .i64 x19))]) ⟨rfl, rfl, rfl, trivial⟩
  refine e_then ?_
  refine wp_seq ?_
  refine wp_seq ?_
  refine wp_region_lit ?_
  refine op_g ha rfl (g_move rfl) ?_; clear ha a; intro a ha
  refine op_g ha rfl (g_lss rfl rfl) ?_; clear ha a; intro a ha
  refine wpList_nil ?_
  replace ha := ha.sub (σ' := [(2, (.pointer (some ⟨b1, 0, none⟩))), (3, (.pointer (some ⟨b9, 0, none⟩))), (5, (.int .i64 x19)), (14, (.bool (decide (x19 < 0))))]) ⟨rfl, rfl, rfl, rfl, trivial⟩
  refine e_then ?_
  refine c_cond (x19 < 0) ha rfl (decide_eq_true_iff) (fun hp26 => ?_) (fun hp26 => ?_)
  · replace hF := if_t hp26 hF
    refine wp_seq ?_
    refine wp_region_lit ?_
    refine op_g ha rfl (g_assign rfl) ?_; clear ha a; intro a ha
    refine wpList_nil ?_
    replace ha := ha.sub (σ' := [(4, (.bool true))]) ⟨rfl, trivial⟩
    refine e_then ?_
    refine wp_ret ?_
    refine e_then_ret ?_
    obtain rfl := Option.some.inj hF
    exact f_ret1 ha rfl rfl ⟨rfl, hE25⟩
  · replace hF := if_f hp26 hF
    refine wp_skip ?_
    refine e_then ?_
    refine wp_seq ?_
    refine wp_region_lit ?_
    refine op_g ha rfl (g_loadA (cs := [(.int .i64 a1_0), va1_1, va1_2]) Try.isAgg49 Try.sizeOf49 rfl (by simp) hB11.all) ?_; clear ha a; intro a ha
    refine op_g ha rfl (g_move rfl) ?_; clear ha a; intro a ha
    obtain ⟨x27, hc28, hF⟩ := cal_some hF
    refine o_call ha rfl rfl Try.call29 (W_laws_szCert ha1_0 (ha1_1.ext hE25) (ha1_2.ext hE25) hI24 hc28) ?_; clear ha a; rintro v29 w30 ⟨⟨rfl, hI32⟩, hx31⟩ a ha
    replace hB3 := hB3.ext hx31
    replace hB11 := hB11.ext hx31
    have hE33 := Ext.trans hE25 hx31
    refine op_g ha rfl (g_assign rfl) ?_; clear ha a; intro a ha
    refine wpList_nil ?_
    replace ha := ha.sub (σ' := [(2, (.pointer (some ⟨b1, 0, none⟩))), (3, (.pointer (some ⟨b9, 0, none⟩))), (5, (.int .i64 x27))]) ⟨rfl, rfl, rfl, trivial⟩
    refine e_then ?_
    refine wp_seq ?_
    refine wp_seq ?_
    refine wp_region_lit ?_
    refine op_g ha rfl (g_move rfl) ?_; clear ha a; intro a ha
    refine op_g ha rfl (g_lss rfl rfl) ?_; clear ha a; intro a ha
    refine wpList_nil ?_
    replace ha := ha.sub (σ' := [(2, (.pointer (some ⟨b1, 0, none⟩))), (3, (.pointer (some ⟨b9, 0, none⟩))), (19, (.bool (decide (x27 < 0))))]) ⟨rfl, rfl, rfl, trivial⟩
    refine e_then ?_
    refine c_cond (x27 < 0) ha rfl (decide_eq_true_iff) (fun hp34 => ?_) (fun hp34 => ?_)
    · replace hF := if_t hp34 hF
      refine wp_seq ?_
      refine wp_region_lit ?_
      refine op_g ha rfl (g_assign rfl) ?_; clear ha a; intro a ha
      refine wpList_nil ?_
      replace ha := ha.sub (σ' := [(4, (.bool true))]) ⟨rfl, trivial⟩
      refine e_then ?_
      refine wp_ret ?_
      refine e_then_ret ?_
      obtain rfl := Option.some.inj hF
      exact f_ret1 ha rfl rfl ⟨rfl, hE33⟩
    · replace hF := if_f hp34 hF
      refine wp_skip ?_
      refine e_then ?_
      refine wp_seq ?_
      refine d_region 6 hmix ?_
      refine u_g 0 rfl (by kernel_rfl) (want0 _) ha rfl (g_loadA (cs := [(.int .i64 a0_0), va0_1, va0_2]) Try.isAgg49 Try.sizeOf49 rfl (by simp) hB3.all) ?_; clear ha a; intro a ha
      refine u_g 2 rfl (by kernel_rfl) (want0 _) ha rfl (g_loadA (cs := [(.int .i64 a1_0), va1_1, va1_2]) Try.isAgg49 Try.sizeOf49 rfl (by simp) hB11.all) ?_; clear ha a; intro a ha
      refine u_only 1 rfl (by kernel_rfl) ?_; intro w35 hx36
      replace hB3 := hB3.ext hx36
      replace hB11 := hB11.ext hx36
      have hE37 := Ext.trans hE33 hx36
      obtain ⟨x38, hc39, hF⟩ := cal_some hF
      refine o_call ha rfl rfl Try.call31 (W_laws_toCert ha0_0 (ha0_1.ext hE37) (ha0_2.ext hE37) hc39) ?_; clear ha a; rintro v40 w41 ⟨u43, u44, u45, b47, b51, fs55, rfl, ⟨rfl, hI46⟩, h48, z49, h52, z53, zf56, nd57, q58, q59, hx42⟩ a ha
      have q60 := Nq.new hB3.fpb z49
      have q61 := Nq.madeO z49 hB3.bi
      have q62 := Nq.new hB11.fpb z49
      have q63 := Nq.madeO z49 hB11.bi
      have q64 := Nq.new hB3.fpb z53
      have q65 := Nq.madeF z53 zf56 hB3.bi
      have q66 := Nq.new hB11.fpb z53
      have q67 := Nq.madeF z53 zf56 hB11.bi
      replace hB3 := hB3.ext hx42
      replace hB11 := hB11.ext hx42
      have hE68 := Ext.trans hE37 hx42
      have q69 := Zn.upD z49 hE37
      have q70 := Zn.upD z53 hE37
      have q71 := zf_up zf56 hE37
      refine wpList_nil (e_sq ?_)
      refine ⟨fun _ => hx42, ?_⟩
      refine u_only 3 rfl (by kernel_rfl) ?_; intro w72 hx73
      replace hB3 := hB3.ext hx73
      replace hB11 := hB11.ext hx73
      replace h48 := h48.ext hx73
      replace h52 := h52.ext hx73
      have hE74 := Ext.trans hE68 hx73
      obtain ⟨x75, hc76, hF⟩ := cal_some hF
      refine o_call ha rfl rfl Try.call31 (W_laws_toCert ha1_0 (ha1_1.ext hE74) (ha1_2.ext hE74) hc76) ?_; clear ha a; rintro v77 w78 ⟨u80, u81, u82, b84, b88, fs92, rfl, ⟨rfl, hI83⟩, h85, z86, h89, z90, zf93, nd94, q95, q96, hx79⟩ a ha
      have q97 := Nq.new hB3.fpb z86
      have q98 := Nq.madeO z86 hB3.bi
      have q99 := Nq.new hB11.fpb z86
      have q100 := Nq.madeO z86 hB11.bi
      have q101 := Nq.new h48.fpb z86
      have q102 := Nq.madeO z86 h48.blt
      have q103 := Nq.new h52.fpb z86
      have q104 := Nq.madeO z86 h52.blt
      have q105 := Nq.new hB3.fpb z90
      have q106 := Nq.madeF z90 zf93 hB3.bi
      have q107 := Nq.new hB11.fpb z90
      have q108 := Nq.madeF z90 zf93 hB11.bi
      have q109 := Nq.new h48.fpb z90
      have q110 := Nq.madeF z90 zf93 h48.blt
      have q111 := Nq.new h52.fpb z90
      have q112 := Nq.madeF z90 zf93 h52.blt
      replace hB3 := hB3.ext hx79
      replace hB11 := hB11.ext hx79
      replace h48 := h48.ext hx79
      replace h52 := h52.ext hx79
      have hE113 := Ext.trans hE74 hx79
      have q114 := Zn.upD z86 hE74
      have q115 := Zn.upD z90 hE74
      have q116 := zf_up zf93 hE74
      refine wpList_nil (e_sq ?_)
      refine ⟨fun _ => hx79, ?_⟩
      obtain ⟨fp119, hro120, -⟩ := h48.weak.ro
      obtain ⟨fp121, hro122, -⟩ := h52.weak.ro
      obtain ⟨fp123, hro124, -⟩ := h85.weak.ro
      obtain ⟨fp125, hro126, -⟩ := h89.weak.ro
      obtain ⟨x127, hc128, hF⟩ := cal_some hF
      refine u_call (.bool x127) 4 rfl (by kernel_rfl) (want0 _) ha rfl rfl Try.call30 (fun w118 hx117 => W_spec_SameCert hI46 (hro120.ext hx117) (hro122.ext hx117) hI83 (hro124.ext hx117) (hro126.ext hx117) hc128) (fun _ _ _ h => ⟨h.1, h.2⟩) ?_; clear ha a; intro a ha
      refine u_g 5 rfl (by kernel_rfl) (want0 _) ha rfl (g_assign rfl) ?_; clear ha a; intro a ha
      refine u_done (by kernel_rfl) ?_; intro w129 hx130
      replace hB3 := hB3.ext hx130
      replace hB11 := hB11.ext hx130
      replace h48 := h48.ext hx130
      replace h52 := h52.ext hx130
      replace h85 := h85.ext hx130
      replace h89 := h89.ext hx130
      have hE131 := Ext.trans hE113 hx130
      replace ha := ha.sub (σ' := [(2, (.pointer (some ⟨b1, 0, none⟩))), (3, (.pointer (some ⟨b9, 0, none⟩))), (6, (.bool x127))]) ⟨rfl, rfl, rfl, trivial⟩
      refine e_then ?_
      refine wp_seq ?_
      refine wp_region_lit ?_
      refine op_g ha rfl (g_loadA (cs := [(.int .i64 a0_0), va0_1, va0_2]) Try.isAgg49 Try.sizeOf49 rfl (by simp) hB3.all) ?_; clear ha a; intro a ha
      obtain ⟨x132, hc133, hF⟩ := cal_some hF
      refine o_call ha rfl rfl Try.call31 (W_laws_toCert ha0_0 (ha0_1.ext hE131) (ha0_2.ext hE131) hc133) ?_; clear ha a; rintro v134 w135 ⟨u137, u138, u139, b141, b145, fs149, rfl, ⟨rfl, hI140⟩, h142, z143, h146, z147, zf150, nd151, q152, q153, hx136⟩ a ha
      have q154 := Nq.new hB3.fpb z143
      have q155 := Nq.madeO z143 hB3.bi
      have q156 := Nq.new hB11.fpb z143
      have q157 := Nq.madeO z143 hB11.bi
      have q158 := Nq.new hB3.fpb z147
      have q159 := Nq.madeF z147 zf150 hB3.bi
      have q160 := Nq.new hB11.fpb z147
      have q161 := Nq.madeF z147 zf150 hB11.bi
      replace hB3 := hB3.ext hx136
      replace hB11 := hB11.ext hx136
      have hE162 := Ext.trans hE131 hx136
      have q163 := Zn.upD z143 hE131
      have q164 := Zn.upD z147 hE131
      have q165 := zf_up zf150 hE131
      refine o_alloc (cs := [(.int .i64 0), (.slice none 0 0), (.slice none 0 0)]) ha rfl Try.zeroValue52 rfl ?_; clear ha a; intro b166 w167 hB168 hx169 hlo170 a ha
      have q171 := Zn.one hlo170
      have q172 := Nq.new hB3.fpb q171
      have q173 := Nq.made1 hlo170 hB3.bi
      have q174 := Nq.new hB11.fpb q171
      have q175 := Nq.made1 hlo170 hB11.bi
      have q176 := Nq.new h142.fpb q171
      have q177 := Nq.made1 hlo170 h142.blt
      have q178 := Nq.new h146.fpb q171
      have q179 := Nq.made1 hlo170 h146.blt
      have q180 := Zn.upD q171 hE162
      replace hB3 := hB3.ext hx169
      replace hB11 := hB11.ext hx169
      replace h142 := h142.ext hx169
      replace h146 := h146.ext hx169
      have hE181 := Ext.trans hE162 hx169
      refine o_storeA (vs := [(.int .i64 x132.1), u138, u139]) ha hB168 Try.sizeOf52 rfl rfl (by intro c hc; simp only [List.mem_cons, List.not_mem_nil, or_false] at hc; rcases hc with hc | hc | hc <;> subst hc <;> first | rfl | exact rfl | exact h142.oneC | exact h146.oneC) rfl ?_; intro w182 hB183 hc184
      replace hc184 := hc184.bl
      replace hB183 : Bx w182 b166 [(.int .i64 x132.1), u138, u139] 52 := hB183
      replace hB3 := hB3.nq hc184 q172
      replace hB11 := hB11.nq hc184 q174
      replace h142 := h142.nq hc184 q176
      replace h146 := h146.nq hc184 q178
      have hE185 := Ext.then hE181 hc184 (Zn.bl q180)
      refine wpList_nil ?_
      replace ha := ha.sub (σ' := [(2, (.pointer (some ⟨b1, 0, none⟩))), (3, (.pointer (some ⟨b9, 0, none⟩))), (6, (.bool x127)), (7, (.pointer (some ⟨b166, 0, none⟩)))]) ⟨rfl, rfl, rfl, rfl, trivial⟩
      refine e_then ?_
      refine wp_seq ?_
      refine wp_region_lit ?_
      refine op_g ha rfl (g_loadA (cs := [(.int .i64 a1_0), va1_1, va1_2]) Try.isAgg49 Try.sizeOf49 rfl (by simp) hB11.all) ?_; clear ha a; intro a ha
      obtain ⟨x186, hc187, hF⟩ := cal_some hF
      refine o_call ha rfl rfl Try.call31 (W_laws_toCert ha1_0 (ha1_1.ext hE185) (ha1_2.ext hE185) hc187) ?_; clear ha a; rintro v188 w189 ⟨u191, u192, u193, b195, b199, fs203, rfl, ⟨rfl, hI194⟩, h196, z197, h200, z201, zf204, nd205, q206, q207, hx190⟩ a ha
      have q208 := Nq.new hB3.fpb z197
      have q209 := Nq.madeO z197 hB3.bi
      have q210 := Nq.new hB11.fpb z197
      have q211 := Nq.madeO z197 hB11.bi
      have q212 := Nq.new h142.fpb z197
      have q213 := Nq.madeO z197 h142.blt
      have q214 := Nq.new h146.fpb z197
      have q215 := Nq.madeO z197 h146.blt
      have q216 := Nq.new hB183.fpb z197
      have q217 := Nq.madeO z197 hB183.bi
      have q218 := Nq.new hB3.fpb z201
      have q219 := Nq.madeF z201 zf204 hB3.bi
      have q220 := Nq.new hB11.fpb z201
      have q221 := Nq.madeF z201 zf204 hB11.bi
      have q222 := Nq.new h142.fpb z201
      have q223 := Nq.madeF z201 zf204 h142.blt
      have q224 := Nq.new h146.fpb z201
      have q225 := Nq.madeF z201 zf204 h146.blt
      have q226 := Nq.new hB183.fpb z201
      have q227 := Nq.madeF z201 zf204 hB183.bi
      replace hB3 := hB3.ext hx190
      replace hB11 := hB11.ext hx190
      replace h142 := h142.ext hx190
      replace h146 := h146.ext hx190
      replace hB183 := hB183.ext hx190
      have hE228 := Ext.trans hE185 hx190
      have q229 := Zn.upD z197 hE185
      have q230 := Zn.upD z201 hE185
      have q231 := zf_up zf204 hE185
      refine o_alloc (cs := [(.int .i64 0), (.slice none 0 0), (.slice none 0 0)]) ha rfl Try.zeroValue52 rfl ?_; clear ha a; intro b232 w233 hB234 hx235 hlo236 a ha
      have q237 := Zn.one hlo236
      have q238 := Nq.new hB3.fpb q237
      have q239 := Nq.made1 hlo236 hB3.bi
      have q240 := Nq.new hB11.fpb q237
      have q241 := Nq.made1 hlo236 hB11.bi
      have q242 := Nq.new h142.fpb q237
      have q243 := Nq.made1 hlo236 h142.blt
      have q244 := Nq.new h146.fpb q237
      have q245 := Nq.made1 hlo236 h146.blt
      have q246 := Nq.new hB183.fpb q237
      have q247 := Nq.made1 hlo236 hB183.bi
      have q248 := Nq.new h196.fpb q237
      have q249 := Nq.made1 hlo236 h196.blt
      have q250 := Nq.new h200.fpb q237
      have q251 := Nq.made1 hlo236 h200.blt
      have q252 := Zn.upD q237 hE228
      replace hB3 := hB3.ext hx235
      replace hB11 := hB11.ext hx235
      replace h142 := h142.ext hx235
      replace h146 := h146.ext hx235
      replace hB183 := hB183.ext hx235
      replace h196 := h196.ext hx235
      replace h200 := h200.ext hx235
      have hE253 := Ext.trans hE228 hx235
      refine o_storeA (vs := [(.int .i64 x186.1), u192, u193]) ha hB234 Try.sizeOf52 rfl rfl (by intro c hc; simp only [List.mem_cons, List.not_mem_nil, or_false] at hc; rcases hc with hc | hc | hc <;> subst hc <;> first | rfl | exact rfl | exact h196.oneC | exact h200.oneC) rfl ?_; intro w254 hB255 hc256
      replace hc256 := hc256.bl
      replace hB255 : Bx w254 b232 [(.int .i64 x186.1), u192, u193] 52 := hB255
      replace hB3 := hB3.nq hc256 q238
      replace hB11 := hB11.nq hc256 q240
      replace h142 := h142.nq hc256 q242
      replace h146 := h146.nq hc256 q244
      replace hB183 := hB183.nq hc256 q246
      replace h196 := h196.nq hc256 q248
      replace h200 := h200.nq hc256 q250
      have hE257 := Ext.then hE253 hc256 (Zn.bl q252)
      refine wpList_nil ?_
      replace ha := ha.sub (σ' := [(2, (.pointer (some ⟨b1, 0, none⟩))), (3, (.pointer (some ⟨b9, 0, none⟩))), (6, (.bool x127)), (7, (.pointer (some ⟨b166, 0, none⟩))), (8, (.pointer (some ⟨b232, 0, none⟩)))]) ⟨rfl, rfl, rfl, rfl, rfl, trivial⟩
      refine e_then ?_
      refine wp_seq ?_
      refine wp_region_lit ?_
      refine op_g ha rfl (g_loadA (cs := [(.int .i64 x132.1), u138, u139]) Try.isAgg52 Try.sizeOf52 rfl (by simp) hB183.all) ?_; clear ha a; intro a ha
      refine op_g ha rfl (g_loadA (cs := [(.int .i64 x186.1), u192, u193]) Try.isAgg52 Try.sizeOf52 rfl (by simp) hB255.all) ?_; clear ha a; intro a ha
      obtain ⟨fp258, hro259, -⟩ := h142.weak.ro
      obtain ⟨fp260, hro261, -⟩ := h146.weak.ro
      obtain ⟨fp262, hro263, -⟩ := h196.weak.ro
      obtain ⟨fp264, hro265, -⟩ := h200.weak.ro
      obtain ⟨x266, hc267, hF⟩ := cal_some hF
      refine o_call ha rfl rfl Try.call32 (W_impl_SameCert hI140 hro259 hro261 hI194 hro263 hro265 hc267) ?_; clear ha a; rintro v268 w269 ⟨rfl, hx270⟩ a ha
      replace hB3 := hB3.ext hx270
      replace hB11 := hB11.ext hx270
      replace h142 := h142.ext hx270
      replace h146 := h146.ext hx270
      replace hB183 := hB183.ext hx270
      replace h196 := h196.ext hx270
      replace h200 := h200.ext hx270
      replace hB255 := hB255.ext hx270
      have hE271 := Ext.trans hE257 hx270
      refine op_g ha rfl (g_assign rfl) ?_; clear ha a; intro a ha
      refine wpList_nil ?_
      replace ha := ha.sub (σ' := [(2, (.pointer (some ⟨b1, 0, none⟩))), (3, (.pointer (some ⟨b9, 0, none⟩))), (6, (.bool x127)), (7, (.pointer (some ⟨b166, 0, none⟩))), (8, (.pointer (some ⟨b232, 0, none⟩))), (9, (.bool x266))]) ⟨rfl, rfl, rfl, rfl, rfl, rfl, trivial⟩
      refine e_then ?_
      refine wp_seq ?_
      refine wp_seq ?_
      refine wp_region_lit ?_
      refine op_g ha rfl (g_move rfl) ?_; clear ha a; intro a ha
      refine op_g ha rfl (g_move rfl) ?_; clear ha a; intro a ha
      refine op_g ha rfl (gB_neq un4 rfl rfl) ?_; clear ha a; intro a ha
      refine wpList_nil ?_
      replace ha := ha.sub (σ' := [(2, (.pointer (some ⟨b1, 0, none⟩))), (3, (.pointer (some ⟨b9, 0, none⟩))), (7, (.pointer (some ⟨b166, 0, none⟩))), (8, (.pointer (some ⟨b232, 0, none⟩))), (34, (.bool (x266 != x127)))]) ⟨rfl, rfl, rfl, rfl, rfl, trivial⟩
      refine e_then ?_
      refine c_cond ((x266 != x127) = true) ha rfl (Iff.rfl) (fun hp272 => ?_) (fun hp272 => ?_)
      · replace hF := if_t hp272 hF
        refine wp_seq ?_
        refine wp_region_lit ?_
        refine op_g ha rfl (g_assign rfl) ?_; clear ha a; intro a ha
        refine wpList_nil ?_
        replace ha := ha.sub (σ' := [(4, (.bool false))]) ⟨rfl, trivial⟩
        refine e_then ?_
        refine wp_ret ?_
        refine e_then_ret ?_
        obtain rfl := Option.some.inj hF
        exact f_ret1 ha rfl rfl ⟨rfl, hE271⟩
      · replace hF := if_f hp272 hF
        refine wp_skip ?_
        refine e_then ?_
        refine wp_seq ?_
        refine wp_seq ?_
        refine d_region 5 hmix ?_
        refine u_g 0 rfl (by kernel_rfl) (want0 _) ha rfl (g_loadA (cs := [(.int .i64 x132.1), u138, u139]) Try.isAgg52 Try.sizeOf52 rfl (by simp) hB183.all) ?_; clear ha a; intro a ha
        refine u_g 1 rfl (by kernel_rfl) (want0 _) ha rfl (g_loadA (cs := [(.int .i64 a0_0), va0_1, va0_2]) Try.isAgg49 Try.sizeOf49 rfl (by simp) hB3.all) ?_; clear ha a; intro a ha
        refine u_only 2 rfl (by kernel_rfl) ?_; intro w273 hx274
        replace hB3 := hB3.ext hx274
        replace hB11 := hB11.ext hx274
        replace h142 := h142.ext hx274
        replace h146 := h146.ext hx274
        replace hB183 := hB183.ext hx274
        replace h196 := h196.ext hx274
        replace h200 := h200.ext hx274
        replace hB255 := hB255.ext hx274
        have hE275 := Ext.trans hE271 hx274
        obtain ⟨x276, hc277, hF⟩ := cal_some hF
        refine o_call ha rfl rfl Try.call31 (W_laws_toCert ha0_0 (ha0_1.ext hE275) (ha0_2.ext hE275) hc277) ?_; clear ha a; rintro v278 w279 ⟨u281, u282, u283, b285, b289, fs293, rfl, ⟨rfl, hI284⟩, h286, z287, h290, z291, zf294, nd295, q296, q297, hx280⟩ a ha
        have q298 := Nq.new hB3.fpb z287
        have q299 := Nq.madeO z287 hB3.bi
        have q300 := Nq.new hB11.fpb z287
        have q301 := Nq.madeO z287 hB11.bi
        have q302 := Nq.new h142.fpb z287
        have q303 := Nq.madeO z287 h142.blt
        have q304 := Nq.new h146.fpb z287
        have q305 := Nq.madeO z287 h146.blt
        have q306 := Nq.new hB183.fpb z287
        have q307 := Nq.madeO z287 hB183.bi
        have q308 := Nq.new h196.fpb z287
        have q309 := Nq.madeO z287 h196.blt
        have q310 := Nq.new h200.fpb z287
        have q311 := Nq.madeO z287 h200.blt
        have q312 := Nq.new hB255.fpb z287
        have q313 := Nq.madeO z287 hB255.bi
        have q314 := Nq.new hB3.fpb z291
        have q315 := Nq.madeF z291 zf294 hB3.bi
        have q316 := Nq.new hB11.fpb z291
        have q317 := Nq.madeF z291 zf294 hB11.bi
        have q318 := Nq.new h142.fpb z291
        have q319 := Nq.madeF z291 zf294 h142.blt
        have q320 := Nq.new h146.fpb z291
        have q321 := Nq.madeF z291 zf294 h146.blt
        have q322 := Nq.new hB183.fpb z291
        have q323 := Nq.madeF z291 zf294 hB183.bi
        have q324 := Nq.new h196.fpb z291
        have q325 := Nq.madeF z291 zf294 h196.blt
        have q326 := Nq.new h200.fpb z291
        have q327 := Nq.madeF z291 zf294 h200.blt
        have q328 := Nq.new hB255.fpb z291
        have q329 := Nq.madeF z291 zf294 hB255.bi
        replace hB3 := hB3.ext hx280
        replace hB11 := hB11.ext hx280
        replace h142 := h142.ext hx280
        replace h146 := h146.ext hx280
        replace hB183 := hB183.ext hx280
        replace h196 := h196.ext hx280
        replace h200 := h200.ext hx280
        replace hB255 := hB255.ext hx280
        have hE330 := Ext.trans hE275 hx280
        have q331 := Zn.upD z287 hE275
        have q332 := Zn.upD z291 hE275
        have q333 := zf_up zf294 hE275
        refine wpList_nil (e_sq ?_)
        refine ⟨fun _ => hx280, ?_⟩
        obtain ⟨fp336, hro337, -⟩ := h142.weak.ro
        obtain ⟨fp338, hro339, -⟩ := h146.weak.ro
        obtain ⟨fp340, hro341, -⟩ := h286.weak.ro
        obtain ⟨fp342, hro343, -⟩ := h290.weak.ro
        obtain ⟨x344, hc345, hF⟩ := cal_some hF
        refine u_call (.bool x344) 3 rfl (by kernel_rfl) (want0 _) ha rfl rfl Try.call33 (fun w335 hx334 => W_laws_eqCert hI140 (hro337.ext hx334) (hro339.ext hx334) hI284 (hro341.ext hx334) (hro343.ext hx334) hc345) (fun _ _ _ h => ⟨h.1, h.2⟩) ?_; clear ha a; intro a ha
        refine u_g 4 rfl (by kernel_rfl) (want0 _) ha rfl (g_not rfl) ?_; clear ha a; intro a ha
        refine u_done (by kernel_rfl) ?_; intro w346 hx347
        replace hB3 := hB3.ext hx347
        replace hB11 := hB11.ext hx347
        replace h142 := h142.ext hx347
        replace h146 := h146.ext hx347
        replace hB183 := hB183.ext hx347
        replace h196 := h196.ext hx347
        replace h200 := h200.ext hx347
        replace hB255 := hB255.ext hx347
        replace h286 := h286.ext hx347
        replace h290 := h290.ext hx347
        have hE348 := Ext.trans hE330 hx347
        replace ha := ha.sub (σ' := [(3, (.pointer (some ⟨b9, 0, none⟩))), (8, (.pointer (some ⟨b232, 0, none⟩))), (39, (.bool (!x344)))]) ⟨rfl, rfl, rfl, trivial⟩
        refine e_then ?_
        refine c_cond (¬ (x344 = true)) ha rfl (n_iff (Iff.rfl)) (fun hp349 => ?_) (fun hp349 => ?_)
        · replace hF := if_t hp349 hF
          refine wp_seq ?_
          refine wp_region_lit ?_
          refine op_g ha rfl (g_assign rfl) ?_; clear ha a; intro a ha
          refine wpList_nil ?_
          replace ha := ha.sub (σ' := [(4, (.bool false))]) ⟨rfl, trivial⟩
          refine e_then ?_
          refine wp_ret ?_
          refine e_then_ret ?_
          obtain rfl := Option.some.inj hF
          exact f_ret1 ha rfl rfl ⟨rfl, hE348⟩
        · replace hF := if_f hp349 hF
          refine wp_skip ?_
          refine e_then ?_
          refine wp_seq ?_
          refine wp_seq ?_
          refine d_region 5 hmix ?_
          refine u_g 0 rfl (by kernel_rfl) (want0 _) ha rfl (g_loadA (cs := [(.int .i64 x186.1), u192, u193]) Try.isAgg52 Try.sizeOf52 rfl (by simp) hB255.all) ?_; clear ha a; intro a ha
          refine u_g 1 rfl (by kernel_rfl) (want0 _) ha rfl (g_loadA (cs := [(.int .i64 a1_0), va1_1, va1_2]) Try.isAgg49 Try.sizeOf49 rfl (by simp) hB11.all) ?_; clear ha a; intro a ha
          refine u_only 2 rfl (by kernel_rfl) ?_; intro w350 hx351
          replace hB11 := hB11.ext hx351
          replace h196 := h196.ext hx351
          replace h200 := h200.ext hx351
          replace hB255 := hB255.ext hx351
          have hE352 := Ext.trans hE348 hx351
          obtain ⟨x353, hc354, hF⟩ := cal_some hF
          refine o_call ha rfl rfl Try.call31 (W_laws_toCert ha1_0 (ha1_1.ext hE352) (ha1_2.ext hE352) hc354) ?_; clear ha a; rintro v355 w356 ⟨u358, u359, u360, b362, b366, fs370, rfl, ⟨rfl, hI361⟩, h363, z364, h367, z368, zf371, nd372, q373, q374, hx357⟩ a ha
          have q375 := Nq.new hB11.fpb z364
          have q376 := Nq.madeO z364 hB11.bi
          have q377 := Nq.new h196.fpb z364
          have q378 := Nq.madeO z364 h196.blt
          have q379 := Nq.new h200.fpb z364
          have q380 := Nq.madeO z364 h200.blt
          have q381 := Nq.new hB255.fpb z364
          have q382 := Nq.madeO z364 hB255.bi
          have q383 := Nq.new hB11.fpb z368
          have q384 := Nq.madeF z368 zf371 hB11.bi
          have q385 := Nq.new h196.fpb z368
          have q386 := Nq.madeF z368 zf371 h196.blt
          have q387 := Nq.new h200.fpb z368
          have q388 := Nq.madeF z368 zf371 h200.blt
          have q389 := Nq.new hB255.fpb z368
          have q390 := Nq.madeF z368 zf371 hB255.bi
          replace hB11 := hB11.ext hx357
          replace h196 := h196.ext hx357
          replace h200 := h200.ext hx357
          replace hB255 := hB255.ext hx357
          have hE391 := Ext.trans hE352 hx357
          have q392 := Zn.upD z364 hE352
          have q393 := Zn.upD z368 hE352
          have q394 := zf_up zf371 hE352
          refine wpList_nil (e_sq ?_)
          refine ⟨fun _ => hx357, ?_⟩
          obtain ⟨fp397, hro398, -⟩ := h196.weak.ro
          obtain ⟨fp399, hro400, -⟩ := h200.weak.ro
          obtain ⟨fp401, hro402, -⟩ := h363.weak.ro
          obtain ⟨fp403, hro404, -⟩ := h367.weak.ro
          obtain ⟨x405, hc406, hF⟩ := cal_some hF
          refine u_call (.bool x405) 3 rfl (by kernel_rfl) (want0 _) ha rfl rfl Try.call33 (fun w396 hx395 => W_laws_eqCert hI194 (hro398.ext hx395) (hro400.ext hx395) hI361 (hro402.ext hx395) (hro404.ext hx395) hc406) (fun _ _ _ h => ⟨h.1, h.2⟩) ?_; clear ha a; intro a ha
          refine u_g 4 rfl (by kernel_rfl) (want0 _) ha rfl (g_not rfl) ?_; clear ha a; intro a ha
          refine u_done (by kernel_rfl) ?_; intro w407 hx408
          replace hB11 := hB11.ext hx408
          replace h196 := h196.ext hx408
          replace h200 := h200.ext hx408
          replace hB255 := hB255.ext hx408
          replace h363 := h363.ext hx408
          replace h367 := h367.ext hx408
          have hE409 := Ext.trans hE391 hx408
          replace ha := ha.sub (σ' := [(44, (.bool (!x405)))]) ⟨rfl, trivial⟩
          refine e_then ?_
          refine c_cond (¬ (x405 = true)) ha rfl (n_iff (Iff.rfl)) (fun hp410 => ?_) (fun hp410 => ?_)
          · replace hF := if_t hp410 hF
            refine wp_seq ?_
            refine wp_region_lit ?_
            refine op_g ha rfl (g_assign rfl) ?_; clear ha a; intro a ha
            refine wpList_nil ?_
            replace ha := ha.sub (σ' := [(4, (.bool false))]) ⟨rfl, trivial⟩
            refine e_then ?_
            refine wp_ret ?_
            refine e_then_ret ?_
            obtain rfl := Option.some.inj hF
            exact f_ret1 ha rfl rfl ⟨rfl, hE409⟩
          · replace hF := if_f hp410 hF
            refine wp_skip ?_
            refine e_then ?_
            refine wp_seq ?_
            refine wp_region_lit ?_
            refine op_g ha rfl (g_assign rfl) ?_; clear ha a; intro a ha
            refine wpList_nil ?_
            replace ha := ha.sub (σ' := [(4, (.bool true))]) ⟨rfl, trivial⟩
            refine e_then ?_
            refine wp_ret ?_
            obtain rfl := Option.some.inj hF
            exact f_ret1 ha rfl rfl ⟨rfl, hE409⟩
end Go.Proofs.Ytacgmkncleiblaa
