/- Walks, printed by gen.py. -/
import Derived.Test.YtjcnkijmbjhcnaaF
import Derived.Test.YtjcnkijmbjhcnaaDeep
import Derived.Test.YtjcnkijmbjhcnaaKeyAsk
import Derived.Test.YtjcnkijmbjhcnaaJd
import Derived.Test.YtjcnkijmbjhcnaaBoxI
import Derived.Test.YtjcnkijmbjhcnaaDice
import Derived.Test.YtjcnkijmbjhcnaaProg
import Derived.KernelRfl
set_option maxRecDepth 100000
namespace Go.Proofs.Ytjcnkijmbjhcnaa
open Go Go.RowKit

theorem hmix : Try.prog.follows .mixedOrders = true := by kernel_rfl
theorem sl40 : SlT Try.prog 40 2 1 8 (.int .i64 0) := ⟨by kernel_rfl, by kernel_rfl, by rfl⟩
theorem st24_0 : stF Try.prog 24 0 = some 0 := by kernel_rfl
theorem sl22 : SlT Try.prog 22 40 1 24 (.slice none 0 0) := ⟨by kernel_rfl, by kernel_rfl, by rfl⟩
theorem st27_0 : stF Try.prog 27 0 = some 0 := by kernel_rfl
theorem sl25 : SlT Try.prog 25 73 3 24 (.agg #[(.int .i64 0), (.int .i64 0), (.int .i64 0)]) := ⟨by kernel_rfl, by kernel_rfl, by rfl⟩
theorem st31_0 : stF Try.prog 31 0 = some 0 := by kernel_rfl
theorem sl33 : SlT Try.prog 33 71 3 24 (.agg #[(.int .i64 0), (.int .i64 0), (.int .i64 0)]) := ⟨by kernel_rfl, by kernel_rfl, by rfl⟩
theorem st73_0 : stF Try.prog 73 0 = some 0 := by kernel_rfl
theorem st71_0 : stF Try.prog 71 0 = some 0 := by kernel_rfl
theorem st73_1 : stF Try.prog 73 1 = some 1 := by kernel_rfl
theorem st71_1 : stF Try.prog 71 1 = some 1 := by kernel_rfl
theorem st73_2 : stF Try.prog 73 2 = some 2 := by kernel_rfl
theorem st71_2 : stF Try.prog 71 2 = some 2 := by kernel_rfl
theorem st35_0 : stF Try.prog 35 0 = some 0 := by kernel_rfl
theorem un2 : Try.prog.underlying 2 = some (.int .i64) := by kernel_rfl
theorem un88 : Try.prog.underlying 88 = some (.int .u64) := by kernel_rfl
theorem un3 : Try.prog.underlying 3 = some (.int .i64) := by kernel_rfl
theorem st82_1 : stF Try.prog 82 1 = some 1 := by kernel_rfl
theorem st82_3 : stF Try.prog 82 3 = some 3 := by kernel_rfl
theorem sl78 : SlT Try.prog 78 4 1 1 (.bool false) := ⟨by kernel_rfl, by kernel_rfl, by rfl⟩
theorem st82_0 : stF Try.prog 82 0 = some 0 := by kernel_rfl
theorem st59_0 : stF Try.prog 59 0 = some 0 := by kernel_rfl
theorem un54 : Try.prog.underlying 54 = some (.array 3 3) := by kernel_rfl
theorem sl75 : SlT Try.prog 75 56 1 4 (.int .u32 0) := ⟨by kernel_rfl, by kernel_rfl, by rfl⟩
theorem st59_1 : stF Try.prog 59 1 = some 3 := by kernel_rfl
theorem un57 : Try.prog.underlying 57 = some (.array 2 56) := by kernel_rfl
theorem st82_2 : stF Try.prog 82 2 = some 2 := by kernel_rfl
theorem sl74 : SlT Try.prog 74 56 1 4 (.int .u32 0) := ⟨by kernel_rfl, by kernel_rfl, by rfl⟩
theorem st82_4 : stF Try.prog 82 4 = some 4 := by kernel_rfl
theorem un80 : Try.prog.underlying 80 = some (.map 97 4) := by kernel_rfl
theorem st97_1 : stF Try.prog 97 1 = some 1 := by kernel_rfl
theorem sl93 : SlT Try.prog 93 3 1 8 (.int .i64 0) := ⟨by kernel_rfl, by kernel_rfl, by rfl⟩
theorem un51 : Try.prog.underlying 51 = some (.pointer 82) := by kernel_rfl
theorem un4 : Try.prog.underlying 4 = some .bool := by kernel_rfl
set_option maxHeartbeats 2000000 in
theorem W_laws_szInt64S {W : World} {va0 : Value} {fa0 : List Nat} {a0 : (List Int)} (ha0 : Ro Rp.int W fa0 va0 a0) {a1 : Int} (ha1 : InI a1) {r : Int} (hF : F_laws_szInt64S a0 a1 = some r) :
    Calls Try.prog 27 [va0, .int .i64 a1].toArray W (Ret fun u w' => (u = .int .i64 r ∧ InI r) ∧ Ext W w') := by
  refine f_enter Try.func27 rfl Try.ntmps27 rfl ?_
  intro a ha
  replace ha : Fr 12 [(0, va0), (1, (.int .i64 a1))] a := ha
  have hE : Chg [] W W := Chg.refl _ _
  unfold F_laws_szInt64S at hF
  refine wp_seq ?_; refine wp_region_lit ?_; refine op_g ha rfl (g_assign rfl) ?_; clear ha a; intro a ha; refine wpList_nil ?_; replace ha := ha.sub (σ' := [(0, va0), (1, (.int .i64 a1))]) ⟨rfl, rfl, trivial⟩; refine e_then ?_; refine wp_seq ?_; refine wp_region_lit ?_; (iterate 2 refine op_g ha rfl (g_move rfl) ?_; clear ha a; intro a ha); refine op_g ha rfl (g_lenR sl40.und ha0 rfl) ?_; clear ha a; intro a ha; obtain ⟨hI1, hF⟩ := ck_some hF; refine op_g ha rfl (g_sub rfl rfl hI1) ?_; clear ha a; intro a ha; refine op_g ha rfl (g_assign rfl) ?_; clear ha a; intro a ha; refine wpList_nil ?_; replace ha := ha.sub (σ' := [(1, (.int .i64 (a1 - (a0.length : Int))))]) ⟨rfl, trivial⟩
  refine e_then ?_; refine wp_seq ?_; refine wp_seq ?_; refine wp_region_lit ?_; refine op_g ha rfl (g_move rfl) ?_; clear ha a; intro a ha; refine op_g ha rfl (g_lss rfl rfl) ?_; clear ha a; intro a ha; refine wpList_nil ?_; replace ha := ha.sub (σ' := [(1, (.int .i64 (a1 - (a0.length : Int)))), (10, (.bool (decide ((a1 - (a0.length : Int)) < 0))))]) ⟨rfl, rfl, trivial⟩; refine e_then ?_; refine c_cond ((a1 - (a0.length : Int)) < 0) ha rfl (decide_eq_true_iff) (fun hp3 => ?_) (fun hp3 => ?_)
  · replace hF := if_t hp3 hF
    refine wp_seq ?_; refine wp_region_lit ?_; refine op_g ha rfl (g_assign rfl) ?_; clear ha a; intro a ha; refine wpList_nil ?_; replace ha := ha.sub (σ' := [(4, (.int .i64 (-1)))]) ⟨rfl, trivial⟩; refine e_then ?_; refine wp_ret ?_; refine e_then_ret ?_; obtain rfl := Option.some.inj hF
    exact f_ret1 ha rfl rfl ⟨⟨rfl, (show InI (-1) from by decide)⟩, hE⟩
  replace hF := if_f hp3 hF; refine wp_skip ?_; refine e_then ?_; refine wp_seq ?_; refine wp_region_lit ?_; refine op_g ha rfl (g_move rfl) ?_; clear ha a; intro a ha; refine op_g ha rfl (g_assign rfl) ?_; clear ha a; intro a ha; refine wpList_nil ?_; replace ha := ha.sub (σ' := [(4, (.int .i64 (a1 - (a0.length : Int))))]) ⟨rfl, trivial⟩; refine e_then ?_; refine wp_ret ?_; obtain rfl := Option.some.inj hF
  exact f_ret1 ha rfl rfl ⟨⟨rfl, hI1⟩, hE⟩
set_option maxHeartbeats 2000000 in
theorem W_laws_szInt64SS {W : World} {va0 : Value} {fa0 : List Nat} {a0 : (List (List Int))} (ha0 : Ro (Rp.sl 2 Rp.int) W fa0 va0 a0) {a1 : Int} (ha1 : InI a1) {r : Int} (hF : F_laws_szInt64SS a0 a1 = some r) :
    Calls Try.prog 13 [va0, .int .i64 a1].toArray W (Ret fun u w' => (u = .int .i64 r ∧ InI r) ∧ Ext W w') := by
  refine f_enter Try.func13 rfl Try.ntmps13 rfl ?_
  intro a ha
  replace ha : Fr 27 [(0, va0), (1, (.int .i64 a1))] a := ha
  have hE : Chg [] W W := Chg.refl _ _
  unfold F_laws_szInt64SS at hF
  refine wp_seq ?_; refine wp_region_lit ?_; refine op_g ha rfl (g_assign rfl) ?_; clear ha a; intro a ha; refine wpList_nil ?_; replace ha := ha.sub (σ' := [(0, va0), (1, (.int .i64 a1))]) ⟨rfl, rfl, trivial⟩; refine e_then ?_; refine wp_seq ?_; refine wp_region_lit ?_; (iterate 2 refine op_g ha rfl (g_move rfl) ?_; clear ha a; intro a ha); refine op_g ha rfl (g_lenR sl22.und ha0 rfl) ?_; clear ha a; intro a ha; obtain ⟨hI1, hF⟩ := ck_some hF; refine op_g ha rfl (g_sub rfl rfl hI1) ?_; clear ha a; intro a ha; refine op_g ha rfl (g_assign rfl) ?_; clear ha a; intro a ha; refine wpList_nil ?_; replace ha := ha.sub (σ' := [(0, va0), (1, (.int .i64 (a1 - (a0.length : Int))))]) ⟨rfl, rfl, trivial⟩
  refine e_then ?_; refine wp_seq ?_; refine wp_seq ?_; refine wp_region_lit ?_; refine op_g ha rfl (g_move rfl) ?_; clear ha a; intro a ha; refine op_g ha rfl (g_lss rfl rfl) ?_; clear ha a; intro a ha; refine wpList_nil ?_; replace ha := ha.sub (σ' := [(0, va0), (1, (.int .i64 (a1 - (a0.length : Int)))), (11, (.bool (decide ((a1 - (a0.length : Int)) < 0))))]) ⟨rfl, rfl, rfl, trivial⟩; refine e_then ?_; refine c_cond ((a1 - (a0.length : Int)) < 0) ha rfl (decide_eq_true_iff) (fun hp3 => ?_) (fun hp3 => ?_)
  · replace hF := if_t hp3 hF
    refine wp_seq ?_; refine wp_region_lit ?_; refine op_g ha rfl (g_assign rfl) ?_; clear ha a; intro a ha; refine wpList_nil ?_; replace ha := ha.sub (σ' := [(4, (.int .i64 (-1)))]) ⟨rfl, trivial⟩; refine e_then ?_; refine wp_ret ?_; refine e_then_ret ?_; obtain rfl := Option.some.inj hF
    exact f_ret1 ha rfl rfl ⟨⟨rfl, (show InI (-1) from by decide)⟩, hE⟩
  replace hF := if_f hp3 hF; refine wp_skip ?_; refine e_then ?_; refine wp_seq ?_; refine wp_seq ?_; refine wp_region_lit ?_; refine op_g ha rfl (g_assign rfl) ?_; clear ha a; intro a ha; refine wpList_nil ?_; replace ha := ha.sub (σ' := [(0, va0), (1, (.int .i64 (a1 - (a0.length : Int)))), (5, (.int .i64 0))]) ⟨rfl, rfl, rfl, trivial⟩; refine e_then ?_; obtain ⟨o75, ho76, hK77⟩ := bnd_some hF
  obtain ⟨n78, hn79⟩ := lp_some ho76; clear ho76
  refine c_loop (fun a w => ∃ (i73 : Int), Fr 27 [(1, (.int .i64 i73))] a ∧ Chg [] W w ∧ InI i73 ∧ o75 = .inl i73) (fun n a w => ∃ (i37 : Int) (i39 : Int), Fr 27 [(0, va0), (1, (.int .i64 i37)), (5, (.int .i64 i39))] a ∧ Chg [] W w ∧ InI i37 ∧ InI i39 ∧ lpN (fun s => F_laws_szInt64SS_l1 a0 s.1 s.2) n (i37, i39) = some o75) n78 ⟨a1 - (a0.length : Int), 0, ha.sub ⟨rfl, rfl, rfl, trivial⟩, hE, hI1, (show InI 0 from by decide), hn79⟩ ?_ ?_
  · rintro m83 a w36 ⟨i37, i39, ha, hE41, hI38, hI40, hF⟩
    cases m83 with
    | zero => exact (lpN_zero hF).elim
    | succ m83 =>
      obtain ⟨z82, hF, hN81⟩ := lpN_succ hF
      have hF : F_laws_szInt64SS_l1 a0 i37 i39 = some z82 := hF; unfold F_laws_szInt64SS_l1 at hF
      refine wp_seq ?_; refine wp_seq ?_; refine wp_region_lit ?_; (iterate 2 refine op_g ha rfl (g_move rfl) ?_; clear ha a; intro a ha); refine op_g ha rfl (g_lenR sl22.und ha0 rfl) ?_; clear ha a; intro a ha; refine op_g ha rfl (g_lss rfl rfl) ?_; clear ha a; intro a ha; refine wpList_nil ?_; replace ha := ha.sub (σ' := [(0, va0), (1, (.int .i64 i37)), (5, (.int .i64 i39)), (15, (.bool (decide (i39 < (a0.length : Int)))))]) ⟨rfl, rfl, rfl, rfl, trivial⟩; refine e_then ?_; refine c_cond (i39 < (a0.length : Int)) ha rfl (decide_eq_true_iff) (fun hp84 => ?_) (fun hp84 => ?_)
      · replace hF := if_t hp84 hF
        refine wp_skip ?_; refine e_then ?_; refine wp_seq ?_; refine wp_block ?_; refine wp_seq ?_; refine wp_region_lit ?_; (iterate 2 refine op_g ha rfl (g_move rfl) ?_; clear ha a; intro a ha); obtain ⟨x85, g86, gx87, hF⟩ := idx_some hF
        obtain ⟨p88, cs89, f90, hf91, hpb92, hat93, hr94, hi95⟩ := ha0.at g86 gx87
        obtain ⟨v96, rfl, h97⟩ := hr94
        have h97 : Ro Rp.int W f90 v96 x85 := h97
        refine op_g ha rfl (hi95.gives sl22 rfl rfl) ?_; clear ha a; intro a ha; refine op_g ha rfl (g_load0 hE41 Try.isAgg40 rfl hat93.one) ?_; clear ha a; intro a ha; refine op_g ha rfl (g_move rfl) ?_; clear ha a; intro a ha; obtain ⟨x99, hc100, hF⟩ := cal_some hF
        refine o_call ha rfl rfl Try.call27 (W_laws_szInt64S (h97.ext hE41) hI38 hc100) ?_; clear ha a; rintro v101 w102 ⟨⟨rfl, hI104⟩, hx103⟩ a ha
        have hE105 := Ext.trans hE41 hx103
        refine op_g ha rfl (g_assign rfl) ?_; clear ha a; intro a ha; refine wpList_nil ?_; replace ha := ha.sub (σ' := [(0, va0), (1, (.int .i64 x99)), (5, (.int .i64 i39))]) ⟨rfl, rfl, rfl, trivial⟩; refine e_then ?_; refine wp_seq ?_; refine wp_region_lit ?_; refine op_g ha rfl (g_move rfl) ?_; clear ha a; intro a ha; refine op_g ha rfl (g_lss rfl rfl) ?_; clear ha a; intro a ha; refine wpList_nil ?_; replace ha := ha.sub (σ' := [(0, va0), (1, (.int .i64 x99)), (5, (.int .i64 i39)), (25, (.bool (decide (x99 < 0))))]) ⟨rfl, rfl, rfl, rfl, trivial⟩; refine e_then ?_; refine c_cond (x99 < 0) ha rfl (decide_eq_true_iff) (fun hp106 => ?_) (fun hp106 => ?_)
        · replace hF := if_t hp106 hF
          refine wp_seq ?_; refine wp_region_lit ?_; refine op_g ha rfl (g_assign rfl) ?_; clear ha a; intro a ha; refine wpList_nil ?_; replace ha := ha.sub (σ' := [(4, (.int .i64 (-1)))]) ⟨rfl, trivial⟩; refine e_then ?_; refine wp_ret ?_; refine e_blk_ret ?_; refine e_then_ret ?_; refine e_lq_ret ?_; refine e_then_ret ?_; obtain rfl := Option.some.inj hF
          have e107 := LK_inr hN81; subst e107
          have e108 := BK_inr hK77; subst e108
          exact f_ret1 ha rfl rfl ⟨⟨rfl, (show InI (-1) from by decide)⟩, hE105⟩
        replace hF := if_f hp106 hF; refine wp_skip ?_; refine e_blk ?_; refine e_then ?_; refine wp_region_lit ?_; refine op_g ha rfl (g_move rfl) ?_; clear ha a; intro a ha; obtain ⟨hI109, hF⟩ := ck_some hF; refine op_g ha rfl (g_add rfl rfl hI109) ?_; clear ha a; intro a ha; refine op_g ha rfl (g_assign rfl) ?_; clear ha a; intro a ha; refine wpList_nil ?_; replace ha := ha.sub (σ' := [(0, va0), (1, (.int .i64 x99)), (5, (.int .i64 (i39 + 1)))]) ⟨rfl, rfl, rfl, trivial⟩; refine e_lq ?_; obtain rfl := Option.some.inj hF
        exact ⟨_, Nat.lt_succ_self _, x99, i39 + 1, ha.sub ⟨rfl, rfl, rfl, trivial⟩, hE105, hI104, hI109, hN81⟩
      replace hF := if_f hp84 hF; refine wp_exit ?_; refine e_then_exit ?_; refine e_lq_eq ?_; obtain rfl := Option.some.inj hF
      exact ⟨i37, ha.sub ⟨rfl, trivial⟩, hE41, hI38, (LK_inr hN81).symm⟩
  rintro a w72 ⟨i73, ha, hE80, hI74, rfl⟩
  have hF : F_laws_szInt64SS_k2 i73 = some _ := hK77; clear hK77; unfold F_laws_szInt64SS_k2 at hF
  refine e_then ?_; refine wp_seq ?_; refine wp_region_lit ?_; refine op_g ha rfl (g_move rfl) ?_; clear ha a; intro a ha; refine op_g ha rfl (g_assign rfl) ?_; clear ha a; intro a ha; refine wpList_nil ?_; replace ha := ha.sub (σ' := [(4, (.int .i64 i73))]) ⟨rfl, trivial⟩; refine e_then ?_; refine wp_ret ?_; obtain rfl := Option.some.inj hF
  exact f_ret1 ha rfl rfl ⟨⟨rfl, hI74⟩, hE80⟩
set_option maxHeartbeats 2000000 in
theorem W_laws_szGraph {W : World} {va0_0 : Value} {fa0_0 : List Nat} {a0_0 : (List (List Int))} (ha0_0 : Ro (Rp.sl 2 Rp.int) W fa0_0 va0_0 a0_0) {a1 : Int} (ha1 : InI a1) {r : Int} (hF : F_laws_szGraph a0_0 a1 = some r) :
    Calls Try.prog 5 [.agg #[va0_0], .int .i64 a1].toArray W (Ret fun u w' => (u = .int .i64 r ∧ InI r) ∧ Ext W w') := by
  refine f_enter Try.func5 rfl Try.ntmps5 rfl ?_
  intro a ha
  replace ha : Fr 12 [(0, (.agg #[va0_0])), (1, (.int .i64 a1))] a := ha
  have hE : Chg [] W W := Chg.refl _ _
  unfold F_laws_szGraph at hF
  refine wp_seq ?_; refine wp_region_lit ?_
  refine o_box ha rfl rfl rfl ?_; clear ha a; intro b1 w2 hB3 hx4 hlo5 a ha
  have q6 := Zn.one hlo5
  have q7 := Zn.upD q6 hE
  have hE8 := Ext.trans hE hx4
  refine op_g ha rfl (g_assign rfl) ?_; clear ha a; intro a ha; refine wpList_nil ?_; replace ha := ha.sub (σ' := [(1, (.int .i64 a1)), (2, (.pointer (some ⟨b1, 0, none⟩)))]) ⟨rfl, rfl, trivial⟩; refine e_then ?_; refine wp_seq ?_; refine wp_region_lit ?_; refine op_g ha rfl (g_field0 st24_0 rfl) ?_; clear ha a; intro a ha; refine op_g ha rfl (g_load Try.isAgg22 rfl (hB3.cell rfl)) ?_; clear ha a; intro a ha; refine op_g ha rfl (g_move rfl) ?_; clear ha a; intro a ha; obtain ⟨x9, hc10, hF⟩ := cal_some hF
  refine o_call ha rfl rfl Try.call13 (W_laws_szInt64SS (ha0_0.ext hE8) ha1 hc10) ?_; clear ha a; rintro v11 w12 ⟨⟨rfl, hI14⟩, hx13⟩ a ha
  replace hB3 := hB3.ext hx13
  have hE15 := Ext.trans hE8 hx13
  refine op_g ha rfl (g_assign rfl) ?_; clear ha a; intro a ha; refine wpList_nil ?_; replace ha := ha.sub (σ' := [(1, (.int .i64 x9))]) ⟨rfl, trivial⟩; refine e_then ?_; refine wp_seq ?_; refine wp_seq ?_; refine wp_region_lit ?_; refine op_g ha rfl (g_move rfl) ?_; clear ha a; intro a ha; refine op_g ha rfl (g_lss rfl rfl) ?_; clear ha a; intro a ha; refine wpList_nil ?_; replace ha := ha.sub (σ' := [(1, (.int .i64 x9)), (10, (.bool (decide (x9 < 0))))]) ⟨rfl, rfl, trivial⟩; refine e_then ?_; refine c_cond (x9 < 0) ha rfl (decide_eq_true_iff) (fun hp16 => ?_) (fun hp16 => ?_)
  · replace hF := if_t hp16 hF
    refine wp_seq ?_; refine wp_region_lit ?_; refine op_g ha rfl (g_assign rfl) ?_; clear ha a; intro a ha; refine wpList_nil ?_; replace ha := ha.sub (σ' := [(4, (.int .i64 (-1)))]) ⟨rfl, trivial⟩; refine e_then ?_; refine wp_ret ?_; refine e_then_ret ?_; obtain rfl := Option.some.inj hF
    exact f_ret1 ha rfl rfl ⟨⟨rfl, (show InI (-1) from by decide)⟩, hE15⟩
  replace hF := if_f hp16 hF; refine wp_skip ?_; refine e_then ?_; refine wp_seq ?_; refine wp_region_lit ?_; refine op_g ha rfl (g_move rfl) ?_; clear ha a; intro a ha; refine op_g ha rfl (g_assign rfl) ?_; clear ha a; intro a ha; refine wpList_nil ?_; replace ha := ha.sub (σ' := [(4, (.int .i64 x9))]) ⟨rfl, trivial⟩; refine e_then ?_; refine wp_ret ?_; obtain rfl := Option.some.inj hF
  exact f_ret1 ha rfl rfl ⟨⟨rfl, hI14⟩, hE15⟩
set_option maxHeartbeats 2000000 in
theorem W_laws_szFactS {W : World} {va0 : Value} {fa0 : List Nat} {a0 : (List (Int × (Int × Int)))} (ha0 : Ro (Rp.prod Rp.int (Rp.prod Rp.int Rp.int)) W fa0 va0 a0) {a1 : Int} (ha1 : InI a1) {r : Int} (hF : F_laws_szFactS a0 a1 = some r) :
    Calls Try.prog 20 [va0, .int .i64 a1].toArray W (Ret fun u w' => (u = .int .i64 r ∧ InI r) ∧ Ext W w') := by
  refine f_enter Try.func20 rfl Try.ntmps20 rfl ?_
  intro a ha
  replace ha : Fr 12 [(0, va0), (1, (.int .i64 a1))] a := ha
  have hE : Chg [] W W := Chg.refl _ _
  unfold F_laws_szFactS at hF
  refine wp_seq ?_; refine wp_region_lit ?_; refine op_g ha rfl (g_assign rfl) ?_; clear ha a; intro a ha; refine wpList_nil ?_; replace ha := ha.sub (σ' := [(0, va0), (1, (.int .i64 a1))]) ⟨rfl, rfl, trivial⟩; refine e_then ?_; refine wp_seq ?_; refine wp_region_lit ?_; (iterate 2 refine op_g ha rfl (g_move rfl) ?_; clear ha a; intro a ha); refine op_g ha rfl (g_lenR sl25.und ha0 rfl) ?_; clear ha a; intro a ha; obtain ⟨hI1, hF⟩ := ck_some hF; refine op_g ha rfl (g_sub rfl rfl hI1) ?_; clear ha a; intro a ha; refine op_g ha rfl (g_assign rfl) ?_; clear ha a; intro a ha; refine wpList_nil ?_; replace ha := ha.sub (σ' := [(1, (.int .i64 (a1 - (a0.length : Int))))]) ⟨rfl, trivial⟩
  refine e_then ?_; refine wp_seq ?_; refine wp_seq ?_; refine wp_region_lit ?_; refine op_g ha rfl (g_move rfl) ?_; clear ha a; intro a ha; refine op_g ha rfl (g_lss rfl rfl) ?_; clear ha a; intro a ha; refine wpList_nil ?_; replace ha := ha.sub (σ' := [(1, (.int .i64 (a1 - (a0.length : Int)))), (10, (.bool (decide ((a1 - (a0.length : Int)) < 0))))]) ⟨rfl, rfl, trivial⟩; refine e_then ?_; refine c_cond ((a1 - (a0.length : Int)) < 0) ha rfl (decide_eq_true_iff) (fun hp3 => ?_) (fun hp3 => ?_)
  · replace hF := if_t hp3 hF
    refine wp_seq ?_; refine wp_region_lit ?_; refine op_g ha rfl (g_assign rfl) ?_; clear ha a; intro a ha; refine wpList_nil ?_; replace ha := ha.sub (σ' := [(4, (.int .i64 (-1)))]) ⟨rfl, trivial⟩; refine e_then ?_; refine wp_ret ?_; refine e_then_ret ?_; obtain rfl := Option.some.inj hF
    exact f_ret1 ha rfl rfl ⟨⟨rfl, (show InI (-1) from by decide)⟩, hE⟩
  replace hF := if_f hp3 hF; refine wp_skip ?_; refine e_then ?_; refine wp_seq ?_; refine wp_region_lit ?_; refine op_g ha rfl (g_move rfl) ?_; clear ha a; intro a ha; refine op_g ha rfl (g_assign rfl) ?_; clear ha a; intro a ha; refine wpList_nil ?_; replace ha := ha.sub (σ' := [(4, (.int .i64 (a1 - (a0.length : Int))))]) ⟨rfl, trivial⟩; refine e_then ?_; refine wp_ret ?_; obtain rfl := Option.some.inj hF
  exact f_ret1 ha rfl rfl ⟨⟨rfl, hI1⟩, hE⟩
set_option maxHeartbeats 2000000 in
theorem W_laws_szFormula {W : World} {va0_0 : Value} {fa0_0 : List Nat} {a0_0 : (List (Int × (Int × Int)))} (ha0_0 : Ro (Rp.prod Rp.int (Rp.prod Rp.int Rp.int)) W fa0_0 va0_0 a0_0) {a1 : Int} (ha1 : InI a1) {r : Int} (hF : F_laws_szFormula a0_0 a1 = some r) :
    Calls Try.prog 6 [.agg #[va0_0], .int .i64 a1].toArray W (Ret fun u w' => (u = .int .i64 r ∧ InI r) ∧ Ext W w') := by
  refine f_enter Try.func6 rfl Try.ntmps6 rfl ?_
  intro a ha
  replace ha : Fr 12 [(0, (.agg #[va0_0])), (1, (.int .i64 a1))] a := ha
  have hE : Chg [] W W := Chg.refl _ _
  unfold F_laws_szFormula at hF
  refine wp_seq ?_; refine wp_region_lit ?_
  refine o_box ha rfl rfl rfl ?_; clear ha a; intro b1 w2 hB3 hx4 hlo5 a ha
  have q6 := Zn.one hlo5
  have q7 := Zn.upD q6 hE
  have hE8 := Ext.trans hE hx4
  refine op_g ha rfl (g_assign rfl) ?_; clear ha a; intro a ha; refine wpList_nil ?_; replace ha := ha.sub (σ' := [(1, (.int .i64 a1)), (2, (.pointer (some ⟨b1, 0, none⟩)))]) ⟨rfl, rfl, trivial⟩; refine e_then ?_; refine wp_seq ?_; refine wp_region_lit ?_; refine op_g ha rfl (g_field0 st27_0 rfl) ?_; clear ha a; intro a ha; refine op_g ha rfl (g_load Try.isAgg25 rfl (hB3.cell rfl)) ?_; clear ha a; intro a ha; refine op_g ha rfl (g_move rfl) ?_; clear ha a; intro a ha; obtain ⟨x9, hc10, hF⟩ := cal_some hF
  refine o_call ha rfl rfl Try.call20 (W_laws_szFactS (ha0_0.ext hE8) ha1 hc10) ?_; clear ha a; rintro v11 w12 ⟨⟨rfl, hI14⟩, hx13⟩ a ha
  replace hB3 := hB3.ext hx13
  have hE15 := Ext.trans hE8 hx13
  refine op_g ha rfl (g_assign rfl) ?_; clear ha a; intro a ha; refine wpList_nil ?_; replace ha := ha.sub (σ' := [(1, (.int .i64 x9))]) ⟨rfl, trivial⟩; refine e_then ?_; refine wp_seq ?_; refine wp_seq ?_; refine wp_region_lit ?_; refine op_g ha rfl (g_move rfl) ?_; clear ha a; intro a ha; refine op_g ha rfl (g_lss rfl rfl) ?_; clear ha a; intro a ha; refine wpList_nil ?_; replace ha := ha.sub (σ' := [(1, (.int .i64 x9)), (10, (.bool (decide (x9 < 0))))]) ⟨rfl, rfl, trivial⟩; refine e_then ?_; refine c_cond (x9 < 0) ha rfl (decide_eq_true_iff) (fun hp16 => ?_) (fun hp16 => ?_)
  · replace hF := if_t hp16 hF
    refine wp_seq ?_; refine wp_region_lit ?_; refine op_g ha rfl (g_assign rfl) ?_; clear ha a; intro a ha; refine wpList_nil ?_; replace ha := ha.sub (σ' := [(4, (.int .i64 (-1)))]) ⟨rfl, trivial⟩; refine e_then ?_; refine wp_ret ?_; refine e_then_ret ?_; obtain rfl := Option.some.inj hF
    exact f_ret1 ha rfl rfl ⟨⟨rfl, (show InI (-1) from by decide)⟩, hE15⟩
  replace hF := if_f hp16 hF; refine wp_skip ?_; refine e_then ?_; refine wp_seq ?_; refine wp_region_lit ?_; refine op_g ha rfl (g_move rfl) ?_; clear ha a; intro a ha; refine op_g ha rfl (g_assign rfl) ?_; clear ha a; intro a ha; refine wpList_nil ?_; replace ha := ha.sub (σ' := [(4, (.int .i64 x9))]) ⟨rfl, trivial⟩; refine e_then ?_; refine wp_ret ?_; obtain rfl := Option.some.inj hF
  exact f_ret1 ha rfl rfl ⟨⟨rfl, hI14⟩, hE15⟩
set_option maxHeartbeats 2000000 in
theorem W_laws_toInt64S {W : World} {va0 : Value} {fa0 : List Nat} {a0 : (List Int)} (ha0 : Ro Rp.int W fa0 va0 a0) {r : (List Int)} (hF : F_laws_toInt64S a0 = some r) :
    Calls Try.prog 15 [va0].toArray W (Ret fun u w' => ∃ (b_u : Int), Ow Rp.int 2 true w' [] b_u u r ∧ Zn W b_u ∧ Ext W w') := by
  refine f_enter Try.func15 rfl Try.ntmps15 rfl ?_
  intro a ha
  replace ha : Fr 22 [(0, va0)] a := ha
  have hE : Chg [] W W := Chg.refl _ _
  unfold F_laws_toInt64S at hF
  refine wp_seq ?_; refine wp_region_lit ?_; refine op_g ha rfl (g_assign rfl) ?_; clear ha a; intro a ha; refine wpList_nil ?_; replace ha := ha.sub (σ' := [(0, va0)]) ⟨rfl, trivial⟩; refine e_then ?_; refine wp_seq ?_; refine wp_region_lit ?_; refine op_g ha rfl (g_move rfl) ?_; clear ha a; intro a ha; refine op_g ha rfl (g_lenR sl40.und ha0 rfl) ?_; clear ha a; intro a ha; obtain ⟨g5, g5b, hF⟩ := mkS_some hF
  refine o_make (z0 := (0 : Int)) Rp.int ha rfl sl40 rfl (fun w => ⟨rfl, by decide, rfl⟩) rfl g5 g5b ?_; clear ha a; intro v1 w2 h3 hx4 a ha
  obtain ⟨b8, hb8⟩ : ∃ b : Int, b = W.heap.size := ⟨_, rfl⟩; rw [← hb8] at h3
  have q9 := zn_of hb8
  have q10 := Zn.upD q9 hE
  have hE11 := Ext.trans hE hx4
  refine op_g ha rfl (g_assign rfl) ?_; clear ha a; intro a ha; refine wpList_nil ?_; replace ha := ha.sub (σ' := [(0, va0), (3, v1)]) ⟨rfl, rfl, trivial⟩; refine e_then ?_; refine wp_seq ?_; refine wp_seq ?_; refine wp_region_lit ?_; refine op_g ha rfl (g_assign rfl) ?_; clear ha a; intro a ha; refine wpList_nil ?_; refine e_then ?_; obtain ⟨o118, ho119, hK120⟩ := bnd_some hF
  obtain ⟨n121, hn122⟩ := lp_some ho119; clear ho119
  refine c_loop (fun a w => ∃ (l115 : (List Int)) (v116 : Value) (b117 : Int), Fr 22 [(3, v116)] a ∧ Chg [] W w ∧ Ow Rp.int 2 true w [] b117 v116 l115 ∧ Zn W b117 ∧ o118 = .inl l115) (fun n a w => ∃ (l63 : (List Int)) (i66 : Int) (v64 : Value) (b65 : Int), Fr 22 [(0, va0), (3, v64), (4, (.int .i64 i66))] a ∧ Chg [] W w ∧ InI i66 ∧ Ow Rp.int 2 true w [] b65 v64 l63 ∧ Zn W b65 ∧ lpN (fun s => F_laws_toInt64S_l1 a0 s.1 s.2) n (l63, i66) = some o118) n121 ⟨(List.replicate ((a0.length : Int) : Int).toNat (0 : Int)), 0, v1, b8, ha.sub ⟨rfl, rfl, rfl, trivial⟩, hE11, (show InI 0 from by decide), h3, q10, hn122⟩ ?_ ?_
  · rintro m126 a w59 ⟨l63, i66, v64, b65, ha, hE68, hI67, h61, z62, hF⟩
    cases m126 with
    | zero => exact (lpN_zero hF).elim
    | succ m126 =>
      obtain ⟨z125, hF, hN124⟩ := lpN_succ hF
      have hF : F_laws_toInt64S_l1 a0 l63 i66 = some z125 := hF; unfold F_laws_toInt64S_l1 at hF
      refine wp_seq ?_; refine wp_seq ?_; refine wp_region_lit ?_; (iterate 2 refine op_g ha rfl (g_move rfl) ?_; clear ha a; intro a ha); refine op_g ha rfl (g_lenR sl40.und ha0 rfl) ?_; clear ha a; intro a ha; refine op_g ha rfl (g_lss rfl rfl) ?_; clear ha a; intro a ha; refine wpList_nil ?_; replace ha := ha.sub (σ' := [(0, va0), (3, v64), (4, (.int .i64 i66)), (11, (.bool (decide (i66 < (a0.length : Int)))))]) ⟨rfl, rfl, rfl, rfl, trivial⟩; refine e_then ?_; refine c_cond (i66 < (a0.length : Int)) ha rfl (decide_eq_true_iff) (fun hp127 => ?_) (fun hp127 => ?_)
      · replace hF := if_t hp127 hF
        refine wp_skip ?_; refine e_then ?_; refine wp_seq ?_; refine wp_block ?_; refine wp_region_lit ?_; (iterate 4 refine op_g ha rfl (g_move rfl) ?_; clear ha a; intro a ha); obtain ⟨x128, g129, gx130, hF⟩ := idx_some hF
        obtain ⟨p131, cs132, f133, hf134, hpb135, hat136, hr137, hi138⟩ := ha0.at g129 gx130
        obtain ⟨rfl, hI139, rfl⟩ := hr137
        refine op_g ha rfl (hi138.gives sl40 rfl rfl) ?_; clear ha a; intro a ha; refine op_g ha rfl (g_load0 hE68 Try.isAgg2 rfl hat136.one) ?_; clear ha a; intro a ha; obtain ⟨x140, g141, gx142, hF⟩ := idx_some hF
        obtain ⟨p143, cs144, f145, hf146, hpb147, hat148, hr149, hi150⟩ := h61.at g141 gx142
        obtain ⟨rfl, hI151, rfl⟩ := hr149
        refine op_g ha rfl (hi150.gives sl40 rfl rfl) ?_; clear ha a; intro a ha
        refine o_storeE (f := []) (q := x128) ha Try.sizeOf2 rfl rfl rfl h61 hi150 ⟨rfl, hI139, rfl⟩ (Nq.nil _) ?_; intro w152 fs153 h154 hc155 hs156
        obtain rfl := Subst.nil hs156
        have hE157 := Ext.then hE68 hc155 (Zn.bl z62)
        refine wpList_nil ?_; replace ha := ha.sub (σ' := [(0, va0), (3, v64), (4, (.int .i64 i66))]) ⟨rfl, rfl, rfl, trivial⟩; refine e_blk ?_; refine e_then ?_; refine wp_region_lit ?_; refine op_g ha rfl (g_move rfl) ?_; clear ha a; intro a ha; obtain ⟨hI158, hF⟩ := ck_some hF; refine op_g ha rfl (g_add rfl rfl hI158) ?_; clear ha a; intro a ha; refine op_g ha rfl (g_assign rfl) ?_; clear ha a; intro a ha; refine wpList_nil ?_; replace ha := ha.sub (σ' := [(0, va0), (3, v64), (4, (.int .i64 (i66 + 1)))]) ⟨rfl, rfl, rfl, trivial⟩; refine e_lq ?_; obtain rfl := Option.some.inj hF
        exact ⟨_, Nat.lt_succ_self _, (l63.set ((i66 : Int).toNat) x128), i66 + 1, v64, b65, ha.sub ⟨rfl, rfl, rfl, trivial⟩, hE157, hI158, h154, z62, hN124⟩
      replace hF := if_f hp127 hF; refine wp_exit ?_; refine e_then_exit ?_; refine e_lq_eq ?_; obtain rfl := Option.some.inj hF
      exact ⟨l63, v64, b65, ha.sub ⟨rfl, trivial⟩, hE68, h61, z62, (LK_inr hN124).symm⟩
  rintro a w111 ⟨l115, v116, b117, ha, hE123, h113, z114, rfl⟩
  have hF : F_laws_toInt64S_k2 l115 = some _ := hK120; clear hK120; unfold F_laws_toInt64S_k2 at hF
  refine e_then ?_; refine wp_seq ?_; refine wp_region_lit ?_; refine op_g ha rfl (g_move rfl) ?_; clear ha a; intro a ha; refine op_g ha rfl (g_assign rfl) ?_; clear ha a; intro a ha; refine wpList_nil ?_; replace ha := ha.sub (σ' := [(2, v116)]) ⟨rfl, trivial⟩; refine e_then ?_; refine wp_ret ?_; obtain rfl := Option.some.inj hF
  exact f_ret1 ha rfl rfl ⟨_, h113, z114, hE123⟩
set_option maxHeartbeats 2000000 in
theorem W_laws_toInt64SS {W : World} {va0 : Value} {fa0 : List Nat} {a0 : (List (List Int))} (ha0 : Ro (Rp.sl 2 Rp.int) W fa0 va0 a0) {r : (List (List Int))} (hF : F_laws_toInt64SS a0 = some r) :
    Calls Try.prog 16 [va0].toArray W (Ret fun u w' => ∃ (b_u : Int) (fs_u : List Nat), Ow (Rp.sl 2 Rp.int) 40 true w' fs_u b_u u r ∧ Zn W b_u ∧ (∀ k ∈ fs_u, W.heap.size ≤ k) ∧ (bl b_u ++ fs_u).Nodup ∧ Ext W w') := by
  refine f_enter Try.func16 rfl Try.ntmps16 rfl ?_
  intro a ha
  replace ha : Fr 23 [(0, va0)] a := ha
  have hE : Chg [] W W := Chg.refl _ _
  unfold F_laws_toInt64SS at hF
  refine wp_seq ?_; refine wp_region_lit ?_; refine op_g ha rfl (g_assign rfl) ?_; clear ha a; intro a ha; refine wpList_nil ?_; replace ha := ha.sub (σ' := [(0, va0)]) ⟨rfl, trivial⟩; refine e_then ?_; refine wp_seq ?_; refine wp_region_lit ?_; refine op_g ha rfl (g_move rfl) ?_; clear ha a; intro a ha; refine op_g ha rfl (g_lenR sl22.und ha0 rfl) ?_; clear ha a; intro a ha; obtain ⟨g5, g5b, hF⟩ := mkS_some hF
  refine o_make (z0 := ([] : (List Int))) (Rp.sl 2 Rp.int) ha rfl sl22 rfl (fun w => nil_rep w) rfl g5 g5b ?_; clear ha a; intro v1 w2 h3 hx4 a ha
  obtain ⟨b8, hb8⟩ : ∃ b : Int, b = W.heap.size := ⟨_, rfl⟩; rw [← hb8] at h3
  have q9 := zn_of hb8
  have q10 := Zn.upD q9 hE
  have hE11 := Ext.trans hE hx4
  refine op_g ha rfl (g_assign rfl) ?_; clear ha a; intro a ha; refine wpList_nil ?_; replace ha := ha.sub (σ' := [(0, va0), (3, v1)]) ⟨rfl, rfl, trivial⟩; refine e_then ?_; refine wp_seq ?_; refine wp_seq ?_; refine wp_region_lit ?_; refine op_g ha rfl (g_assign rfl) ?_; clear ha a; intro a ha; refine wpList_nil ?_; refine e_then ?_; obtain ⟨o181, ho182, hK183⟩ := bnd_some hF
  obtain ⟨n184, hn185⟩ := lp_some ho182; clear ho182
  refine c_loop (fun a w => ∃ (l178 : (List (List Int))) (fs175 : List Nat) (v179 : Value) (b180 : Int), Fr 23 [(3, v179)] a ∧ Chg [] W w ∧ Ow (Rp.sl 2 Rp.int) 40 true w fs175 b180 v179 l178 ∧ Zn W b180 ∧ (∀ k ∈ fs175, W.heap.size ≤ k) ∧ (bl b180 ++ fs175).Nodup ∧ o181 = .inl l178) (fun n a w => ∃ (l96 : (List (List Int))) (i99 : Int) (fs93 : List Nat) (v97 : Value) (b98 : Int), Fr 23 [(0, va0), (3, v97), (4, (.int .i64 i99))] a ∧ Chg [] W w ∧ InI i99 ∧ Ow (Rp.sl 2 Rp.int) 40 true w fs93 b98 v97 l96 ∧ Zn W b98 ∧ (∀ k ∈ fs93, W.heap.size ≤ k) ∧ (bl b98 ++ fs93).Nodup ∧ lpN (fun s => F_laws_toInt64SS_l1 a0 s.1 s.2) n (l96, i99) = some o181) n184 ⟨(List.replicate ((a0.length : Int) : Int).toNat ([] : (List Int))), 0, [], v1, b8, ha.sub ⟨rfl, rfl, rfl, trivial⟩, hE11, (show InI 0 from by decide), h3, q10, (zf_nil _), (bl_nodup b8), hn185⟩ ?_ ?_
  · rintro m189 a w89 ⟨l96, i99, fs93, v97, b98, ha, hE101, hI100, h91, z92, zf94, nd95, hF⟩
    cases m189 with
    | zero => exact (lpN_zero hF).elim
    | succ m189 =>
      obtain ⟨z188, hF, hN187⟩ := lpN_succ hF
      have hF : F_laws_toInt64SS_l1 a0 l96 i99 = some z188 := hF; unfold F_laws_toInt64SS_l1 at hF
      refine wp_seq ?_; refine wp_seq ?_; refine wp_region_lit ?_; (iterate 2 refine op_g ha rfl (g_move rfl) ?_; clear ha a; intro a ha); refine op_g ha rfl (g_lenR sl22.und ha0 rfl) ?_; clear ha a; intro a ha; refine op_g ha rfl (g_lss rfl rfl) ?_; clear ha a; intro a ha; refine wpList_nil ?_; replace ha := ha.sub (σ' := [(0, va0), (3, v97), (4, (.int .i64 i99)), (11, (.bool (decide (i99 < (a0.length : Int)))))]) ⟨rfl, rfl, rfl, rfl, trivial⟩; refine e_then ?_; refine c_cond (i99 < (a0.length : Int)) ha rfl (decide_eq_true_iff) (fun hp190 => ?_) (fun hp190 => ?_)
      · replace hF := if_t hp190 hF
        refine wp_skip ?_; refine e_then ?_; refine wp_seq ?_; refine wp_block ?_; refine wp_region_lit ?_; (iterate 4 refine op_g ha rfl (g_move rfl) ?_; clear ha a; intro a ha); obtain ⟨x191, g192, gx193, hF⟩ := idx_some hF
        obtain ⟨p194, cs195, f196, hf197, hpb198, hat199, hr200, hi201⟩ := ha0.at g192 gx193
        obtain ⟨v202, rfl, h203⟩ := hr200
        have h203 : Ro Rp.int W f196 v202 x191 := h203
        refine op_g ha rfl (hi201.gives sl22 rfl rfl) ?_; clear ha a; intro a ha; refine op_g ha rfl (g_load0 hE101 Try.isAgg40 rfl hat199.one) ?_; clear ha a; intro a ha; obtain ⟨x205, hc206, hF⟩ := cal_some hF
        refine o_call ha rfl rfl Try.call15 (W_laws_toInt64S (h203.ext hE101) hc206) ?_; clear ha a; rintro v207 w208 ⟨b210, h211, z212, hx209⟩ a ha
        have q214 := Nq.new h91.fpb z212
        have q215 := Nq.madeO z212 h91.blt
        have q216 := Nf.old z212 (zf_nil _) h91.bnd
        replace h91 := h91.ext hx209
        have hE217 := Ext.trans hE101 hx209
        have q218 := Zn.upD z212 hE101
        obtain ⟨x219, g220, gx221, hF⟩ := idx_some hF
        obtain ⟨p222, cs223, f224, hf225, hpb226, hat227, hr228, hi229⟩ := h91.at g220 gx221
        replace hr228 := (Rp.sl 2 Rp.int).weak hr228
        obtain ⟨v230, rfl, h231⟩ := hr228
        have h231 : Ro Rp.int w208 f224 v230 x219 := h231
        have q233 := Nq.mono q214 (fun k hk => List.mem_append_right (bl b98) (hf225 k hk))
        have q234 := Nq.mono (Ow.ne h91) hf225
        refine op_g ha rfl (hi229.gives sl22 rfl rfl) ?_; clear ha a; intro a ha
        refine o_storeE (f := (bl b210 ++ [])) (q := x205) ha Try.sizeOf40 rfl rfl h211.cells h91 hi229 (Rp.mkO h211) q215 ?_; intro w235 fs236 h237 hc238 hs239
        have q240 := zf_mv q218 (zf_nil _)
        have q241 := dj_of q214
        have q242 := zf_set hs239 zf94 q240
        have q243 := Subst.nd hs239 nd95 (bl_nodup b210) q241
        replace h231 := h231.nq hc238 q234
        have hE244 := Ext.then hE217 hc238 (Zn.bl z92)
        refine wpList_nil ?_; replace ha := ha.sub (σ' := [(0, va0), (3, v97), (4, (.int .i64 i99))]) ⟨rfl, rfl, rfl, trivial⟩; refine e_blk ?_; refine e_then ?_; refine wp_region_lit ?_; refine op_g ha rfl (g_move rfl) ?_; clear ha a; intro a ha; obtain ⟨hI245, hF⟩ := ck_some hF; refine op_g ha rfl (g_add rfl rfl hI245) ?_; clear ha a; intro a ha; refine op_g ha rfl (g_assign rfl) ?_; clear ha a; intro a ha; refine wpList_nil ?_; replace ha := ha.sub (σ' := [(0, va0), (3, v97), (4, (.int .i64 (i99 + 1)))]) ⟨rfl, rfl, rfl, trivial⟩; refine e_lq ?_; obtain rfl := Option.some.inj hF
        exact ⟨_, Nat.lt_succ_self _, (l96.set ((i99 : Int).toNat) x205), i99 + 1, fs236, v97, b98, ha.sub ⟨rfl, rfl, rfl, trivial⟩, hE244, hI245, h237, z92, q242, q243, hN187⟩
      replace hF := if_f hp190 hF; refine wp_exit ?_; refine e_then_exit ?_; refine e_lq_eq ?_; obtain rfl := Option.some.inj hF
      exact ⟨l96, fs93, v97, b98, ha.sub ⟨rfl, trivial⟩, hE101, h91, z92, zf94, nd95, (LK_inr hN187).symm⟩
  rintro a w171 ⟨l178, fs175, v179, b180, ha, hE186, h173, z174, zf176, nd177, rfl⟩
  have hF : F_laws_toInt64SS_k2 l178 = some _ := hK183; clear hK183; unfold F_laws_toInt64SS_k2 at hF
  refine e_then ?_; refine wp_seq ?_; refine wp_region_lit ?_; refine op_g ha rfl (g_move rfl) ?_; clear ha a; intro a ha; refine op_g ha rfl (g_assign rfl) ?_; clear ha a; intro a ha; refine wpList_nil ?_; replace ha := ha.sub (σ' := [(2, v179)]) ⟨rfl, trivial⟩; refine e_then ?_; refine wp_ret ?_; obtain rfl := Option.some.inj hF
  exact f_ret1 ha rfl rfl ⟨_, _, h173, z174, zf176, nd177, hE186⟩
set_option maxHeartbeats 2000000 in
theorem W_laws_toGraph {W : World} {va0_0 : Value} {fa0_0 : List Nat} {a0_0 : (List (List Int))} (ha0_0 : Ro (Rp.sl 2 Rp.int) W fa0_0 va0_0 a0_0) {r : (List (List Int))} (hF : F_laws_toGraph a0_0 = some r) :
    Calls Try.prog 8 [.agg #[va0_0]].toArray W (Ret fun u w' => ∃ (u_0 : Value) (b_u_0 : Int) (fs_u_0 : List Nat), u = .agg #[u_0] ∧ Ow (Rp.sl 2 Rp.int) 40 true w' fs_u_0 b_u_0 u_0 r ∧ Zn W b_u_0 ∧ (∀ k ∈ fs_u_0, W.heap.size ≤ k) ∧ (bl b_u_0 ++ fs_u_0).Nodup ∧ Ext W w') := by
  refine f_enter Try.func8 rfl Try.ntmps8 rfl ?_
  intro a ha
  replace ha : Fr 9 [(0, (.agg #[va0_0]))] a := ha
  have hE : Chg [] W W := Chg.refl _ _
  unfold F_laws_toGraph at hF
  refine wp_seq ?_; refine wp_region_lit ?_
  refine o_box ha rfl rfl rfl ?_; clear ha a; intro b1 w2 hB3 hx4 hlo5 a ha
  have q6 := Zn.one hlo5
  have q7 := Zn.upD q6 hE
  have hE8 := Ext.trans hE hx4
  refine o_alloc (cs := [(.slice none 0 0)]) ha rfl Try.zeroValue31 rfl ?_; clear ha a; intro b9 w10 hB11 hx12 hlo13 a ha
  have q14 := Zn.one hlo13
  have q15 := Nq.new hB3.fpb q14
  have q16 := Nq.made1 hlo13 hB3.bi
  have q17 := Zn.upD q14 hE8
  replace hB3 := hB3.ext hx12
  have hE18 := Ext.trans hE8 hx12
  refine wpList_nil ?_; replace ha := ha.sub (σ' := [(1, (.pointer (some ⟨b1, 0, none⟩))), (2, (.pointer (some ⟨b9, 0, none⟩)))]) ⟨rfl, rfl, trivial⟩; refine e_then ?_; refine wp_seq ?_; refine wp_region_lit ?_
  refine o_alloc (cs := [(.slice none 0 0)]) ha rfl Try.zeroValue31 rfl ?_; clear ha a; intro b19 w20 hB21 hx22 hlo23 a ha
  have q24 := Zn.one hlo23
  have q25 := Nq.new hB3.fpb q24
  have q26 := Nq.made1 hlo23 hB3.bi
  have q27 := Nq.new hB11.fpb q24
  have q28 := Nq.made1 hlo23 hB11.bi
  have q29 := Zn.upD q24 hE18
  replace hB3 := hB3.ext hx22
  replace hB11 := hB11.ext hx22
  have hE30 := Ext.trans hE18 hx22
  refine wpList_nil ?_; refine e_then ?_; refine wp_seq ?_; refine wp_region_lit ?_; refine op_g ha rfl (g_field0 st24_0 rfl) ?_; clear ha a; intro a ha; refine op_g ha rfl (g_load Try.isAgg22 rfl (hB3.cell rfl)) ?_; clear ha a; intro a ha; obtain ⟨x31, hc32, hF⟩ := cal_some hF
  refine o_call ha rfl rfl Try.call16 (W_laws_toInt64SS (ha0_0.ext hE30) hc32) ?_; clear ha a; rintro v33 w34 ⟨b36, fs40, h37, z38, zf41, nd42, hx35⟩ a ha
  have q43 := Nq.new hB3.fpb z38
  have q44 := Nq.madeF z38 zf41 hB3.bi
  have q45 := Nq.new hB11.fpb z38
  have q46 := Nq.madeF z38 zf41 hB11.bi
  have q47 := Nq.new hB21.fpb z38
  have q48 := Nq.madeF z38 zf41 hB21.bi
  have q49 := Nf.new hB3.fpb zf41
  have q50 := Nf.new hB11.fpb zf41
  have q51 := Nf.new hB21.fpb zf41
  replace hB3 := hB3.ext hx35
  replace hB11 := hB11.ext hx35
  replace hB21 := hB21.ext hx35
  have hE52 := Ext.trans hE30 hx35
  have q53 := Zn.upD z38 hE30
  have q54 := zf_up zf41 hE30
  refine op_g ha rfl (g_field0 st31_0 rfl) ?_; clear ha a; intro a ha
  refine o_storeB ha hB21 Try.sizeOf22 rfl rfl h37.cells h37.oneC (Nat.le_of_ble_eq_true rfl) ?_; intro w55 hB56 hc57
  replace hc57 := hc57.bl
  replace hB56 : Bx w55 b19 [v33] 31 := hB56
  replace hB3 := hB3.nq hc57 q25
  replace hB11 := hB11.nq hc57 q27
  replace h37 := h37.nq hc57 q48
  have hE58 := Ext.then hE52 hc57 (Zn.bl q29)
  refine wpList_nil ?_; replace ha := ha.sub (σ' := [(2, (.pointer (some ⟨b9, 0, none⟩))), (3, (.pointer (some ⟨b19, 0, none⟩)))]) ⟨rfl, rfl, trivial⟩; refine e_then ?_; refine wp_seq ?_; refine wp_region_lit ?_; refine op_g ha rfl (g_loadA (cs := [v33]) Try.isAgg31 Try.sizeOf31 rfl (by simp) hB56.all) ?_; clear ha a; intro a ha
  refine o_storeA (vs := [v33]) ha hB11 Try.sizeOf31 rfl rfl (by intro c hc; simp only [List.mem_cons, List.not_mem_nil, or_false] at hc; rcases hc with hc <;> subst hc <;> first | rfl | exact h37.oneC) rfl ?_; intro w59 hB60 hc61
  replace hc61 := hc61.bl
  replace hB60 : Bx w59 b9 [v33] 31 := hB60
  replace hB56 := hB56.nq hc61 q28
  replace h37 := h37.nq hc61 q46
  have hE62 := Ext.then hE58 hc61 (Zn.bl q17)
  refine wpList_nil ?_; replace ha := ha.sub (σ' := [(2, (.pointer (some ⟨b9, 0, none⟩)))]) ⟨rfl, trivial⟩; refine e_then ?_; refine wp_ret ?_; obtain rfl := Option.some.inj hF
  exact f_retC (cs := [v33]) ha rfl rfl Try.isAgg31 Try.sizeOf31 hB60 ⟨_, _, _, rfl, h37, q53, q54, nd42, hE62⟩
set_option maxHeartbeats 2000000 in
theorem W_laws_toFact {W : World} {a0_0 : Int} (ha0_0 : InI a0_0) {a0_1 : Int} (ha0_1 : InI a0_1) {a0_2 : Int} (ha0_2 : InI a0_2) {r : (Int × (Int × Int))} (hF : F_laws_toFact a0_0 a0_1 a0_2 = some r) :
    Calls Try.prog 38 [.agg #[.int .i64 a0_0, .int .i64 a0_1, .int .i64 a0_2]].toArray W (Ret fun u w' => ∃ (u_0 : Value) (u_1 : Value) (u_2 : Value), u = .agg #[u_0, u_1, u_2] ∧ (u_0 = .int .i64 r.1 ∧ InI r.1) ∧ (u_1 = .int .i64 r.2.1 ∧ InI r.2.1) ∧ (u_2 = .int .i64 r.2.2 ∧ InI r.2.2) ∧ Ext W w') := by
  refine f_enter Try.func38 rfl Try.ntmps38 rfl ?_
  intro a ha
  replace ha : Fr 14 [(0, (.agg #[(.int .i64 a0_0), (.int .i64 a0_1), (.int .i64 a0_2)]))] a := ha
  have hE : Chg [] W W := Chg.refl _ _
  unfold F_laws_toFact at hF
  refine wp_seq ?_; refine wp_region_lit ?_
  refine o_box ha rfl rfl rfl ?_; clear ha a; intro b1 w2 hB3 hx4 hlo5 a ha
  have q6 := Zn.one hlo5
  have q7 := Zn.upD q6 hE
  have hE8 := Ext.trans hE hx4
  refine o_alloc (cs := [(.int .i64 0), (.int .i64 0), (.int .i64 0)]) ha rfl Try.zeroValue71 rfl ?_; clear ha a; intro b9 w10 hB11 hx12 hlo13 a ha
  have q14 := Zn.one hlo13
  have q15 := Nq.new hB3.fpb q14
  have q16 := Nq.made1 hlo13 hB3.bi
  have q17 := Zn.upD q14 hE8
  replace hB3 := hB3.ext hx12
  have hE18 := Ext.trans hE8 hx12
  refine wpList_nil ?_; replace ha := ha.sub (σ' := [(1, (.pointer (some ⟨b1, 0, none⟩))), (2, (.pointer (some ⟨b9, 0, none⟩)))]) ⟨rfl, rfl, trivial⟩; refine e_then ?_; refine wp_seq ?_; refine wp_region_lit ?_
  refine o_alloc (cs := [(.int .i64 0), (.int .i64 0), (.int .i64 0)]) ha rfl Try.zeroValue71 rfl ?_; clear ha a; intro b19 w20 hB21 hx22 hlo23 a ha
  have q24 := Zn.one hlo23
  have q25 := Nq.new hB3.fpb q24
  have q26 := Nq.made1 hlo23 hB3.bi
  have q27 := Nq.new hB11.fpb q24
  have q28 := Nq.made1 hlo23 hB11.bi
  have q29 := Zn.upD q24 hE18
  replace hB3 := hB3.ext hx22
  replace hB11 := hB11.ext hx22
  have hE30 := Ext.trans hE18 hx22
  refine wpList_nil ?_; refine e_then ?_; refine wp_seq ?_; refine wp_region_lit ?_; refine op_g ha rfl (g_field0 st73_0 rfl) ?_; clear ha a; intro a ha; refine op_g ha rfl (g_load Try.isAgg2 rfl (hB3.cell rfl)) ?_; clear ha a; intro a ha; refine op_g ha rfl (g_field0 st71_0 rfl) ?_; clear ha a; intro a ha
  refine o_storeB ha hB21 Try.sizeOf2 rfl rfl rfl rfl (Nat.le_of_ble_eq_true rfl) ?_; intro w31 hB32 hc33
  replace hc33 := hc33.bl
  replace hB32 : Bx w31 b19 [(.int .i64 a0_0), (.int .i64 0), (.int .i64 0)] 71 := hB32
  replace hB3 := hB3.nq hc33 q25
  replace hB11 := hB11.nq hc33 q27
  have hE34 := Ext.then hE30 hc33 (Zn.bl q29)
  refine wpList_nil ?_; replace ha := ha.sub (σ' := [(1, (.pointer (some ⟨b1, 0, none⟩))), (2, (.pointer (some ⟨b9, 0, none⟩))), (3, (.pointer (some ⟨b19, 0, none⟩)))]) ⟨rfl, rfl, rfl, trivial⟩; refine e_then ?_; refine wp_seq ?_; refine wp_region_lit ?_; refine op_g ha rfl (g_field0 st73_1 rfl) ?_; clear ha a; intro a ha; refine op_g ha rfl (g_load Try.isAgg2 rfl (hB3.cell rfl)) ?_; clear ha a; intro a ha; refine op_g ha rfl (g_field0 st71_1 rfl) ?_; clear ha a; intro a ha
  refine o_storeB ha hB32 Try.sizeOf2 rfl rfl rfl rfl (Nat.le_of_ble_eq_true rfl) ?_; intro w35 hB36 hc37
  replace hc37 := hc37.bl
  replace hB36 : Bx w35 b19 [(.int .i64 a0_0), (.int .i64 a0_1), (.int .i64 0)] 71 := hB36
  replace hB3 := hB3.nq hc37 q25
  replace hB11 := hB11.nq hc37 q27
  have hE38 := Ext.then hE34 hc37 (Zn.bl q29)
  refine wpList_nil ?_; replace ha := ha.sub (σ' := [(1, (.pointer (some ⟨b1, 0, none⟩))), (2, (.pointer (some ⟨b9, 0, none⟩))), (3, (.pointer (some ⟨b19, 0, none⟩)))]) ⟨rfl, rfl, rfl, trivial⟩; refine e_then ?_; refine wp_seq ?_; refine wp_region_lit ?_; refine op_g ha rfl (g_field0 st73_2 rfl) ?_; clear ha a; intro a ha; refine op_g ha rfl (g_load Try.isAgg2 rfl (hB3.cell rfl)) ?_; clear ha a; intro a ha; refine op_g ha rfl (g_field0 st71_2 rfl) ?_; clear ha a; intro a ha
  refine o_storeB ha hB36 Try.sizeOf2 rfl rfl rfl rfl (Nat.le_of_ble_eq_true rfl) ?_; intro w39 hB40 hc41
  replace hc41 := hc41.bl
  replace hB40 : Bx w39 b19 [(.int .i64 a0_0), (.int .i64 a0_1), (.int .i64 a0_2)] 71 := hB40
  replace hB3 := hB3.nq hc41 q25
  replace hB11 := hB11.nq hc41 q27
  have hE42 := Ext.then hE38 hc41 (Zn.bl q29)
  refine wpList_nil ?_; replace ha := ha.sub (σ' := [(2, (.pointer (some ⟨b9, 0, none⟩))), (3, (.pointer (some ⟨b19, 0, none⟩)))]) ⟨rfl, rfl, trivial⟩; refine e_then ?_; refine wp_seq ?_; refine wp_region_lit ?_; refine op_g ha rfl (g_loadA (cs := [(.int .i64 a0_0), (.int .i64 a0_1), (.int .i64 a0_2)]) Try.isAgg71 Try.sizeOf71 rfl (by simp) hB40.all) ?_; clear ha a; intro a ha
  refine o_storeA (vs := [(.int .i64 a0_0), (.int .i64 a0_1), (.int .i64 a0_2)]) ha hB11 Try.sizeOf71 rfl rfl (by intro c hc; simp only [List.mem_cons, List.not_mem_nil, or_false] at hc; rcases hc with hc | hc | hc <;> subst hc <;> first | rfl | exact rfl | exact rfl | exact rfl) rfl ?_; intro w43 hB44 hc45
  replace hc45 := hc45.bl
  replace hB44 : Bx w43 b9 [(.int .i64 a0_0), (.int .i64 a0_1), (.int .i64 a0_2)] 71 := hB44
  replace hB40 := hB40.nq hc45 q28
  have hE46 := Ext.then hE42 hc45 (Zn.bl q17)
  refine wpList_nil ?_; replace ha := ha.sub (σ' := [(2, (.pointer (some ⟨b9, 0, none⟩)))]) ⟨rfl, trivial⟩; refine e_then ?_; refine wp_ret ?_; obtain rfl := Option.some.inj hF
  exact f_retC (cs := [(.int .i64 a0_0), (.int .i64 a0_1), (.int .i64 a0_2)]) ha rfl rfl Try.isAgg71 Try.sizeOf71 hB44 ⟨_, _, _, rfl, ⟨rfl, ha0_0⟩, ⟨rfl, ha0_1⟩, ⟨rfl, ha0_2⟩, hE46⟩
set_option maxHeartbeats 2000000 in
theorem W_laws_toFactS {W : World} {va0 : Value} {fa0 : List Nat} {a0 : (List (Int × (Int × Int)))} (ha0 : Ro (Rp.prod Rp.int (Rp.prod Rp.int Rp.int)) W fa0 va0 a0) {r : (List (Int × (Int × Int)))} (hF : F_laws_toFactS a0 = some r) :
    Calls Try.prog 23 [va0].toArray W (Ret fun u w' => ∃ (b_u : Int), Ow (Rp.prod Rp.int (Rp.prod Rp.int Rp.int)) 71 true w' [] b_u u r ∧ Zn W b_u ∧ Ext W w') := by
  refine f_enter Try.func23 rfl Try.ntmps23 rfl ?_
  intro a ha
  replace ha : Fr 23 [(0, va0)] a := ha
  have hE : Chg [] W W := Chg.refl _ _
  unfold F_laws_toFactS at hF
  refine wp_seq ?_; refine wp_region_lit ?_; refine op_g ha rfl (g_assign rfl) ?_; clear ha a; intro a ha; refine wpList_nil ?_; replace ha := ha.sub (σ' := [(0, va0)]) ⟨rfl, trivial⟩; refine e_then ?_; refine wp_seq ?_; refine wp_region_lit ?_; refine op_g ha rfl (g_move rfl) ?_; clear ha a; intro a ha; refine op_g ha rfl (g_lenR sl25.und ha0 rfl) ?_; clear ha a; intro a ha; obtain ⟨g5, g5b, hF⟩ := mkS_some hF
  refine o_make (z0 := ((0 : Int), (0 : Int), (0 : Int))) (Rp.prod Rp.int (Rp.prod Rp.int Rp.int)) ha rfl sl33 rfl (fun w => ⟨[], [], [_], _, rfl, rfl, ⟨rfl, by decide, rfl⟩, ⟨[], [], [_], _, rfl, rfl, ⟨rfl, by decide, rfl⟩, ⟨rfl, by decide, rfl⟩⟩⟩) rfl g5 g5b ?_; clear ha a; intro v1 w2 h3 hx4 a ha
  obtain ⟨b8, hb8⟩ : ∃ b : Int, b = W.heap.size := ⟨_, rfl⟩; rw [← hb8] at h3
  have q9 := zn_of hb8
  have q10 := Zn.upD q9 hE
  have hE11 := Ext.trans hE hx4
  refine op_g ha rfl (g_assign rfl) ?_; clear ha a; intro a ha; refine wpList_nil ?_; replace ha := ha.sub (σ' := [(0, va0), (3, v1)]) ⟨rfl, rfl, trivial⟩; refine e_then ?_; refine wp_seq ?_; refine wp_seq ?_; refine wp_region_lit ?_; refine op_g ha rfl (g_assign rfl) ?_; clear ha a; intro a ha; refine wpList_nil ?_; refine e_then ?_; obtain ⟨o214, ho215, hK216⟩ := bnd_some hF
  obtain ⟨n217, hn218⟩ := lp_some ho215; clear ho215
  refine c_loop (fun a w => ∃ (l211 : (List (Int × (Int × Int)))) (v212 : Value) (b213 : Int), Fr 23 [(3, v212)] a ∧ Chg [] W w ∧ Ow (Rp.prod Rp.int (Rp.prod Rp.int Rp.int)) 71 true w [] b213 v212 l211 ∧ Zn W b213 ∧ o214 = .inl l211) (fun n a w => ∃ (l111 : (List (Int × (Int × Int)))) (i114 : Int) (v112 : Value) (b113 : Int), Fr 23 [(0, va0), (3, v112), (4, (.int .i64 i114))] a ∧ Chg [] W w ∧ InI i114 ∧ Ow (Rp.prod Rp.int (Rp.prod Rp.int Rp.int)) 71 true w [] b113 v112 l111 ∧ Zn W b113 ∧ lpN (fun s => F_laws_toFactS_l1 a0 s.1 s.2) n (l111, i114) = some o214) n217 ⟨(List.replicate ((a0.length : Int) : Int).toNat ((0 : Int), (0 : Int), (0 : Int))), 0, v1, b8, ha.sub ⟨rfl, rfl, rfl, trivial⟩, hE11, (show InI 0 from by decide), h3, q10, hn218⟩ ?_ ?_
  · rintro m222 a w107 ⟨l111, i114, v112, b113, ha, hE116, hI115, h109, z110, hF⟩
    cases m222 with
    | zero => exact (lpN_zero hF).elim
    | succ m222 =>
      obtain ⟨z221, hF, hN220⟩ := lpN_succ hF
      have hF : F_laws_toFactS_l1 a0 l111 i114 = some z221 := hF; unfold F_laws_toFactS_l1 at hF
      refine wp_seq ?_; refine wp_seq ?_; refine wp_region_lit ?_; (iterate 2 refine op_g ha rfl (g_move rfl) ?_; clear ha a; intro a ha); refine op_g ha rfl (g_lenR sl25.und ha0 rfl) ?_; clear ha a; intro a ha; refine op_g ha rfl (g_lss rfl rfl) ?_; clear ha a; intro a ha; refine wpList_nil ?_; replace ha := ha.sub (σ' := [(0, va0), (3, v112), (4, (.int .i64 i114)), (11, (.bool (decide (i114 < (a0.length : Int)))))]) ⟨rfl, rfl, rfl, rfl, trivial⟩; refine e_then ?_; refine c_cond (i114 < (a0.length : Int)) ha rfl (decide_eq_true_iff) (fun hp223 => ?_) (fun hp223 => ?_)
      · replace hF := if_t hp223 hF
        refine wp_skip ?_; refine e_then ?_; refine wp_seq ?_; refine wp_block ?_; refine wp_region_lit ?_; (iterate 4 refine op_g ha rfl (g_move rfl) ?_; clear ha a; intro a ha); obtain ⟨x224, g225, gx226, hF⟩ := idx_some hF
        obtain ⟨p227, cs228, f229, hf230, hpb231, hat232, hr233, hi234⟩ := ha0.at g225 gx226
        obtain ⟨f235, f236, c237, c238, rfl, rfl, h239, h240⟩ := hr233
        obtain ⟨rfl, hI243, rfl⟩ := h239
        obtain ⟨f244, f245, c246, c247, rfl, rfl, h248, h249⟩ := h240
        obtain ⟨rfl, hI252, rfl⟩ := h248
        obtain ⟨rfl, hI253, rfl⟩ := h249
        refine op_g ha rfl (hi234.gives sl25 rfl rfl) ?_; clear ha a; intro a ha; refine op_g ha rfl (g_loadA0 (cs := [(.int .i64 x224.1), (.int .i64 x224.2.1), (.int .i64 x224.2.2)]) hE116 Try.isAgg73 Try.sizeOf73 rfl (by simp) hat232) ?_; clear ha a; intro a ha; obtain ⟨x254, hc255, hF⟩ := cal_some hF
        refine o_call ha rfl rfl Try.call38 (W_laws_toFact hI243 hI252 hI253 hc255) ?_; clear ha a; rintro v256 w257 ⟨u259, u260, u261, rfl, ⟨rfl, hI262⟩, ⟨rfl, hI263⟩, ⟨rfl, hI264⟩, hx258⟩ a ha
        replace h109 := h109.ext hx258
        have hE265 := Ext.trans hE116 hx258
        obtain ⟨x266, g267, gx268, hF⟩ := idx_some hF
        obtain ⟨p269, cs270, f271, hf272, hpb273, hat274, hr275, hi276⟩ := h109.at g267 gx268
        obtain ⟨f277, f278, c279, c280, rfl, rfl, h281, h282⟩ := hr275
        obtain ⟨rfl, hI285, rfl⟩ := h281
        obtain ⟨f286, f287, c288, c289, rfl, rfl, h290, h291⟩ := h282
        obtain ⟨rfl, hI294, rfl⟩ := h290
        obtain ⟨rfl, hI295, rfl⟩ := h291
        refine op_g ha rfl (hi276.gives sl33 rfl rfl) ?_; clear ha a; intro a ha
        refine o_storeE (f := []) (q := (x254.1, x254.2.1, x254.2.2)) ha Try.sizeOf71 rfl rfl rfl h109 hi276 ⟨[], [], [_], _, rfl, rfl, ⟨rfl, hI262, rfl⟩, ⟨[], [], [_], _, rfl, rfl, ⟨rfl, hI263, rfl⟩, ⟨rfl, hI264, rfl⟩⟩⟩ (Nq.nil _) ?_; intro w296 fs297 h298 hc299 hs300
        obtain rfl := Subst.nil hs300
        have hE301 := Ext.then hE265 hc299 (Zn.bl z110)
        refine wpList_nil ?_; replace ha := ha.sub (σ' := [(0, va0), (3, v112), (4, (.int .i64 i114))]) ⟨rfl, rfl, rfl, trivial⟩; refine e_blk ?_; refine e_then ?_; refine wp_region_lit ?_; refine op_g ha rfl (g_move rfl) ?_; clear ha a; intro a ha; obtain ⟨hI302, hF⟩ := ck_some hF; refine op_g ha rfl (g_add rfl rfl hI302) ?_; clear ha a; intro a ha; refine op_g ha rfl (g_assign rfl) ?_; clear ha a; intro a ha; refine wpList_nil ?_; replace ha := ha.sub (σ' := [(0, va0), (3, v112), (4, (.int .i64 (i114 + 1)))]) ⟨rfl, rfl, rfl, trivial⟩; refine e_lq ?_; obtain rfl := Option.some.inj hF
        exact ⟨_, Nat.lt_succ_self _, (l111.set ((i114 : Int).toNat) (x254.1, x254.2.1, x254.2.2)), i114 + 1, v112, b113, ha.sub ⟨rfl, rfl, rfl, trivial⟩, hE301, hI302, h298, z110, hN220⟩
      replace hF := if_f hp223 hF; refine wp_exit ?_; refine e_then_exit ?_; refine e_lq_eq ?_; obtain rfl := Option.some.inj hF
      exact ⟨l111, v112, b113, ha.sub ⟨rfl, trivial⟩, hE116, h109, z110, (LK_inr hN220).symm⟩
  rintro a w207 ⟨l211, v212, b213, ha, hE219, h209, z210, rfl⟩
  have hF : F_laws_toFactS_k2 l211 = some _ := hK216; clear hK216; unfold F_laws_toFactS_k2 at hF
  refine e_then ?_; refine wp_seq ?_; refine wp_region_lit ?_; refine op_g ha rfl (g_move rfl) ?_; clear ha a; intro a ha; refine op_g ha rfl (g_assign rfl) ?_; clear ha a; intro a ha; refine wpList_nil ?_; replace ha := ha.sub (σ' := [(2, v212)]) ⟨rfl, trivial⟩; refine e_then ?_; refine wp_ret ?_; obtain rfl := Option.some.inj hF
  exact f_ret1 ha rfl rfl ⟨_, h209, z210, hE219⟩
set_option maxHeartbeats 2000000 in
theorem W_laws_toFormula {W : World} {va0_0 : Value} {fa0_0 : List Nat} {a0_0 : (List (Int × (Int × Int)))} (ha0_0 : Ro (Rp.prod Rp.int (Rp.prod Rp.int Rp.int)) W fa0_0 va0_0 a0_0) {r : (List (Int × (Int × Int)))} (hF : F_laws_toFormula a0_0 = some r) :
    Calls Try.prog 9 [.agg #[va0_0]].toArray W (Ret fun u w' => ∃ (u_0 : Value) (b_u_0 : Int), u = .agg #[u_0] ∧ Ow (Rp.prod Rp.int (Rp.prod Rp.int Rp.int)) 71 true w' [] b_u_0 u_0 r ∧ Zn W b_u_0 ∧ Ext W w') := by
  refine f_enter Try.func9 rfl Try.ntmps9 rfl ?_
  intro a ha
  replace ha : Fr 9 [(0, (.agg #[va0_0]))] a := ha
  have hE : Chg [] W W := Chg.refl _ _
  unfold F_laws_toFormula at hF
  refine wp_seq ?_; refine wp_region_lit ?_
  refine o_box ha rfl rfl rfl ?_; clear ha a; intro b1 w2 hB3 hx4 hlo5 a ha
  have q6 := Zn.one hlo5
  have q7 := Zn.upD q6 hE
  have hE8 := Ext.trans hE hx4
  refine o_alloc (cs := [(.slice none 0 0)]) ha rfl Try.zeroValue35 rfl ?_; clear ha a; intro b9 w10 hB11 hx12 hlo13 a ha
  have q14 := Zn.one hlo13
  have q15 := Nq.new hB3.fpb q14
  have q16 := Nq.made1 hlo13 hB3.bi
  have q17 := Zn.upD q14 hE8
  replace hB3 := hB3.ext hx12
  have hE18 := Ext.trans hE8 hx12
  refine wpList_nil ?_; replace ha := ha.sub (σ' := [(1, (.pointer (some ⟨b1, 0, none⟩))), (2, (.pointer (some ⟨b9, 0, none⟩)))]) ⟨rfl, rfl, trivial⟩; refine e_then ?_; refine wp_seq ?_; refine wp_region_lit ?_
  refine o_alloc (cs := [(.slice none 0 0)]) ha rfl Try.zeroValue35 rfl ?_; clear ha a; intro b19 w20 hB21 hx22 hlo23 a ha
  have q24 := Zn.one hlo23
  have q25 := Nq.new hB3.fpb q24
  have q26 := Nq.made1 hlo23 hB3.bi
  have q27 := Nq.new hB11.fpb q24
  have q28 := Nq.made1 hlo23 hB11.bi
  have q29 := Zn.upD q24 hE18
  replace hB3 := hB3.ext hx22
  replace hB11 := hB11.ext hx22
  have hE30 := Ext.trans hE18 hx22
  refine wpList_nil ?_; refine e_then ?_; refine wp_seq ?_; refine wp_region_lit ?_; refine op_g ha rfl (g_field0 st27_0 rfl) ?_; clear ha a; intro a ha; refine op_g ha rfl (g_load Try.isAgg25 rfl (hB3.cell rfl)) ?_; clear ha a; intro a ha; obtain ⟨x31, hc32, hF⟩ := cal_some hF
  refine o_call ha rfl rfl Try.call23 (W_laws_toFactS (ha0_0.ext hE30) hc32) ?_; clear ha a; rintro v33 w34 ⟨b36, h37, z38, hx35⟩ a ha
  have q40 := Nq.new hB3.fpb z38
  have q41 := Nq.madeO z38 hB3.bi
  have q42 := Nq.new hB11.fpb z38
  have q43 := Nq.madeO z38 hB11.bi
  have q44 := Nq.new hB21.fpb z38
  have q45 := Nq.madeO z38 hB21.bi
  replace hB3 := hB3.ext hx35
  replace hB11 := hB11.ext hx35
  replace hB21 := hB21.ext hx35
  have hE46 := Ext.trans hE30 hx35
  have q47 := Zn.upD z38 hE30
  refine op_g ha rfl (g_field0 st35_0 rfl) ?_; clear ha a; intro a ha
  refine o_storeB ha hB21 Try.sizeOf33 rfl rfl h37.cells h37.oneC (Nat.le_of_ble_eq_true rfl) ?_; intro w48 hB49 hc50
  replace hc50 := hc50.bl
  replace hB49 : Bx w48 b19 [v33] 35 := hB49
  replace hB3 := hB3.nq hc50 q25
  replace hB11 := hB11.nq hc50 q27
  replace h37 := h37.nq hc50 q45
  have hE51 := Ext.then hE46 hc50 (Zn.bl q29)
  refine wpList_nil ?_; replace ha := ha.sub (σ' := [(2, (.pointer (some ⟨b9, 0, none⟩))), (3, (.pointer (some ⟨b19, 0, none⟩)))]) ⟨rfl, rfl, trivial⟩; refine e_then ?_; refine wp_seq ?_; refine wp_region_lit ?_; refine op_g ha rfl (g_loadA (cs := [v33]) Try.isAgg35 Try.sizeOf35 rfl (by simp) hB49.all) ?_; clear ha a; intro a ha
  refine o_storeA (vs := [v33]) ha hB11 Try.sizeOf35 rfl rfl (by intro c hc; simp only [List.mem_cons, List.not_mem_nil, or_false] at hc; rcases hc with hc <;> subst hc <;> first | rfl | exact h37.oneC) rfl ?_; intro w52 hB53 hc54
  replace hc54 := hc54.bl
  replace hB53 : Bx w52 b9 [v33] 35 := hB53
  replace hB49 := hB49.nq hc54 q28
  replace h37 := h37.nq hc54 q43
  have hE55 := Ext.then hE51 hc54 (Zn.bl q17)
  refine wpList_nil ?_; replace ha := ha.sub (σ' := [(2, (.pointer (some ⟨b9, 0, none⟩)))]) ⟨rfl, trivial⟩; refine e_then ?_; refine wp_ret ?_; obtain rfl := Option.some.inj hF
  exact f_retC (cs := [v33]) ha rfl rfl Try.isAgg35 Try.sizeOf35 hB53 ⟨_, _, rfl, h37, q47, hE55⟩
set_option maxHeartbeats 2000000 in
theorem W_spec_l1Size {W : World} {va0_0 : Value} {fa0_0 : List Nat} {a0_0 : (List (List Int))} (ha0_0 : Ro (Rp.sl 2 Rp.int) W fa0_0 va0_0 a0_0) {r : Int} (hF : F_spec_l1Size a0_0 = some r) :
    Calls Try.prog 47 [.agg #[va0_0]].toArray W (Ret fun u w' => (u = .int .i64 r ∧ InI r) ∧ Ext W w') := by
  refine f_enter Try.func47 rfl Try.ntmps47 rfl ?_
  intro a ha
  replace ha : Fr 6 [(0, (.agg #[va0_0]))] a := ha
  have hE : Chg [] W W := Chg.refl _ _
  unfold F_spec_l1Size at hF
  refine wp_seq ?_; refine wp_region_lit ?_
  refine o_box ha rfl rfl rfl ?_; clear ha a; intro b1 w2 hB3 hx4 hlo5 a ha
  have q6 := Zn.one hlo5
  have q7 := Zn.upD q6 hE
  have hE8 := Ext.trans hE hx4
  refine op_g ha rfl (g_assign rfl) ?_; clear ha a; intro a ha; refine wpList_nil ?_; replace ha := ha.sub (σ' := [(1, (.pointer (some ⟨b1, 0, none⟩)))]) ⟨rfl, trivial⟩; refine e_then ?_; refine wp_seq ?_; refine wp_region_lit ?_; refine op_g ha rfl (g_field0 st31_0 rfl) ?_; clear ha a; intro a ha; refine op_g ha rfl (g_load Try.isAgg22 rfl (hB3.cell rfl)) ?_; clear ha a; intro a ha; refine op_g ha rfl (g_lenR sl22.und ha0_0 rfl) ?_; clear ha a; intro a ha; refine op_g ha rfl (g_assign rfl) ?_; clear ha a; intro a ha; refine wpList_nil ?_; replace ha := ha.sub (σ' := [(2, (.int .i64 (a0_0.length : Int)))]) ⟨rfl, trivial⟩
  refine e_then ?_; refine wp_ret ?_; obtain rfl := Option.some.inj hF
  exact f_ret1 ha rfl rfl ⟨⟨rfl, ha0_0.len⟩, hE8⟩
set_option maxHeartbeats 2000000 in
theorem W_spec_l1In {W : World} {a0 : Int} (ha0 : InI a0) {a1 : Int} (ha1 : InI a1) {a2 : Int} (ha2 : InI a2) {r : Bool} (hF : F_spec_l1In a0 a1 a2 = some r) :
    Calls Try.prog 46 [.int .i64 a0, .int .i64 a1, .int .i64 a2].toArray W (Ret fun u w' => u = .bool r ∧ Ext W w') := by
  refine f_enter Try.func46 rfl Try.ntmps46 rfl ?_
  intro a ha
  replace ha : Fr 15 [(0, (.int .i64 a0)), (1, (.int .i64 a1)), (2, (.int .i64 a2))] a := ha
  have hE : Chg [] W W := Chg.refl _ _
  unfold F_spec_l1In at hF
  refine wp_seq ?_; refine wp_region_lit ?_; refine op_g ha rfl (g_assign rfl) ?_; clear ha a; intro a ha; refine wpList_nil ?_; replace ha := ha.sub (σ' := [(0, (.int .i64 a0)), (1, (.int .i64 a1)), (2, (.int .i64 a2))]) ⟨rfl, rfl, rfl, trivial⟩; refine e_then ?_; refine wp_seq ?_; refine wp_region_lit ?_; (iterate 2 refine op_g ha rfl (g_move rfl) ?_; clear ha a; intro a ha); refine op_g ha rfl (g_geq rfl rfl) ?_; clear ha a; intro a ha; refine op_g ha rfl (g_move rfl) ?_; clear ha a; intro a ha
  by_cases hp1 : a1 ≤ a0
  · replace hF := if_t hp1 hF
    rw [show (decide (a1 ≤ a0)) = true from (decide_eq_true_iff).2 hp1] at ha
    refine op_want (yields ha rfl rfl) ?_; refine op_g ha rfl (g_move rfl) ?_; clear ha a; intro a ha; refine op_want (yields ha rfl rfl) ?_; refine op_g ha rfl (g_move rfl) ?_; clear ha a; intro a ha; refine op_want (yields ha rfl rfl) ?_; refine op_g ha rfl (g_leq rfl rfl) ?_; clear ha a; intro a ha; refine op_g ha rfl (g_pick rfl rfl) ?_; clear ha a; intro a ha; refine op_g ha rfl (g_assign rfl) ?_; clear ha a; intro a ha; refine wpList_nil ?_; replace ha := ha.sub (σ' := [(6, (.bool (decide (a0 ≤ a2))))]) ⟨rfl, trivial⟩; refine e_then ?_; refine wp_ret ?_; obtain rfl := Option.some.inj hF
    exact f_ret1 ha rfl rfl ⟨rfl, hE⟩
  replace hF := if_f hp1 hF
  rw [show (decide (a1 ≤ a0)) = false from b_false (decide_eq_true_iff) hp1] at ha
  (iterate 3 refine op_unwant ha rfl (yields ha rfl rfl) rfl ?_; clear ha a; intro a ha); refine op_g ha rfl (g_pick rfl rfl) ?_; clear ha a; intro a ha; refine op_g ha rfl (g_assign rfl) ?_; clear ha a; intro a ha; refine wpList_nil ?_; replace ha := ha.sub (σ' := [(6, (.bool false))]) ⟨rfl, trivial⟩; refine e_then ?_; refine wp_ret ?_; obtain rfl := Option.some.inj hF
  exact f_ret1 ha rfl rfl ⟨rfl, hE⟩
set_option maxHeartbeats 2000000 in
theorem W_spec_l1Set {W : World} {va0 : Value} {fa0 : List Nat} {a0 : (List Int)} (ha0 : Ro Rp.int W fa0 va0 a0) {a1 : Int} (ha1 : InI a1) {r : Bool} (hF : F_spec_l1Set a0 a1 = some r) :
    Calls Try.prog 49 [va0, .int .i64 a1].toArray W (Ret fun u w' => u = .bool r ∧ Ext W w') := by
  refine f_enter Try.func49 rfl Try.ntmps49 rfl ?_
  intro a ha
  replace ha : Fr 40 [(0, va0), (1, (.int .i64 a1))] a := ha
  have hE : Chg [] W W := Chg.refl _ _
  unfold F_spec_l1Set at hF
  refine wp_seq ?_; refine wp_region_lit ?_; refine op_g ha rfl (g_assign rfl) ?_; clear ha a; intro a ha; refine wpList_nil ?_; replace ha := ha.sub (σ' := [(0, va0), (1, (.int .i64 a1))]) ⟨rfl, rfl, trivial⟩; refine e_then ?_; refine wp_seq ?_; refine wp_seq ?_; refine wp_region_lit ?_; refine op_g ha rfl (g_move rfl) ?_; clear ha a; intro a ha; refine op_g ha rfl (g_lenR sl40.und ha0 rfl) ?_; clear ha a; intro a ha; refine op_g ha rfl (g_move rfl) ?_; clear ha a; intro a ha; refine op_g ha rfl (g_gtr rfl rfl) ?_; clear ha a; intro a ha; refine wpList_nil ?_; replace ha := ha.sub (σ' := [(0, va0), (1, (.int .i64 a1)), (9, (.bool (decide (a1 < (a0.length : Int)))))]) ⟨rfl, rfl, rfl, trivial⟩
  refine e_then ?_; refine c_cond (a1 < (a0.length : Int)) ha rfl (decide_eq_true_iff) (fun hp1 => ?_) (fun hp1 => ?_)
  · replace hF := if_t hp1 hF
    refine wp_seq ?_; refine wp_region_lit ?_; refine op_g ha rfl (g_assign rfl) ?_; clear ha a; intro a ha; refine wpList_nil ?_; replace ha := ha.sub (σ' := [(4, (.bool false))]) ⟨rfl, trivial⟩; refine e_then ?_; refine wp_ret ?_; refine e_then_ret ?_; obtain rfl := Option.some.inj hF
    exact f_ret1 ha rfl rfl ⟨rfl, hE⟩
  replace hF := if_f hp1 hF; refine wp_skip ?_; refine e_then ?_; refine wp_seq ?_; refine wp_seq ?_; refine wp_region_lit ?_; refine op_g ha rfl (g_assign rfl) ?_; clear ha a; intro a ha; refine wpList_nil ?_; replace ha := ha.sub (σ' := [(0, va0), (1, (.int .i64 a1)), (5, (.int .i64 0))]) ⟨rfl, rfl, rfl, trivial⟩; refine e_then ?_; obtain ⟨o137, ho138, hK139⟩ := bnd_some hF
  obtain ⟨n140, hn141⟩ := lp_some ho138; clear ho138
  refine c_loop (fun a w => Fr 40 [] a ∧ Chg [] W w ∧ o137 = .inl ()) (fun n a w => ∃ (i69 : Int), Fr 40 [(0, va0), (1, (.int .i64 a1)), (5, (.int .i64 i69))] a ∧ Chg [] W w ∧ InI i69 ∧ lpN (fun s => F_spec_l1Set_l1 a0 a1 s) n i69 = some o137) n140 ⟨0, ha.sub ⟨rfl, rfl, rfl, trivial⟩, hE, (show InI 0 from by decide), hn141⟩ ?_ ?_
  · rintro m145 a w68 ⟨i69, ha, hE71, hI70, hF⟩
    cases m145 with
    | zero => exact (lpN_zero hF).elim
    | succ m145 =>
      obtain ⟨z144, hF, hN143⟩ := lpN_succ hF
      have hF : F_spec_l1Set_l1 a0 a1 i69 = some z144 := hF; unfold F_spec_l1Set_l1 at hF
      refine wp_seq ?_; refine wp_seq ?_; refine wp_region_lit ?_; (iterate 2 refine op_g ha rfl (g_move rfl) ?_; clear ha a; intro a ha); refine op_g ha rfl (g_lenR sl40.und ha0 rfl) ?_; clear ha a; intro a ha; refine op_g ha rfl (g_lss rfl rfl) ?_; clear ha a; intro a ha; refine wpList_nil ?_; replace ha := ha.sub (σ' := [(0, va0), (1, (.int .i64 a1)), (5, (.int .i64 i69)), (13, (.bool (decide (i69 < (a0.length : Int)))))]) ⟨rfl, rfl, rfl, rfl, trivial⟩; refine e_then ?_; refine c_cond (i69 < (a0.length : Int)) ha rfl (decide_eq_true_iff) (fun hp146 => ?_) (fun hp146 => ?_)
      · replace hF := if_t hp146 hF
        refine wp_skip ?_; refine e_then ?_; refine wp_seq ?_; refine wp_block ?_; refine wp_seq ?_; refine d_quiet hmix (by kernel_rfl) ?_; (iterate 2 refine q_g ha rfl (g_move rfl) ?_; clear ha a; intro a ha); obtain ⟨x147, g148, gx149, hF⟩ := idx_some hF
        obtain ⟨p150, cs151, f152, hf153, hpb154, hat155, hr156, hi157⟩ := ha0.at g148 gx149
        obtain ⟨rfl, hI158, rfl⟩ := hr156
        refine q_g ha rfl (hi157.gives sl40 rfl rfl) ?_; clear ha a; intro a ha; refine q_g ha rfl (g_load0 hE71 Try.isAgg2 rfl hat155.one) ?_; clear ha a; intro a ha; refine q_g ha rfl (g_move rfl) ?_; clear ha a; intro a ha; obtain ⟨hI159, hF⟩ := ck_some hF; refine q_g ha rfl (g_sub rfl rfl hI159) ?_; clear ha a; intro a ha; obtain ⟨x163, hc164, hF⟩ := cal_some hF; refine q_call (.bool x163) ha rfl rfl Try.call46 (fun w162 hx161 => W_spec_l1In hI158 (show InI 0 from by decide) hI159 hc164) (fun _ _ _ h => ⟨h.1, h.2⟩) ?_; clear ha a; intro a ha; refine q_g ha rfl (g_not rfl) ?_; clear ha a; intro a ha
        refine q_g ha rfl (g_move rfl) ?_; clear ha a; intro a ha
        by_cases hp165 : ¬ (x163 = true)
        · replace hF := if_t hp165 hF
          rw [show (!x163) = true from (n_iff (Iff.rfl)).2 hp165] at ha
          (iterate 3 refine q_unwant ha rfl (yields ha rfl rfl) rfl ?_; clear ha a; intro a ha); (iterate 10 refine q_unwant0 ha rfl (yields0 ha rfl rfl) ?_; clear ha a; intro a ha); refine q_unwant ha rfl (yields ha rfl rfl) rfl ?_; clear ha a; intro a ha; refine q_g ha rfl (g_pick rfl rfl) ?_; clear ha a; intro a ha
          refine q_nil ?_; intro w166 hx167
          have hE168 := Ext.trans hE71 hx167
          replace ha := ha.sub (σ' := [(0, va0), (1, (.int .i64 a1)), (5, (.int .i64 i69)), (39, (.bool true))]) ⟨rfl, rfl, rfl, rfl, trivial⟩; refine e_then ?_; refine c_true ha rfl ?_; refine wp_seq ?_; refine wp_region_lit ?_; refine op_g ha rfl (g_assign rfl) ?_; clear ha a; intro a ha; refine wpList_nil ?_; replace ha := ha.sub (σ' := [(4, (.bool false))]) ⟨rfl, trivial⟩; refine e_then ?_; refine wp_ret ?_; refine e_blk_ret ?_; refine e_then_ret ?_; refine e_lq_ret ?_; refine e_then_ret ?_; obtain rfl := Option.some.inj hF
          have e169 := LK_inr hN143; subst e169
          have e170 := BK_inr hK139; subst e170
          exact f_ret1 ha rfl rfl ⟨rfl, hE168⟩
        replace hF := if_f hp165 hF
        rw [show (!x163) = false from b_false (n_iff (Iff.rfl)) hp165] at ha
        refine q_want (yields ha rfl rfl) ?_; refine q_g ha rfl (g_move rfl) ?_; clear ha a; intro a ha; refine q_want (yields ha rfl rfl) ?_; refine q_g ha rfl (g_gtr rfl rfl) ?_; clear ha a; intro a ha; refine q_want (yields ha rfl rfl) ?_; refine q_g ha rfl (g_move rfl) ?_; clear ha a; intro a ha
        by_cases hp171 : 0 < i69
        · replace hF := if_t hp171 hF
          rw [show (decide (0 < i69)) = true from (decide_eq_true_iff).2 hp171] at ha
          refine q_want (yields ha rfl rfl) ?_; refine q_g ha rfl (g_move rfl) ?_; clear ha a; intro a ha; refine q_want (yields ha rfl rfl) ?_; refine q_g ha rfl (g_move rfl) ?_; clear ha a; intro a ha; refine q_want (yields ha rfl rfl) ?_; obtain ⟨x172, g173, gx174, hF⟩ := idx_some hF
          obtain ⟨p175, cs176, f177, hf178, hpb179, hat180, hr181, hi182⟩ := ha0.at g173 gx174
          obtain ⟨rfl, hI183, rfl⟩ := hr181
          refine q_g ha rfl (hi182.gives sl40 rfl rfl) ?_; clear ha a; intro a ha; refine q_want (yields ha rfl rfl) ?_; refine q_g ha rfl (g_load0 hE71 Try.isAgg2 rfl hat180.one) ?_; clear ha a; intro a ha; refine q_want (yields ha rfl rfl) ?_; refine q_g ha rfl (g_move rfl) ?_; clear ha a; intro a ha; refine q_want (yields ha rfl rfl) ?_; refine q_g ha rfl (g_move rfl) ?_; clear ha a; intro a ha; refine q_want (yields ha rfl rfl) ?_; obtain ⟨hI184, hF⟩ := ck_some hF; refine q_g ha rfl (g_sub rfl rfl hI184) ?_; clear ha a; intro a ha; refine q_want (yields ha rfl rfl) ?_; obtain ⟨x186, g187, gx188, hF⟩ := idx_some hF
          obtain ⟨p189, cs190, f191, hf192, hpb193, hat194, hr195, hi196⟩ := ha0.at g187 gx188
          obtain ⟨rfl, hI197, rfl⟩ := hr195
          refine q_g ha rfl (hi196.gives sl40 rfl rfl) ?_; clear ha a; intro a ha; refine q_want (yields ha rfl rfl) ?_; refine q_g ha rfl (g_load0 hE71 Try.isAgg2 rfl hat194.one) ?_; clear ha a; intro a ha; refine q_want (yields ha rfl rfl) ?_; refine q_g ha rfl (g_leq rfl rfl) ?_; clear ha a; intro a ha; refine q_want (yields ha rfl rfl) ?_; (iterate 2 refine q_g ha rfl (g_pick rfl rfl) ?_; clear ha a; intro a ha)
          refine q_nil ?_; intro w198 hx199
          have hE200 := Ext.trans hE71 hx199
          replace ha := ha.sub (σ' := [(0, va0), (1, (.int .i64 a1)), (5, (.int .i64 i69)), (25, (.int .i64 i69)), (26, (.bool true)), (27, (.bool true)), (28, va0), (29, (.int .i64 i69)), (30, (.pointer (some p175))), (31, (.int .i64 x172)), (32, va0), (33, (.int .i64 i69)), (34, (.int .i64 (i69 - 1))), (35, (.pointer (some p189))), (36, (.int .i64 x186)), (37, (.bool (decide (x172 ≤ x186)))), (38, (.bool (decide (x172 ≤ x186)))), (39, (.bool (decide (x172 ≤ x186))))]) ⟨rfl, rfl, rfl, rfl, rfl, rfl, rfl, rfl, rfl, rfl, rfl, rfl, rfl, rfl, rfl, rfl, rfl, rfl, trivial⟩; refine e_then ?_; refine c_cond (x172 ≤ x186) ha rfl (decide_eq_true_iff) (fun hp201 => ?_) (fun hp201 => ?_)
          · replace hF := if_t hp201 hF
            refine wp_seq ?_; refine wp_region_lit ?_; refine op_g ha rfl (g_assign rfl) ?_; clear ha a; intro a ha; refine wpList_nil ?_; replace ha := ha.sub (σ' := [(4, (.bool false))]) ⟨rfl, trivial⟩; refine e_then ?_; refine wp_ret ?_; refine e_blk_ret ?_; refine e_then_ret ?_; refine e_lq_ret ?_; refine e_then_ret ?_; obtain rfl := Option.some.inj hF
            have e202 := LK_inr hN143; subst e202
            have e203 := BK_inr hK139; subst e203
            exact f_ret1 ha rfl rfl ⟨rfl, hE200⟩
          replace hF := if_f hp201 hF; refine wp_skip ?_; refine e_blk ?_; refine e_then ?_; refine wp_region_lit ?_; refine op_g ha rfl (g_move rfl) ?_; clear ha a; intro a ha; obtain ⟨hI204, hF⟩ := ck_some hF; refine op_g ha rfl (g_add rfl rfl hI204) ?_; clear ha a; intro a ha; refine op_g ha rfl (g_assign rfl) ?_; clear ha a; intro a ha; refine wpList_nil ?_; replace ha := ha.sub (σ' := [(0, va0), (1, (.int .i64 a1)), (5, (.int .i64 (i69 + 1))), (25, (.int .i64 i69)), (26, (.bool true)), (27, (.bool true)), (28, va0), (29, (.int .i64 i69)), (30, (.pointer (some p175))), (31, (.int .i64 x172)), (32, va0), (33, (.int .i64 i69)), (34, (.int .i64 (i69 - 1))), (35, (.pointer (some p189))), (36, (.int .i64 x186)), (37, (.bool (decide (x172 ≤ x186)))), (38, (.bool (decide (x172 ≤ x186))))]) ⟨rfl, rfl, rfl, rfl, rfl, rfl, rfl, rfl, rfl, rfl, rfl, rfl, rfl, rfl, rfl, rfl, rfl, trivial⟩
          refine e_lq ?_; obtain rfl := Option.some.inj hF
          exact ⟨_, Nat.lt_succ_self _, i69 + 1, ha.sub ⟨rfl, rfl, rfl, trivial⟩, hE200, hI204, hN143⟩
        replace hF := if_f hp171 hF
        rw [show (decide (0 < i69)) = false from b_false (decide_eq_true_iff) hp171] at ha
        (iterate 10 refine q_unwant ha rfl (yields ha rfl rfl) rfl ?_; clear ha a; intro a ha); refine q_want (yields ha rfl rfl) ?_; (iterate 2 refine q_g ha rfl (g_pick rfl rfl) ?_; clear ha a; intro a ha)
        refine q_nil ?_; intro w206 hx207
        have hE208 := Ext.trans hE71 hx207
        replace ha := ha.sub (σ' := [(0, va0), (1, (.int .i64 a1)), (5, (.int .i64 i69)), (25, (.int .i64 i69)), (26, (.bool false)), (27, (.bool false)), (38, (.bool false)), (39, (.bool false))]) ⟨rfl, rfl, rfl, rfl, rfl, rfl, rfl, rfl, trivial⟩; refine e_then ?_; refine c_false ha rfl ?_; refine wp_skip ?_; refine e_blk ?_; refine e_then ?_; refine wp_region_lit ?_; refine op_g ha rfl (g_move rfl) ?_; clear ha a; intro a ha; obtain ⟨hI209, hF⟩ := ck_some hF; refine op_g ha rfl (g_add rfl rfl hI209) ?_; clear ha a; intro a ha; refine op_g ha rfl (g_assign rfl) ?_; clear ha a; intro a ha; refine wpList_nil ?_
        replace ha := ha.sub (σ' := [(0, va0), (1, (.int .i64 a1)), (5, (.int .i64 (i69 + 1))), (25, (.int .i64 i69)), (26, (.bool false)), (27, (.bool false)), (38, (.bool false))]) ⟨rfl, rfl, rfl, rfl, rfl, rfl, rfl, trivial⟩; refine e_lq ?_; obtain rfl := Option.some.inj hF
        exact ⟨_, Nat.lt_succ_self _, i69 + 1, ha.sub ⟨rfl, rfl, rfl, trivial⟩, hE208, hI209, hN143⟩
      replace hF := if_f hp146 hF; refine wp_exit ?_; refine e_then_exit ?_; refine e_lq_eq ?_; obtain rfl := Option.some.inj hF
      exact ⟨ha.sub trivial, hE71, (LK_inr hN143).symm⟩
  rintro a w136 ⟨ha, hE142, rfl⟩
  have hF : F_spec_l1Set_k2 = some _ := hK139; clear hK139; unfold F_spec_l1Set_k2 at hF
  refine e_then ?_; refine wp_seq ?_; refine wp_region_lit ?_; refine op_g ha rfl (g_assign rfl) ?_; clear ha a; intro a ha; refine wpList_nil ?_; refine e_then ?_; refine wp_ret ?_; obtain rfl := Option.some.inj hF
  exact f_ret1 ha rfl rfl ⟨rfl, hE142⟩
set_option maxHeartbeats 2000000 in
theorem W_spec_l1Has {W : World} {va0 : Value} {fa0 : List Nat} {a0 : (List Int)} (ha0 : Ro Rp.int W fa0 va0 a0) {a1 : Int} (ha1 : InI a1) {r : Bool} (hF : F_spec_l1Has a0 a1 = some r) :
    Calls Try.prog 59 [va0, .int .i64 a1].toArray W (Ret fun u w' => u = .bool r ∧ Ext W w') := by
  refine f_enter Try.func59 rfl Try.ntmps59 rfl ?_
  intro a ha
  replace ha : Fr 18 [(0, va0), (1, (.int .i64 a1))] a := ha
  have hE : Chg [] W W := Chg.refl _ _
  unfold F_spec_l1Has at hF
  refine wp_seq ?_; refine wp_region_lit ?_; refine op_g ha rfl (g_assign rfl) ?_; clear ha a; intro a ha; refine wpList_nil ?_; replace ha := ha.sub (σ' := [(0, va0), (1, (.int .i64 a1))]) ⟨rfl, rfl, trivial⟩; refine e_then ?_; refine wp_seq ?_; refine wp_seq ?_; refine wp_region_lit ?_; refine op_g ha rfl (g_assign rfl) ?_; clear ha a; intro a ha; refine wpList_nil ?_; refine e_then ?_; obtain ⟨o46, ho47, hK48⟩ := bnd_some hF
  obtain ⟨n49, hn50⟩ := lp_some ho47; clear ho47
  refine c_loop (fun a w => Fr 18 [] a ∧ Chg [] W w ∧ o46 = .inl ()) (fun n a w => ∃ (i23 : Int), Fr 18 [(0, va0), (1, (.int .i64 a1)), (5, (.int .i64 i23))] a ∧ Chg [] W w ∧ InI i23 ∧ lpN (fun s => F_spec_l1Has_l1 a0 a1 s) n i23 = some o46) n49 ⟨0, ha.sub ⟨rfl, rfl, rfl, trivial⟩, hE, (show InI 0 from by decide), hn50⟩ ?_ ?_
  · rintro m54 a w22 ⟨i23, ha, hE25, hI24, hF⟩
    cases m54 with
    | zero => exact (lpN_zero hF).elim
    | succ m54 =>
      obtain ⟨z53, hF, hN52⟩ := lpN_succ hF
      have hF : F_spec_l1Has_l1 a0 a1 i23 = some z53 := hF; unfold F_spec_l1Has_l1 at hF
      refine wp_seq ?_; refine wp_seq ?_; refine wp_region_lit ?_; (iterate 2 refine op_g ha rfl (g_move rfl) ?_; clear ha a; intro a ha); refine op_g ha rfl (g_lenR sl40.und ha0 rfl) ?_; clear ha a; intro a ha; refine op_g ha rfl (g_lss rfl rfl) ?_; clear ha a; intro a ha; refine wpList_nil ?_; replace ha := ha.sub (σ' := [(0, va0), (1, (.int .i64 a1)), (5, (.int .i64 i23)), (9, (.bool (decide (i23 < (a0.length : Int)))))]) ⟨rfl, rfl, rfl, rfl, trivial⟩; refine e_then ?_; refine c_cond (i23 < (a0.length : Int)) ha rfl (decide_eq_true_iff) (fun hp55 => ?_) (fun hp55 => ?_)
      · replace hF := if_t hp55 hF
        refine wp_skip ?_; refine e_then ?_; refine wp_seq ?_; refine wp_block ?_; refine wp_seq ?_; refine wp_region_lit ?_; (iterate 2 refine op_g ha rfl (g_move rfl) ?_; clear ha a; intro a ha); obtain ⟨x56, g57, gx58, hF⟩ := idx_some hF
        obtain ⟨p59, cs60, f61, hf62, hpb63, hat64, hr65, hi66⟩ := ha0.at g57 gx58
        obtain ⟨rfl, hI67, rfl⟩ := hr65
        refine op_g ha rfl (hi66.gives sl40 rfl rfl) ?_; clear ha a; intro a ha; refine op_g ha rfl (g_load0 hE25 Try.isAgg2 rfl hat64.one) ?_; clear ha a; intro a ha; refine op_g ha rfl (g_move rfl) ?_; clear ha a; intro a ha; refine op_g ha rfl (g_eql rfl rfl) ?_; clear ha a; intro a ha; refine wpList_nil ?_; replace ha := ha.sub (σ' := [(0, va0), (1, (.int .i64 a1)), (5, (.int .i64 i23)), (17, (.bool (decide (x56 = a1))))]) ⟨rfl, rfl, rfl, rfl, trivial⟩; refine e_then ?_; refine c_cond (x56 = a1) ha rfl (decide_eq_true_iff) (fun hp68 => ?_) (fun hp68 => ?_)
        · replace hF := if_t hp68 hF
          refine wp_seq ?_; refine wp_region_lit ?_; refine op_g ha rfl (g_assign rfl) ?_; clear ha a; intro a ha; refine wpList_nil ?_; replace ha := ha.sub (σ' := [(4, (.bool true))]) ⟨rfl, trivial⟩; refine e_then ?_; refine wp_ret ?_; refine e_blk_ret ?_; refine e_then_ret ?_; refine e_lq_ret ?_; refine e_then_ret ?_; obtain rfl := Option.some.inj hF
          have e69 := LK_inr hN52; subst e69
          have e70 := BK_inr hK48; subst e70
          exact f_ret1 ha rfl rfl ⟨rfl, hE25⟩
        replace hF := if_f hp68 hF; refine wp_skip ?_; refine e_blk ?_; refine e_then ?_; refine wp_region_lit ?_; refine op_g ha rfl (g_move rfl) ?_; clear ha a; intro a ha; obtain ⟨hI71, hF⟩ := ck_some hF; refine op_g ha rfl (g_add rfl rfl hI71) ?_; clear ha a; intro a ha; refine op_g ha rfl (g_assign rfl) ?_; clear ha a; intro a ha; refine wpList_nil ?_; replace ha := ha.sub (σ' := [(0, va0), (1, (.int .i64 a1)), (5, (.int .i64 (i23 + 1)))]) ⟨rfl, rfl, rfl, trivial⟩; refine e_lq ?_; obtain rfl := Option.some.inj hF
        exact ⟨_, Nat.lt_succ_self _, i23 + 1, ha.sub ⟨rfl, rfl, rfl, trivial⟩, hE25, hI71, hN52⟩
      replace hF := if_f hp55 hF; refine wp_exit ?_; refine e_then_exit ?_; refine e_lq_eq ?_; obtain rfl := Option.some.inj hF
      exact ⟨ha.sub trivial, hE25, (LK_inr hN52).symm⟩
  rintro a w45 ⟨ha, hE51, rfl⟩
  have hF : F_spec_l1Has_k2 = some _ := hK48; clear hK48; unfold F_spec_l1Has_k2 at hF
  refine e_then ?_; refine wp_seq ?_; refine wp_region_lit ?_; refine op_g ha rfl (g_assign rfl) ?_; clear ha a; intro a ha; refine wpList_nil ?_; refine e_then ?_; refine wp_ret ?_; obtain rfl := Option.some.inj hF
  exact f_ret1 ha rfl rfl ⟨rfl, hE51⟩
set_option maxHeartbeats 2000000 in
theorem W_spec_GraphOk {W : World} {va0_0 : Value} {fa0_0 : List Nat} {a0_0 : (List (List Int))} (ha0_0 : Ro (Rp.sl 2 Rp.int) W fa0_0 va0_0 a0_0) {r : Bool} (hF : F_spec_GraphOk a0_0 = some r) :
    Calls Try.prog 48 [.agg #[va0_0]].toArray W (Ret fun u w' => u = .bool r ∧ Ext W w') := by
  refine f_enter Try.func48 rfl Try.ntmps48 rfl ?_
  intro a ha
  replace ha : Fr 64 [(0, (.agg #[va0_0]))] a := ha
  have hE : Chg [] W W := Chg.refl _ _
  unfold F_spec_GraphOk at hF
  refine wp_seq ?_; refine wp_region_lit ?_
  refine o_box ha rfl rfl rfl ?_; clear ha a; intro b1 w2 hB3 hx4 hlo5 a ha
  have q6 := Zn.one hlo5
  have q7 := Zn.upD q6 hE
  have hE8 := Ext.trans hE hx4
  refine op_g ha rfl (g_assign rfl) ?_; clear ha a; intro a ha; refine wpList_nil ?_; replace ha := ha.sub (σ' := [(1, (.pointer (some ⟨b1, 0, none⟩)))]) ⟨rfl, trivial⟩; refine e_then ?_; refine wp_seq ?_; refine wp_region_lit ?_; refine op_g ha rfl (g_loadA (cs := [va0_0]) Try.isAgg31 Try.sizeOf31 rfl (by simp) hB3.all) ?_; clear ha a; intro a ha; obtain ⟨x9, hc10, hF⟩ := cal_some hF
  refine o_call ha rfl rfl Try.call47 (W_spec_l1Size (ha0_0.ext hE8) hc10) ?_; clear ha a; rintro v11 w12 ⟨⟨rfl, hI14⟩, hx13⟩ a ha
  replace hB3 := hB3.ext hx13
  have hE15 := Ext.trans hE8 hx13
  refine op_g ha rfl (g_assign rfl) ?_; clear ha a; intro a ha; refine wpList_nil ?_; replace ha := ha.sub (σ' := [(1, (.pointer (some ⟨b1, 0, none⟩))), (3, (.int .i64 x9))]) ⟨rfl, rfl, trivial⟩; refine e_then ?_; refine wp_seq ?_; refine wp_seq ?_; refine wp_region_lit ?_; refine op_g ha rfl (g_move rfl) ?_; clear ha a; intro a ha; obtain ⟨x16, hc17, hF⟩ := cal_some hF
  refine o_call ha rfl rfl Try.call46 (W_spec_l1In hI14 (show InI 1 from by decide) (show InI 16 from by decide) hc17) ?_; clear ha a; rintro v18 w19 ⟨rfl, hx20⟩ a ha
  replace hB3 := hB3.ext hx20
  have hE21 := Ext.trans hE15 hx20
  refine op_g ha rfl (g_not rfl) ?_; clear ha a; intro a ha; refine wpList_nil ?_; replace ha := ha.sub (σ' := [(1, (.pointer (some ⟨b1, 0, none⟩))), (3, (.int .i64 x9)), (11, (.bool (!x16)))]) ⟨rfl, rfl, rfl, trivial⟩; refine e_then ?_; refine c_cond (¬ (x16 = true)) ha rfl (n_iff (Iff.rfl)) (fun hp22 => ?_) (fun hp22 => ?_)
  · replace hF := if_t hp22 hF
    refine wp_seq ?_; refine wp_region_lit ?_; refine op_g ha rfl (g_assign rfl) ?_; clear ha a; intro a ha; refine wpList_nil ?_; replace ha := ha.sub (σ' := [(2, (.bool false))]) ⟨rfl, trivial⟩; refine e_then ?_; refine wp_ret ?_; refine e_then_ret ?_; obtain rfl := Option.some.inj hF
    exact f_ret1 ha rfl rfl ⟨rfl, hE21⟩
  replace hF := if_f hp22 hF; refine wp_skip ?_; refine e_then ?_; refine wp_seq ?_; refine wp_seq ?_; refine wp_region_lit ?_; refine op_g ha rfl (g_assign rfl) ?_; clear ha a; intro a ha; refine wpList_nil ?_; replace ha := ha.sub (σ' := [(1, (.pointer (some ⟨b1, 0, none⟩))), (3, (.int .i64 x9)), (4, (.int .i64 0))]) ⟨rfl, rfl, rfl, trivial⟩; refine e_then ?_; obtain ⟨o136, ho137, hK138⟩ := bnd_some hF
  obtain ⟨n139, hn140⟩ := lp_some ho137; clear ho137
  refine c_loop (fun a w => Fr 64 [(1, (.pointer (some ⟨b1, 0, none⟩))), (3, (.int .i64 x9))] a ∧ Chg [] W w ∧ Bx w b1 [va0_0] 31 ∧ Zn W (b1 : Int) ∧ o136 = .inl ()) (fun n a w => ∃ (i80 : Int), Fr 64 [(1, (.pointer (some ⟨b1, 0, none⟩))), (3, (.int .i64 x9)), (4, (.int .i64 i80))] a ∧ Chg [] W w ∧ InI i80 ∧ Bx w b1 [va0_0] 31 ∧ Zn W (b1 : Int) ∧ lpN (fun s => F_spec_GraphOk_l1 a0_0 x9 s) n i80 = some o136) n139 ⟨0, ha.sub ⟨rfl, rfl, rfl, trivial⟩, hE21, (show InI 0 from by decide), hB3, q7, hn140⟩ ?_ ?_
  · rintro m144 a w77 ⟨i80, ha, hE82, hI81, hB78, z79, hF⟩
    cases m144 with
    | zero => exact (lpN_zero hF).elim
    | succ m144 =>
      obtain ⟨z143, hF, hN142⟩ := lpN_succ hF
      have hF : F_spec_GraphOk_l1 a0_0 x9 i80 = some z143 := hF; unfold F_spec_GraphOk_l1 at hF
      refine wp_seq ?_; refine wp_seq ?_; refine wp_region_lit ?_; (iterate 2 refine op_g ha rfl (g_move rfl) ?_; clear ha a; intro a ha); refine op_g ha rfl (g_lss rfl rfl) ?_; clear ha a; intro a ha; refine wpList_nil ?_; replace ha := ha.sub (σ' := [(1, (.pointer (some ⟨b1, 0, none⟩))), (3, (.int .i64 x9)), (4, (.int .i64 i80)), (14, (.bool (decide (i80 < x9))))]) ⟨rfl, rfl, rfl, rfl, trivial⟩; refine e_then ?_; refine c_cond (i80 < x9) ha rfl (decide_eq_true_iff) (fun hp145 => ?_) (fun hp145 => ?_)
      · replace hF := if_t hp145 hF
        refine wp_skip ?_; refine e_then ?_; refine wp_seq ?_; refine wp_block ?_; refine wp_seq ?_; refine wp_region_lit ?_; refine op_g ha rfl (g_field0 st31_0 rfl) ?_; clear ha a; intro a ha; refine op_g ha rfl (g_load Try.isAgg22 rfl (hB78.cell rfl)) ?_; clear ha a; intro a ha; refine op_g ha rfl (g_move rfl) ?_; clear ha a; intro a ha; obtain ⟨x146, g147, gx148, hF⟩ := idx_some hF
        obtain ⟨p149, cs150, f151, hf152, hpb153, hat154, hr155, hi156⟩ := ha0_0.at g147 gx148
        obtain ⟨v157, rfl, h158⟩ := hr155
        have h158 : Ro Rp.int W f151 v157 x146 := h158
        refine op_g ha rfl (hi156.gives sl22 rfl rfl) ?_; clear ha a; intro a ha; refine op_g ha rfl (g_load0 hE82 Try.isAgg40 rfl hat154.one) ?_; clear ha a; intro a ha; refine op_g ha rfl (g_move rfl) ?_; clear ha a; intro a ha; obtain ⟨x160, hc161, hF⟩ := cal_some hF
        refine o_call ha rfl rfl Try.call49 (W_spec_l1Set (h158.ext hE82) hI14 hc161) ?_; clear ha a; rintro v162 w163 ⟨rfl, hx164⟩ a ha
        replace hB78 := hB78.ext hx164
        have hE165 := Ext.trans hE82 hx164
        refine op_g ha rfl (g_not rfl) ?_; clear ha a; intro a ha; refine op_g ha rfl (g_move rfl) ?_; clear ha a; intro a ha
        by_cases hp166 : ¬ (x160 = true)
        · replace hF := if_t hp166 hF
          rw [show (!x160) = true from (n_iff (Iff.rfl)).2 hp166] at ha
          (iterate 7 refine op_unwant ha rfl (yields ha rfl rfl) rfl ?_; clear ha a; intro a ha); refine op_g ha rfl (g_pick rfl rfl) ?_; clear ha a; intro a ha; refine wpList_nil ?_; replace ha := ha.sub (σ' := [(1, (.pointer (some ⟨b1, 0, none⟩))), (3, (.int .i64 x9)), (4, (.int .i64 i80)), (33, (.bool true))]) ⟨rfl, rfl, rfl, rfl, trivial⟩; refine e_then ?_; refine c_true ha rfl ?_; refine wp_seq ?_; refine wp_region_lit ?_; refine op_g ha rfl (g_assign rfl) ?_; clear ha a; intro a ha; refine wpList_nil ?_; replace ha := ha.sub (σ' := [(2, (.bool false))]) ⟨rfl, trivial⟩; refine e_then ?_; refine wp_ret ?_
          refine e_blk_ret ?_; refine e_then_ret ?_; refine e_lq_ret ?_; refine e_then_ret ?_; obtain rfl := Option.some.inj hF
          have e167 := LK_inr hN142; subst e167
          have e168 := BK_inr hK138; subst e168
          exact f_ret1 ha rfl rfl ⟨rfl, hE165⟩
        replace hF := if_f hp166 hF
        rw [show (!x160) = false from b_false (n_iff (Iff.rfl)) hp166] at ha
        refine op_want (yields ha rfl rfl) ?_; refine op_g ha rfl (g_field0 st31_0 rfl) ?_; clear ha a; intro a ha; refine op_want (yields ha rfl rfl) ?_; refine op_g ha rfl (g_load Try.isAgg22 rfl (hB78.cell rfl)) ?_; clear ha a; intro a ha; refine op_want (yields ha rfl rfl) ?_; refine op_g ha rfl (g_move rfl) ?_; clear ha a; intro a ha; refine op_want (yields ha rfl rfl) ?_; obtain ⟨x169, g170, gx171, hF⟩ := idx_some hF
        obtain ⟨p172, cs173, f174, hf175, hpb176, hat177, hr178, hi179⟩ := ha0_0.at g170 gx171
        obtain ⟨v180, rfl, h181⟩ := hr178
        have h181 : Ro Rp.int W f174 v180 x169 := h181
        refine op_g ha rfl (hi179.gives sl22 rfl rfl) ?_; clear ha a; intro a ha; refine op_want (yields ha rfl rfl) ?_; refine op_g ha rfl (g_load0 hE165 Try.isAgg40 rfl hat177.one) ?_; clear ha a; intro a ha; refine op_want (yields ha rfl rfl) ?_; refine op_g ha rfl (g_move rfl) ?_; clear ha a; intro a ha; refine op_want (yields ha rfl rfl) ?_; obtain ⟨x183, hc184, hF⟩ := cal_some hF
        refine o_call ha rfl rfl Try.call59 (W_spec_l1Has (h181.ext hE165) hI81 hc184) ?_; clear ha a; rintro v185 w186 ⟨rfl, hx187⟩ a ha
        replace hB78 := hB78.ext hx187
        have hE188 := Ext.trans hE165 hx187
        refine op_g ha rfl (g_pick rfl rfl) ?_; clear ha a; intro a ha; refine wpList_nil ?_; replace ha := ha.sub (σ' := [(1, (.pointer (some ⟨b1, 0, none⟩))), (3, (.int .i64 x9)), (4, (.int .i64 i80)), (26, (.pointer (some ⟨b1, 0, none⟩))), (27, va0_0), (28, (.int .i64 i80)), (29, (.pointer (some p172))), (30, v180), (31, (.int .i64 i80)), (32, (.bool x183)), (33, (.bool x183))]) ⟨rfl, rfl, rfl, rfl, rfl, rfl, rfl, rfl, rfl, rfl, rfl, trivial⟩; refine e_then ?_; refine c_cond (x183 = true) ha rfl (Iff.rfl) (fun hp189 => ?_) (fun hp189 => ?_)
        · replace hF := if_t hp189 hF
          refine wp_seq ?_; refine wp_region_lit ?_; refine op_g ha rfl (g_assign rfl) ?_; clear ha a; intro a ha; refine wpList_nil ?_; replace ha := ha.sub (σ' := [(2, (.bool false))]) ⟨rfl, trivial⟩; refine e_then ?_; refine wp_ret ?_; refine e_blk_ret ?_; refine e_then_ret ?_; refine e_lq_ret ?_; refine e_then_ret ?_; obtain rfl := Option.some.inj hF
          have e190 := LK_inr hN142; subst e190
          have e191 := BK_inr hK138; subst e191
          exact f_ret1 ha rfl rfl ⟨rfl, hE188⟩
        replace hF := if_f hp189 hF; refine wp_skip ?_; refine e_blk ?_; refine e_then ?_; refine wp_region_lit ?_; refine op_g ha rfl (g_move rfl) ?_; clear ha a; intro a ha; obtain ⟨hI192, hF⟩ := ck_some hF; refine op_g ha rfl (g_add rfl rfl hI192) ?_; clear ha a; intro a ha; refine op_g ha rfl (g_assign rfl) ?_; clear ha a; intro a ha; refine wpList_nil ?_; replace ha := ha.sub (σ' := [(1, (.pointer (some ⟨b1, 0, none⟩))), (3, (.int .i64 x9)), (4, (.int .i64 (i80 + 1))), (26, (.pointer (some ⟨b1, 0, none⟩))), (27, va0_0), (28, (.int .i64 i80)), (29, (.pointer (some p172))), (30, v180), (31, (.int .i64 i80)), (32, (.bool x183))]) ⟨rfl, rfl, rfl, rfl, rfl, rfl, rfl, rfl, rfl, rfl, trivial⟩
        refine e_lq ?_; obtain rfl := Option.some.inj hF
        exact ⟨_, Nat.lt_succ_self _, i80 + 1, ha.sub ⟨rfl, rfl, rfl, trivial⟩, hE188, hI192, hB78, z79, hN142⟩
      replace hF := if_f hp145 hF; refine wp_exit ?_; refine e_then_exit ?_; refine e_lq_eq ?_; obtain rfl := Option.some.inj hF
      exact ⟨ha.sub ⟨rfl, rfl, trivial⟩, hE82, hB78, z79, (LK_inr hN142).symm⟩
  rintro a w133 ⟨ha, hE141, hB134, z135, rfl⟩
  have hF : F_spec_GraphOk_k2 a0_0 x9 = some _ := hK138; clear hK138; unfold F_spec_GraphOk_k2 at hF
  refine e_then ?_; refine wp_seq ?_; refine wp_seq ?_; refine wp_region_lit ?_; refine op_g ha rfl (g_assign rfl) ?_; clear ha a; intro a ha; refine wpList_nil ?_; refine e_then ?_; obtain ⟨o675, ho676, hK677⟩ := bnd_some hF
  obtain ⟨n678, hn679⟩ := lp_some ho676; clear ho676
  refine c_loop (fun a w => Fr 64 [] a ∧ Chg [] W w ∧ o675 = .inl ()) (fun n a w => ∃ (i436 : Int), Fr 64 [(1, (.pointer (some ⟨b1, 0, none⟩))), (3, (.int .i64 x9)), (5, (.int .i64 i436))] a ∧ Chg [] W w ∧ InI i436 ∧ Bx w b1 [va0_0] 31 ∧ Zn W (b1 : Int) ∧ lpN (fun s => F_spec_GraphOk_l3 a0_0 x9 s) n i436 = some o675) n678 ⟨0, ha.sub ⟨rfl, rfl, rfl, trivial⟩, hE141, (show InI 0 from by decide), hB134, z135, hn679⟩ ?_ ?_
  · rintro m683 a w433 ⟨i436, ha, hE438, hI437, hB434, z435, hF⟩
    cases m683 with
    | zero => exact (lpN_zero hF).elim
    | succ m683 =>
      obtain ⟨z682, hF, hN681⟩ := lpN_succ hF
      have hF : F_spec_GraphOk_l3 a0_0 x9 i436 = some z682 := hF; unfold F_spec_GraphOk_l3 at hF
      refine wp_seq ?_; refine wp_seq ?_; refine wp_region_lit ?_; (iterate 2 refine op_g ha rfl (g_move rfl) ?_; clear ha a; intro a ha); refine op_g ha rfl (g_lss rfl rfl) ?_; clear ha a; intro a ha; refine wpList_nil ?_; replace ha := ha.sub (σ' := [(1, (.pointer (some ⟨b1, 0, none⟩))), (3, (.int .i64 x9)), (5, (.int .i64 i436)), (36, (.bool (decide (i436 < x9))))]) ⟨rfl, rfl, rfl, rfl, trivial⟩; refine e_then ?_; refine c_cond (i436 < x9) ha rfl (decide_eq_true_iff) (fun hp684 => ?_) (fun hp684 => ?_)
      · replace hF := if_t hp684 hF
        refine wp_skip ?_; refine e_then ?_; refine wp_seq ?_; refine wp_block ?_; refine wp_seq ?_; refine wp_region_lit ?_; refine op_g ha rfl (g_assign rfl) ?_; clear ha a; intro a ha; refine wpList_nil ?_; replace ha := ha.sub (σ' := [(1, (.pointer (some ⟨b1, 0, none⟩))), (3, (.int .i64 x9)), (5, (.int .i64 i436)), (6, (.int .i64 0))]) ⟨rfl, rfl, rfl, rfl, trivial⟩; refine e_then ?_; obtain ⟨o838, ho839, hK840⟩ := bnd_some hF
        obtain ⟨n841, hn842⟩ := lp_some ho839; clear ho839
        refine c_loop (fun a w => Fr 64 [(1, (.pointer (some ⟨b1, 0, none⟩))), (3, (.int .i64 x9)), (5, (.int .i64 i436))] a ∧ Chg [] W w ∧ Bx w b1 [va0_0] 31 ∧ Zn W (b1 : Int) ∧ o838 = .inl ()) (fun n a w => ∃ (i762 : Int), Fr 64 [(1, (.pointer (some ⟨b1, 0, none⟩))), (3, (.int .i64 x9)), (5, (.int .i64 i436)), (6, (.int .i64 i762))] a ∧ Chg [] W w ∧ InI i762 ∧ Bx w b1 [va0_0] 31 ∧ Zn W (b1 : Int) ∧ lpN (fun s => F_spec_GraphOk_l4 a0_0 i436 s) n i762 = some o838) n841 ⟨0, ha.sub ⟨rfl, rfl, rfl, rfl, trivial⟩, hE438, (show InI 0 from by decide), hB434, z435, hn842⟩ ?_ ?_
        · rintro m846 a w759 ⟨i762, ha, hE764, hI763, hB760, z761, hF⟩
          cases m846 with
          | zero => exact (lpN_zero hF).elim
          | succ m846 =>
            obtain ⟨z845, hF, hN844⟩ := lpN_succ hF
            have hF : F_spec_GraphOk_l4 a0_0 i436 i762 = some z845 := hF; unfold F_spec_GraphOk_l4 at hF
            refine wp_seq ?_; refine wp_seq ?_; refine wp_region_lit ?_; refine op_g ha rfl (g_move rfl) ?_; clear ha a; intro a ha; refine op_g ha rfl (g_field0 st31_0 rfl) ?_; clear ha a; intro a ha; refine op_g ha rfl (g_load Try.isAgg22 rfl (hB760.cell rfl)) ?_; clear ha a; intro a ha; refine op_g ha rfl (g_move rfl) ?_; clear ha a; intro a ha; obtain ⟨x847, g848, gx849, hF⟩ := idx_some hF
            obtain ⟨p850, cs851, f852, hf853, hpb854, hat855, hr856, hi857⟩ := ha0_0.at g848 gx849
            obtain ⟨v858, rfl, h859⟩ := hr856
            have h859 : Ro Rp.int W f852 v858 x847 := h859
            refine op_g ha rfl (hi857.gives sl22 rfl rfl) ?_; clear ha a; intro a ha; refine op_g ha rfl (g_load0 hE764 Try.isAgg40 rfl hat855.one) ?_; clear ha a; intro a ha; refine op_g ha rfl (g_lenR sl40.und h859 rfl) ?_; clear ha a; intro a ha; refine op_g ha rfl (g_lss rfl rfl) ?_; clear ha a; intro a ha; refine wpList_nil ?_; replace ha := ha.sub (σ' := [(1, (.pointer (some ⟨b1, 0, none⟩))), (3, (.int .i64 x9)), (5, (.int .i64 i436)), (6, (.int .i64 i762)), (46, (.bool (decide (i762 < (x847.length : Int)))))]) ⟨rfl, rfl, rfl, rfl, rfl, trivial⟩; refine e_then ?_; refine c_cond (i762 < (x847.length : Int)) ha rfl (decide_eq_true_iff) (fun hp861 => ?_) (fun hp861 => ?_)
            · replace hF := if_t hp861 hF
              refine wp_skip ?_; refine e_then ?_; refine wp_seq ?_; refine wp_block ?_; refine wp_seq ?_; refine d_quiet hmix (by kernel_rfl) ?_; refine q_g ha rfl (g_field0 st31_0 rfl) ?_; clear ha a; intro a ha; refine q_g ha rfl (g_load Try.isAgg22 rfl (hB760.cell rfl)) ?_; clear ha a; intro a ha; refine q_g ha rfl (g_field0 st31_0 rfl) ?_; clear ha a; intro a ha; refine q_g ha rfl (g_load Try.isAgg22 rfl (hB760.cell rfl)) ?_; clear ha a; intro a ha; refine q_g ha rfl (g_move rfl) ?_; clear ha a; intro a ha; obtain ⟨x862, g863, gx864, hF⟩ := idx_some hF
              obtain ⟨p865, cs866, f867, hf868, hpb869, hat870, hr871, hi872⟩ := ha0_0.at g863 gx864
              obtain ⟨v873, rfl, h874⟩ := hr871
              have h874 : Ro Rp.int W f867 v873 x862 := h874
              refine q_g ha rfl (hi872.gives sl22 rfl rfl) ?_; clear ha a; intro a ha; refine q_g ha rfl (g_load0 hE764 Try.isAgg40 rfl hat870.one) ?_; clear ha a; intro a ha; refine q_g ha rfl (g_move rfl) ?_; clear ha a; intro a ha; obtain ⟨x876, g877, gx878, hF⟩ := idx_some hF
              obtain ⟨p879, cs880, f881, hf882, hpb883, hat884, hr885, hi886⟩ := h874.at g877 gx878
              obtain ⟨rfl, hI887, rfl⟩ := hr885
              refine q_g ha rfl (hi886.gives sl40 rfl rfl) ?_; clear ha a; intro a ha; refine q_g ha rfl (g_load0 hE764 Try.isAgg2 rfl hat884.one) ?_; clear ha a; intro a ha; obtain ⟨x888, g889, gx890, hF⟩ := idx_some hF
              obtain ⟨p891, cs892, f893, hf894, hpb895, hat896, hr897, hi898⟩ := ha0_0.at g889 gx890
              obtain ⟨v899, rfl, h900⟩ := hr897
              have h900 : Ro Rp.int W f893 v899 x888 := h900
              refine q_g ha rfl (hi898.gives sl22 rfl rfl) ?_; clear ha a; intro a ha; refine q_g ha rfl (g_load0 hE764 Try.isAgg40 rfl hat896.one) ?_; clear ha a; intro a ha; refine q_g ha rfl (g_move rfl) ?_; clear ha a; intro a ha; obtain ⟨x904, hc905, hF⟩ := cal_some hF; refine q_call (.bool x904) ha rfl rfl Try.call59 (fun w903 hx902 => W_spec_l1Has (h900.ext (Ext.trans hE764 hx902)) hI437 hc905) (fun _ _ _ h => ⟨h.1, h.2⟩) ?_; clear ha a; intro a ha; refine q_g ha rfl (g_not rfl) ?_; clear ha a; intro a ha
              refine q_nil ?_; intro w906 hx907
              replace hB760 := hB760.ext hx907
              have hE908 := Ext.trans hE764 hx907
              replace ha := ha.sub (σ' := [(1, (.pointer (some ⟨b1, 0, none⟩))), (3, (.int .i64 x9)), (5, (.int .i64 i436)), (6, (.int .i64 i762)), (63, (.bool (!x904)))]) ⟨rfl, rfl, rfl, rfl, rfl, trivial⟩; refine e_then ?_; refine c_cond (¬ (x904 = true)) ha rfl (n_iff (Iff.rfl)) (fun hp909 => ?_) (fun hp909 => ?_)
              · replace hF := if_t hp909 hF
                refine wp_seq ?_; refine wp_region_lit ?_; refine op_g ha rfl (g_assign rfl) ?_; clear ha a; intro a ha; refine wpList_nil ?_; replace ha := ha.sub (σ' := [(2, (.bool false))]) ⟨rfl, trivial⟩; refine e_then ?_; refine wp_ret ?_; refine e_blk_ret ?_; refine e_then_ret ?_; refine e_lq_ret ?_; refine e_blk_ret ?_; refine e_then_ret ?_; refine e_lq_ret ?_; refine e_then_ret ?_; obtain rfl := Option.some.inj hF
                have e910 := LK_inr hN844; subst e910
                have e911 := BK_inr hK840; subst e911
                have e912 := LK_inr hN681; subst e912
                have e913 := BK_inr hK677; subst e913
                exact f_ret1 ha rfl rfl ⟨rfl, hE908⟩
              replace hF := if_f hp909 hF; refine wp_skip ?_; refine e_blk ?_; refine e_then ?_; refine wp_region_lit ?_; refine op_g ha rfl (g_move rfl) ?_; clear ha a; intro a ha; obtain ⟨hI914, hF⟩ := ck_some hF; refine op_g ha rfl (g_add rfl rfl hI914) ?_; clear ha a; intro a ha; refine op_g ha rfl (g_assign rfl) ?_; clear ha a; intro a ha; refine wpList_nil ?_; replace ha := ha.sub (σ' := [(1, (.pointer (some ⟨b1, 0, none⟩))), (3, (.int .i64 x9)), (5, (.int .i64 i436)), (6, (.int .i64 (i762 + 1)))]) ⟨rfl, rfl, rfl, rfl, trivial⟩; refine e_lq ?_; obtain rfl := Option.some.inj hF
              exact ⟨_, Nat.lt_succ_self _, i762 + 1, ha.sub ⟨rfl, rfl, rfl, rfl, trivial⟩, hE908, hI914, hB760, z761, hN844⟩
            replace hF := if_f hp861 hF; refine wp_exit ?_; refine e_then_exit ?_; refine e_lq_eq ?_; obtain rfl := Option.some.inj hF
            exact ⟨ha.sub ⟨rfl, rfl, rfl, trivial⟩, hE764, hB760, z761, (LK_inr hN844).symm⟩
        rintro a w835 ⟨ha, hE843, hB836, z837, rfl⟩
        have hF : F_spec_GraphOk_k5 i436 = some _ := hK840; clear hK840; unfold F_spec_GraphOk_k5 at hF
        refine e_blk ?_; refine e_then ?_; refine wp_region_lit ?_; refine op_g ha rfl (g_move rfl) ?_; clear ha a; intro a ha; obtain ⟨hI916, hF⟩ := ck_some hF; refine op_g ha rfl (g_add rfl rfl hI916) ?_; clear ha a; intro a ha; refine op_g ha rfl (g_assign rfl) ?_; clear ha a; intro a ha; refine wpList_nil ?_; replace ha := ha.sub (σ' := [(1, (.pointer (some ⟨b1, 0, none⟩))), (3, (.int .i64 x9)), (5, (.int .i64 (i436 + 1)))]) ⟨rfl, rfl, rfl, trivial⟩; refine e_lq ?_; obtain rfl := Option.some.inj hF
        exact ⟨_, Nat.lt_succ_self _, i436 + 1, ha.sub ⟨rfl, rfl, rfl, trivial⟩, hE843, hI916, hB836, z837, hN681⟩
      replace hF := if_f hp684 hF; refine wp_exit ?_; refine e_then_exit ?_; refine e_lq_eq ?_; obtain rfl := Option.some.inj hF
      exact ⟨ha.sub trivial, hE438, (LK_inr hN681).symm⟩
  rintro a w674 ⟨ha, hE680, rfl⟩
  have hF : F_spec_GraphOk_k6 = some _ := hK677; clear hK677; unfold F_spec_GraphOk_k6 at hF
  refine e_then ?_; refine wp_seq ?_; refine wp_region_lit ?_; refine op_g ha rfl (g_assign rfl) ?_; clear ha a; intro a ha; refine wpList_nil ?_; refine e_then ?_; refine wp_ret ?_; obtain rfl := Option.some.inj hF
  exact f_ret1 ha rfl rfl ⟨rfl, hE680⟩
set_option maxHeartbeats 2000000 in
theorem W_spec_l26Small {W : World} {va0_0 : Value} {fa0_0 : List Nat} {a0_0 : (List (List Int))} (ha0_0 : Ro (Rp.sl 2 Rp.int) W fa0_0 va0_0 a0_0) {r : Bool} (hF : F_spec_l26Small a0_0 = some r) :
    Calls Try.prog 34 [.agg #[va0_0]].toArray W (Ret fun u w' => u = .bool r ∧ Ext W w') := by
  refine f_enter Try.func34 rfl Try.ntmps34 rfl ?_
  intro a ha
  replace ha : Fr 11 [(0, (.agg #[va0_0]))] a := ha
  have hE : Chg [] W W := Chg.refl _ _
  unfold F_spec_l26Small at hF
  refine wp_seq ?_; refine wp_region_lit ?_
  refine o_box ha rfl rfl rfl ?_; clear ha a; intro b1 w2 hB3 hx4 hlo5 a ha
  have q6 := Zn.one hlo5
  have q7 := Zn.upD q6 hE
  have hE8 := Ext.trans hE hx4
  refine op_g ha rfl (g_assign rfl) ?_; clear ha a; intro a ha; refine wpList_nil ?_; replace ha := ha.sub (σ' := [(1, (.pointer (some ⟨b1, 0, none⟩)))]) ⟨rfl, trivial⟩; refine e_then ?_; refine wp_seq ?_; refine wp_region_lit ?_; refine op_g ha rfl (g_loadA (cs := [va0_0]) Try.isAgg31 Try.sizeOf31 rfl (by simp) hB3.all) ?_; clear ha a; intro a ha; obtain ⟨x9, hc10, hF⟩ := cal_some hF
  refine o_call ha rfl rfl Try.call48 (W_spec_GraphOk (ha0_0.ext hE8) hc10) ?_; clear ha a; rintro v11 w12 ⟨rfl, hx13⟩ a ha
  replace hB3 := hB3.ext hx13
  have hE14 := Ext.trans hE8 hx13
  refine op_g ha rfl (g_move rfl) ?_; clear ha a; intro a ha
  by_cases hp15 : x9 = true
  · replace hF := if_t hp15 hF
    rw [show (x9) = true from (Iff.rfl).2 hp15] at ha
    refine op_want (yields ha rfl rfl) ?_; refine op_g ha rfl (g_field0 st31_0 rfl) ?_; clear ha a; intro a ha; refine op_want (yields ha rfl rfl) ?_; refine op_g ha rfl (g_load Try.isAgg22 rfl (hB3.cell rfl)) ?_; clear ha a; intro a ha; refine op_want (yields ha rfl rfl) ?_; refine op_g ha rfl (g_lenR sl22.und ha0_0 rfl) ?_; clear ha a; intro a ha; refine op_want (yields ha rfl rfl) ?_; refine op_g ha rfl (g_leq rfl rfl) ?_; clear ha a; intro a ha; refine op_g ha rfl (g_pick rfl rfl) ?_; clear ha a; intro a ha; refine op_g ha rfl (g_assign rfl) ?_; clear ha a; intro a ha; refine wpList_nil ?_
    replace ha := ha.sub (σ' := [(2, (.bool (decide ((a0_0.length : Int) ≤ 8))))]) ⟨rfl, trivial⟩; refine e_then ?_; refine wp_ret ?_; obtain rfl := Option.some.inj hF
    exact f_ret1 ha rfl rfl ⟨rfl, hE14⟩
  replace hF := if_f hp15 hF
  rw [show (x9) = false from b_false (Iff.rfl) hp15] at ha
  (iterate 4 refine op_unwant ha rfl (yields ha rfl rfl) rfl ?_; clear ha a; intro a ha); refine op_g ha rfl (g_pick rfl rfl) ?_; clear ha a; intro a ha; refine op_g ha rfl (g_assign rfl) ?_; clear ha a; intro a ha; refine wpList_nil ?_; replace ha := ha.sub (σ' := [(2, (.bool false))]) ⟨rfl, trivial⟩; refine e_then ?_; refine wp_ret ?_; obtain rfl := Option.some.inj hF
  exact f_ret1 ha rfl rfl ⟨rfl, hE14⟩
set_option maxHeartbeats 2000000 in
theorem W_spec_l30Name {W : World} {a0 : Int} (ha0 : InI a0) {r : Bool} (hF : F_spec_l30Name a0 = some r) :
    Calls Try.prog 61 [.int .i64 a0].toArray W (Ret fun u w' => u = .bool r ∧ Ext W w') := by
  refine f_enter Try.func61 rfl Try.ntmps61 rfl ?_
  intro a ha
  replace ha : Fr 5 [(0, (.int .i64 a0))] a := ha
  have hE : Chg [] W W := Chg.refl _ _
  unfold F_spec_l30Name at hF
  refine wp_seq ?_; refine wp_region_lit ?_; refine op_g ha rfl (g_assign rfl) ?_; clear ha a; intro a ha; refine wpList_nil ?_; replace ha := ha.sub (σ' := [(0, (.int .i64 a0))]) ⟨rfl, trivial⟩; refine e_then ?_; refine wp_seq ?_; refine wp_region_lit ?_; refine op_g ha rfl (g_move rfl) ?_; clear ha a; intro a ha; obtain ⟨x1, hc2, hF⟩ := cal_some hF
  refine o_call ha rfl rfl Try.call46 (W_spec_l1In ha0 (show InI 0 from by decide) (show InI 2 from by decide) hc2) ?_; clear ha a; rintro v3 w4 ⟨rfl, hx5⟩ a ha
  have hE6 := Ext.trans hE hx5
  refine op_g ha rfl (g_assign rfl) ?_; clear ha a; intro a ha; refine wpList_nil ?_; replace ha := ha.sub (σ' := [(2, (.bool x1))]) ⟨rfl, trivial⟩; refine e_then ?_; refine wp_ret ?_; obtain rfl := Option.some.inj hF
  exact f_ret1 ha rfl rfl ⟨rfl, hE6⟩
set_option maxHeartbeats 2000000 in
theorem W_spec_l30SetName {W : World} {a0 : Int} (ha0 : InI a0) {r : Bool} (hF : F_spec_l30SetName a0 = some r) :
    Calls Try.prog 62 [.int .i64 a0].toArray W (Ret fun u w' => u = .bool r ∧ Ext W w') := by
  refine f_enter Try.func62 rfl Try.ntmps62 rfl ?_
  intro a ha
  replace ha : Fr 5 [(0, (.int .i64 a0))] a := ha
  have hE : Chg [] W W := Chg.refl _ _
  unfold F_spec_l30SetName at hF
  refine wp_seq ?_; refine wp_region_lit ?_; refine op_g ha rfl (g_assign rfl) ?_; clear ha a; intro a ha; refine wpList_nil ?_; replace ha := ha.sub (σ' := [(0, (.int .i64 a0))]) ⟨rfl, trivial⟩; refine e_then ?_; refine wp_seq ?_; refine wp_region_lit ?_; refine op_g ha rfl (g_move rfl) ?_; clear ha a; intro a ha; obtain ⟨x1, hc2, hF⟩ := cal_some hF
  refine o_call ha rfl rfl Try.call46 (W_spec_l1In ha0 (show InI 0 from by decide) (show InI 1 from by decide) hc2) ?_; clear ha a; rintro v3 w4 ⟨rfl, hx5⟩ a ha
  have hE6 := Ext.trans hE hx5
  refine op_g ha rfl (g_assign rfl) ?_; clear ha a; intro a ha; refine wpList_nil ?_; replace ha := ha.sub (σ' := [(2, (.bool x1))]) ⟨rfl, trivial⟩; refine e_then ?_; refine wp_ret ?_; obtain rfl := Option.some.inj hF
  exact f_ret1 ha rfl rfl ⟨rfl, hE6⟩
set_option maxHeartbeats 2000000 in
theorem W_spec_l30Fact {W : World} {a0_0 : Int} (ha0_0 : InI a0_0) {a0_1 : Int} (ha0_1 : InI a0_1) {a0_2 : Int} (ha0_2 : InI a0_2) {a1 : Int} (ha1 : InI a1) {r : Bool} (hF : F_spec_l30Fact a0_0 a0_1 a0_2 a1 = some r) :
    Calls Try.prog 54 [.agg #[.int .i64 a0_0, .int .i64 a0_1, .int .i64 a0_2], .int .i64 a1].toArray W (Ret fun u w' => u = .bool r ∧ Ext W w') := by
  refine f_enter Try.func54 rfl Try.ntmps54 rfl ?_
  intro a ha
  replace ha : Fr 71 [(0, (.agg #[(.int .i64 a0_0), (.int .i64 a0_1), (.int .i64 a0_2)])), (1, (.int .i64 a1))] a := ha
  have hE : Chg [] W W := Chg.refl _ _
  unfold F_spec_l30Fact at hF
  refine wp_seq ?_; refine wp_region_lit ?_
  refine o_box ha rfl rfl rfl ?_; clear ha a; intro b1 w2 hB3 hx4 hlo5 a ha
  have q6 := Zn.one hlo5
  have q7 := Zn.upD q6 hE
  have hE8 := Ext.trans hE hx4
  refine op_g ha rfl (g_assign rfl) ?_; clear ha a; intro a ha; refine wpList_nil ?_; replace ha := ha.sub (σ' := [(1, (.int .i64 a1)), (2, (.pointer (some ⟨b1, 0, none⟩)))]) ⟨rfl, rfl, trivial⟩; refine e_then ?_; refine wp_seq ?_; refine wp_region_lit ?_; refine op_g ha rfl (g_field0 st71_1 rfl) ?_; clear ha a; intro a ha; refine op_g ha rfl (g_load Try.isAgg2 rfl (hB3.cell rfl)) ?_; clear ha a; intro a ha; refine op_g ha rfl (g_move rfl) ?_; clear ha a; intro a ha; obtain ⟨hI9, hF⟩ := ck_some hF; refine op_g ha rfl (g_sub rfl rfl hI9) ?_; clear ha a; intro a ha; obtain ⟨x11, hc12, hF⟩ := cal_some hF
  refine o_call ha rfl rfl Try.call46 (W_spec_l1In ha0_1 (show InI 0 from by decide) hI9 hc12) ?_; clear ha a; rintro v13 w14 ⟨rfl, hx15⟩ a ha
  replace hB3 := hB3.ext hx15
  have hE16 := Ext.trans hE8 hx15
  refine op_g ha rfl (g_assign rfl) ?_; clear ha a; intro a ha; refine wpList_nil ?_; replace ha := ha.sub (σ' := [(1, (.int .i64 a1)), (2, (.pointer (some ⟨b1, 0, none⟩))), (5, (.bool x11))]) ⟨rfl, rfl, rfl, trivial⟩; refine e_then ?_; refine wp_seq ?_; refine wp_region_lit ?_; refine op_g ha rfl (g_field0 st71_2 rfl) ?_; clear ha a; intro a ha; refine op_g ha rfl (g_load Try.isAgg2 rfl (hB3.cell rfl)) ?_; clear ha a; intro a ha; refine op_g ha rfl (g_move rfl) ?_; clear ha a; intro a ha; obtain ⟨hI17, hF⟩ := ck_some hF; refine op_g ha rfl (g_sub rfl rfl hI17) ?_; clear ha a; intro a ha; obtain ⟨x19, hc20, hF⟩ := cal_some hF
  refine o_call ha rfl rfl Try.call46 (W_spec_l1In ha0_2 (show InI 0 from by decide) hI17 hc20) ?_; clear ha a; rintro v21 w22 ⟨rfl, hx23⟩ a ha
  replace hB3 := hB3.ext hx23
  have hE24 := Ext.trans hE16 hx23
  refine op_g ha rfl (g_assign rfl) ?_; clear ha a; intro a ha; refine wpList_nil ?_; replace ha := ha.sub (σ' := [(2, (.pointer (some ⟨b1, 0, none⟩))), (5, (.bool x11)), (6, (.bool x19))]) ⟨rfl, rfl, rfl, trivial⟩; refine e_then ?_; refine wp_seq ?_; refine wp_seq ?_; refine wp_region_lit ?_; refine op_g ha rfl (g_field0 st71_0 rfl) ?_; clear ha a; intro a ha; refine op_g ha rfl (g_load Try.isAgg2 rfl (hB3.cell rfl)) ?_; clear ha a; intro a ha; refine wpList_nil ?_; replace ha := ha.sub (σ' := [(2, (.pointer (some ⟨b1, 0, none⟩))), (5, (.bool x11)), (6, (.bool x19)), (18, (.int .i64 a0_0))]) ⟨rfl, rfl, rfl, rfl, trivial⟩
  refine e_then ?_; refine wp_block ?_; obtain ⟨o26, ho27, hK28⟩ := bnd_some hF
  have hF := ho27; clear ho27
  refine s_cut (fun a w => ∃ (t32 : Bool), Fr 71 [(2, (.pointer (some ⟨b1, 0, none⟩))), (5, (.bool x11)), (6, (.bool x19)), (18, (.int .i64 a0_0)), (19, (.bool t32))] a ∧ Chg [] W w ∧ Bx w b1 [(.int .i64 a0_0), (.int .i64 a0_1), (.int .i64 a0_2)] 71 ∧ Zn W (b1 : Int) ∧ o26 = .inl t32) ?_ ?_
  · skip
    refine wp_seq ?_; refine wp_region_lit ?_; refine op_g ha rfl (g_eql rfl rfl) ?_; clear ha a; intro a ha; refine op_g ha rfl (g_assign rfl) ?_; clear ha a; intro a ha; refine wpList_nil ?_; replace ha := ha.sub (σ' := [(2, (.pointer (some ⟨b1, 0, none⟩))), (5, (.bool x11)), (6, (.bool x19)), (18, (.int .i64 a0_0)), (19, (.bool (decide (a0_0 = 1))))]) ⟨rfl, rfl, rfl, rfl, rfl, trivial⟩; refine e_then ?_; refine c_cond (a0_0 = 1) ha rfl (decide_eq_true_iff) (fun hp34 => ?_) (fun hp34 => ?_)
    · replace hF := if_t hp34 hF
      refine wp_skip ?_; refine e_sq ?_; obtain rfl := Option.some.inj hF
      exact ⟨decide (a0_0 = 1), ha.sub ⟨rfl, rfl, rfl, rfl, rfl, trivial⟩, hE24, hB3, q7, rfl⟩
    replace hF := if_f hp34 hF; refine wp_region_lit ?_; refine op_g ha rfl (g_eql rfl rfl) ?_; clear ha a; intro a ha; refine op_g ha rfl (g_assign rfl) ?_; clear ha a; intro a ha; refine wpList_nil ?_; replace ha := ha.sub (σ' := [(2, (.pointer (some ⟨b1, 0, none⟩))), (5, (.bool x11)), (6, (.bool x19)), (18, (.int .i64 a0_0)), (19, (.bool (decide (a0_0 = 2))))]) ⟨rfl, rfl, rfl, rfl, rfl, trivial⟩; refine e_sq ?_; obtain rfl := Option.some.inj hF
    exact ⟨decide (a0_0 = 2), ha.sub ⟨rfl, rfl, rfl, rfl, rfl, trivial⟩, hE24, hB3, q7, rfl⟩
  rintro a w29 ⟨t32, ha, hE33, hB30, z31, rfl⟩
  have hF : F_spec_l30Fact_k1 a0_0 a0_1 a0_2 x11 x19 t32 = some _ := hK28; clear hK28; unfold F_spec_l30Fact_k1 at hF
  refine c_cond (t32 = true) ha rfl (Iff.rfl) (fun hp35 => ?_) (fun hp35 => ?_)
  · replace hF := if_t hp35 hF
    refine wp_seq ?_; refine wp_region_lit ?_; refine op_g ha rfl (g_field0 st71_1 rfl) ?_; clear ha a; intro a ha; refine op_g ha rfl (g_load Try.isAgg2 rfl (hB30.cell rfl)) ?_; clear ha a; intro a ha; obtain ⟨x36, hc37, hF⟩ := cal_some hF
    refine o_call ha rfl rfl Try.call61 (W_spec_l30Name ha0_1 hc37) ?_; clear ha a; rintro v38 w39 ⟨rfl, hx40⟩ a ha
    replace hB30 := hB30.ext hx40
    have hE41 := Ext.trans hE33 hx40
    refine op_g ha rfl (g_move rfl) ?_; clear ha a; intro a ha
    by_cases hp42 : x36 = true
    · replace hF := if_t hp42 hF
      rw [show (x36) = true from (Iff.rfl).2 hp42] at ha
      refine op_want (yields ha rfl rfl) ?_; refine op_g ha rfl (g_field0 st71_2 rfl) ?_; clear ha a; intro a ha; refine op_want (yields ha rfl rfl) ?_; refine op_g ha rfl (g_load Try.isAgg2 rfl (hB30.cell rfl)) ?_; clear ha a; intro a ha; refine op_want (yields ha rfl rfl) ?_; obtain ⟨x43, hc44, hF⟩ := cal_some hF
      refine o_call ha rfl rfl Try.call61 (W_spec_l30Name ha0_2 hc44) ?_; clear ha a; rintro v45 w46 ⟨rfl, hx47⟩ a ha
      replace hB30 := hB30.ext hx47
      have hE48 := Ext.trans hE41 hx47
      refine op_g ha rfl (g_pick rfl rfl) ?_; clear ha a; intro a ha; refine op_g ha rfl (g_assign rfl) ?_; clear ha a; intro a ha; refine wpList_nil ?_; replace ha := ha.sub (σ' := [(4, (.bool x43))]) ⟨rfl, trivial⟩; refine e_then ?_; refine wp_ret ?_; refine e_blk_ret ?_; refine e_then_ret ?_; obtain rfl := Option.some.inj hF
      exact f_ret1 ha rfl rfl ⟨rfl, hE48⟩
    replace hF := if_f hp42 hF
    rw [show (x36) = false from b_false (Iff.rfl) hp42] at ha
    (iterate 3 refine op_unwant ha rfl (yields ha rfl rfl) rfl ?_; clear ha a; intro a ha); refine op_g ha rfl (g_pick rfl rfl) ?_; clear ha a; intro a ha; refine op_g ha rfl (g_assign rfl) ?_; clear ha a; intro a ha; refine wpList_nil ?_; replace ha := ha.sub (σ' := [(4, (.bool false))]) ⟨rfl, trivial⟩; refine e_then ?_; refine wp_ret ?_; refine e_blk_ret ?_; refine e_then_ret ?_; obtain rfl := Option.some.inj hF
    exact f_ret1 ha rfl rfl ⟨rfl, hE41⟩
  replace hF := if_f hp35 hF; refine wp_seq ?_; refine wp_region_lit ?_; refine op_g ha rfl (g_eql rfl rfl) ?_; clear ha a; intro a ha; refine op_g ha rfl (g_assign rfl) ?_; clear ha a; intro a ha; refine wpList_nil ?_; replace ha := ha.sub (σ' := [(2, (.pointer (some ⟨b1, 0, none⟩))), (5, (.bool x11)), (6, (.bool x19)), (18, (.int .i64 a0_0)), (30, (.bool (decide (a0_0 = 3))))]) ⟨rfl, rfl, rfl, rfl, rfl, trivial⟩; refine e_then ?_; refine c_cond (a0_0 = 3) ha rfl (decide_eq_true_iff) (fun hp49 => ?_) (fun hp49 => ?_)
  · replace hF := if_t hp49 hF
    refine wp_seq ?_; refine wp_region_lit ?_; refine op_g ha rfl (g_field0 st71_1 rfl) ?_; clear ha a; intro a ha; refine op_g ha rfl (g_load Try.isAgg2 rfl (hB30.cell rfl)) ?_; clear ha a; intro a ha; obtain ⟨x50, hc51, hF⟩ := cal_some hF
    refine o_call ha rfl rfl Try.call61 (W_spec_l30Name ha0_1 hc51) ?_; clear ha a; rintro v52 w53 ⟨rfl, hx54⟩ a ha
    replace hB30 := hB30.ext hx54
    have hE55 := Ext.trans hE33 hx54
    refine op_g ha rfl (g_move rfl) ?_; clear ha a; intro a ha
    by_cases hp56 : x50 = true
    · replace hF := if_t hp56 hF
      rw [show (x50) = true from (Iff.rfl).2 hp56] at ha
      refine op_want (yields ha rfl rfl) ?_; refine op_g ha rfl (g_field0 st71_2 rfl) ?_; clear ha a; intro a ha; refine op_want (yields ha rfl rfl) ?_; refine op_g ha rfl (g_load Try.isAgg2 rfl (hB30.cell rfl)) ?_; clear ha a; intro a ha; refine op_want (yields ha rfl rfl) ?_; obtain ⟨x57, hc58, hF⟩ := cal_some hF
      refine o_call ha rfl rfl Try.call62 (W_spec_l30SetName ha0_2 hc58) ?_; clear ha a; rintro v59 w60 ⟨rfl, hx61⟩ a ha
      replace hB30 := hB30.ext hx61
      have hE62 := Ext.trans hE55 hx61
      refine op_g ha rfl (g_pick rfl rfl) ?_; clear ha a; intro a ha; refine op_g ha rfl (g_assign rfl) ?_; clear ha a; intro a ha; refine wpList_nil ?_; replace ha := ha.sub (σ' := [(4, (.bool x57))]) ⟨rfl, trivial⟩; refine e_then ?_; refine wp_ret ?_; refine e_blk_ret ?_; refine e_then_ret ?_; obtain rfl := Option.some.inj hF
      exact f_ret1 ha rfl rfl ⟨rfl, hE62⟩
    replace hF := if_f hp56 hF
    rw [show (x50) = false from b_false (Iff.rfl) hp56] at ha
    (iterate 3 refine op_unwant ha rfl (yields ha rfl rfl) rfl ?_; clear ha a; intro a ha); refine op_g ha rfl (g_pick rfl rfl) ?_; clear ha a; intro a ha; refine op_g ha rfl (g_assign rfl) ?_; clear ha a; intro a ha; refine wpList_nil ?_; replace ha := ha.sub (σ' := [(4, (.bool false))]) ⟨rfl, trivial⟩; refine e_then ?_; refine wp_ret ?_; refine e_blk_ret ?_; refine e_then_ret ?_; obtain rfl := Option.some.inj hF
    exact f_ret1 ha rfl rfl ⟨rfl, hE55⟩
  replace hF := if_f hp49 hF; refine wp_seq ?_; refine wp_region_lit ?_; refine op_g ha rfl (g_eql rfl rfl) ?_; clear ha a; intro a ha; refine op_g ha rfl (g_assign rfl) ?_; clear ha a; intro a ha; refine wpList_nil ?_; replace ha := ha.sub (σ' := [(2, (.pointer (some ⟨b1, 0, none⟩))), (5, (.bool x11)), (6, (.bool x19)), (18, (.int .i64 a0_0)), (40, (.bool (decide (a0_0 = 4))))]) ⟨rfl, rfl, rfl, rfl, rfl, trivial⟩; refine e_then ?_; refine c_cond (a0_0 = 4) ha rfl (decide_eq_true_iff) (fun hp63 => ?_) (fun hp63 => ?_)
  · replace hF := if_t hp63 hF
    refine wp_seq ?_; refine wp_region_lit ?_; (iterate 2 refine op_g ha rfl (g_move rfl) ?_; clear ha a; intro a ha)
    by_cases hp64 : x11 = true
    · replace hF := if_t hp64 hF
      rw [show (x11) = true from (Iff.rfl).2 hp64] at ha
      refine op_want (yields ha rfl rfl) ?_; refine op_g ha rfl (g_field0 st71_2 rfl) ?_; clear ha a; intro a ha; refine op_want (yields ha rfl rfl) ?_; refine op_g ha rfl (g_load Try.isAgg2 rfl (hB30.cell rfl)) ?_; clear ha a; intro a ha; refine op_want (yields ha rfl rfl) ?_; refine op_g ha rfl (g_eql rfl rfl) ?_; clear ha a; intro a ha; refine op_g ha rfl (g_pick rfl rfl) ?_; clear ha a; intro a ha; refine op_g ha rfl (g_assign rfl) ?_; clear ha a; intro a ha; refine wpList_nil ?_; replace ha := ha.sub (σ' := [(4, (.bool (decide (a0_2 = 0))))]) ⟨rfl, trivial⟩; refine e_then ?_; refine wp_ret ?_
      refine e_blk_ret ?_; refine e_then_ret ?_; obtain rfl := Option.some.inj hF
      exact f_ret1 ha rfl rfl ⟨rfl, hE33⟩
    replace hF := if_f hp64 hF
    rw [show (x11) = false from b_false (Iff.rfl) hp64] at ha
    (iterate 3 refine op_unwant ha rfl (yields ha rfl rfl) rfl ?_; clear ha a; intro a ha); refine op_g ha rfl (g_pick rfl rfl) ?_; clear ha a; intro a ha; refine op_g ha rfl (g_assign rfl) ?_; clear ha a; intro a ha; refine wpList_nil ?_; replace ha := ha.sub (σ' := [(4, (.bool false))]) ⟨rfl, trivial⟩; refine e_then ?_; refine wp_ret ?_; refine e_blk_ret ?_; refine e_then_ret ?_; obtain rfl := Option.some.inj hF
    exact f_ret1 ha rfl rfl ⟨rfl, hE33⟩
  replace hF := if_f hp63 hF; obtain ⟨o66, ho67, hK68⟩ := bnd_some hF
  have hF := ho67; clear ho67
  refine s_cut (fun a w => ∃ (t72 : Bool), Fr 71 [(2, (.pointer (some ⟨b1, 0, none⟩))), (5, (.bool x11)), (6, (.bool x19)), (18, (.int .i64 a0_0)), (48, (.bool t72))] a ∧ Chg [] W w ∧ Bx w b1 [(.int .i64 a0_0), (.int .i64 a0_1), (.int .i64 a0_2)] 71 ∧ Zn W (b1 : Int) ∧ o66 = .inl t72) ?_ ?_
  · skip
    refine wp_seq ?_; refine wp_region_lit ?_; refine op_g ha rfl (g_eql rfl rfl) ?_; clear ha a; intro a ha; refine op_g ha rfl (g_assign rfl) ?_; clear ha a; intro a ha; refine wpList_nil ?_; replace ha := ha.sub (σ' := [(2, (.pointer (some ⟨b1, 0, none⟩))), (5, (.bool x11)), (6, (.bool x19)), (18, (.int .i64 a0_0)), (48, (.bool (decide (a0_0 = 5))))]) ⟨rfl, rfl, rfl, rfl, rfl, trivial⟩; refine e_then ?_; refine c_cond (a0_0 = 5) ha rfl (decide_eq_true_iff) (fun hp74 => ?_) (fun hp74 => ?_)
    · replace hF := if_t hp74 hF
      refine wp_skip ?_; refine e_sq ?_; obtain rfl := Option.some.inj hF
      exact ⟨decide (a0_0 = 5), ha.sub ⟨rfl, rfl, rfl, rfl, rfl, trivial⟩, hE33, hB30, z31, rfl⟩
    replace hF := if_f hp74 hF; refine wp_region_lit ?_; refine op_g ha rfl (g_eql rfl rfl) ?_; clear ha a; intro a ha; refine op_g ha rfl (g_assign rfl) ?_; clear ha a; intro a ha; refine wpList_nil ?_; replace ha := ha.sub (σ' := [(2, (.pointer (some ⟨b1, 0, none⟩))), (5, (.bool x11)), (6, (.bool x19)), (18, (.int .i64 a0_0)), (48, (.bool (decide (a0_0 = 6))))]) ⟨rfl, rfl, rfl, rfl, rfl, trivial⟩; refine e_sq ?_; obtain rfl := Option.some.inj hF
    exact ⟨decide (a0_0 = 6), ha.sub ⟨rfl, rfl, rfl, rfl, rfl, trivial⟩, hE33, hB30, z31, rfl⟩
  rintro a w69 ⟨t72, ha, hE73, hB70, z71, rfl⟩
  have hF : F_spec_l30Fact_k2 a0_0 a0_1 x11 x19 t72 = some _ := hK68; clear hK68; unfold F_spec_l30Fact_k2 at hF
  refine c_cond (t72 = true) ha rfl (Iff.rfl) (fun hp75 => ?_) (fun hp75 => ?_)
  · replace hF := if_t hp75 hF
    refine wp_seq ?_; refine wp_region_lit ?_; (iterate 2 refine op_g ha rfl (g_move rfl) ?_; clear ha a; intro a ha)
    by_cases hp76 : x11 = true
    · replace hF := if_t hp76 hF
      rw [show (x11) = true from (Iff.rfl).2 hp76] at ha
      refine op_want (yields ha rfl rfl) ?_; refine op_g ha rfl (g_move rfl) ?_; clear ha a; intro a ha; refine op_g ha rfl (g_pick rfl rfl) ?_; clear ha a; intro a ha; refine op_g ha rfl (g_assign rfl) ?_; clear ha a; intro a ha; refine wpList_nil ?_; replace ha := ha.sub (σ' := [(4, (.bool x19))]) ⟨rfl, trivial⟩; refine e_then ?_; refine wp_ret ?_; refine e_blk_ret ?_; refine e_then_ret ?_; obtain rfl := Option.some.inj hF
      exact f_ret1 ha rfl rfl ⟨rfl, hE73⟩
    replace hF := if_f hp76 hF
    rw [show (x11) = false from b_false (Iff.rfl) hp76] at ha
    refine op_unwant ha rfl (yields ha rfl rfl) rfl ?_; clear ha a; intro a ha; refine op_g ha rfl (g_pick rfl rfl) ?_; clear ha a; intro a ha; refine op_g ha rfl (g_assign rfl) ?_; clear ha a; intro a ha; refine wpList_nil ?_; replace ha := ha.sub (σ' := [(4, (.bool false))]) ⟨rfl, trivial⟩; refine e_then ?_; refine wp_ret ?_; refine e_blk_ret ?_; refine e_then_ret ?_; obtain rfl := Option.some.inj hF
    exact f_ret1 ha rfl rfl ⟨rfl, hE73⟩
  replace hF := if_f hp75 hF; refine wp_seq ?_; refine wp_region_lit ?_; refine op_g ha rfl (g_eql rfl rfl) ?_; clear ha a; intro a ha; refine op_g ha rfl (g_assign rfl) ?_; clear ha a; intro a ha; refine wpList_nil ?_; replace ha := ha.sub (σ' := [(2, (.pointer (some ⟨b1, 0, none⟩))), (6, (.bool x19)), (18, (.int .i64 a0_0)), (55, (.bool (decide (a0_0 = 7))))]) ⟨rfl, rfl, rfl, rfl, trivial⟩; refine e_then ?_; refine c_cond (a0_0 = 7) ha rfl (decide_eq_true_iff) (fun hp77 => ?_) (fun hp77 => ?_)
  · replace hF := if_t hp77 hF
    refine wp_seq ?_; refine wp_region_lit ?_; refine op_g ha rfl (g_field0 st71_1 rfl) ?_; clear ha a; intro a ha; refine op_g ha rfl (g_load Try.isAgg2 rfl (hB70.cell rfl)) ?_; clear ha a; intro a ha; obtain ⟨x78, hc79, hF⟩ := cal_some hF
    refine o_call ha rfl rfl Try.call61 (W_spec_l30Name ha0_1 hc79) ?_; clear ha a; rintro v80 w81 ⟨rfl, hx82⟩ a ha
    replace hB70 := hB70.ext hx82
    have hE83 := Ext.trans hE73 hx82
    refine op_g ha rfl (g_move rfl) ?_; clear ha a; intro a ha
    by_cases hp84 : x78 = true
    · replace hF := if_t hp84 hF
      rw [show (x78) = true from (Iff.rfl).2 hp84] at ha
      refine op_want (yields ha rfl rfl) ?_; refine op_g ha rfl (g_move rfl) ?_; clear ha a; intro a ha; refine op_g ha rfl (g_pick rfl rfl) ?_; clear ha a; intro a ha; refine op_g ha rfl (g_assign rfl) ?_; clear ha a; intro a ha; refine wpList_nil ?_; replace ha := ha.sub (σ' := [(4, (.bool x19))]) ⟨rfl, trivial⟩; refine e_then ?_; refine wp_ret ?_; refine e_blk_ret ?_; refine e_then_ret ?_; obtain rfl := Option.some.inj hF
      exact f_ret1 ha rfl rfl ⟨rfl, hE83⟩
    replace hF := if_f hp84 hF
    rw [show (x78) = false from b_false (Iff.rfl) hp84] at ha
    refine op_unwant ha rfl (yields ha rfl rfl) rfl ?_; clear ha a; intro a ha; refine op_g ha rfl (g_pick rfl rfl) ?_; clear ha a; intro a ha; refine op_g ha rfl (g_assign rfl) ?_; clear ha a; intro a ha; refine wpList_nil ?_; replace ha := ha.sub (σ' := [(4, (.bool false))]) ⟨rfl, trivial⟩; refine e_then ?_; refine wp_ret ?_; refine e_blk_ret ?_; refine e_then_ret ?_; obtain rfl := Option.some.inj hF
    exact f_ret1 ha rfl rfl ⟨rfl, hE83⟩
  replace hF := if_f hp77 hF; refine wp_seq ?_; refine wp_region_lit ?_; refine op_g ha rfl (g_eql rfl rfl) ?_; clear ha a; intro a ha; refine op_g ha rfl (g_assign rfl) ?_; clear ha a; intro a ha; refine wpList_nil ?_; replace ha := ha.sub (σ' := [(2, (.pointer (some ⟨b1, 0, none⟩))), (6, (.bool x19)), (63, (.bool (decide (a0_0 = 8))))]) ⟨rfl, rfl, rfl, trivial⟩; refine e_then ?_; refine c_cond (a0_0 = 8) ha rfl (decide_eq_true_iff) (fun hp85 => ?_) (fun hp85 => ?_)
  · replace hF := if_t hp85 hF
    refine wp_seq ?_; refine wp_region_lit ?_; refine op_g ha rfl (g_field0 st71_1 rfl) ?_; clear ha a; intro a ha; refine op_g ha rfl (g_load Try.isAgg2 rfl (hB70.cell rfl)) ?_; clear ha a; intro a ha; obtain ⟨x86, hc87, hF⟩ := cal_some hF
    refine o_call ha rfl rfl Try.call62 (W_spec_l30SetName ha0_1 hc87) ?_; clear ha a; rintro v88 w89 ⟨rfl, hx90⟩ a ha
    replace hB70 := hB70.ext hx90
    have hE91 := Ext.trans hE73 hx90
    refine op_g ha rfl (g_move rfl) ?_; clear ha a; intro a ha
    by_cases hp92 : x86 = true
    · replace hF := if_t hp92 hF
      rw [show (x86) = true from (Iff.rfl).2 hp92] at ha
      refine op_want (yields ha rfl rfl) ?_; refine op_g ha rfl (g_move rfl) ?_; clear ha a; intro a ha; refine op_g ha rfl (g_pick rfl rfl) ?_; clear ha a; intro a ha; refine op_g ha rfl (g_assign rfl) ?_; clear ha a; intro a ha; refine wpList_nil ?_; replace ha := ha.sub (σ' := [(4, (.bool x19))]) ⟨rfl, trivial⟩; refine e_then ?_; refine wp_ret ?_; refine e_blk_ret ?_; refine e_then_ret ?_; obtain rfl := Option.some.inj hF
      exact f_ret1 ha rfl rfl ⟨rfl, hE91⟩
    replace hF := if_f hp92 hF
    rw [show (x86) = false from b_false (Iff.rfl) hp92] at ha
    refine op_unwant ha rfl (yields ha rfl rfl) rfl ?_; clear ha a; intro a ha; refine op_g ha rfl (g_pick rfl rfl) ?_; clear ha a; intro a ha; refine op_g ha rfl (g_assign rfl) ?_; clear ha a; intro a ha; refine wpList_nil ?_; replace ha := ha.sub (σ' := [(4, (.bool false))]) ⟨rfl, trivial⟩; refine e_then ?_; refine wp_ret ?_; refine e_blk_ret ?_; refine e_then_ret ?_; obtain rfl := Option.some.inj hF
    exact f_ret1 ha rfl rfl ⟨rfl, hE91⟩
  replace hF := if_f hp85 hF; refine wp_skip ?_; refine e_blk ?_; refine e_then ?_; refine wp_seq ?_; refine wp_region_lit ?_; refine op_g ha rfl (g_assign rfl) ?_; clear ha a; intro a ha; refine wpList_nil ?_; replace ha := ha.sub (σ' := [(4, (.bool false))]) ⟨rfl, trivial⟩; refine e_then ?_; refine wp_ret ?_; obtain rfl := Option.some.inj hF
  exact f_ret1 ha rfl rfl ⟨rfl, hE73⟩
set_option maxHeartbeats 2000000 in
theorem W_spec_FormulaOk {W : World} {va0_0 : Value} {fa0_0 : List Nat} {a0_0 : (List (Int × (Int × Int)))} (ha0_0 : Ro (Rp.prod Rp.int (Rp.prod Rp.int Rp.int)) W fa0_0 va0_0 a0_0) {r : Bool} (hF : F_spec_FormulaOk a0_0 = some r) :
    Calls Try.prog 35 [.agg #[va0_0]].toArray W (Ret fun u w' => u = .bool r ∧ Ext W w') := by
  refine f_enter Try.func35 rfl Try.ntmps35 rfl ?_
  intro a ha
  replace ha : Fr 24 [(0, (.agg #[va0_0]))] a := ha
  have hE : Chg [] W W := Chg.refl _ _
  unfold F_spec_FormulaOk at hF
  refine wp_seq ?_; refine wp_region_lit ?_
  refine o_box ha rfl rfl rfl ?_; clear ha a; intro b1 w2 hB3 hx4 hlo5 a ha
  have q6 := Zn.one hlo5
  have q7 := Zn.upD q6 hE
  have hE8 := Ext.trans hE hx4
  refine op_g ha rfl (g_assign rfl) ?_; clear ha a; intro a ha; refine wpList_nil ?_; replace ha := ha.sub (σ' := [(1, (.pointer (some ⟨b1, 0, none⟩)))]) ⟨rfl, trivial⟩; refine e_then ?_; refine wp_seq ?_; refine wp_seq ?_; refine wp_region_lit ?_; refine op_g ha rfl (g_field0 st35_0 rfl) ?_; clear ha a; intro a ha; refine op_g ha rfl (g_load Try.isAgg33 rfl (hB3.cell rfl)) ?_; clear ha a; intro a ha; refine op_g ha rfl (g_lenR sl33.und ha0_0 rfl) ?_; clear ha a; intro a ha; obtain ⟨x9, hc10, hF⟩ := cal_some hF
  refine o_call ha rfl rfl Try.call46 (W_spec_l1In ha0_0.len (show InI 1 from by decide) (show InI 40 from by decide) hc10) ?_; clear ha a; rintro v11 w12 ⟨rfl, hx13⟩ a ha
  replace hB3 := hB3.ext hx13
  have hE14 := Ext.trans hE8 hx13
  refine op_g ha rfl (g_not rfl) ?_; clear ha a; intro a ha; refine wpList_nil ?_; replace ha := ha.sub (σ' := [(1, (.pointer (some ⟨b1, 0, none⟩))), (8, (.bool (!x9)))]) ⟨rfl, rfl, trivial⟩; refine e_then ?_; refine c_cond (¬ (x9 = true)) ha rfl (n_iff (Iff.rfl)) (fun hp15 => ?_) (fun hp15 => ?_)
  · replace hF := if_t hp15 hF
    refine wp_seq ?_; refine wp_region_lit ?_; refine op_g ha rfl (g_assign rfl) ?_; clear ha a; intro a ha; refine wpList_nil ?_; replace ha := ha.sub (σ' := [(2, (.bool false))]) ⟨rfl, trivial⟩; refine e_then ?_; refine wp_ret ?_; refine e_then_ret ?_; obtain rfl := Option.some.inj hF
    exact f_ret1 ha rfl rfl ⟨rfl, hE14⟩
  replace hF := if_f hp15 hF; refine wp_skip ?_; refine e_then ?_; refine wp_seq ?_; refine wp_seq ?_; refine wp_region_lit ?_; refine op_g ha rfl (g_assign rfl) ?_; clear ha a; intro a ha; refine wpList_nil ?_; replace ha := ha.sub (σ' := [(1, (.pointer (some ⟨b1, 0, none⟩))), (3, (.int .i64 0))]) ⟨rfl, rfl, trivial⟩; refine e_then ?_; obtain ⟨o117, ho118, hK119⟩ := bnd_some hF
  obtain ⟨n120, hn121⟩ := lp_some ho118; clear ho118
  refine c_loop (fun a w => Fr 24 [] a ∧ Chg [] W w ∧ o117 = .inl ()) (fun n a w => ∃ (i68 : Int), Fr 24 [(1, (.pointer (some ⟨b1, 0, none⟩))), (3, (.int .i64 i68))] a ∧ Chg [] W w ∧ InI i68 ∧ Bx w b1 [va0_0] 35 ∧ Zn W (b1 : Int) ∧ lpN (fun s => F_spec_FormulaOk_l1 a0_0 s) n i68 = some o117) n120 ⟨0, ha.sub ⟨rfl, rfl, trivial⟩, hE14, (show InI 0 from by decide), hB3, q7, hn121⟩ ?_ ?_
  · rintro m125 a w65 ⟨i68, ha, hE70, hI69, hB66, z67, hF⟩
    cases m125 with
    | zero => exact (lpN_zero hF).elim
    | succ m125 =>
      obtain ⟨z124, hF, hN123⟩ := lpN_succ hF
      have hF : F_spec_FormulaOk_l1 a0_0 i68 = some z124 := hF; unfold F_spec_FormulaOk_l1 at hF
      refine wp_seq ?_; refine wp_seq ?_; refine wp_region_lit ?_; refine op_g ha rfl (g_move rfl) ?_; clear ha a; intro a ha; refine op_g ha rfl (g_field0 st35_0 rfl) ?_; clear ha a; intro a ha; refine op_g ha rfl (g_load Try.isAgg33 rfl (hB66.cell rfl)) ?_; clear ha a; intro a ha; refine op_g ha rfl (g_lenR sl33.und ha0_0 rfl) ?_; clear ha a; intro a ha; refine op_g ha rfl (g_lss rfl rfl) ?_; clear ha a; intro a ha; refine wpList_nil ?_; replace ha := ha.sub (σ' := [(1, (.pointer (some ⟨b1, 0, none⟩))), (3, (.int .i64 i68)), (13, (.bool (decide (i68 < (a0_0.length : Int)))))]) ⟨rfl, rfl, rfl, trivial⟩
      refine e_then ?_; refine c_cond (i68 < (a0_0.length : Int)) ha rfl (decide_eq_true_iff) (fun hp126 => ?_) (fun hp126 => ?_)
      · replace hF := if_t hp126 hF
        refine wp_skip ?_; refine e_then ?_; refine wp_seq ?_; refine wp_block ?_; refine wp_seq ?_; refine wp_region_lit ?_; refine op_g ha rfl (g_field0 st35_0 rfl) ?_; clear ha a; intro a ha; refine op_g ha rfl (g_load Try.isAgg33 rfl (hB66.cell rfl)) ?_; clear ha a; intro a ha; refine op_g ha rfl (g_move rfl) ?_; clear ha a; intro a ha; obtain ⟨x127, g128, gx129, hF⟩ := idx_some hF
        obtain ⟨p130, cs131, f132, hf133, hpb134, hat135, hr136, hi137⟩ := ha0_0.at g128 gx129
        obtain ⟨f138, f139, c140, c141, rfl, rfl, h142, h143⟩ := hr136
        obtain ⟨rfl, hI146, rfl⟩ := h142
        obtain ⟨f147, f148, c149, c150, rfl, rfl, h151, h152⟩ := h143
        obtain ⟨rfl, hI155, rfl⟩ := h151
        obtain ⟨rfl, hI156, rfl⟩ := h152
        refine op_g ha rfl (hi137.gives sl33 rfl rfl) ?_; clear ha a; intro a ha; refine op_g ha rfl (g_loadA0 (cs := [(.int .i64 x127.1), (.int .i64 x127.2.1), (.int .i64 x127.2.2)]) hE70 Try.isAgg71 Try.sizeOf71 rfl (by simp) hat135) ?_; clear ha a; intro a ha; refine op_g ha rfl (g_move rfl) ?_; clear ha a; intro a ha; obtain ⟨x157, hc158, hF⟩ := cal_some hF
        refine o_call ha rfl rfl Try.call54 (W_spec_l30Fact hI146 hI155 hI156 hI69 hc158) ?_; clear ha a; rintro v159 w160 ⟨rfl, hx161⟩ a ha
        replace hB66 := hB66.ext hx161
        have hE162 := Ext.trans hE70 hx161
        refine op_g ha rfl (g_not rfl) ?_; clear ha a; intro a ha; refine wpList_nil ?_; replace ha := ha.sub (σ' := [(1, (.pointer (some ⟨b1, 0, none⟩))), (3, (.int .i64 i68)), (23, (.bool (!x157)))]) ⟨rfl, rfl, rfl, trivial⟩; refine e_then ?_; refine c_cond (¬ (x157 = true)) ha rfl (n_iff (Iff.rfl)) (fun hp163 => ?_) (fun hp163 => ?_)
        · replace hF := if_t hp163 hF
          refine wp_seq ?_; refine wp_region_lit ?_; refine op_g ha rfl (g_assign rfl) ?_; clear ha a; intro a ha; refine wpList_nil ?_; replace ha := ha.sub (σ' := [(2, (.bool false))]) ⟨rfl, trivial⟩; refine e_then ?_; refine wp_ret ?_; refine e_blk_ret ?_; refine e_then_ret ?_; refine e_lq_ret ?_; refine e_then_ret ?_; obtain rfl := Option.some.inj hF
          have e164 := LK_inr hN123; subst e164
          have e165 := BK_inr hK119; subst e165
          exact f_ret1 ha rfl rfl ⟨rfl, hE162⟩
        replace hF := if_f hp163 hF; refine wp_skip ?_; refine e_blk ?_; refine e_then ?_; refine wp_region_lit ?_; refine op_g ha rfl (g_move rfl) ?_; clear ha a; intro a ha; obtain ⟨hI166, hF⟩ := ck_some hF; refine op_g ha rfl (g_add rfl rfl hI166) ?_; clear ha a; intro a ha; refine op_g ha rfl (g_assign rfl) ?_; clear ha a; intro a ha; refine wpList_nil ?_; replace ha := ha.sub (σ' := [(1, (.pointer (some ⟨b1, 0, none⟩))), (3, (.int .i64 (i68 + 1)))]) ⟨rfl, rfl, trivial⟩; refine e_lq ?_; obtain rfl := Option.some.inj hF
        exact ⟨_, Nat.lt_succ_self _, i68 + 1, ha.sub ⟨rfl, rfl, trivial⟩, hE162, hI166, hB66, z67, hN123⟩
      replace hF := if_f hp126 hF; refine wp_exit ?_; refine e_then_exit ?_; refine e_lq_eq ?_; obtain rfl := Option.some.inj hF
      exact ⟨ha.sub trivial, hE70, (LK_inr hN123).symm⟩
  rintro a w116 ⟨ha, hE122, rfl⟩
  have hF : F_spec_FormulaOk_k2 = some _ := hK119; clear hK119; unfold F_spec_FormulaOk_k2 at hF
  refine e_then ?_; refine wp_seq ?_; refine wp_region_lit ?_; refine op_g ha rfl (g_assign rfl) ?_; clear ha a; intro a ha; refine wpList_nil ?_; refine e_then ?_; refine wp_ret ?_; obtain rfl := Option.some.inj hF
  exact f_ret1 ha rfl rfl ⟨rfl, hE122⟩
set_option maxHeartbeats 2000000 in
theorem W_spec_l30Right {W : World} {va0_0 : Value} {fa0_0 : List Nat} {a0_0 : (List (List Int))} (ha0_0 : Ro (Rp.sl 2 Rp.int) W fa0_0 va0_0 a0_0) {va1_0 : Value} {fa1_0 : List Nat} {a1_0 : (List (Int × (Int × Int)))} (ha1_0 : Ro (Rp.prod Rp.int (Rp.prod Rp.int Rp.int)) W fa1_0 va1_0 a1_0) {r : Bool} (hF : F_spec_l30Right a0_0 a1_0 = some r) :
    Calls Try.prog 21 [.agg #[va0_0], .agg #[va1_0]].toArray W (Ret fun u w' => u = .bool r ∧ Ext W w') := by
  refine f_enter Try.func21 rfl Try.ntmps21 rfl ?_
  intro a ha
  replace ha : Fr 11 [(0, (.agg #[va0_0])), (1, (.agg #[va1_0]))] a := ha
  have hE : Chg [] W W := Chg.refl _ _
  unfold F_spec_l30Right at hF
  refine wp_seq ?_; refine wp_region_lit ?_
  refine o_box ha rfl rfl rfl ?_; clear ha a; intro b1 w2 hB3 hx4 hlo5 a ha
  have q6 := Zn.one hlo5
  have q7 := Zn.upD q6 hE
  have hE8 := Ext.trans hE hx4
  refine o_box ha rfl rfl rfl ?_; clear ha a; intro b9 w10 hB11 hx12 hlo13 a ha
  have q14 := Zn.one hlo13
  have q15 := Nq.new hB3.fpb q14
  have q16 := Nq.made1 hlo13 hB3.bi
  have q17 := Zn.upD q14 hE8
  replace hB3 := hB3.ext hx12
  have hE18 := Ext.trans hE8 hx12
  refine op_g ha rfl (g_assign rfl) ?_; clear ha a; intro a ha; refine wpList_nil ?_; replace ha := ha.sub (σ' := [(2, (.pointer (some ⟨b1, 0, none⟩))), (3, (.pointer (some ⟨b9, 0, none⟩)))]) ⟨rfl, rfl, trivial⟩; refine e_then ?_; refine wp_seq ?_; refine wp_region_lit ?_; refine op_g ha rfl (g_loadA (cs := [va0_0]) Try.isAgg31 Try.sizeOf31 rfl (by simp) hB3.all) ?_; clear ha a; intro a ha; obtain ⟨x19, hc20, hF⟩ := cal_some hF
  refine o_call ha rfl rfl Try.call34 (W_spec_l26Small (ha0_0.ext hE18) hc20) ?_; clear ha a; rintro v21 w22 ⟨rfl, hx23⟩ a ha
  replace hB3 := hB3.ext hx23
  replace hB11 := hB11.ext hx23
  have hE24 := Ext.trans hE18 hx23
  refine op_g ha rfl (g_move rfl) ?_; clear ha a; intro a ha
  by_cases hp25 : x19 = true
  · replace hF := if_t hp25 hF
    rw [show (x19) = true from (Iff.rfl).2 hp25] at ha
    refine op_want (yields ha rfl rfl) ?_; refine op_g ha rfl (g_loadA (cs := [va1_0]) Try.isAgg35 Try.sizeOf35 rfl (by simp) hB11.all) ?_; clear ha a; intro a ha; refine op_want (yields ha rfl rfl) ?_; obtain ⟨x26, hc27, hF⟩ := cal_some hF
    refine o_call ha rfl rfl Try.call35 (W_spec_FormulaOk (ha1_0.ext hE24) hc27) ?_; clear ha a; rintro v28 w29 ⟨rfl, hx30⟩ a ha
    replace hB3 := hB3.ext hx30
    replace hB11 := hB11.ext hx30
    have hE31 := Ext.trans hE24 hx30
    refine op_g ha rfl (g_pick rfl rfl) ?_; clear ha a; intro a ha; refine op_g ha rfl (g_assign rfl) ?_; clear ha a; intro a ha; refine wpList_nil ?_; replace ha := ha.sub (σ' := [(4, (.bool x26))]) ⟨rfl, trivial⟩; refine e_then ?_; refine wp_ret ?_; obtain rfl := Option.some.inj hF
    exact f_ret1 ha rfl rfl ⟨rfl, hE31⟩
  replace hF := if_f hp25 hF
  rw [show (x19) = false from b_false (Iff.rfl) hp25] at ha
  (iterate 2 refine op_unwant ha rfl (yields ha rfl rfl) rfl ?_; clear ha a; intro a ha); refine op_g ha rfl (g_pick rfl rfl) ?_; clear ha a; intro a ha; refine op_g ha rfl (g_assign rfl) ?_; clear ha a; intro a ha; refine wpList_nil ?_; replace ha := ha.sub (σ' := [(4, (.bool false))]) ⟨rfl, trivial⟩; refine e_then ?_; refine wp_ret ?_; obtain rfl := Option.some.inj hF
  exact f_ret1 ha rfl rfl ⟨rfl, hE24⟩
set_option maxHeartbeats 2000000 in
theorem W_spec_l1There {W : World} {va0_0 : Value} {fa0_0 : List Nat} {a0_0 : (List (List Int))} (ha0_0 : Ro (Rp.sl 2 Rp.int) W fa0_0 va0_0 a0_0) {a1 : Int} (ha1 : InI a1) {r : Bool} (hF : F_spec_l1There a0_0 a1 = some r) :
    Calls Try.prog 28 [.agg #[va0_0], .int .i64 a1].toArray W (Ret fun u w' => u = .bool r ∧ Ext W w') := by
  refine f_enter Try.func28 rfl Try.ntmps28 rfl ?_
  intro a ha
  replace ha : Fr 10 [(0, (.agg #[va0_0])), (1, (.int .i64 a1))] a := ha
  have hE : Chg [] W W := Chg.refl _ _
  unfold F_spec_l1There at hF
  refine wp_seq ?_; refine wp_region_lit ?_
  refine o_box ha rfl rfl rfl ?_; clear ha a; intro b1 w2 hB3 hx4 hlo5 a ha
  have q6 := Zn.one hlo5
  have q7 := Zn.upD q6 hE
  have hE8 := Ext.trans hE hx4
  refine op_g ha rfl (g_assign rfl) ?_; clear ha a; intro a ha; refine wpList_nil ?_; replace ha := ha.sub (σ' := [(1, (.int .i64 a1)), (2, (.pointer (some ⟨b1, 0, none⟩)))]) ⟨rfl, rfl, trivial⟩; refine e_then ?_; refine wp_seq ?_; refine wp_region_lit ?_; refine op_g ha rfl (g_move rfl) ?_; clear ha a; intro a ha; refine op_g ha rfl (g_loadA (cs := [va0_0]) Try.isAgg31 Try.sizeOf31 rfl (by simp) hB3.all) ?_; clear ha a; intro a ha; obtain ⟨x9, hc10, hF⟩ := cal_some hF
  refine o_call ha rfl rfl Try.call47 (W_spec_l1Size (ha0_0.ext hE8) hc10) ?_; clear ha a; rintro v11 w12 ⟨⟨rfl, hI14⟩, hx13⟩ a ha
  replace hB3 := hB3.ext hx13
  have hE15 := Ext.trans hE8 hx13
  obtain ⟨hI16, hF⟩ := ck_some hF; refine op_g ha rfl (g_sub rfl rfl hI16) ?_; clear ha a; intro a ha; obtain ⟨x18, hc19, hF⟩ := cal_some hF
  refine o_call ha rfl rfl Try.call46 (W_spec_l1In ha1 (show InI 0 from by decide) hI16 hc19) ?_; clear ha a; rintro v20 w21 ⟨rfl, hx22⟩ a ha
  replace hB3 := hB3.ext hx22
  have hE23 := Ext.trans hE15 hx22
  refine op_g ha rfl (g_assign rfl) ?_; clear ha a; intro a ha; refine wpList_nil ?_; replace ha := ha.sub (σ' := [(4, (.bool x18))]) ⟨rfl, trivial⟩; refine e_then ?_; refine wp_ret ?_; obtain rfl := Option.some.inj hF
  exact f_ret1 ha rfl rfl ⟨rfl, hE23⟩
set_option maxHeartbeats 2000000 in
theorem W_spec_SetOk {W : World} {va0_0 : Value} {fa0_0 : List Nat} {a0_0 : (List (List Int))} (ha0_0 : Ro (Rp.sl 2 Rp.int) W fa0_0 va0_0 a0_0) {va1 : Value} {fa1 : List Nat} {a1 : (List Int)} (ha1 : Ro Rp.int W fa1 va1 a1) {r : Bool} (hF : F_spec_SetOk a0_0 a1 = some r) :
    Calls Try.prog 29 [.agg #[va0_0], va1].toArray W (Ret fun u w' => u = .bool r ∧ Ext W w') := by
  refine f_enter Try.func29 rfl Try.ntmps29 rfl ?_
  intro a ha
  replace ha : Fr 13 [(0, (.agg #[va0_0])), (1, va1)] a := ha
  have hE : Chg [] W W := Chg.refl _ _
  unfold F_spec_SetOk at hF
  refine wp_seq ?_; refine wp_region_lit ?_
  refine o_box ha rfl rfl rfl ?_; clear ha a; intro b1 w2 hB3 hx4 hlo5 a ha
  have q6 := Zn.one hlo5
  have q7 := Zn.upD q6 hE
  have hE8 := Ext.trans hE hx4
  refine op_g ha rfl (g_assign rfl) ?_; clear ha a; intro a ha; refine wpList_nil ?_; replace ha := ha.sub (σ' := [(1, va1), (2, (.pointer (some ⟨b1, 0, none⟩)))]) ⟨rfl, rfl, trivial⟩; refine e_then ?_; refine wp_seq ?_; refine wp_region_lit ?_; refine op_g ha rfl (g_loadA (cs := [va0_0]) Try.isAgg31 Try.sizeOf31 rfl (by simp) hB3.all) ?_; clear ha a; intro a ha; obtain ⟨x9, hc10, hF⟩ := cal_some hF
  refine o_call ha rfl rfl Try.call48 (W_spec_GraphOk (ha0_0.ext hE8) hc10) ?_; clear ha a; rintro v11 w12 ⟨rfl, hx13⟩ a ha
  replace hB3 := hB3.ext hx13
  have hE14 := Ext.trans hE8 hx13
  refine op_g ha rfl (g_move rfl) ?_; clear ha a; intro a ha
  by_cases hp15 : x9 = true
  · replace hF := if_t hp15 hF
    rw [show (x9) = true from (Iff.rfl).2 hp15] at ha
    refine op_want (yields ha rfl rfl) ?_; refine op_g ha rfl (g_move rfl) ?_; clear ha a; intro a ha; refine op_want (yields ha rfl rfl) ?_; refine op_g ha rfl (g_loadA (cs := [va0_0]) Try.isAgg31 Try.sizeOf31 rfl (by simp) hB3.all) ?_; clear ha a; intro a ha; refine op_want (yields ha rfl rfl) ?_; obtain ⟨x16, hc17, hF⟩ := cal_some hF
    refine o_call ha rfl rfl Try.call47 (W_spec_l1Size (ha0_0.ext hE14) hc17) ?_; clear ha a; rintro v18 w19 ⟨⟨rfl, hI21⟩, hx20⟩ a ha
    replace hB3 := hB3.ext hx20
    have hE22 := Ext.trans hE14 hx20
    refine op_want (yields ha rfl rfl) ?_; obtain ⟨x23, hc24, hF⟩ := cal_some hF
    refine o_call ha rfl rfl Try.call49 (W_spec_l1Set (ha1.ext hE22) hI21 hc24) ?_; clear ha a; rintro v25 w26 ⟨rfl, hx27⟩ a ha
    replace hB3 := hB3.ext hx27
    have hE28 := Ext.trans hE22 hx27
    refine op_g ha rfl (g_pick rfl rfl) ?_; clear ha a; intro a ha; refine op_g ha rfl (g_assign rfl) ?_; clear ha a; intro a ha; refine wpList_nil ?_; replace ha := ha.sub (σ' := [(4, (.bool x23))]) ⟨rfl, trivial⟩; refine e_then ?_; refine wp_ret ?_; obtain rfl := Option.some.inj hF
    exact f_ret1 ha rfl rfl ⟨rfl, hE28⟩
  replace hF := if_f hp15 hF
  rw [show (x9) = false from b_false (Iff.rfl) hp15] at ha
  (iterate 4 refine op_unwant ha rfl (yields ha rfl rfl) rfl ?_; clear ha a; intro a ha); refine op_g ha rfl (g_pick rfl rfl) ?_; clear ha a; intro a ha; refine op_g ha rfl (g_assign rfl) ?_; clear ha a; intro a ha; refine wpList_nil ?_; replace ha := ha.sub (σ' := [(4, (.bool false))]) ⟨rfl, trivial⟩; refine e_then ?_; refine wp_ret ?_; obtain rfl := Option.some.inj hF
  exact f_ret1 ha rfl rfl ⟨rfl, hE14⟩
set_option maxHeartbeats 2000000 in
theorem W_spec_l25Mask {W : World} {va0 : Value} {fa0 : List Nat} {a0 : (List Int)} (ha0 : Ro Rp.int W fa0 va0 a0) {r : Int} (hF : F_spec_l25Mask a0 = some r) :
    Calls Try.prog 30 [va0].toArray W (Ret fun u w' => (u = .int .i64 r ∧ InI r) ∧ Ext W w') := by
  refine f_enter Try.func30 rfl Try.ntmps30 rfl ?_
  intro a ha
  replace ha : Fr 20 [(0, va0)] a := ha
  have hE : Chg [] W W := Chg.refl _ _
  unfold F_spec_l25Mask at hF
  refine wp_seq ?_; refine wp_region_lit ?_; refine op_g ha rfl (g_assign rfl) ?_; clear ha a; intro a ha; refine wpList_nil ?_; replace ha := ha.sub (σ' := [(0, va0)]) ⟨rfl, trivial⟩; refine e_then ?_; refine wp_seq ?_; refine wp_region_lit ?_; refine op_g ha rfl (g_assign rfl) ?_; clear ha a; intro a ha; refine wpList_nil ?_; refine e_then ?_; refine wp_seq ?_; refine wp_seq ?_; refine wp_region_lit ?_; refine op_g ha rfl (g_assign rfl) ?_; clear ha a; intro a ha; refine wpList_nil ?_; refine e_then ?_; obtain ⟨o58, ho59, hK60⟩ := bnd_some hF
  obtain ⟨n61, hn62⟩ := lp_some ho59; clear ho59
  refine c_loop (fun a w => ∃ (i56 : Int), Fr 20 [(3, (.int .i64 i56))] a ∧ Chg [] W w ∧ InI i56 ∧ o58 = .inl i56) (fun n a w => ∃ (i27 : Int) (i29 : Int), Fr 20 [(0, va0), (3, (.int .i64 i27)), (4, (.int .i64 i29))] a ∧ Chg [] W w ∧ InI i27 ∧ InI i29 ∧ lpN (fun s => F_spec_l25Mask_l1 a0 s.1 s.2) n (i27, i29) = some o58) n61 ⟨0, 0, ha.sub ⟨rfl, rfl, rfl, trivial⟩, hE, (show InI 0 from by decide), (show InI 0 from by decide), hn62⟩ ?_ ?_
  · rintro m66 a w26 ⟨i27, i29, ha, hE31, hI28, hI30, hF⟩
    cases m66 with
    | zero => exact (lpN_zero hF).elim
    | succ m66 =>
      obtain ⟨z65, hF, hN64⟩ := lpN_succ hF
      have hF : F_spec_l25Mask_l1 a0 i27 i29 = some z65 := hF; unfold F_spec_l25Mask_l1 at hF
      refine wp_seq ?_; refine wp_seq ?_; refine wp_region_lit ?_; (iterate 2 refine op_g ha rfl (g_move rfl) ?_; clear ha a; intro a ha); refine op_g ha rfl (g_lenR sl40.und ha0 rfl) ?_; clear ha a; intro a ha; refine op_g ha rfl (g_lss rfl rfl) ?_; clear ha a; intro a ha; refine wpList_nil ?_; replace ha := ha.sub (σ' := [(0, va0), (3, (.int .i64 i27)), (4, (.int .i64 i29)), (8, (.bool (decide (i29 < (a0.length : Int)))))]) ⟨rfl, rfl, rfl, rfl, trivial⟩; refine e_then ?_; refine c_cond (i29 < (a0.length : Int)) ha rfl (decide_eq_true_iff) (fun hp67 => ?_) (fun hp67 => ?_)
      · replace hF := if_t hp67 hF
        refine wp_skip ?_; refine e_then ?_; refine wp_seq ?_; refine wp_block ?_; refine wp_region_lit ?_; (iterate 3 refine op_g ha rfl (g_move rfl) ?_; clear ha a; intro a ha); obtain ⟨x68, g69, gx70, hF⟩ := idx_some hF
        obtain ⟨p71, cs72, f73, hf74, hpb75, hat76, hr77, hi78⟩ := ha0.at g69 gx70
        obtain ⟨rfl, hI79, rfl⟩ := hr77
        refine op_g ha rfl (hi78.gives sl40 rfl rfl) ?_; clear ha a; intro a ha; refine op_g ha rfl (g_load0 hE31 Try.isAgg2 rfl hat76.one) ?_; clear ha a; intro a ha; obtain ⟨h080, hF⟩ := grd_some hF; refine op_g ha rfl (g_conv6u un2 un88 rfl hI79 h080) ?_; clear ha a; intro a ha; obtain ⟨hI81, hF⟩ := ck_some hF; refine op_g ha rfl (g64_shl rfl rfl (inU_of hI79 h080).1 hI81) ?_; clear ha a; intro a ha; refine op_g ha rfl (g64_or rfl rfl) ?_; clear ha a; intro a ha; refine op_g ha rfl (g_assign rfl) ?_; clear ha a; intro a ha; refine wpList_nil ?_; replace ha := ha.sub (σ' := [(0, va0), (3, (.int .i64 (i64or i27 (1 * 2 ^ (x68 : Int).toNat)))), (4, (.int .i64 i29))]) ⟨rfl, rfl, rfl, trivial⟩
        refine e_blk ?_; refine e_then ?_; refine wp_region_lit ?_; refine op_g ha rfl (g_move rfl) ?_; clear ha a; intro a ha; obtain ⟨hI83, hF⟩ := ck_some hF; refine op_g ha rfl (g_add rfl rfl hI83) ?_; clear ha a; intro a ha; refine op_g ha rfl (g_assign rfl) ?_; clear ha a; intro a ha; refine wpList_nil ?_; replace ha := ha.sub (σ' := [(0, va0), (3, (.int .i64 (i64or i27 (1 * 2 ^ (x68 : Int).toNat)))), (4, (.int .i64 (i29 + 1)))]) ⟨rfl, rfl, rfl, trivial⟩; refine e_lq ?_; obtain rfl := Option.some.inj hF
        exact ⟨_, Nat.lt_succ_self _, i64or i27 (1 * 2 ^ (x68 : Int).toNat), i29 + 1, ha.sub ⟨rfl, rfl, rfl, trivial⟩, hE31, (in_i64or _ _), hI83, hN64⟩
      replace hF := if_f hp67 hF; refine wp_exit ?_; refine e_then_exit ?_; refine e_lq_eq ?_; obtain rfl := Option.some.inj hF
      exact ⟨i27, ha.sub ⟨rfl, trivial⟩, hE31, hI28, (LK_inr hN64).symm⟩
  rintro a w55 ⟨i56, ha, hE63, hI57, rfl⟩
  have hF : F_spec_l25Mask_k2 i56 = some _ := hK60; clear hK60; unfold F_spec_l25Mask_k2 at hF
  refine e_then ?_; refine wp_seq ?_; refine wp_region_lit ?_; refine op_g ha rfl (g_move rfl) ?_; clear ha a; intro a ha; refine op_g ha rfl (g_assign rfl) ?_; clear ha a; intro a ha; refine wpList_nil ?_; replace ha := ha.sub (σ' := [(2, (.int .i64 i56))]) ⟨rfl, trivial⟩; refine e_then ?_; refine wp_ret ?_; obtain rfl := Option.some.inj hF
  exact f_ret1 ha rfl rfl ⟨⟨rfl, hI57⟩, hE63⟩
set_option maxHeartbeats 2000000 in
theorem W_spec_l25Bits {W : World} {va0_0 : Value} {fa0_0 : List Nat} {a0_0 : (List (List Int))} (ha0_0 : Ro (Rp.sl 2 Rp.int) W fa0_0 va0_0 a0_0) {r : (List Int)} (hF : F_spec_l25Bits a0_0 = some r) :
    Calls Try.prog 37 [.agg #[va0_0]].toArray W (Ret fun u w' => ∃ (b_u : Int), Ow Rp.int 2 true w' [] b_u u r ∧ Zn W b_u ∧ Ext W w') := by
  refine f_enter Try.func37 rfl Try.ntmps37 rfl ?_
  intro a ha
  replace ha : Fr 42 [(0, (.agg #[va0_0]))] a := ha
  have hE : Chg [] W W := Chg.refl _ _
  unfold F_spec_l25Bits at hF
  refine wp_seq ?_; refine wp_region_lit ?_
  refine o_box ha rfl rfl rfl ?_; clear ha a; intro b1 w2 hB3 hx4 hlo5 a ha
  have q6 := Zn.one hlo5
  have q7 := Zn.upD q6 hE
  have hE8 := Ext.trans hE hx4
  refine op_g ha rfl (g_assign rfl) ?_; clear ha a; intro a ha; refine wpList_nil ?_; replace ha := ha.sub (σ' := [(1, (.pointer (some ⟨b1, 0, none⟩)))]) ⟨rfl, trivial⟩; refine e_then ?_; refine wp_seq ?_; refine wp_region_lit ?_
  refine o_lit0 Rp.int ha rfl sl40 ?_; clear ha a; intro v9 w10 h11 hx12 a ha
  obtain ⟨b14, hb14⟩ : ∃ b : Int, b = w2.heap.size := ⟨_, rfl⟩; rw [← hb14] at h11
  have q15 := zn_of hb14
  have q16 := Nq.new hB3.fpb q15
  have q17 := Nq.madeO q15 hB3.bi
  have q18 := Zn.upD q15 hE8
  replace hB3 := hB3.ext hx12
  have hE19 := Ext.trans hE8 hx12
  refine op_g ha rfl (g_assign rfl) ?_; clear ha a; intro a ha; refine wpList_nil ?_; replace ha := ha.sub (σ' := [(1, (.pointer (some ⟨b1, 0, none⟩))), (3, v9)]) ⟨rfl, rfl, trivial⟩; refine e_then ?_; refine wp_seq ?_; refine wp_seq ?_; refine wp_region_lit ?_; refine op_g ha rfl (g_assign rfl) ?_; clear ha a; intro a ha; refine wpList_nil ?_; refine e_then ?_; obtain ⟨o542, ho543, hK544⟩ := bnd_some hF
  obtain ⟨n545, hn546⟩ := lp_some ho543; clear ho543
  refine c_loop (fun a w => ∃ (l539 : (List Int)) (v540 : Value) (b541 : Int), Fr 42 [(3, v540)] a ∧ Chg [] W w ∧ Ow Rp.int 2 true w [] b541 v540 l539 ∧ Zn W b541 ∧ o542 = .inl l539) (fun n a w => ∃ (l281 : (List Int)) (i284 : Int) (v282 : Value) (b283 : Int), Fr 42 [(1, (.pointer (some ⟨b1, 0, none⟩))), (3, v282), (4, (.int .i64 i284))] a ∧ Chg [] W w ∧ InI i284 ∧ Bx w b1 [va0_0] 31 ∧ Zn W (b1 : Int) ∧ Ow Rp.int 2 true w [] b283 v282 l281 ∧ Zn W b283 ∧ Nq ([b1]) b283 ∧ Nq (bl b283 ++ []) (b1 : Int) ∧ lpN (fun s => F_spec_l25Bits_l1 a0_0 s.1 s.2) n (l281, i284) = some o542) n545 ⟨([] : (List Int)), 0, v9, b14, ha.sub ⟨rfl, rfl, rfl, trivial⟩, hE19, (show InI 0 from by decide), hB3, q7, h11, q18, q16, q17, hn546⟩ ?_ ?_
  · rintro m550 a w275 ⟨l281, i284, v282, b283, ha, hE288, hI285, hB276, z277, h279, z280, q286, q287, hF⟩
    cases m550 with
    | zero => exact (lpN_zero hF).elim
    | succ m550 =>
      obtain ⟨z549, hF, hN548⟩ := lpN_succ hF
      have hF : F_spec_l25Bits_l1 a0_0 l281 i284 = some z549 := hF; unfold F_spec_l25Bits_l1 at hF
      refine wp_seq ?_; refine wp_seq ?_; refine wp_region_lit ?_; refine op_g ha rfl (g_move rfl) ?_; clear ha a; intro a ha; refine op_g ha rfl (g_field0 st31_0 rfl) ?_; clear ha a; intro a ha; refine op_g ha rfl (g_load Try.isAgg22 rfl (hB276.cell rfl)) ?_; clear ha a; intro a ha; refine op_g ha rfl (g_lenR sl22.und ha0_0 rfl) ?_; clear ha a; intro a ha; refine op_g ha rfl (g_lss rfl rfl) ?_; clear ha a; intro a ha; refine wpList_nil ?_; replace ha := ha.sub (σ' := [(1, (.pointer (some ⟨b1, 0, none⟩))), (3, v282), (4, (.int .i64 i284)), (12, (.bool (decide (i284 < (a0_0.length : Int)))))]) ⟨rfl, rfl, rfl, rfl, trivial⟩
      refine e_then ?_; refine c_cond (i284 < (a0_0.length : Int)) ha rfl (decide_eq_true_iff) (fun hp551 => ?_) (fun hp551 => ?_)
      · replace hF := if_t hp551 hF
        refine wp_skip ?_; refine e_then ?_; refine wp_seq ?_; refine wp_block ?_; refine wp_seq ?_; refine wp_region_lit ?_; refine op_g ha rfl (g_assign rfl) ?_; clear ha a; intro a ha; refine wpList_nil ?_; replace ha := ha.sub (σ' := [(1, (.pointer (some ⟨b1, 0, none⟩))), (3, v282), (4, (.int .i64 i284)), (5, (.int .i64 0))]) ⟨rfl, rfl, rfl, rfl, trivial⟩; refine e_then ?_; refine wp_seq ?_; refine wp_seq ?_; refine wp_region_lit ?_; refine op_g ha rfl (g_assign rfl) ?_; clear ha a; intro a ha; refine wpList_nil ?_; replace ha := ha.sub (σ' := [(1, (.pointer (some ⟨b1, 0, none⟩))), (3, v282), (4, (.int .i64 i284)), (5, (.int .i64 0)), (6, (.int .i64 0))]) ⟨rfl, rfl, rfl, rfl, rfl, trivial⟩
        refine e_then ?_; obtain ⟨o700, ho701, hK702⟩ := bnd_some hF
        obtain ⟨n703, hn704⟩ := lp_some ho701; clear ho701
        refine c_loop (fun a w => ∃ (i696 : Int), Fr 42 [(1, (.pointer (some ⟨b1, 0, none⟩))), (3, v282), (4, (.int .i64 i284)), (5, (.int .i64 i696))] a ∧ Chg [] W w ∧ InI i696 ∧ Bx w b1 [va0_0] 31 ∧ Zn W (b1 : Int) ∧ Ow Rp.int 2 true w [] b283 v282 l281 ∧ Zn W b283 ∧ Nq ([b1]) b283 ∧ Nq (bl b283 ++ []) (b1 : Int) ∧ o700 = .inl i696) (fun n a w => ∃ (i625 : Int) (i627 : Int), Fr 42 [(1, (.pointer (some ⟨b1, 0, none⟩))), (3, v282), (4, (.int .i64 i284)), (5, (.int .i64 i625)), (6, (.int .i64 i627))] a ∧ Chg [] W w ∧ InI i625 ∧ InI i627 ∧ Bx w b1 [va0_0] 31 ∧ Zn W (b1 : Int) ∧ Ow Rp.int 2 true w [] b283 v282 l281 ∧ Zn W b283 ∧ Nq ([b1]) b283 ∧ Nq (bl b283 ++ []) (b1 : Int) ∧ lpN (fun s => F_spec_l25Bits_l2 a0_0 i284 s.1 s.2) n (i625, i627) = some o700) n703 ⟨0, 0, ha.sub ⟨rfl, rfl, rfl, rfl, rfl, trivial⟩, hE288, (show InI 0 from by decide), (show InI 0 from by decide), hB276, z277, h279, z280, q286, q287, hn704⟩ ?_ ?_
        · rintro m708 a w619 ⟨i625, i627, ha, hE631, hI626, hI628, hB620, z621, h623, z624, q629, q630, hF⟩
          cases m708 with
          | zero => exact (lpN_zero hF).elim
          | succ m708 =>
            obtain ⟨z707, hF, hN706⟩ := lpN_succ hF
            have hF : F_spec_l25Bits_l2 a0_0 i284 i625 i627 = some z707 := hF; unfold F_spec_l25Bits_l2 at hF
            refine wp_seq ?_; refine wp_seq ?_; refine wp_region_lit ?_; refine op_g ha rfl (g_move rfl) ?_; clear ha a; intro a ha; refine op_g ha rfl (g_field0 st31_0 rfl) ?_; clear ha a; intro a ha; refine op_g ha rfl (g_load Try.isAgg22 rfl (hB620.cell rfl)) ?_; clear ha a; intro a ha; refine op_g ha rfl (g_move rfl) ?_; clear ha a; intro a ha; obtain ⟨x709, g710, gx711, hF⟩ := idx_some hF
            obtain ⟨p712, cs713, f714, hf715, hpb716, hat717, hr718, hi719⟩ := ha0_0.at g710 gx711
            obtain ⟨v720, rfl, h721⟩ := hr718
            have h721 : Ro Rp.int W f714 v720 x709 := h721
            refine op_g ha rfl (hi719.gives sl22 rfl rfl) ?_; clear ha a; intro a ha; refine op_g ha rfl (g_load0 hE631 Try.isAgg40 rfl hat717.one) ?_; clear ha a; intro a ha; refine op_g ha rfl (g_lenR sl40.und h721 rfl) ?_; clear ha a; intro a ha; refine op_g ha rfl (g_lss rfl rfl) ?_; clear ha a; intro a ha; refine wpList_nil ?_; replace ha := ha.sub (σ' := [(1, (.pointer (some ⟨b1, 0, none⟩))), (3, v282), (4, (.int .i64 i284)), (5, (.int .i64 i625)), (6, (.int .i64 i627)), (22, (.bool (decide (i627 < (x709.length : Int)))))]) ⟨rfl, rfl, rfl, rfl, rfl, rfl, trivial⟩; refine e_then ?_; refine c_cond (i627 < (x709.length : Int)) ha rfl (decide_eq_true_iff) (fun hp723 => ?_) (fun hp723 => ?_)
            · replace hF := if_t hp723 hF
              refine wp_skip ?_; refine e_then ?_; refine wp_seq ?_; refine wp_block ?_; refine wp_region_lit ?_; refine op_g ha rfl (g_move rfl) ?_; clear ha a; intro a ha; refine op_g ha rfl (g_field0 st31_0 rfl) ?_; clear ha a; intro a ha; refine op_g ha rfl (g_load Try.isAgg22 rfl (hB620.cell rfl)) ?_; clear ha a; intro a ha; refine op_g ha rfl (g_move rfl) ?_; clear ha a; intro a ha; obtain ⟨x724, g725, gx726, hF⟩ := idx_some hF
              obtain ⟨p727, cs728, f729, hf730, hpb731, hat732, hr733, hi734⟩ := ha0_0.at g725 gx726
              obtain ⟨v735, rfl, h736⟩ := hr733
              have h736 : Ro Rp.int W f729 v735 x724 := h736
              refine op_g ha rfl (hi734.gives sl22 rfl rfl) ?_; clear ha a; intro a ha; refine op_g ha rfl (g_load0 hE631 Try.isAgg40 rfl hat732.one) ?_; clear ha a; intro a ha; refine op_g ha rfl (g_move rfl) ?_; clear ha a; intro a ha; obtain ⟨x738, g739, gx740, hF⟩ := idx_some hF
              obtain ⟨p741, cs742, f743, hf744, hpb745, hat746, hr747, hi748⟩ := h736.at g739 gx740
              obtain ⟨rfl, hI749, rfl⟩ := hr747
              refine op_g ha rfl (hi748.gives sl40 rfl rfl) ?_; clear ha a; intro a ha; refine op_g ha rfl (g_load0 hE631 Try.isAgg2 rfl hat746.one) ?_; clear ha a; intro a ha; obtain ⟨h0750, hF⟩ := grd_some hF; refine op_g ha rfl (g_conv6u un2 un88 rfl hI749 h0750) ?_; clear ha a; intro a ha; obtain ⟨hI751, hF⟩ := ck_some hF; refine op_g ha rfl (g64_shl rfl rfl (inU_of hI749 h0750).1 hI751) ?_; clear ha a; intro a ha; refine op_g ha rfl (g64_or rfl rfl) ?_; clear ha a; intro a ha; refine op_g ha rfl (g_assign rfl) ?_; clear ha a; intro a ha; refine wpList_nil ?_; replace ha := ha.sub (σ' := [(1, (.pointer (some ⟨b1, 0, none⟩))), (3, v282), (4, (.int .i64 i284)), (5, (.int .i64 (i64or i625 (1 * 2 ^ (x738 : Int).toNat)))), (6, (.int .i64 i627))]) ⟨rfl, rfl, rfl, rfl, rfl, trivial⟩
              refine e_blk ?_; refine e_then ?_; refine wp_region_lit ?_; refine op_g ha rfl (g_move rfl) ?_; clear ha a; intro a ha; obtain ⟨hI753, hF⟩ := ck_some hF; refine op_g ha rfl (g_add rfl rfl hI753) ?_; clear ha a; intro a ha; refine op_g ha rfl (g_assign rfl) ?_; clear ha a; intro a ha; refine wpList_nil ?_; replace ha := ha.sub (σ' := [(1, (.pointer (some ⟨b1, 0, none⟩))), (3, v282), (4, (.int .i64 i284)), (5, (.int .i64 (i64or i625 (1 * 2 ^ (x738 : Int).toNat)))), (6, (.int .i64 (i627 + 1)))]) ⟨rfl, rfl, rfl, rfl, rfl, trivial⟩; refine e_lq ?_; obtain rfl := Option.some.inj hF
              exact ⟨_, Nat.lt_succ_self _, i64or i625 (1 * 2 ^ (x738 : Int).toNat), i627 + 1, ha.sub ⟨rfl, rfl, rfl, rfl, rfl, trivial⟩, hE631, (in_i64or _ _), hI753, hB620, z621, h623, z624, q629, q630, hN706⟩
            replace hF := if_f hp723 hF; refine wp_exit ?_; refine e_then_exit ?_; refine e_lq_eq ?_; obtain rfl := Option.some.inj hF
            exact ⟨i625, ha.sub ⟨rfl, rfl, rfl, rfl, trivial⟩, hE631, hI626, hB620, z621, h623, z624, q629, q630, (LK_inr hN706).symm⟩
        rintro a w690 ⟨i696, ha, hE705, hI697, hB691, z692, h694, z695, q698, q699, rfl⟩
        have hF : F_spec_l25Bits_k3 l281 i284 i696 = some _ := hK702; clear hK702; unfold F_spec_l25Bits_k3 at hF
        refine e_then ?_; refine wp_region_lit ?_; (iterate 2 refine op_g ha rfl (g_move rfl) ?_; clear ha a; intro a ha)
        refine o_lit1 (o := true) (y := i696) Rp.int ha rfl sl40 rfl rfl rfl ⟨rfl, hI697, rfl⟩ ?_; clear ha a; intro v755 w756 h757 hx758 a ha
        obtain ⟨b760, hb760⟩ : ∃ b : Int, b = w690.heap.size := ⟨_, rfl⟩; rw [← hb760] at h757
        have q761 := zn_of hb760
        have q762 := Nq.new hB691.fpb q761
        have q763 := Nq.madeO q761 hB691.bi
        have q764 := Nq.new h694.fpb q761
        have q765 := Nq.madeO q761 h694.blt
        have q766 := Zn.upD q761 hE705
        replace hB691 := hB691.ext hx758
        replace h694 := h694.ext hx758
        have hE767 := Ext.trans hE705 hx758
        obtain ⟨hl768, hF⟩ := app_some hF
        refine o_append ha rfl sl40 rfl rfl rfl h694 h757.src (Nq.nil _) hl768 ?_; clear ha a; intro v769 w770 b771 h772 hc773 hb774 a ha
        replace h772 : Ow Rp.int 2 true w770 [] b771 v769 _ := h772
        have q776 := Nq.appY q698 hB691.fpb hb774
        have q777 := Nq.appX q699 (Nq.nil _) hb774 hB691.bi
        have q778 := Nq.appY q765 h757.fpb hb774
        have q779 := Nq.appX q764 (Nq.nil _) hb774 h757.blt
        have q780 := Zn.appD z695 hb774 hE767
        replace hB691 := hB691.nq hc773 q698
        replace h757 := h757.nq hc773 q765
        have hE781 := Ext.then hE767 hc773 (Zn.bl z695)
        refine op_g ha rfl (g_assign rfl) ?_; clear ha a; intro a ha; refine wpList_nil ?_; replace ha := ha.sub (σ' := [(1, (.pointer (some ⟨b1, 0, none⟩))), (3, v769), (4, (.int .i64 i284))]) ⟨rfl, rfl, rfl, trivial⟩; refine e_blk ?_; refine e_then ?_; refine wp_region_lit ?_; refine op_g ha rfl (g_move rfl) ?_; clear ha a; intro a ha; obtain ⟨hI782, hF⟩ := ck_some hF; refine op_g ha rfl (g_add rfl rfl hI782) ?_; clear ha a; intro a ha; refine op_g ha rfl (g_assign rfl) ?_; clear ha a; intro a ha; refine wpList_nil ?_; replace ha := ha.sub (σ' := [(1, (.pointer (some ⟨b1, 0, none⟩))), (3, v769), (4, (.int .i64 (i284 + 1)))]) ⟨rfl, rfl, rfl, trivial⟩
        refine e_lq ?_; obtain rfl := Option.some.inj hF
        exact ⟨_, Nat.lt_succ_self _, (l281 ++ ([i696])), i284 + 1, v769, b771, ha.sub ⟨rfl, rfl, rfl, trivial⟩, hE781, hI782, hB691, z692, h772, q780, q776, q777, hN548⟩
      replace hF := if_f hp551 hF; refine wp_exit ?_; refine e_then_exit ?_; refine e_lq_eq ?_; obtain rfl := Option.some.inj hF
      exact ⟨l281, v282, b283, ha.sub ⟨rfl, trivial⟩, hE288, h279, z280, (LK_inr hN548).symm⟩
  rintro a w535 ⟨l539, v540, b541, ha, hE547, h537, z538, rfl⟩
  have hF : F_spec_l25Bits_k4 l539 = some _ := hK544; clear hK544; unfold F_spec_l25Bits_k4 at hF
  refine e_then ?_; refine wp_seq ?_; refine wp_region_lit ?_; refine op_g ha rfl (g_move rfl) ?_; clear ha a; intro a ha; refine op_g ha rfl (g_assign rfl) ?_; clear ha a; intro a ha; refine wpList_nil ?_; replace ha := ha.sub (σ' := [(2, v540)]) ⟨rfl, trivial⟩; refine e_then ?_; refine wp_ret ?_; obtain rfl := Option.some.inj hF
  exact f_ret1 ha rfl rfl ⟨_, h537, z538, hE547⟩
set_option maxHeartbeats 2000000 in
theorem W_spec_l1Copy {W : World} {va0 : Value} {fa0 : List Nat} {a0 : (List Int)} (ha0 : Ro Rp.int W fa0 va0 a0) {r : (List Int)} (hF : F_spec_l1Copy a0 = some r) :
    Calls Try.prog 55 [va0].toArray W (Ret fun u w' => ∃ (b_u : Int), Ow Rp.int 2 true w' [] b_u u r ∧ Zn W b_u ∧ Ext W w') := by
  refine f_enter Try.func55 rfl Try.ntmps55 rfl ?_
  intro a ha
  replace ha : Fr 6 [(0, va0)] a := ha
  have hE : Chg [] W W := Chg.refl _ _
  unfold F_spec_l1Copy at hF
  refine wp_seq ?_; refine wp_region_lit ?_; refine op_g ha rfl (g_assign rfl) ?_; clear ha a; intro a ha; refine wpList_nil ?_; replace ha := ha.sub (σ' := [(0, va0)]) ⟨rfl, trivial⟩; refine e_then ?_; refine wp_seq ?_; refine wp_region_lit ?_
  refine o_lit0 Rp.int ha rfl sl40 ?_; clear ha a; intro v1 w2 h3 hx4 a ha
  obtain ⟨b6, hb6⟩ : ∃ b : Int, b = W.heap.size := ⟨_, rfl⟩; rw [← hb6] at h3
  have q7 := zn_of hb6
  have q8 := Zn.upD q7 hE
  have hE9 := Ext.trans hE hx4
  refine op_g ha rfl (g_move rfl) ?_; clear ha a; intro a ha; obtain ⟨hl10, hF⟩ := app_some hF
  obtain ⟨_, hs11, _⟩ := (ha0.ext hE9).src
  refine o_append ha rfl sl40 rfl rfl rfl h3 (hs11.up scal_int) (Nq.nil _) hl10 ?_; clear ha a; intro v12 w13 b14 h15 hc16 hb17 a ha
  replace h15 : Ow Rp.int 2 true w13 [] b14 v12 _ := h15
  have q19 := Zn.appD q8 hb17 hE9
  have hE20 := Ext.then hE9 hc16 (Zn.bl q8)
  refine op_g ha rfl (g_assign rfl) ?_; clear ha a; intro a ha; refine wpList_nil ?_; replace ha := ha.sub (σ' := [(2, v12)]) ⟨rfl, trivial⟩; refine e_then ?_; refine wp_ret ?_; obtain rfl := Option.some.inj hF
  exact f_ret1 ha rfl rfl ⟨_, h15, q19, hE20⟩
set_option maxHeartbeats 2000000 in
theorem W_spec_l30Says_step {rc : (List Int) → (List (Int × (Int × Int))) → Int → (List Int) → (List Int) → Option Bool} (ih : ∀ {W : World} {va0 : Value} {fa0 : List Nat} {a0 : (List Int)} (ha0 : Ro Rp.int W fa0 va0 a0) {va1_0 : Value} {fa1_0 : List Nat} {a1_0 : (List (Int × (Int × Int)))} (ha1_0 : Ro (Rp.prod Rp.int (Rp.prod Rp.int Rp.int)) W fa1_0 va1_0 a1_0) {a2 : Int} (ha2 : InI a2) {va3 : Value} {fa3 : List Nat} {a3 : (List Int)} (ha3 : Ro Rp.int W fa3 va3 a3) {va4 : Value} {fa4 : List Nat} {a4 : (List Int)} (ha4 : Ro Rp.int W fa4 va4 a4) {r : Bool} (hF : rc a0 a1_0 a2 a3 a4 = some r),
    Calls Try.prog 36 [va0, .agg #[va1_0], .int .i64 a2, va3, va4].toArray W (Ret fun u w' => u = .bool r ∧ Ext W w')) {W : World} {va0 : Value} {fa0 : List Nat} {a0 : (List Int)} (ha0 : Ro Rp.int W fa0 va0 a0) {va1_0 : Value} {fa1_0 : List Nat} {a1_0 : (List (Int × (Int × Int)))} (ha1_0 : Ro (Rp.prod Rp.int (Rp.prod Rp.int Rp.int)) W fa1_0 va1_0 a1_0) {a2 : Int} (ha2 : InI a2) {va3 : Value} {fa3 : List Nat} {a3 : (List Int)} (ha3 : Ro Rp.int W fa3 va3 a3) {va4 : Value} {fa4 : List Nat} {a4 : (List Int)} (ha4 : Ro Rp.int W fa4 va4 a4) {r : Bool} (hF : F_spec_l30Says_body rc a0 a1_0 a2 a3 a4 = some r) :
    Calls Try.prog 36 [va0, .agg #[va1_0], .int .i64 a2, va3, va4].toArray W (Ret fun u w' => u = .bool r ∧ Ext W w') := by
  refine f_enter Try.func36 rfl Try.ntmps36 rfl ?_
  intro a ha
  replace ha : Fr 161 [(0, va0), (1, (.agg #[va1_0])), (2, (.int .i64 a2)), (3, va3), (4, va4)] a := ha
  have hE : Chg [] W W := Chg.refl _ _
  unfold F_spec_l30Says_body at hF
  refine wp_seq ?_; refine wp_region_lit ?_
  refine o_box ha rfl rfl rfl ?_; clear ha a; intro b1 w2 hB3 hx4 hlo5 a ha
  have q6 := Zn.one hlo5
  have q7 := Zn.upD q6 hE
  have hE8 := Ext.trans hE hx4
  refine op_g ha rfl (g_assign rfl) ?_; clear ha a; intro a ha; refine wpList_nil ?_; replace ha := ha.sub (σ' := [(0, va0), (2, (.int .i64 a2)), (3, va3), (4, va4), (6, (.pointer (some ⟨b1, 0, none⟩)))]) ⟨rfl, rfl, rfl, rfl, rfl, trivial⟩; refine e_then ?_; refine wp_seq ?_; refine wp_region_lit ?_; refine op_g ha rfl (g_field0 st35_0 rfl) ?_; clear ha a; intro a ha; refine op_g ha rfl (g_load Try.isAgg33 rfl (hB3.cell rfl)) ?_; clear ha a; intro a ha; refine op_g ha rfl (g_move rfl) ?_; clear ha a; intro a ha; obtain ⟨x9, g10, gx11, hF⟩ := idx_some hF
  obtain ⟨p12, cs13, f14, hf15, hpb16, hat17, hr18, hi19⟩ := ha1_0.at g10 gx11
  obtain ⟨f20, f21, c22, c23, rfl, rfl, h24, h25⟩ := hr18
  obtain ⟨rfl, hI28, rfl⟩ := h24
  obtain ⟨f29, f30, c31, c32, rfl, rfl, h33, h34⟩ := h25
  obtain ⟨rfl, hI37, rfl⟩ := h33
  obtain ⟨rfl, hI38, rfl⟩ := h34
  refine op_g ha rfl (hi19.gives sl33 rfl rfl) ?_; clear ha a; intro a ha; refine op_g ha rfl (g_loadA0 (cs := [(.int .i64 x9.1), (.int .i64 x9.2.1), (.int .i64 x9.2.2)]) hE8 Try.isAgg71 Try.sizeOf71 rfl (by simp) hat17) ?_; clear ha a; intro a ha
  refine o_alloc (cs := [(.int .i64 0), (.int .i64 0), (.int .i64 0)]) ha rfl Try.zeroValue71 rfl ?_; clear ha a; intro b39 w40 hB41 hx42 hlo43 a ha
  have q44 := Zn.one hlo43
  have q45 := Nq.new hB3.fpb q44
  have q46 := Nq.made1 hlo43 hB3.bi
  have q47 := Zn.upD q44 hE8
  replace hB3 := hB3.ext hx42
  have hE48 := Ext.trans hE8 hx42
  refine o_storeA (vs := [(.int .i64 x9.1), (.int .i64 x9.2.1), (.int .i64 x9.2.2)]) ha hB41 Try.sizeOf71 rfl rfl (by intro c hc; simp only [List.mem_cons, List.not_mem_nil, or_false] at hc; rcases hc with hc | hc | hc <;> subst hc <;> first | rfl | exact rfl | exact rfl | exact rfl) rfl ?_; intro w49 hB50 hc51
  replace hc51 := hc51.bl
  replace hB50 : Bx w49 b39 [(.int .i64 x9.1), (.int .i64 x9.2.1), (.int .i64 x9.2.2)] 71 := hB50
  replace hB3 := hB3.nq hc51 q45
  have hE52 := Ext.then hE48 hc51 (Zn.bl q47)
  refine wpList_nil ?_; replace ha := ha.sub (σ' := [(0, va0), (3, va3), (4, va4), (6, (.pointer (some ⟨b1, 0, none⟩))), (11, (.pointer (some ⟨b39, 0, none⟩)))]) ⟨rfl, rfl, rfl, rfl, rfl, trivial⟩; refine e_then ?_; refine wp_seq ?_; refine wp_seq ?_; refine wp_region_lit ?_; refine op_g ha rfl (g_field0 st71_0 rfl) ?_; clear ha a; intro a ha; refine op_g ha rfl (g_load Try.isAgg2 rfl (hB50.cell rfl)) ?_; clear ha a; intro a ha; refine wpList_nil ?_; replace ha := ha.sub (σ' := [(0, va0), (3, va3), (4, va4), (6, (.pointer (some ⟨b1, 0, none⟩))), (11, (.pointer (some ⟨b39, 0, none⟩))), (22, (.int .i64 x9.1))]) ⟨rfl, rfl, rfl, rfl, rfl, rfl, trivial⟩
  refine e_then ?_; refine wp_block ?_; refine wp_seq ?_; refine wp_region_lit ?_; refine op_g ha rfl (g_eql rfl rfl) ?_; clear ha a; intro a ha; refine op_g ha rfl (g_assign rfl) ?_; clear ha a; intro a ha; refine wpList_nil ?_; replace ha := ha.sub (σ' := [(0, va0), (3, va3), (4, va4), (6, (.pointer (some ⟨b1, 0, none⟩))), (11, (.pointer (some ⟨b39, 0, none⟩))), (22, (.int .i64 x9.1)), (23, (.bool (decide (x9.1 = 1))))]) ⟨rfl, rfl, rfl, rfl, rfl, rfl, rfl, trivial⟩; refine e_then ?_; refine c_cond (x9.1 = 1) ha rfl (decide_eq_true_iff) (fun hp53 => ?_) (fun hp53 => ?_)
  · replace hF := if_t hp53 hF
    refine wp_seq ?_; refine d_quiet hmix (by kernel_rfl) ?_; (iterate 2 refine q_g ha rfl (g_move rfl) ?_; clear ha a; intro a ha); refine q_g ha rfl (g_field0 st71_1 rfl) ?_; clear ha a; intro a ha; refine q_g ha rfl (g_load Try.isAgg2 rfl (hB50.cell rfl)) ?_; clear ha a; intro a ha; obtain ⟨x54, g55, gx56, hF⟩ := idx_some hF
    obtain ⟨p57, cs58, f59, hf60, hpb61, hat62, hr63, hi64⟩ := ha3.at g55 gx56
    obtain ⟨rfl, hI65, rfl⟩ := hr63
    refine q_g ha rfl (hi64.gives sl40 rfl rfl) ?_; clear ha a; intro a ha; refine q_g ha rfl (g_load0 hE52 Try.isAgg2 rfl hat62.one) ?_; clear ha a; intro a ha; obtain ⟨x66, g67, gx68, hF⟩ := idx_some hF
    obtain ⟨p69, cs70, f71, hf72, hpb73, hat74, hr75, hi76⟩ := ha0.at g67 gx68
    obtain ⟨rfl, hI77, rfl⟩ := hr75
    refine q_g ha rfl (hi76.gives sl40 rfl rfl) ?_; clear ha a; intro a ha; refine q_g ha rfl (g_load0 hE52 Try.isAgg2 rfl hat74.one) ?_; clear ha a; intro a ha; refine q_g ha rfl (g_move rfl) ?_; clear ha a; intro a ha; refine q_g ha rfl (g_field0 st71_2 rfl) ?_; clear ha a; intro a ha; refine q_g ha rfl (g_load Try.isAgg2 rfl (hB50.cell rfl)) ?_; clear ha a; intro a ha; obtain ⟨x78, g79, gx80, hF⟩ := idx_some hF
    obtain ⟨p81, cs82, f83, hf84, hpb85, hat86, hr87, hi88⟩ := ha3.at g79 gx80
    obtain ⟨rfl, hI89, rfl⟩ := hr87
    refine q_g ha rfl (hi88.gives sl40 rfl rfl) ?_; clear ha a; intro a ha; refine q_g ha rfl (g_load0 hE52 Try.isAgg2 rfl hat86.one) ?_; clear ha a; intro a ha; obtain ⟨h090, hF⟩ := grd_some hF; refine q_g ha rfl (g_conv6u un2 un88 rfl hI89 h090) ?_; clear ha a; intro a ha; refine q_g ha rfl (g64_shr rfl rfl hI77 (inU_of hI89 h090).1) ?_; clear ha a; intro a ha; refine q_g ha rfl (g64_and rfl rfl) ?_; clear ha a; intro a ha; refine q_g ha rfl (g_eql rfl rfl) ?_; clear ha a; intro a ha; refine q_g ha rfl (g_assign rfl) ?_; clear ha a; intro a ha
    refine q_nil ?_; intro w91 hx92
    replace hB3 := hB3.ext hx92
    replace hB50 := hB50.ext hx92
    have hE93 := Ext.trans hE52 hx92
    replace ha := ha.sub (σ' := [(10, (.bool (decide ((i64and (x66 / 2 ^ (x78 : Int).toNat) 1) = 1))))]) ⟨rfl, trivial⟩; refine e_then ?_; refine wp_ret ?_; refine e_blk_ret ?_; refine e_then_ret ?_; obtain rfl := Option.some.inj hF
    exact f_ret1 ha rfl rfl ⟨rfl, hE93⟩
  replace hF := if_f hp53 hF; refine wp_seq ?_; refine wp_region_lit ?_; refine op_g ha rfl (g_eql rfl rfl) ?_; clear ha a; intro a ha; refine op_g ha rfl (g_assign rfl) ?_; clear ha a; intro a ha; refine wpList_nil ?_; replace ha := ha.sub (σ' := [(0, va0), (3, va3), (4, va4), (6, (.pointer (some ⟨b1, 0, none⟩))), (11, (.pointer (some ⟨b39, 0, none⟩))), (22, (.int .i64 x9.1)), (42, (.bool (decide (x9.1 = 2))))]) ⟨rfl, rfl, rfl, rfl, rfl, rfl, rfl, trivial⟩; refine e_then ?_; refine c_cond (x9.1 = 2) ha rfl (decide_eq_true_iff) (fun hp94 => ?_) (fun hp94 => ?_)
  · replace hF := if_t hp94 hF
    refine wp_seq ?_; refine d_quiet hmix (by kernel_rfl) ?_; refine q_g ha rfl (g_move rfl) ?_; clear ha a; intro a ha; refine q_g ha rfl (g_field0 st71_1 rfl) ?_; clear ha a; intro a ha; refine q_g ha rfl (g_load Try.isAgg2 rfl (hB50.cell rfl)) ?_; clear ha a; intro a ha; obtain ⟨x95, g96, gx97, hF⟩ := idx_some hF
    obtain ⟨p98, cs99, f100, hf101, hpb102, hat103, hr104, hi105⟩ := ha3.at g96 gx97
    obtain ⟨rfl, hI106, rfl⟩ := hr104
    refine q_g ha rfl (hi105.gives sl40 rfl rfl) ?_; clear ha a; intro a ha; refine q_g ha rfl (g_load0 hE52 Try.isAgg2 rfl hat103.one) ?_; clear ha a; intro a ha; refine q_g ha rfl (g_move rfl) ?_; clear ha a; intro a ha; refine q_g ha rfl (g_field0 st71_2 rfl) ?_; clear ha a; intro a ha; refine q_g ha rfl (g_load Try.isAgg2 rfl (hB50.cell rfl)) ?_; clear ha a; intro a ha; obtain ⟨x107, g108, gx109, hF⟩ := idx_some hF
    obtain ⟨p110, cs111, f112, hf113, hpb114, hat115, hr116, hi117⟩ := ha3.at g108 gx109
    obtain ⟨rfl, hI118, rfl⟩ := hr116
    refine q_g ha rfl (hi117.gives sl40 rfl rfl) ?_; clear ha a; intro a ha; refine q_g ha rfl (g_load0 hE52 Try.isAgg2 rfl hat115.one) ?_; clear ha a; intro a ha; refine q_g ha rfl (g_eql rfl rfl) ?_; clear ha a; intro a ha; refine q_g ha rfl (g_assign rfl) ?_; clear ha a; intro a ha
    refine q_nil ?_; intro w119 hx120
    replace hB3 := hB3.ext hx120
    replace hB50 := hB50.ext hx120
    have hE121 := Ext.trans hE52 hx120
    replace ha := ha.sub (σ' := [(10, (.bool (decide (x95 = x107))))]) ⟨rfl, trivial⟩; refine e_then ?_; refine wp_ret ?_; refine e_blk_ret ?_; refine e_then_ret ?_; obtain rfl := Option.some.inj hF
    exact f_ret1 ha rfl rfl ⟨rfl, hE121⟩
  replace hF := if_f hp94 hF; refine wp_seq ?_; refine wp_region_lit ?_; refine op_g ha rfl (g_eql rfl rfl) ?_; clear ha a; intro a ha; refine op_g ha rfl (g_assign rfl) ?_; clear ha a; intro a ha; refine wpList_nil ?_; replace ha := ha.sub (σ' := [(0, va0), (3, va3), (4, va4), (6, (.pointer (some ⟨b1, 0, none⟩))), (11, (.pointer (some ⟨b39, 0, none⟩))), (22, (.int .i64 x9.1)), (55, (.bool (decide (x9.1 = 3))))]) ⟨rfl, rfl, rfl, rfl, rfl, rfl, rfl, trivial⟩; refine e_then ?_; refine c_cond (x9.1 = 3) ha rfl (decide_eq_true_iff) (fun hp122 => ?_) (fun hp122 => ?_)
  · replace hF := if_t hp122 hF
    refine wp_seq ?_; refine d_quiet hmix (by kernel_rfl) ?_; refine q_g ha rfl (g_move rfl) ?_; clear ha a; intro a ha; refine q_g ha rfl (g_field0 st71_2 rfl) ?_; clear ha a; intro a ha; refine q_g ha rfl (g_load Try.isAgg2 rfl (hB50.cell rfl)) ?_; clear ha a; intro a ha; obtain ⟨x123, g124, gx125, hF⟩ := idx_some hF
    obtain ⟨p126, cs127, f128, hf129, hpb130, hat131, hr132, hi133⟩ := ha4.at g124 gx125
    obtain ⟨rfl, hI134, rfl⟩ := hr132
    refine q_g ha rfl (hi133.gives sl40 rfl rfl) ?_; clear ha a; intro a ha; refine q_g ha rfl (g_load0 hE52 Try.isAgg2 rfl hat131.one) ?_; clear ha a; intro a ha; refine q_g ha rfl (g_move rfl) ?_; clear ha a; intro a ha; refine q_g ha rfl (g_field0 st71_1 rfl) ?_; clear ha a; intro a ha; refine q_g ha rfl (g_load Try.isAgg2 rfl (hB50.cell rfl)) ?_; clear ha a; intro a ha; obtain ⟨x135, g136, gx137, hF⟩ := idx_some hF
    obtain ⟨p138, cs139, f140, hf141, hpb142, hat143, hr144, hi145⟩ := ha3.at g136 gx137
    obtain ⟨rfl, hI146, rfl⟩ := hr144
    refine q_g ha rfl (hi145.gives sl40 rfl rfl) ?_; clear ha a; intro a ha; refine q_g ha rfl (g_load0 hE52 Try.isAgg2 rfl hat143.one) ?_; clear ha a; intro a ha; obtain ⟨h0147, hF⟩ := grd_some hF; refine q_g ha rfl (g_conv6u un2 un88 rfl hI146 h0147) ?_; clear ha a; intro a ha; refine q_g ha rfl (g64_shr rfl rfl hI134 (inU_of hI146 h0147).1) ?_; clear ha a; intro a ha; refine q_g ha rfl (g64_and rfl rfl) ?_; clear ha a; intro a ha; refine q_g ha rfl (g_eql rfl rfl) ?_; clear ha a; intro a ha; refine q_g ha rfl (g_assign rfl) ?_; clear ha a; intro a ha
    refine q_nil ?_; intro w148 hx149
    replace hB3 := hB3.ext hx149
    replace hB50 := hB50.ext hx149
    have hE150 := Ext.trans hE52 hx149
    replace ha := ha.sub (σ' := [(10, (.bool (decide ((i64and (x123 / 2 ^ (x135 : Int).toNat) 1) = 1))))]) ⟨rfl, trivial⟩; refine e_then ?_; refine wp_ret ?_; refine e_blk_ret ?_; refine e_then_ret ?_; obtain rfl := Option.some.inj hF
    exact f_ret1 ha rfl rfl ⟨rfl, hE150⟩
  replace hF := if_f hp122 hF; refine wp_seq ?_; refine wp_region_lit ?_; refine op_g ha rfl (g_eql rfl rfl) ?_; clear ha a; intro a ha; refine op_g ha rfl (g_assign rfl) ?_; clear ha a; intro a ha; refine wpList_nil ?_; replace ha := ha.sub (σ' := [(0, va0), (3, va3), (4, va4), (6, (.pointer (some ⟨b1, 0, none⟩))), (11, (.pointer (some ⟨b39, 0, none⟩))), (22, (.int .i64 x9.1)), (71, (.bool (decide (x9.1 = 4))))]) ⟨rfl, rfl, rfl, rfl, rfl, rfl, rfl, trivial⟩; refine e_then ?_; refine c_cond (x9.1 = 4) ha rfl (decide_eq_true_iff) (fun hp151 => ?_) (fun hp151 => ?_)
  · replace hF := if_t hp151 hF
    refine wp_seq ?_; refine wp_region_lit ?_; refine op_g ha rfl (g_move rfl) ?_; clear ha a; intro a ha; refine op_g ha rfl (g_loadA (cs := [va1_0]) Try.isAgg35 Try.sizeOf35 rfl (by simp) hB3.all) ?_; clear ha a; intro a ha; refine op_g ha rfl (g_field0 st71_1 rfl) ?_; clear ha a; intro a ha; refine op_g ha rfl (g_load Try.isAgg2 rfl (hB50.cell rfl)) ?_; clear ha a; intro a ha; (iterate 2 refine op_g ha rfl (g_move rfl) ?_; clear ha a; intro a ha); obtain ⟨x152, hc153, hF⟩ := cal_some hF
    refine o_call ha rfl rfl Try.call36 (ih (ha0.ext hE52) (ha1_0.ext hE52) hI37 (ha3.ext hE52) (ha4.ext hE52) hc153) ?_; clear ha a; rintro v154 w155 ⟨rfl, hx156⟩ a ha
    replace hB3 := hB3.ext hx156
    replace hB50 := hB50.ext hx156
    have hE157 := Ext.trans hE52 hx156
    refine op_g ha rfl (g_not rfl) ?_; clear ha a; intro a ha; refine op_g ha rfl (g_assign rfl) ?_; clear ha a; intro a ha; refine wpList_nil ?_; replace ha := ha.sub (σ' := [(10, (.bool (!x152)))]) ⟨rfl, trivial⟩; refine e_then ?_; refine wp_ret ?_; refine e_blk_ret ?_; refine e_then_ret ?_; obtain rfl := Option.some.inj hF
    exact f_ret1 ha rfl rfl ⟨rfl, hE157⟩
  replace hF := if_f hp151 hF; refine wp_seq ?_; refine wp_region_lit ?_; refine op_g ha rfl (g_eql rfl rfl) ?_; clear ha a; intro a ha; refine op_g ha rfl (g_assign rfl) ?_; clear ha a; intro a ha; refine wpList_nil ?_; replace ha := ha.sub (σ' := [(0, va0), (3, va3), (4, va4), (6, (.pointer (some ⟨b1, 0, none⟩))), (11, (.pointer (some ⟨b39, 0, none⟩))), (22, (.int .i64 x9.1)), (81, (.bool (decide (x9.1 = 5))))]) ⟨rfl, rfl, rfl, rfl, rfl, rfl, rfl, trivial⟩; refine e_then ?_; refine c_cond (x9.1 = 5) ha rfl (decide_eq_true_iff) (fun hp158 => ?_) (fun hp158 => ?_)
  · replace hF := if_t hp158 hF
    refine wp_seq ?_; refine wp_region_lit ?_; refine op_g ha rfl (g_move rfl) ?_; clear ha a; intro a ha; refine op_g ha rfl (g_loadA (cs := [va1_0]) Try.isAgg35 Try.sizeOf35 rfl (by simp) hB3.all) ?_; clear ha a; intro a ha; refine op_g ha rfl (g_field0 st71_1 rfl) ?_; clear ha a; intro a ha; refine op_g ha rfl (g_load Try.isAgg2 rfl (hB50.cell rfl)) ?_; clear ha a; intro a ha; (iterate 2 refine op_g ha rfl (g_move rfl) ?_; clear ha a; intro a ha); obtain ⟨x159, hc160, hF⟩ := cal_some hF
    refine o_call ha rfl rfl Try.call36 (ih (ha0.ext hE52) (ha1_0.ext hE52) hI37 (ha3.ext hE52) (ha4.ext hE52) hc160) ?_; clear ha a; rintro v161 w162 ⟨rfl, hx163⟩ a ha
    replace hB3 := hB3.ext hx163
    replace hB50 := hB50.ext hx163
    have hE164 := Ext.trans hE52 hx163
    refine op_g ha rfl (g_move rfl) ?_; clear ha a; intro a ha
    by_cases hp165 : x159 = true
    · replace hF := if_t hp165 hF
      rw [show (x159) = true from (Iff.rfl).2 hp165] at ha
      refine op_want (yields ha rfl rfl) ?_; refine op_g ha rfl (g_move rfl) ?_; clear ha a; intro a ha; refine op_want (yields ha rfl rfl) ?_; refine op_g ha rfl (g_loadA (cs := [va1_0]) Try.isAgg35 Try.sizeOf35 rfl (by simp) hB3.all) ?_; clear ha a; intro a ha; refine op_want (yields ha rfl rfl) ?_; refine op_g ha rfl (g_field0 st71_2 rfl) ?_; clear ha a; intro a ha; refine op_want (yields ha rfl rfl) ?_; refine op_g ha rfl (g_load Try.isAgg2 rfl (hB50.cell rfl)) ?_; clear ha a; intro a ha; refine op_want (yields ha rfl rfl) ?_; refine op_g ha rfl (g_move rfl) ?_; clear ha a; intro a ha; refine op_want (yields ha rfl rfl) ?_
      refine op_g ha rfl (g_move rfl) ?_; clear ha a; intro a ha; refine op_want (yields ha rfl rfl) ?_; obtain ⟨x166, hc167, hF⟩ := cal_some hF
      refine o_call ha rfl rfl Try.call36 (ih (ha0.ext hE164) (ha1_0.ext hE164) hI38 (ha3.ext hE164) (ha4.ext hE164) hc167) ?_; clear ha a; rintro v168 w169 ⟨rfl, hx170⟩ a ha
      replace hB3 := hB3.ext hx170
      replace hB50 := hB50.ext hx170
      have hE171 := Ext.trans hE164 hx170
      refine op_g ha rfl (g_pick rfl rfl) ?_; clear ha a; intro a ha; refine op_g ha rfl (g_assign rfl) ?_; clear ha a; intro a ha; refine wpList_nil ?_; replace ha := ha.sub (σ' := [(10, (.bool x166))]) ⟨rfl, trivial⟩; refine e_then ?_; refine wp_ret ?_; refine e_blk_ret ?_; refine e_then_ret ?_; obtain rfl := Option.some.inj hF
      exact f_ret1 ha rfl rfl ⟨rfl, hE171⟩
    replace hF := if_f hp165 hF
    rw [show (x159) = false from b_false (Iff.rfl) hp165] at ha
    (iterate 7 refine op_unwant ha rfl (yields ha rfl rfl) rfl ?_; clear ha a; intro a ha); refine op_g ha rfl (g_pick rfl rfl) ?_; clear ha a; intro a ha; refine op_g ha rfl (g_assign rfl) ?_; clear ha a; intro a ha; refine wpList_nil ?_; replace ha := ha.sub (σ' := [(10, (.bool false))]) ⟨rfl, trivial⟩; refine e_then ?_; refine wp_ret ?_; refine e_blk_ret ?_; refine e_then_ret ?_; obtain rfl := Option.some.inj hF
    exact f_ret1 ha rfl rfl ⟨rfl, hE164⟩
  replace hF := if_f hp158 hF; refine wp_seq ?_; refine wp_region_lit ?_; refine op_g ha rfl (g_eql rfl rfl) ?_; clear ha a; intro a ha; refine op_g ha rfl (g_assign rfl) ?_; clear ha a; intro a ha; refine wpList_nil ?_; replace ha := ha.sub (σ' := [(0, va0), (3, va3), (4, va4), (6, (.pointer (some ⟨b1, 0, none⟩))), (11, (.pointer (some ⟨b39, 0, none⟩))), (22, (.int .i64 x9.1)), (99, (.bool (decide (x9.1 = 6))))]) ⟨rfl, rfl, rfl, rfl, rfl, rfl, rfl, trivial⟩; refine e_then ?_; refine c_cond (x9.1 = 6) ha rfl (decide_eq_true_iff) (fun hp172 => ?_) (fun hp172 => ?_)
  · replace hF := if_t hp172 hF
    refine wp_seq ?_; refine wp_region_lit ?_; refine op_g ha rfl (g_move rfl) ?_; clear ha a; intro a ha; refine op_g ha rfl (g_loadA (cs := [va1_0]) Try.isAgg35 Try.sizeOf35 rfl (by simp) hB3.all) ?_; clear ha a; intro a ha; refine op_g ha rfl (g_field0 st71_1 rfl) ?_; clear ha a; intro a ha; refine op_g ha rfl (g_load Try.isAgg2 rfl (hB50.cell rfl)) ?_; clear ha a; intro a ha; (iterate 2 refine op_g ha rfl (g_move rfl) ?_; clear ha a; intro a ha); obtain ⟨x173, hc174, hF⟩ := cal_some hF
    refine o_call ha rfl rfl Try.call36 (ih (ha0.ext hE52) (ha1_0.ext hE52) hI37 (ha3.ext hE52) (ha4.ext hE52) hc174) ?_; clear ha a; rintro v175 w176 ⟨rfl, hx177⟩ a ha
    replace hB3 := hB3.ext hx177
    replace hB50 := hB50.ext hx177
    have hE178 := Ext.trans hE52 hx177
    refine op_g ha rfl (g_move rfl) ?_; clear ha a; intro a ha
    by_cases hp179 : x173 = true
    · replace hF := if_t hp179 hF
      rw [show (x173) = true from (Iff.rfl).2 hp179] at ha
      (iterate 7 refine op_unwant ha rfl (yields ha rfl rfl) rfl ?_; clear ha a; intro a ha); refine op_g ha rfl (g_pick rfl rfl) ?_; clear ha a; intro a ha; refine op_g ha rfl (g_assign rfl) ?_; clear ha a; intro a ha; refine wpList_nil ?_; replace ha := ha.sub (σ' := [(10, (.bool true))]) ⟨rfl, trivial⟩; refine e_then ?_; refine wp_ret ?_; refine e_blk_ret ?_; refine e_then_ret ?_; obtain rfl := Option.some.inj hF
      exact f_ret1 ha rfl rfl ⟨rfl, hE178⟩
    replace hF := if_f hp179 hF
    rw [show (x173) = false from b_false (Iff.rfl) hp179] at ha
    refine op_want (yields ha rfl rfl) ?_; refine op_g ha rfl (g_move rfl) ?_; clear ha a; intro a ha; refine op_want (yields ha rfl rfl) ?_; refine op_g ha rfl (g_loadA (cs := [va1_0]) Try.isAgg35 Try.sizeOf35 rfl (by simp) hB3.all) ?_; clear ha a; intro a ha; refine op_want (yields ha rfl rfl) ?_; refine op_g ha rfl (g_field0 st71_2 rfl) ?_; clear ha a; intro a ha; refine op_want (yields ha rfl rfl) ?_; refine op_g ha rfl (g_load Try.isAgg2 rfl (hB50.cell rfl)) ?_; clear ha a; intro a ha; refine op_want (yields ha rfl rfl) ?_; refine op_g ha rfl (g_move rfl) ?_; clear ha a; intro a ha; refine op_want (yields ha rfl rfl) ?_
    refine op_g ha rfl (g_move rfl) ?_; clear ha a; intro a ha; refine op_want (yields ha rfl rfl) ?_; obtain ⟨x180, hc181, hF⟩ := cal_some hF
    refine o_call ha rfl rfl Try.call36 (ih (ha0.ext hE178) (ha1_0.ext hE178) hI38 (ha3.ext hE178) (ha4.ext hE178) hc181) ?_; clear ha a; rintro v182 w183 ⟨rfl, hx184⟩ a ha
    replace hB3 := hB3.ext hx184
    replace hB50 := hB50.ext hx184
    have hE185 := Ext.trans hE178 hx184
    refine op_g ha rfl (g_pick rfl rfl) ?_; clear ha a; intro a ha; refine op_g ha rfl (g_assign rfl) ?_; clear ha a; intro a ha; refine wpList_nil ?_; replace ha := ha.sub (σ' := [(10, (.bool x180))]) ⟨rfl, trivial⟩; refine e_then ?_; refine wp_ret ?_; refine e_blk_ret ?_; refine e_then_ret ?_; obtain rfl := Option.some.inj hF
    exact f_ret1 ha rfl rfl ⟨rfl, hE185⟩
  replace hF := if_f hp172 hF; refine wp_seq ?_; refine wp_region_lit ?_; refine op_g ha rfl (g_eql rfl rfl) ?_; clear ha a; intro a ha; refine op_g ha rfl (g_assign rfl) ?_; clear ha a; intro a ha; refine wpList_nil ?_; replace ha := ha.sub (σ' := [(0, va0), (3, va3), (4, va4), (6, (.pointer (some ⟨b1, 0, none⟩))), (11, (.pointer (some ⟨b39, 0, none⟩))), (117, (.bool (decide (x9.1 = 7))))]) ⟨rfl, rfl, rfl, rfl, rfl, rfl, trivial⟩; refine e_then ?_; refine c_cond (x9.1 = 7) ha rfl (decide_eq_true_iff) (fun hp186 => ?_) (fun hp186 => ?_)
  · replace hF := if_t hp186 hF
    refine wp_seq ?_; refine wp_region_lit ?_; refine op_g ha rfl (g_move rfl) ?_; clear ha a; intro a ha; obtain ⟨x187, hc188, hF⟩ := cal_some hF
    refine o_call ha rfl rfl Try.call55 (W_spec_l1Copy (ha3.ext hE52) hc188) ?_; clear ha a; rintro v189 w190 ⟨b192, h193, z194, hx191⟩ a ha
    have q196 := Nq.new hB3.fpb z194
    have q197 := Nq.madeO z194 hB3.bi
    have q198 := Nq.new hB50.fpb z194
    have q199 := Nq.madeO z194 hB50.bi
    replace hB3 := hB3.ext hx191
    replace hB50 := hB50.ext hx191
    have hE200 := Ext.trans hE52 hx191
    have q201 := Zn.upD z194 hE52
    refine op_g ha rfl (g_assign rfl) ?_; clear ha a; intro a ha; refine wpList_nil ?_; replace ha := ha.sub (σ' := [(0, va0), (4, va4), (6, (.pointer (some ⟨b1, 0, none⟩))), (11, (.pointer (some ⟨b39, 0, none⟩))), (12, v189)]) ⟨rfl, rfl, rfl, rfl, rfl, trivial⟩; refine e_then ?_; refine wp_seq ?_; refine wp_seq ?_; refine wp_region_lit ?_; refine op_g ha rfl (g_assign rfl) ?_; clear ha a; intro a ha; refine wpList_nil ?_; replace ha := ha.sub (σ' := [(0, va0), (4, va4), (6, (.pointer (some ⟨b1, 0, none⟩))), (11, (.pointer (some ⟨b39, 0, none⟩))), (12, v189), (13, (.int .i64 0))]) ⟨rfl, rfl, rfl, rfl, rfl, rfl, trivial⟩
    refine e_then ?_; obtain ⟨o338, ho339, hK340⟩ := bnd_some hF
    obtain ⟨n341, hn342⟩ := lp_some ho339; clear ho339
    refine c_loop (fun a w => Fr 161 [] a ∧ Chg [] W w ∧ o338 = .inl ()) (fun n a w => ∃ (l275 : (List Int)) (i278 : Int) (v276 : Value) (b277 : Int), Fr 161 [(0, va0), (4, va4), (6, (.pointer (some ⟨b1, 0, none⟩))), (11, (.pointer (some ⟨b39, 0, none⟩))), (12, v276), (13, (.int .i64 i278))] a ∧ Chg [] W w ∧ InI i278 ∧ Bx w b1 [va1_0] 35 ∧ Zn W (b1 : Int) ∧ Bx w b39 [(.int .i64 x9.1), (.int .i64 x9.2.1), (.int .i64 x9.2.2)] 71 ∧ Zn W (b39 : Int) ∧ Ow Rp.int 2 true w [] b277 v276 l275 ∧ Zn W b277 ∧ Nq ([b1]) (b39 : Int) ∧ Nq ([b1]) b277 ∧ Nq ([b39]) (b1 : Int) ∧ Nq ([b39]) b277 ∧ Nq (bl b277 ++ []) (b1 : Int) ∧ Nq (bl b277 ++ []) (b39 : Int) ∧ lpN (fun s => F_spec_l30Says_l1 a0 a1_0 a4 rc x9 s.1 s.2) n (l275, i278) = some o338) n341 ⟨x187, 0, v189, b192, ha.sub ⟨rfl, rfl, rfl, rfl, rfl, rfl, trivial⟩, hE200, (show InI 0 from by decide), hB3, q7, hB50, q47, h193, q201, q45, q196, q46, q198, q197, q199, hn342⟩ ?_ ?_
    · rintro m346 a w267 ⟨l275, i278, v276, b277, ha, hE286, hI279, hB268, z269, hB270, z271, h273, z274, q280, q281, q282, q283, q284, q285, hF⟩
      cases m346 with
      | zero => exact (lpN_zero hF).elim
      | succ m346 =>
        obtain ⟨z345, hF, hN344⟩ := lpN_succ hF
        have hF : F_spec_l30Says_l1 a0 a1_0 a4 rc x9 l275 i278 = some z345 := hF; unfold F_spec_l30Says_l1 at hF
        refine wp_seq ?_; refine wp_seq ?_; refine wp_region_lit ?_; (iterate 2 refine op_g ha rfl (g_move rfl) ?_; clear ha a; intro a ha); refine op_g ha rfl (g_lenR sl40.und ha0 rfl) ?_; clear ha a; intro a ha; refine op_g ha rfl (g_lss rfl rfl) ?_; clear ha a; intro a ha; refine wpList_nil ?_; replace ha := ha.sub (σ' := [(0, va0), (4, va4), (6, (.pointer (some ⟨b1, 0, none⟩))), (11, (.pointer (some ⟨b39, 0, none⟩))), (12, v276), (13, (.int .i64 i278)), (124, (.bool (decide (i278 < (a0.length : Int)))))]) ⟨rfl, rfl, rfl, rfl, rfl, rfl, rfl, trivial⟩; refine e_then ?_; refine c_cond (i278 < (a0.length : Int)) ha rfl (decide_eq_true_iff) (fun hp347 => ?_) (fun hp347 => ?_)
        · replace hF := if_t hp347 hF
          refine wp_skip ?_; refine e_then ?_; refine wp_seq ?_; refine wp_block ?_; refine wp_seq ?_; refine wp_region_lit ?_; refine op_g ha rfl (g_move rfl) ?_; clear ha a; intro a ha; refine op_g ha rfl (g_field0 st71_1 rfl) ?_; clear ha a; intro a ha; refine op_g ha rfl (g_load Try.isAgg2 rfl (hB270.cell rfl)) ?_; clear ha a; intro a ha; refine op_g ha rfl (g_move rfl) ?_; clear ha a; intro a ha; obtain ⟨x348, g349, gx350, hF⟩ := idx_some hF
          obtain ⟨p351, cs352, f353, hf354, hpb355, hat356, hr357, hi358⟩ := h273.at g349 gx350
          obtain ⟨rfl, hI359, rfl⟩ := hr357
          refine op_g ha rfl (hi358.gives sl40 rfl rfl) ?_; clear ha a; intro a ha
          refine o_storeE (f := []) (q := i278) ha Try.sizeOf2 rfl rfl rfl h273 hi358 ⟨rfl, hI279, rfl⟩ (Nq.nil _) ?_; intro w360 fs361 h362 hc363 hs364
          obtain rfl := Subst.nil hs364
          replace hB268 := hB268.nq hc363 q281
          replace hB270 := hB270.nq hc363 q283
          have hE365 := Ext.then hE286 hc363 (Zn.bl z274)
          refine wpList_nil ?_; replace ha := ha.sub (σ' := [(0, va0), (4, va4), (6, (.pointer (some ⟨b1, 0, none⟩))), (11, (.pointer (some ⟨b39, 0, none⟩))), (12, v276), (13, (.int .i64 i278))]) ⟨rfl, rfl, rfl, rfl, rfl, rfl, trivial⟩; refine e_then ?_; refine wp_seq ?_; refine wp_region_lit ?_; refine op_g ha rfl (g_move rfl) ?_; clear ha a; intro a ha; refine op_g ha rfl (g_loadA (cs := [va1_0]) Try.isAgg35 Try.sizeOf35 rfl (by simp) hB268.all) ?_; clear ha a; intro a ha; refine op_g ha rfl (g_field0 st71_2 rfl) ?_; clear ha a; intro a ha; refine op_g ha rfl (g_load Try.isAgg2 rfl (hB270.cell rfl)) ?_; clear ha a; intro a ha
          (iterate 2 refine op_g ha rfl (g_move rfl) ?_; clear ha a; intro a ha)
          obtain ⟨fp366, hro367, hs368⟩ := h362.roF
          obtain ⟨x369, hc370, hF⟩ := cal_some hF
          refine o_call ha rfl rfl Try.call36 (ih (ha0.ext hE365) (ha1_0.ext hE365) hI38 hro367 (ha4.ext hE365) hc370) ?_; clear ha a; rintro v371 w372 ⟨rfl, hx373⟩ a ha
          replace hB268 := hB268.ext hx373
          replace hB270 := hB270.ext hx373
          replace h362 := h362.ext hx373
          have hE374 := Ext.trans hE365 hx373
          refine wpList_nil ?_; replace ha := ha.sub (σ' := [(0, va0), (4, va4), (6, (.pointer (some ⟨b1, 0, none⟩))), (11, (.pointer (some ⟨b39, 0, none⟩))), (12, v276), (13, (.int .i64 i278)), (138, (.bool x369))]) ⟨rfl, rfl, rfl, rfl, rfl, rfl, rfl, trivial⟩; refine e_then ?_; refine c_cond (x369 = true) ha rfl (Iff.rfl) (fun hp375 => ?_) (fun hp375 => ?_)
          · replace hF := if_t hp375 hF
            refine wp_seq ?_; refine wp_region_lit ?_; refine op_g ha rfl (g_assign rfl) ?_; clear ha a; intro a ha; refine wpList_nil ?_; replace ha := ha.sub (σ' := [(10, (.bool true))]) ⟨rfl, trivial⟩; refine e_then ?_; refine wp_ret ?_; refine e_blk_ret ?_; refine e_then_ret ?_; refine e_lq_ret ?_; refine e_then_ret ?_; refine e_blk_ret ?_; refine e_then_ret ?_; obtain rfl := Option.some.inj hF
            have e376 := LK_inr hN344; subst e376
            have e377 := BK_inr hK340; subst e377
            exact f_ret1 ha rfl rfl ⟨rfl, hE374⟩
          replace hF := if_f hp375 hF; refine wp_skip ?_; refine e_blk ?_; refine e_then ?_; refine wp_region_lit ?_; refine op_g ha rfl (g_move rfl) ?_; clear ha a; intro a ha; obtain ⟨hI378, hF⟩ := ck_some hF; refine op_g ha rfl (g_add rfl rfl hI378) ?_; clear ha a; intro a ha; refine op_g ha rfl (g_assign rfl) ?_; clear ha a; intro a ha; refine wpList_nil ?_; replace ha := ha.sub (σ' := [(0, va0), (4, va4), (6, (.pointer (some ⟨b1, 0, none⟩))), (11, (.pointer (some ⟨b39, 0, none⟩))), (12, v276), (13, (.int .i64 (i278 + 1)))]) ⟨rfl, rfl, rfl, rfl, rfl, rfl, trivial⟩; refine e_lq ?_; obtain rfl := Option.some.inj hF
          exact ⟨_, Nat.lt_succ_self _, (l275.set ((x9.2.1 : Int).toNat) i278), i278 + 1, v276, b277, ha.sub ⟨rfl, rfl, rfl, rfl, rfl, rfl, trivial⟩, hE374, hI378, hB268, z269, hB270, z271, h362, z274, q280, q281, q282, q283, q284, q285, hN344⟩
        replace hF := if_f hp347 hF; refine wp_exit ?_; refine e_then_exit ?_; refine e_lq_eq ?_; obtain rfl := Option.some.inj hF
        exact ⟨ha.sub trivial, hE286, (LK_inr hN344).symm⟩
    rintro a w337 ⟨ha, hE343, rfl⟩
    have hF : F_spec_l30Says_k2 = some _ := hK340; clear hK340; unfold F_spec_l30Says_k2 at hF
    refine e_then ?_; refine wp_seq ?_; refine wp_region_lit ?_; refine op_g ha rfl (g_assign rfl) ?_; clear ha a; intro a ha; refine wpList_nil ?_; refine e_then ?_; refine wp_ret ?_; refine e_blk_ret ?_; refine e_then_ret ?_; obtain rfl := Option.some.inj hF
    exact f_ret1 ha rfl rfl ⟨rfl, hE343⟩
  replace hF := if_f hp186 hF; refine wp_skip ?_; refine e_blk ?_; refine e_then ?_; refine wp_seq ?_; refine wp_region_lit ?_; refine op_g ha rfl (g_move rfl) ?_; clear ha a; intro a ha; obtain ⟨x380, hc381, hF⟩ := cal_some hF
  refine o_call ha rfl rfl Try.call55 (W_spec_l1Copy (ha4.ext hE52) hc381) ?_; clear ha a; rintro v382 w383 ⟨b385, h386, z387, hx384⟩ a ha
  have q389 := Nq.new hB3.fpb z387
  have q390 := Nq.madeO z387 hB3.bi
  have q391 := Nq.new hB50.fpb z387
  have q392 := Nq.madeO z387 hB50.bi
  replace hB3 := hB3.ext hx384
  replace hB50 := hB50.ext hx384
  have hE393 := Ext.trans hE52 hx384
  have q394 := Zn.upD z387 hE52
  refine op_g ha rfl (g_assign rfl) ?_; clear ha a; intro a ha; refine wpList_nil ?_; replace ha := ha.sub (σ' := [(0, va0), (3, va3), (6, (.pointer (some ⟨b1, 0, none⟩))), (11, (.pointer (some ⟨b39, 0, none⟩))), (14, v382)]) ⟨rfl, rfl, rfl, rfl, rfl, trivial⟩; refine e_then ?_; refine wp_seq ?_; refine wp_seq ?_; refine wp_region_lit ?_; refine op_g ha rfl (g_assign rfl) ?_; clear ha a; intro a ha; refine wpList_nil ?_; replace ha := ha.sub (σ' := [(0, va0), (3, va3), (6, (.pointer (some ⟨b1, 0, none⟩))), (11, (.pointer (some ⟨b39, 0, none⟩))), (14, v382), (15, (.int .i64 0))]) ⟨rfl, rfl, rfl, rfl, rfl, rfl, trivial⟩
  refine e_then ?_; obtain ⟨o537, ho538, hK539⟩ := bnd_some hF
  obtain ⟨n540, hn541⟩ := lp_some ho538; clear ho538
  refine c_loop (fun a w => Fr 161 [] a ∧ Chg [] W w ∧ o537 = .inl ()) (fun n a w => ∃ (l471 : (List Int)) (i474 : Int) (v472 : Value) (b473 : Int), Fr 161 [(0, va0), (3, va3), (6, (.pointer (some ⟨b1, 0, none⟩))), (11, (.pointer (some ⟨b39, 0, none⟩))), (14, v472), (15, (.int .i64 i474))] a ∧ Chg [] W w ∧ InI i474 ∧ Bx w b1 [va1_0] 35 ∧ Zn W (b1 : Int) ∧ Bx w b39 [(.int .i64 x9.1), (.int .i64 x9.2.1), (.int .i64 x9.2.2)] 71 ∧ Zn W (b39 : Int) ∧ Ow Rp.int 2 true w [] b473 v472 l471 ∧ Zn W b473 ∧ Nq ([b1]) (b39 : Int) ∧ Nq ([b1]) b473 ∧ Nq ([b39]) (b1 : Int) ∧ Nq ([b39]) b473 ∧ Nq (bl b473 ++ []) (b1 : Int) ∧ Nq (bl b473 ++ []) (b39 : Int) ∧ lpN (fun s => F_spec_l30Says_l3 a0 a1_0 a3 rc x9 s.1 s.2) n (l471, i474) = some o537) n540 ⟨x380, 0, v382, b385, ha.sub ⟨rfl, rfl, rfl, rfl, rfl, rfl, trivial⟩, hE393, (show InI 0 from by decide), hB3, q7, hB50, q47, h386, q394, q45, q389, q46, q391, q390, q392, hn541⟩ ?_ ?_
  · rintro m545 a w463 ⟨l471, i474, v472, b473, ha, hE482, hI475, hB464, z465, hB466, z467, h469, z470, q476, q477, q478, q479, q480, q481, hF⟩
    cases m545 with
    | zero => exact (lpN_zero hF).elim
    | succ m545 =>
      obtain ⟨z544, hF, hN543⟩ := lpN_succ hF
      have hF : F_spec_l30Says_l3 a0 a1_0 a3 rc x9 l471 i474 = some z544 := hF; unfold F_spec_l30Says_l3 at hF
      refine wp_seq ?_; refine wp_seq ?_; refine wp_region_lit ?_; (iterate 2 refine op_g ha rfl (g_move rfl) ?_; clear ha a; intro a ha); refine op_g ha rfl (g_lenR sl40.und ha0 rfl) ?_; clear ha a; intro a ha; obtain ⟨h0546, hF⟩ := grd_some hF; refine op_g ha rfl (g_conv6u un3 un88 rfl ha0.len h0546) ?_; clear ha a; intro a ha; obtain ⟨hI547, hF⟩ := ck_some hF; refine op_g ha rfl (g64_shl rfl rfl (inU_of ha0.len h0546).1 hI547) ?_; clear ha a; intro a ha; refine op_g ha rfl (g_lss rfl rfl) ?_; clear ha a; intro a ha; refine wpList_nil ?_; replace ha := ha.sub (σ' := [(0, va0), (3, va3), (6, (.pointer (some ⟨b1, 0, none⟩))), (11, (.pointer (some ⟨b39, 0, none⟩))), (14, v472), (15, (.int .i64 i474)), (146, (.bool (decide (i474 < (1 * 2 ^ ((a0.length : Int) : Int).toNat)))))]) ⟨rfl, rfl, rfl, rfl, rfl, rfl, rfl, trivial⟩
      refine e_then ?_; refine c_cond (i474 < (1 * 2 ^ ((a0.length : Int) : Int).toNat)) ha rfl (decide_eq_true_iff) (fun hp549 => ?_) (fun hp549 => ?_)
      · replace hF := if_t hp549 hF
        refine wp_skip ?_; refine e_then ?_; refine wp_seq ?_; refine wp_block ?_; refine wp_seq ?_; refine wp_region_lit ?_; refine op_g ha rfl (g_move rfl) ?_; clear ha a; intro a ha; refine op_g ha rfl (g_field0 st71_1 rfl) ?_; clear ha a; intro a ha; refine op_g ha rfl (g_load Try.isAgg2 rfl (hB466.cell rfl)) ?_; clear ha a; intro a ha; refine op_g ha rfl (g_move rfl) ?_; clear ha a; intro a ha; obtain ⟨x550, g551, gx552, hF⟩ := idx_some hF
        obtain ⟨p553, cs554, f555, hf556, hpb557, hat558, hr559, hi560⟩ := h469.at g551 gx552
        obtain ⟨rfl, hI561, rfl⟩ := hr559
        refine op_g ha rfl (hi560.gives sl40 rfl rfl) ?_; clear ha a; intro a ha
        refine o_storeE (f := []) (q := i474) ha Try.sizeOf2 rfl rfl rfl h469 hi560 ⟨rfl, hI475, rfl⟩ (Nq.nil _) ?_; intro w562 fs563 h564 hc565 hs566
        obtain rfl := Subst.nil hs566
        replace hB464 := hB464.nq hc565 q477
        replace hB466 := hB466.nq hc565 q479
        have hE567 := Ext.then hE482 hc565 (Zn.bl z470)
        refine wpList_nil ?_; replace ha := ha.sub (σ' := [(0, va0), (3, va3), (6, (.pointer (some ⟨b1, 0, none⟩))), (11, (.pointer (some ⟨b39, 0, none⟩))), (14, v472), (15, (.int .i64 i474))]) ⟨rfl, rfl, rfl, rfl, rfl, rfl, trivial⟩; refine e_then ?_; refine wp_seq ?_; refine wp_region_lit ?_; refine op_g ha rfl (g_move rfl) ?_; clear ha a; intro a ha; refine op_g ha rfl (g_loadA (cs := [va1_0]) Try.isAgg35 Try.sizeOf35 rfl (by simp) hB464.all) ?_; clear ha a; intro a ha; refine op_g ha rfl (g_field0 st71_2 rfl) ?_; clear ha a; intro a ha; refine op_g ha rfl (g_load Try.isAgg2 rfl (hB466.cell rfl)) ?_; clear ha a; intro a ha
        (iterate 2 refine op_g ha rfl (g_move rfl) ?_; clear ha a; intro a ha)
        obtain ⟨fp568, hro569, hs570⟩ := h564.roF
        obtain ⟨x571, hc572, hF⟩ := cal_some hF
        refine o_call ha rfl rfl Try.call36 (ih (ha0.ext hE567) (ha1_0.ext hE567) hI38 (ha3.ext hE567) hro569 hc572) ?_; clear ha a; rintro v573 w574 ⟨rfl, hx575⟩ a ha
        replace hB464 := hB464.ext hx575
        replace hB466 := hB466.ext hx575
        replace h564 := h564.ext hx575
        have hE576 := Ext.trans hE567 hx575
        refine wpList_nil ?_; replace ha := ha.sub (σ' := [(0, va0), (3, va3), (6, (.pointer (some ⟨b1, 0, none⟩))), (11, (.pointer (some ⟨b39, 0, none⟩))), (14, v472), (15, (.int .i64 i474)), (160, (.bool x571))]) ⟨rfl, rfl, rfl, rfl, rfl, rfl, rfl, trivial⟩; refine e_then ?_; refine c_cond (x571 = true) ha rfl (Iff.rfl) (fun hp577 => ?_) (fun hp577 => ?_)
        · replace hF := if_t hp577 hF
          refine wp_seq ?_; refine wp_region_lit ?_; refine op_g ha rfl (g_assign rfl) ?_; clear ha a; intro a ha; refine wpList_nil ?_; replace ha := ha.sub (σ' := [(10, (.bool true))]) ⟨rfl, trivial⟩; refine e_then ?_; refine wp_ret ?_; refine e_blk_ret ?_; refine e_then_ret ?_; refine e_lq_ret ?_; refine e_then_ret ?_; obtain rfl := Option.some.inj hF
          have e578 := LK_inr hN543; subst e578
          have e579 := BK_inr hK539; subst e579
          exact f_ret1 ha rfl rfl ⟨rfl, hE576⟩
        replace hF := if_f hp577 hF; refine wp_skip ?_; refine e_blk ?_; refine e_then ?_; refine wp_region_lit ?_; refine op_g ha rfl (g_move rfl) ?_; clear ha a; intro a ha; obtain ⟨hI580, hF⟩ := ck_some hF; refine op_g ha rfl (g_add rfl rfl hI580) ?_; clear ha a; intro a ha; refine op_g ha rfl (g_assign rfl) ?_; clear ha a; intro a ha; refine wpList_nil ?_; replace ha := ha.sub (σ' := [(0, va0), (3, va3), (6, (.pointer (some ⟨b1, 0, none⟩))), (11, (.pointer (some ⟨b39, 0, none⟩))), (14, v472), (15, (.int .i64 (i474 + 1)))]) ⟨rfl, rfl, rfl, rfl, rfl, rfl, trivial⟩; refine e_lq ?_; obtain rfl := Option.some.inj hF
        exact ⟨_, Nat.lt_succ_self _, (l471.set ((x9.2.1 : Int).toNat) i474), i474 + 1, v472, b473, ha.sub ⟨rfl, rfl, rfl, rfl, rfl, rfl, trivial⟩, hE576, hI580, hB464, z465, hB466, z467, h564, z470, q476, q477, q478, q479, q480, q481, hN543⟩
      replace hF := if_f hp549 hF; refine wp_exit ?_; refine e_then_exit ?_; refine e_lq_eq ?_; obtain rfl := Option.some.inj hF
      exact ⟨ha.sub trivial, hE482, (LK_inr hN543).symm⟩
  rintro a w536 ⟨ha, hE542, rfl⟩
  have hF : F_spec_l30Says_k4 = some _ := hK539; clear hK539; unfold F_spec_l30Says_k4 at hF
  refine e_then ?_; refine wp_seq ?_; refine wp_region_lit ?_; refine op_g ha rfl (g_assign rfl) ?_; clear ha a; intro a ha; refine wpList_nil ?_; refine e_then ?_; refine wp_ret ?_; obtain rfl := Option.some.inj hF
  exact f_ret1 ha rfl rfl ⟨rfl, hE542⟩
theorem W_spec_l30Says_n (n : Nat) : ∀ {W : World} {va0 : Value} {fa0 : List Nat} {a0 : (List Int)} (ha0 : Ro Rp.int W fa0 va0 a0) {va1_0 : Value} {fa1_0 : List Nat} {a1_0 : (List (Int × (Int × Int)))} (ha1_0 : Ro (Rp.prod Rp.int (Rp.prod Rp.int Rp.int)) W fa1_0 va1_0 a1_0) {a2 : Int} (ha2 : InI a2) {va3 : Value} {fa3 : List Nat} {a3 : (List Int)} (ha3 : Ro Rp.int W fa3 va3 a3) {va4 : Value} {fa4 : List Nat} {a4 : (List Int)} (ha4 : Ro Rp.int W fa4 va4 a4) {r : Bool} (hF : itN (fun (rc : ((List Int) × (List (Int × (Int × Int))) × Int × (List Int) × (List Int)) → Option Bool) a => F_spec_l30Says_body (fun z0 z1 z2 z3 z4 => rc (z0, z1, z2, z3, z4)) a.1 a.2.1 a.2.2.1 a.2.2.2.1 a.2.2.2.2) n (a0, a1_0, a2, a3, a4) = some r),
    Calls Try.prog 36 [va0, .agg #[va1_0], .int .i64 a2, va3, va4].toArray W (Ret fun u w' => u = .bool r ∧ Ext W w') := by
  induction n with
  | zero => intro W va0 fa0 a0 ha0 va1_0 fa1_0 a1_0 ha1_0 a2 ha2 va3 fa3 a3 ha3 va4 fa4 a4 ha4 r hF; cases hF
  | succ n ih => intro W va0 fa0 a0 ha0 va1_0 fa1_0 a1_0 ha1_0 a2 ha2 va3 fa3 a3 ha3 va4 fa4 a4 ha4 r hF; exact W_spec_l30Says_step (rc := fun z0 z1 z2 z3 z4 => itN (fun (rc : ((List Int) × (List (Int × (Int × Int))) × Int × (List Int) × (List Int)) → Option Bool) a => F_spec_l30Says_body (fun z0 z1 z2 z3 z4 => rc (z0, z1, z2, z3, z4)) a.1 a.2.1 a.2.2.1 a.2.2.2.1 a.2.2.2.2) n (z0, z1, z2, z3, z4)) @ih ha0 ha1_0 ha2 ha3 ha4 hF
theorem W_spec_l30Says {W : World} {va0 : Value} {fa0 : List Nat} {a0 : (List Int)} (ha0 : Ro Rp.int W fa0 va0 a0) {va1_0 : Value} {fa1_0 : List Nat} {a1_0 : (List (Int × (Int × Int)))} (ha1_0 : Ro (Rp.prod Rp.int (Rp.prod Rp.int Rp.int)) W fa1_0 va1_0 a1_0) {a2 : Int} (ha2 : InI a2) {va3 : Value} {fa3 : List Nat} {a3 : (List Int)} (ha3 : Ro Rp.int W fa3 va3 a3) {va4 : Value} {fa4 : List Nat} {a4 : (List Int)} (ha4 : Ro Rp.int W fa4 va4 a4) {r : Bool} (hF : F_spec_l30Says a0 a1_0 a2 a3 a4 = some r) :
    Calls Try.prog 36 [va0, .agg #[va1_0], .int .i64 a2, va3, va4].toArray W (Ret fun u w' => u = .bool r ∧ Ext W w') := by
  obtain ⟨n, hn⟩ := fixO_some hF
  exact W_spec_l30Says_n n ha0 ha1_0 ha2 ha3 ha4 hn
set_option maxHeartbeats 2000000 in
theorem W_spec_l30Root {W : World} {va0_0 : Value} {fa0_0 : List Nat} {a0_0 : (List (List Int))} (ha0_0 : Ro (Rp.sl 2 Rp.int) W fa0_0 va0_0 a0_0) {va1_0 : Value} {fa1_0 : List Nat} {a1_0 : (List (Int × (Int × Int)))} (ha1_0 : Ro (Rp.prod Rp.int (Rp.prod Rp.int Rp.int)) W fa1_0 va1_0 a1_0) {va2 : Value} {fa2 : List Nat} {a2 : (List Int)} (ha2 : Ro Rp.int W fa2 va2 a2) {va3 : Value} {fa3 : List Nat} {a3 : (List Int)} (ha3 : Ro Rp.int W fa3 va3 a3) {r : Bool} (hF : F_spec_l30Root a0_0 a1_0 a2 a3 = some r) :
    Calls Try.prog 22 [.agg #[va0_0], .agg #[va1_0], va2, va3].toArray W (Ret fun u w' => u = .bool r ∧ Ext W w') := by
  refine f_enter Try.func22 rfl Try.ntmps22 rfl ?_
  intro a ha
  replace ha : Fr 19 [(0, (.agg #[va0_0])), (1, (.agg #[va1_0])), (2, va2), (3, va3)] a := ha
  have hE : Chg [] W W := Chg.refl _ _
  unfold F_spec_l30Root at hF
  refine wp_seq ?_; refine wp_region_lit ?_
  refine o_box ha rfl rfl rfl ?_; clear ha a; intro b1 w2 hB3 hx4 hlo5 a ha
  have q6 := Zn.one hlo5
  have q7 := Zn.upD q6 hE
  have hE8 := Ext.trans hE hx4
  refine o_box ha rfl rfl rfl ?_; clear ha a; intro b9 w10 hB11 hx12 hlo13 a ha
  have q14 := Zn.one hlo13
  have q15 := Nq.new hB3.fpb q14
  have q16 := Nq.made1 hlo13 hB3.bi
  have q17 := Zn.upD q14 hE8
  replace hB3 := hB3.ext hx12
  have hE18 := Ext.trans hE8 hx12
  refine op_g ha rfl (g_assign rfl) ?_; clear ha a; intro a ha; refine wpList_nil ?_; replace ha := ha.sub (σ' := [(2, va2), (3, va3), (4, (.pointer (some ⟨b1, 0, none⟩))), (5, (.pointer (some ⟨b9, 0, none⟩)))]) ⟨rfl, rfl, rfl, rfl, trivial⟩; refine e_then ?_; refine wp_seq ?_; refine d_region [0, 1, 2, 3, 4, 5, 6, 7, 8, 9, 10] hmix ?_; refine u_g 0 rfl (by kernel_rfl) (want0 _) ha rfl (g_loadA (cs := [va0_0]) Try.isAgg31 Try.sizeOf31 rfl (by simp) hB3.all) ?_; clear ha a; intro a ha; refine u_g 2 rfl (by kernel_rfl) (want0 _) ha rfl (g_loadA (cs := [va1_0]) Try.isAgg35 Try.sizeOf35 rfl (by simp) hB11.all) ?_; clear ha a; intro a ha
  refine u_g 3 rfl (by kernel_rfl) (want0 _) ha rfl (g_field0 st35_0 rfl) ?_; clear ha a; intro a ha; refine u_g 4 rfl (by kernel_rfl) (want0 _) ha rfl (g_load Try.isAgg33 rfl (hB11.cell rfl)) ?_; clear ha a; intro a ha; refine u_g 5 rfl (by kernel_rfl) (want0 _) ha rfl (g_lenR sl33.und ha1_0 rfl) ?_; clear ha a; intro a ha; obtain ⟨hI19, hF⟩ := ck_some hF; refine u_g 6 rfl (by kernel_rfl) (want0 _) ha rfl (g_sub rfl rfl hI19) ?_; clear ha a; intro a ha; refine u_g 7 rfl (by kernel_rfl) (want0 _) ha rfl (g_move rfl) ?_; clear ha a; intro a ha; refine u_g 8 rfl (by kernel_rfl) (want0 _) ha rfl (g_move rfl) ?_; clear ha a; intro a ha
  refine u_only 1 rfl (by kernel_rfl) ?_; intro w21 hx22
  replace hB3 := hB3.ext hx22
  replace hB11 := hB11.ext hx22
  have hE23 := Ext.trans hE18 hx22
  obtain ⟨x24, hc25, hF⟩ := cal_some hF
  refine o_call ha rfl rfl Try.call37 (W_spec_l25Bits (ha0_0.ext hE23) hc25) ?_; clear ha a; rintro v26 w27 ⟨b29, h30, z31, hx28⟩ a ha
  have q33 := Nq.new hB3.fpb z31
  have q34 := Nq.madeO z31 hB3.bi
  have q35 := Nq.new hB11.fpb z31
  have q36 := Nq.madeO z31 hB11.bi
  replace hB3 := hB3.ext hx28
  replace hB11 := hB11.ext hx28
  have hE37 := Ext.trans hE23 hx28
  have q38 := Zn.upD z31 hE23
  refine wpList_nil (e_sq ?_)
  refine ⟨fun _ => hx28, ?_⟩
  obtain ⟨fp41, hro42, hs43⟩ := h30.roF
  obtain ⟨x44, hc45, hF⟩ := cal_some hF; refine u_call (.bool x44) 9 rfl (by kernel_rfl) (want0 _) ha rfl rfl Try.call36 (fun w40 hx39 => W_spec_l30Says (hro42.ext hx39) (ha1_0.ext (Ext.trans hE37 hx39)) hI19 (ha2.ext (Ext.trans hE37 hx39)) (ha3.ext (Ext.trans hE37 hx39)) hc45) (fun _ _ _ h => ⟨h.1, h.2⟩) ?_; clear ha a; intro a ha; refine u_g 10 rfl (by kernel_rfl) (want0 _) ha rfl (g_assign rfl) ?_; clear ha a; intro a ha
  refine u_done (by kernel_rfl) ?_; intro w46 hx47
  replace hB3 := hB3.ext hx47
  replace hB11 := hB11.ext hx47
  replace h30 := h30.ext hx47
  have hE48 := Ext.trans hE37 hx47
  replace ha := ha.sub (σ' := [(8, (.bool x44))]) ⟨rfl, trivial⟩; refine e_then ?_; refine wp_ret ?_; obtain rfl := Option.some.inj hF
  exact f_ret1 ha rfl rfl ⟨rfl, hE48⟩
set_option maxHeartbeats 2000000 in
theorem W_spec_HoldsIn {W : World} {va0_0 : Value} {fa0_0 : List Nat} {a0_0 : (List (List Int))} (ha0_0 : Ro (Rp.sl 2 Rp.int) W fa0_0 va0_0 a0_0) {va1_0 : Value} {fa1_0 : List Nat} {a1_0 : (List (Int × (Int × Int)))} (ha1_0 : Ro (Rp.prod Rp.int (Rp.prod Rp.int Rp.int)) W fa1_0 va1_0 a1_0) {va2 : Value} {fa2 : List Nat} {a2 : (List Int)} (ha2 : Ro Rp.int W fa2 va2 a2) {va3 : Value} {fa3 : List Nat} {a3 : (List (List Int))} (ha3 : Ro (Rp.sl 2 Rp.int) W fa3 va3 a3) {r : Bool} (hF : F_spec_HoldsIn a0_0 a1_0 a2 a3 = some r) :
    Calls Try.prog 14 [.agg #[va0_0], .agg #[va1_0], va2, va3].toArray W (Ret fun u w' => u = .bool r ∧ Ext W w') := by
  refine f_enter Try.func14 rfl Try.ntmps14 rfl ?_
  intro a ha
  replace ha : Fr 66 [(0, (.agg #[va0_0])), (1, (.agg #[va1_0])), (2, va2), (3, va3)] a := ha
  have hE : Chg [] W W := Chg.refl _ _
  unfold F_spec_HoldsIn at hF
  refine wp_seq ?_; refine wp_region_lit ?_
  refine o_box ha rfl rfl rfl ?_; clear ha a; intro b1 w2 hB3 hx4 hlo5 a ha
  have q6 := Zn.one hlo5
  have q7 := Zn.upD q6 hE
  have hE8 := Ext.trans hE hx4
  refine o_box ha rfl rfl rfl ?_; clear ha a; intro b9 w10 hB11 hx12 hlo13 a ha
  have q14 := Zn.one hlo13
  have q15 := Nq.new hB3.fpb q14
  have q16 := Nq.made1 hlo13 hB3.bi
  have q17 := Zn.upD q14 hE8
  replace hB3 := hB3.ext hx12
  have hE18 := Ext.trans hE8 hx12
  refine op_g ha rfl (g_assign rfl) ?_; clear ha a; intro a ha; refine wpList_nil ?_; replace ha := ha.sub (σ' := [(2, va2), (3, va3), (4, (.pointer (some ⟨b1, 0, none⟩))), (5, (.pointer (some ⟨b9, 0, none⟩)))]) ⟨rfl, rfl, rfl, rfl, trivial⟩; refine e_then ?_; refine wp_seq ?_; refine wp_seq ?_; refine wp_region_lit ?_; refine op_g ha rfl (g_loadA (cs := [va0_0]) Try.isAgg31 Try.sizeOf31 rfl (by simp) hB3.all) ?_; clear ha a; intro a ha; refine op_g ha rfl (g_loadA (cs := [va1_0]) Try.isAgg35 Try.sizeOf35 rfl (by simp) hB11.all) ?_; clear ha a; intro a ha; obtain ⟨x28, hc29, hF⟩ := cal_some hF
  refine o_call ha rfl rfl Try.call21 (W_spec_l30Right (ha0_0.ext hE18) (ha1_0.ext hE18) hc29) ?_; clear ha a; rintro v30 w31 ⟨rfl, hx32⟩ a ha
  replace hB3 := hB3.ext hx32
  replace hB11 := hB11.ext hx32
  have hE33 := Ext.trans hE18 hx32
  refine op_g ha rfl (g_not rfl) ?_; clear ha a; intro a ha; refine op_g ha rfl (g_move rfl) ?_; clear ha a; intro a ha
  by_cases hp34 : ¬ (x28 = true)
  · replace hF := if_t hp34 hF
    rw [show (!x28) = true from (n_iff (Iff.rfl)).2 hp34] at ha
    (iterate 3 refine op_unwant ha rfl (yields ha rfl rfl) rfl ?_; clear ha a; intro a ha); refine op_g ha rfl (g_pick rfl rfl) ?_; clear ha a; intro a ha; refine op_g ha rfl (g_move rfl) ?_; clear ha a; intro a ha; (iterate 3 refine op_unwant ha rfl (yields ha rfl rfl) rfl ?_; clear ha a; intro a ha); refine op_g ha rfl (g_pick rfl rfl) ?_; clear ha a; intro a ha; refine wpList_nil ?_; replace ha := ha.sub (σ' := [(2, va2), (3, va3), (4, (.pointer (some ⟨b1, 0, none⟩))), (5, (.pointer (some ⟨b9, 0, none⟩))), (25, (.bool true))]) ⟨rfl, rfl, rfl, rfl, rfl, trivial⟩; refine e_then ?_; refine c_true ha rfl ?_
    refine wp_seq ?_; refine wp_region_lit ?_; refine op_g ha rfl (g_assign rfl) ?_; clear ha a; intro a ha; refine wpList_nil ?_; replace ha := ha.sub (σ' := [(8, (.bool false))]) ⟨rfl, trivial⟩; refine e_then ?_; refine wp_ret ?_; refine e_then_ret ?_; obtain rfl := Option.some.inj hF
    exact f_ret1 ha rfl rfl ⟨rfl, hE33⟩
  replace hF := if_f hp34 hF
  rw [show (!x28) = false from b_false (n_iff (Iff.rfl)) hp34] at ha
  refine op_want (yields ha rfl rfl) ?_; refine op_g ha rfl (g_move rfl) ?_; clear ha a; intro a ha; refine op_want (yields ha rfl rfl) ?_; refine op_g ha rfl (g_lenR sl40.und ha2 rfl) ?_; clear ha a; intro a ha; refine op_want (yields ha rfl rfl) ?_; refine op_g ha rfl (g_neq rfl rfl) ?_; clear ha a; intro a ha; refine op_g ha rfl (g_pick rfl rfl) ?_; clear ha a; intro a ha; refine op_g ha rfl (g_move rfl) ?_; clear ha a; intro a ha
  by_cases hp35 : (a2.length : Int) ≠ 3
  · replace hF := if_t hp35 hF
    rw [show (decide ((a2.length : Int) ≠ 3)) = true from (decide_eq_true_iff).2 hp35] at ha
    (iterate 3 refine op_unwant ha rfl (yields ha rfl rfl) rfl ?_; clear ha a; intro a ha); refine op_g ha rfl (g_pick rfl rfl) ?_; clear ha a; intro a ha; refine wpList_nil ?_; replace ha := ha.sub (σ' := [(2, va2), (3, va3), (4, (.pointer (some ⟨b1, 0, none⟩))), (5, (.pointer (some ⟨b9, 0, none⟩))), (25, (.bool true))]) ⟨rfl, rfl, rfl, rfl, rfl, trivial⟩; refine e_then ?_; refine c_true ha rfl ?_; refine wp_seq ?_; refine wp_region_lit ?_; refine op_g ha rfl (g_assign rfl) ?_; clear ha a; intro a ha; refine wpList_nil ?_; replace ha := ha.sub (σ' := [(8, (.bool false))]) ⟨rfl, trivial⟩; refine e_then ?_
    refine wp_ret ?_; refine e_then_ret ?_; obtain rfl := Option.some.inj hF
    exact f_ret1 ha rfl rfl ⟨rfl, hE33⟩
  replace hF := if_f hp35 hF
  rw [show (decide ((a2.length : Int) ≠ 3)) = false from b_false (decide_eq_true_iff) hp35] at ha
  refine op_want (yields ha rfl rfl) ?_; refine op_g ha rfl (g_move rfl) ?_; clear ha a; intro a ha; refine op_want (yields ha rfl rfl) ?_; refine op_g ha rfl (g_lenR sl22.und ha3 rfl) ?_; clear ha a; intro a ha; refine op_want (yields ha rfl rfl) ?_; refine op_g ha rfl (g_neq rfl rfl) ?_; clear ha a; intro a ha; refine op_g ha rfl (g_pick rfl rfl) ?_; clear ha a; intro a ha; refine wpList_nil ?_; replace ha := ha.sub (σ' := [(2, va2), (3, va3), (4, (.pointer (some ⟨b1, 0, none⟩))), (5, (.pointer (some ⟨b9, 0, none⟩))), (25, (.bool (decide ((a3.length : Int) ≠ 2))))]) ⟨rfl, rfl, rfl, rfl, rfl, trivial⟩
  refine e_then ?_; refine c_cond ((a3.length : Int) ≠ 2) ha rfl (decide_eq_true_iff) (fun hp36 => ?_) (fun hp36 => ?_)
  · replace hF := if_t hp36 hF
    refine wp_seq ?_; refine wp_region_lit ?_; refine op_g ha rfl (g_assign rfl) ?_; clear ha a; intro a ha; refine wpList_nil ?_; replace ha := ha.sub (σ' := [(8, (.bool false))]) ⟨rfl, trivial⟩; refine e_then ?_; refine wp_ret ?_; refine e_then_ret ?_; obtain rfl := Option.some.inj hF
    exact f_ret1 ha rfl rfl ⟨rfl, hE33⟩
  replace hF := if_f hp36 hF; refine wp_skip ?_; refine e_then ?_; refine wp_seq ?_; refine wp_region_lit ?_
  refine o_lit0 Rp.int ha rfl sl40 ?_; clear ha a; intro v37 w38 h39 hx40 a ha
  obtain ⟨b42, hb42⟩ : ∃ b : Int, b = w31.heap.size := ⟨_, rfl⟩; rw [← hb42] at h39
  have q43 := zn_of hb42
  have q44 := Nq.new hB3.fpb q43
  have q45 := Nq.madeO q43 hB3.bi
  have q46 := Nq.new hB11.fpb q43
  have q47 := Nq.madeO q43 hB11.bi
  have q48 := Zn.upD q43 hE33
  replace hB3 := hB3.ext hx40
  replace hB11 := hB11.ext hx40
  have hE49 := Ext.trans hE33 hx40
  refine op_g ha rfl (g_assign rfl) ?_; clear ha a; intro a ha; refine wpList_nil ?_; replace ha := ha.sub (σ' := [(2, va2), (3, va3), (4, (.pointer (some ⟨b1, 0, none⟩))), (5, (.pointer (some ⟨b9, 0, none⟩))), (9, v37)]) ⟨rfl, rfl, rfl, rfl, rfl, trivial⟩; refine e_then ?_; refine wp_seq ?_; refine wp_seq ?_; refine wp_region_lit ?_; refine op_g ha rfl (g_assign rfl) ?_; clear ha a; intro a ha; refine wpList_nil ?_; replace ha := ha.sub (σ' := [(2, va2), (3, va3), (4, (.pointer (some ⟨b1, 0, none⟩))), (5, (.pointer (some ⟨b9, 0, none⟩))), (9, v37), (10, (.int .i64 0))]) ⟨rfl, rfl, rfl, rfl, rfl, rfl, trivial⟩
  refine e_then ?_; obtain ⟨o174, ho175, hK176⟩ := bnd_some hF
  obtain ⟨n177, hn178⟩ := lp_some ho175; clear ho175
  refine c_loop (fun a w => Fr 66 [(2, va2), (3, va3), (4, (.pointer (some ⟨b1, 0, none⟩))), (5, (.pointer (some ⟨b9, 0, none⟩))), (9, v37)] a ∧ Chg [] W w ∧ Bx w b1 [va0_0] 31 ∧ Zn W (b1 : Int) ∧ Bx w b9 [va1_0] 35 ∧ Zn W (b9 : Int) ∧ Ow Rp.int 2 true w [] b42 v37 ([] : (List Int)) ∧ Zn W b42 ∧ Nq ([b1]) (b9 : Int) ∧ Nq ([b1]) b42 ∧ Nq ([b9]) (b1 : Int) ∧ Nq ([b9]) b42 ∧ Nq (bl b42 ++ []) (b1 : Int) ∧ Nq (bl b42 ++ []) (b9 : Int) ∧ o174 = .inl ()) (fun n a w => ∃ (i112 : Int), Fr 66 [(2, va2), (3, va3), (4, (.pointer (some ⟨b1, 0, none⟩))), (5, (.pointer (some ⟨b9, 0, none⟩))), (9, v37), (10, (.int .i64 i112))] a ∧ Chg [] W w ∧ InI i112 ∧ Bx w b1 [va0_0] 31 ∧ Zn W (b1 : Int) ∧ Bx w b9 [va1_0] 35 ∧ Zn W (b9 : Int) ∧ Ow Rp.int 2 true w [] b42 v37 ([] : (List Int)) ∧ Zn W b42 ∧ Nq ([b1]) (b9 : Int) ∧ Nq ([b1]) b42 ∧ Nq ([b9]) (b1 : Int) ∧ Nq ([b9]) b42 ∧ Nq (bl b42 ++ []) (b1 : Int) ∧ Nq (bl b42 ++ []) (b9 : Int) ∧ lpN (fun s => F_spec_HoldsIn_l1 a0_0 a2 s) n i112 = some o174) n177 ⟨0, ha.sub ⟨rfl, rfl, rfl, rfl, rfl, rfl, trivial⟩, hE49, (show InI 0 from by decide), hB3, q7, hB11, q17, h39, q48, q15, q44, q16, q46, q45, q47, hn178⟩ ?_ ?_
  · rintro m182 a w104 ⟨i112, ha, hE120, hI113, hB105, z106, hB107, z108, h110, z111, q114, q115, q116, q117, q118, q119, hF⟩
    cases m182 with
    | zero => exact (lpN_zero hF).elim
    | succ m182 =>
      obtain ⟨z181, hF, hN180⟩ := lpN_succ hF
      have hF : F_spec_HoldsIn_l1 a0_0 a2 i112 = some z181 := hF; unfold F_spec_HoldsIn_l1 at hF
      refine wp_seq ?_; refine wp_seq ?_; refine wp_region_lit ?_; (iterate 2 refine op_g ha rfl (g_move rfl) ?_; clear ha a; intro a ha); refine op_g ha rfl (g_lenR sl40.und ha2 rfl) ?_; clear ha a; intro a ha; refine op_g ha rfl (g_lss rfl rfl) ?_; clear ha a; intro a ha; refine wpList_nil ?_; replace ha := ha.sub (σ' := [(2, va2), (3, va3), (4, (.pointer (some ⟨b1, 0, none⟩))), (5, (.pointer (some ⟨b9, 0, none⟩))), (9, v37), (10, (.int .i64 i112)), (30, (.bool (decide (i112 < (a2.length : Int)))))]) ⟨rfl, rfl, rfl, rfl, rfl, rfl, rfl, trivial⟩; refine e_then ?_; refine c_cond (i112 < (a2.length : Int)) ha rfl (decide_eq_true_iff) (fun hp183 => ?_) (fun hp183 => ?_)
      · replace hF := if_t hp183 hF
        refine wp_skip ?_; refine e_then ?_; refine wp_seq ?_; refine wp_block ?_; refine wp_seq ?_; refine d_quiet hmix (by kernel_rfl) ?_; refine q_g ha rfl (g_loadA (cs := [va0_0]) Try.isAgg31 Try.sizeOf31 rfl (by simp) hB105.all) ?_; clear ha a; intro a ha; (iterate 2 refine q_g ha rfl (g_move rfl) ?_; clear ha a; intro a ha); obtain ⟨x184, g185, gx186, hF⟩ := idx_some hF
        obtain ⟨p187, cs188, f189, hf190, hpb191, hat192, hr193, hi194⟩ := ha2.at g185 gx186
        obtain ⟨rfl, hI195, rfl⟩ := hr193
        refine q_g ha rfl (hi194.gives sl40 rfl rfl) ?_; clear ha a; intro a ha; refine q_g ha rfl (g_load0 hE120 Try.isAgg2 rfl hat192.one) ?_; clear ha a; intro a ha; obtain ⟨x198, hc199, hF⟩ := cal_some hF; refine q_call (.bool x198) ha rfl rfl Try.call28 (fun w197 hx196 => W_spec_l1There (ha0_0.ext (Ext.trans hE120 hx196)) hI195 hc199) (fun _ _ _ h => ⟨h.1, h.2⟩) ?_; clear ha a; intro a ha; refine q_g ha rfl (g_not rfl) ?_; clear ha a; intro a ha
        refine q_nil ?_; intro w200 hx201
        replace hB105 := hB105.ext hx201
        replace hB107 := hB107.ext hx201
        replace h110 := h110.ext hx201
        have hE202 := Ext.trans hE120 hx201
        replace ha := ha.sub (σ' := [(2, va2), (3, va3), (4, (.pointer (some ⟨b1, 0, none⟩))), (5, (.pointer (some ⟨b9, 0, none⟩))), (9, v37), (10, (.int .i64 i112)), (39, (.bool (!x198)))]) ⟨rfl, rfl, rfl, rfl, rfl, rfl, rfl, trivial⟩; refine e_then ?_; refine c_cond (¬ (x198 = true)) ha rfl (n_iff (Iff.rfl)) (fun hp203 => ?_) (fun hp203 => ?_)
        · replace hF := if_t hp203 hF
          refine wp_seq ?_; refine wp_region_lit ?_; refine op_g ha rfl (g_assign rfl) ?_; clear ha a; intro a ha; refine wpList_nil ?_; replace ha := ha.sub (σ' := [(8, (.bool false))]) ⟨rfl, trivial⟩; refine e_then ?_; refine wp_ret ?_; refine e_blk_ret ?_; refine e_then_ret ?_; refine e_lq_ret ?_; refine e_then_ret ?_; obtain rfl := Option.some.inj hF
          have e204 := LK_inr hN180; subst e204
          have e205 := BK_inr hK176; subst e205
          exact f_ret1 ha rfl rfl ⟨rfl, hE202⟩
        replace hF := if_f hp203 hF; refine wp_skip ?_; refine e_blk ?_; refine e_then ?_; refine wp_region_lit ?_; refine op_g ha rfl (g_move rfl) ?_; clear ha a; intro a ha; obtain ⟨hI206, hF⟩ := ck_some hF; refine op_g ha rfl (g_add rfl rfl hI206) ?_; clear ha a; intro a ha; refine op_g ha rfl (g_assign rfl) ?_; clear ha a; intro a ha; refine wpList_nil ?_; replace ha := ha.sub (σ' := [(2, va2), (3, va3), (4, (.pointer (some ⟨b1, 0, none⟩))), (5, (.pointer (some ⟨b9, 0, none⟩))), (9, v37), (10, (.int .i64 (i112 + 1)))]) ⟨rfl, rfl, rfl, rfl, rfl, rfl, trivial⟩; refine e_lq ?_; obtain rfl := Option.some.inj hF
        exact ⟨_, Nat.lt_succ_self _, i112 + 1, ha.sub ⟨rfl, rfl, rfl, rfl, rfl, rfl, trivial⟩, hE202, hI206, hB105, z106, hB107, z108, h110, z111, q114, q115, q116, q117, q118, q119, hN180⟩
      replace hF := if_f hp183 hF; refine wp_exit ?_; refine e_then_exit ?_; refine e_lq_eq ?_; obtain rfl := Option.some.inj hF
      exact ⟨ha.sub ⟨rfl, rfl, rfl, rfl, rfl, trivial⟩, hE120, hB105, z106, hB107, z108, h110, z111, q114, q115, q116, q117, q118, q119, (LK_inr hN180).symm⟩
  rintro a w160 ⟨ha, hE179, hB161, z162, hB163, z164, h166, z167, q168, q169, q170, q171, q172, q173, rfl⟩
  have hF : F_spec_HoldsIn_k2 a0_0 a1_0 a2 a3 = some _ := hK176; clear hK176; unfold F_spec_HoldsIn_k2 at hF
  refine e_then ?_; refine wp_seq ?_; refine wp_seq ?_; refine wp_region_lit ?_; refine op_g ha rfl (g_assign rfl) ?_; clear ha a; intro a ha; refine wpList_nil ?_; replace ha := ha.sub (σ' := [(2, va2), (3, va3), (4, (.pointer (some ⟨b1, 0, none⟩))), (5, (.pointer (some ⟨b9, 0, none⟩))), (9, v37), (11, (.int .i64 0))]) ⟨rfl, rfl, rfl, rfl, rfl, rfl, trivial⟩; refine e_then ?_; obtain ⟨o452, ho453, hK454⟩ := bnd_some hF
  obtain ⟨n455, hn456⟩ := lp_some ho453; clear ho453
  refine c_loop (fun a w => ∃ (l443 : (List Int)) (v444 : Value) (b445 : Int), Fr 66 [(2, va2), (4, (.pointer (some ⟨b1, 0, none⟩))), (5, (.pointer (some ⟨b9, 0, none⟩))), (9, v444)] a ∧ Chg [] W w ∧ Bx w b1 [va0_0] 31 ∧ Zn W (b1 : Int) ∧ Bx w b9 [va1_0] 35 ∧ Zn W (b9 : Int) ∧ Ow Rp.int 2 true w [] b445 v444 l443 ∧ Zn W b445 ∧ Nq ([b1]) (b9 : Int) ∧ Nq ([b1]) b445 ∧ Nq ([b9]) (b1 : Int) ∧ Nq ([b9]) b445 ∧ Nq (bl b445 ++ []) (b1 : Int) ∧ Nq (bl b445 ++ []) (b9 : Int) ∧ o452 = .inl l443) (fun n a w => ∃ (l327 : (List Int)) (i330 : Int) (v328 : Value) (b329 : Int), Fr 66 [(2, va2), (3, va3), (4, (.pointer (some ⟨b1, 0, none⟩))), (5, (.pointer (some ⟨b9, 0, none⟩))), (9, v328), (11, (.int .i64 i330))] a ∧ Chg [] W w ∧ InI i330 ∧ Bx w b1 [va0_0] 31 ∧ Zn W (b1 : Int) ∧ Bx w b9 [va1_0] 35 ∧ Zn W (b9 : Int) ∧ Ow Rp.int 2 true w [] b329 v328 l327 ∧ Zn W b329 ∧ Nq ([b1]) (b9 : Int) ∧ Nq ([b1]) b329 ∧ Nq ([b9]) (b1 : Int) ∧ Nq ([b9]) b329 ∧ Nq (bl b329 ++ []) (b1 : Int) ∧ Nq (bl b329 ++ []) (b9 : Int) ∧ lpN (fun s => F_spec_HoldsIn_l3 a0_0 a3 s.1 s.2) n (l327, i330) = some o452) n455 ⟨([] : (List Int)), 0, v37, b42, ha.sub ⟨rfl, rfl, rfl, rfl, rfl, rfl, trivial⟩, hE179, (show InI 0 from by decide), hB161, z162, hB163, z164, h166, z167, q168, q169, q170, q171, q172, q173, hn456⟩ ?_ ?_
  · rintro m460 a w319 ⟨l327, i330, v328, b329, ha, hE338, hI331, hB320, z321, hB322, z323, h325, z326, q332, q333, q334, q335, q336, q337, hF⟩
    cases m460 with
    | zero => exact (lpN_zero hF).elim
    | succ m460 =>
      obtain ⟨z459, hF, hN458⟩ := lpN_succ hF
      have hF : F_spec_HoldsIn_l3 a0_0 a3 l327 i330 = some z459 := hF; unfold F_spec_HoldsIn_l3 at hF
      refine wp_seq ?_; refine wp_seq ?_; refine wp_region_lit ?_; (iterate 2 refine op_g ha rfl (g_move rfl) ?_; clear ha a; intro a ha); refine op_g ha rfl (g_lenR sl22.und ha3 rfl) ?_; clear ha a; intro a ha; refine op_g ha rfl (g_lss rfl rfl) ?_; clear ha a; intro a ha; refine wpList_nil ?_; replace ha := ha.sub (σ' := [(2, va2), (3, va3), (4, (.pointer (some ⟨b1, 0, none⟩))), (5, (.pointer (some ⟨b9, 0, none⟩))), (9, v328), (11, (.int .i64 i330)), (43, (.bool (decide (i330 < (a3.length : Int)))))]) ⟨rfl, rfl, rfl, rfl, rfl, rfl, rfl, trivial⟩; refine e_then ?_; refine c_cond (i330 < (a3.length : Int)) ha rfl (decide_eq_true_iff) (fun hp461 => ?_) (fun hp461 => ?_)
      · replace hF := if_t hp461 hF
        refine wp_skip ?_; refine e_then ?_; refine wp_seq ?_; refine wp_block ?_; refine wp_seq ?_; refine wp_seq ?_; refine d_quiet hmix (by kernel_rfl) ?_; refine q_g ha rfl (g_loadA (cs := [va0_0]) Try.isAgg31 Try.sizeOf31 rfl (by simp) hB320.all) ?_; clear ha a; intro a ha; (iterate 2 refine q_g ha rfl (g_move rfl) ?_; clear ha a; intro a ha); obtain ⟨x462, g463, gx464, hF⟩ := idx_some hF
        obtain ⟨p465, cs466, f467, hf468, hpb469, hat470, hr471, hi472⟩ := ha3.at g463 gx464
        obtain ⟨v473, rfl, h474⟩ := hr471
        have h474 : Ro Rp.int W f467 v473 x462 := h474
        refine q_g ha rfl (hi472.gives sl22 rfl rfl) ?_; clear ha a; intro a ha; refine q_g ha rfl (g_load0 hE338 Try.isAgg40 rfl hat470.one) ?_; clear ha a; intro a ha; obtain ⟨x478, hc479, hF⟩ := cal_some hF; refine q_call (.bool x478) ha rfl rfl Try.call29 (fun w477 hx476 => W_spec_SetOk (ha0_0.ext (Ext.trans hE338 hx476)) (h474.ext (Ext.trans hE338 hx476)) hc479) (fun _ _ _ h => ⟨h.1, h.2⟩) ?_; clear ha a; intro a ha; refine q_g ha rfl (g_not rfl) ?_; clear ha a; intro a ha
        refine q_nil ?_; intro w480 hx481
        replace hB320 := hB320.ext hx481
        replace hB322 := hB322.ext hx481
        replace h325 := h325.ext hx481
        have hE482 := Ext.trans hE338 hx481
        replace ha := ha.sub (σ' := [(2, va2), (3, va3), (4, (.pointer (some ⟨b1, 0, none⟩))), (5, (.pointer (some ⟨b9, 0, none⟩))), (9, v328), (11, (.int .i64 i330)), (52, (.bool (!x478)))]) ⟨rfl, rfl, rfl, rfl, rfl, rfl, rfl, trivial⟩; refine e_then ?_; refine c_cond (¬ (x478 = true)) ha rfl (n_iff (Iff.rfl)) (fun hp483 => ?_) (fun hp483 => ?_)
        · replace hF := if_t hp483 hF
          refine wp_seq ?_; refine wp_region_lit ?_; refine op_g ha rfl (g_assign rfl) ?_; clear ha a; intro a ha; refine wpList_nil ?_; replace ha := ha.sub (σ' := [(8, (.bool false))]) ⟨rfl, trivial⟩; refine e_then ?_; refine wp_ret ?_; refine e_then_ret ?_; refine e_blk_ret ?_; refine e_then_ret ?_; refine e_lq_ret ?_; refine e_then_ret ?_; obtain rfl := Option.some.inj hF
          have e484 := LK_inr hN458; subst e484
          have e485 := BK_inr hK454; subst e485
          exact f_ret1 ha rfl rfl ⟨rfl, hE482⟩
        replace hF := if_f hp483 hF; refine wp_skip ?_; refine e_then ?_; refine wp_region_lit ?_; (iterate 3 refine op_g ha rfl (g_move rfl) ?_; clear ha a; intro a ha); obtain ⟨x486, g487, gx488, hF⟩ := idx_some hF
        obtain ⟨p489, cs490, f491, hf492, hpb493, hat494, hr495, hi496⟩ := ha3.at g487 gx488
        obtain ⟨v497, rfl, h498⟩ := hr495
        have h498 : Ro Rp.int W f491 v497 x486 := h498
        refine op_g ha rfl (hi496.gives sl22 rfl rfl) ?_; clear ha a; intro a ha; refine op_g ha rfl (g_load0 hE482 Try.isAgg40 rfl hat494.one) ?_; clear ha a; intro a ha; obtain ⟨x500, hc501, hF⟩ := cal_some hF
        refine o_call ha rfl rfl Try.call30 (W_spec_l25Mask (h498.ext hE482) hc501) ?_; clear ha a; rintro v502 w503 ⟨⟨rfl, hI505⟩, hx504⟩ a ha
        replace hB320 := hB320.ext hx504
        replace hB322 := hB322.ext hx504
        replace h325 := h325.ext hx504
        have hE506 := Ext.trans hE482 hx504
        refine o_lit1 (o := true) (y := x500) Rp.int ha rfl sl40 rfl rfl rfl ⟨rfl, hI505, rfl⟩ ?_; clear ha a; intro v507 w508 h509 hx510 a ha
        obtain ⟨b512, hb512⟩ : ∃ b : Int, b = w503.heap.size := ⟨_, rfl⟩; rw [← hb512] at h509
        have q513 := zn_of hb512
        have q514 := Nq.new hB320.fpb q513
        have q515 := Nq.madeO q513 hB320.bi
        have q516 := Nq.new hB322.fpb q513
        have q517 := Nq.madeO q513 hB322.bi
        have q518 := Nq.new h325.fpb q513
        have q519 := Nq.madeO q513 h325.blt
        have q520 := Zn.upD q513 hE506
        replace hB320 := hB320.ext hx510
        replace hB322 := hB322.ext hx510
        replace h325 := h325.ext hx510
        have hE521 := Ext.trans hE506 hx510
        obtain ⟨hl522, hF⟩ := app_some hF
        refine o_append ha rfl sl40 rfl rfl rfl h325 h509.src (Nq.nil _) hl522 ?_; clear ha a; intro v523 w524 b525 h526 hc527 hb528 a ha
        replace h526 : Ow Rp.int 2 true w524 [] b525 v523 _ := h526
        have q530 := Nq.appY q333 hB320.fpb hb528
        have q531 := Nq.appX q336 (Nq.nil _) hb528 hB320.bi
        have q532 := Nq.appY q335 hB322.fpb hb528
        have q533 := Nq.appX q337 (Nq.nil _) hb528 hB322.bi
        have q534 := Nq.appY q519 h509.fpb hb528
        have q535 := Nq.appX q518 (Nq.nil _) hb528 h509.blt
        have q536 := Zn.appD z326 hb528 hE521
        replace hB320 := hB320.nq hc527 q333
        replace hB322 := hB322.nq hc527 q335
        replace h509 := h509.nq hc527 q519
        have hE537 := Ext.then hE521 hc527 (Zn.bl z326)
        refine op_g ha rfl (g_assign rfl) ?_; clear ha a; intro a ha; refine wpList_nil ?_; replace ha := ha.sub (σ' := [(2, va2), (3, va3), (4, (.pointer (some ⟨b1, 0, none⟩))), (5, (.pointer (some ⟨b9, 0, none⟩))), (9, v523), (11, (.int .i64 i330))]) ⟨rfl, rfl, rfl, rfl, rfl, rfl, trivial⟩; refine e_blk ?_; refine e_then ?_; refine wp_region_lit ?_; refine op_g ha rfl (g_move rfl) ?_; clear ha a; intro a ha; obtain ⟨hI538, hF⟩ := ck_some hF; refine op_g ha rfl (g_add rfl rfl hI538) ?_; clear ha a; intro a ha; refine op_g ha rfl (g_assign rfl) ?_; clear ha a; intro a ha; refine wpList_nil ?_; replace ha := ha.sub (σ' := [(2, va2), (3, va3), (4, (.pointer (some ⟨b1, 0, none⟩))), (5, (.pointer (some ⟨b9, 0, none⟩))), (9, v523), (11, (.int .i64 (i330 + 1)))]) ⟨rfl, rfl, rfl, rfl, rfl, rfl, trivial⟩
        refine e_lq ?_; obtain rfl := Option.some.inj hF
        exact ⟨_, Nat.lt_succ_self _, (l327 ++ ([x500])), i330 + 1, v523, b525, ha.sub ⟨rfl, rfl, rfl, rfl, rfl, rfl, trivial⟩, hE537, hI538, hB320, z321, hB322, z323, h526, q536, q332, q530, q334, q532, q531, q533, hN458⟩
      replace hF := if_f hp461 hF; refine wp_exit ?_; refine e_then_exit ?_; refine e_lq_eq ?_; obtain rfl := Option.some.inj hF
      exact ⟨l327, v328, b329, ha.sub ⟨rfl, rfl, rfl, rfl, trivial⟩, hE338, hB320, z321, hB322, z323, h325, z326, q332, q333, q334, q335, q336, q337, (LK_inr hN458).symm⟩
  rintro a w435 ⟨l443, v444, b445, ha, hE457, hB436, z437, hB438, z439, h441, z442, q446, q447, q448, q449, q450, q451, rfl⟩
  have hF : F_spec_HoldsIn_k4 a0_0 a1_0 a2 l443 = some _ := hK454; clear hK454; unfold F_spec_HoldsIn_k4 at hF
  refine e_then ?_; refine wp_seq ?_; refine wp_region_lit ?_; refine op_g ha rfl (g_loadA (cs := [va0_0]) Try.isAgg31 Try.sizeOf31 rfl (by simp) hB436.all) ?_; clear ha a; intro a ha; refine op_g ha rfl (g_loadA (cs := [va1_0]) Try.isAgg35 Try.sizeOf35 rfl (by simp) hB438.all) ?_; clear ha a; intro a ha; (iterate 2 refine op_g ha rfl (g_move rfl) ?_; clear ha a; intro a ha)
  obtain ⟨fp540, hro541, hs542⟩ := h441.roF
  obtain ⟨x543, hc544, hF⟩ := cal_some hF
  refine o_call ha rfl rfl Try.call22 (W_spec_l30Root (ha0_0.ext hE457) (ha1_0.ext hE457) (ha2.ext hE457) hro541 hc544) ?_; clear ha a; rintro v545 w546 ⟨rfl, hx547⟩ a ha
  replace hB436 := hB436.ext hx547
  replace hB438 := hB438.ext hx547
  replace h441 := h441.ext hx547
  have hE548 := Ext.trans hE457 hx547
  refine op_g ha rfl (g_assign rfl) ?_; clear ha a; intro a ha; refine wpList_nil ?_; replace ha := ha.sub (σ' := [(8, (.bool x543))]) ⟨rfl, trivial⟩; refine e_then ?_; refine wp_ret ?_; obtain rfl := Option.some.inj hF
  exact f_ret1 ha rfl rfl ⟨rfl, hE548⟩
set_option maxHeartbeats 2000000 in
theorem W_impl_inRange {W : World} {a0 : Int} (ha0 : InI a0) {a1 : Int} (ha1 : InI a1) {a2 : Int} (ha2 : InI a2) {r : Bool} (hF : F_impl_inRange a0 a1 a2 = some r) :
    Calls Try.prog 51 [.int .i64 a0, .int .i64 a1, .int .i64 a2].toArray W (Ret fun u w' => u = .bool r ∧ Ext W w') := by
  refine f_enter Try.func51 rfl Try.ntmps51 rfl ?_
  intro a ha
  replace ha : Fr 15 [(0, (.int .i64 a0)), (1, (.int .i64 a1)), (2, (.int .i64 a2))] a := ha
  have hE : Chg [] W W := Chg.refl _ _
  unfold F_impl_inRange at hF
  refine wp_seq ?_; refine wp_region_lit ?_; refine op_g ha rfl (g_assign rfl) ?_; clear ha a; intro a ha; refine wpList_nil ?_; replace ha := ha.sub (σ' := [(0, (.int .i64 a0)), (1, (.int .i64 a1)), (2, (.int .i64 a2))]) ⟨rfl, rfl, rfl, trivial⟩; refine e_then ?_; refine wp_seq ?_; refine wp_region_lit ?_; (iterate 2 refine op_g ha rfl (g_move rfl) ?_; clear ha a; intro a ha); refine op_g ha rfl (g_leq rfl rfl) ?_; clear ha a; intro a ha; refine op_g ha rfl (g_move rfl) ?_; clear ha a; intro a ha
  by_cases hp1 : a1 ≤ a0
  · replace hF := if_t hp1 hF
    rw [show (decide (a1 ≤ a0)) = true from (decide_eq_true_iff).2 hp1] at ha
    refine op_want (yields ha rfl rfl) ?_; refine op_g ha rfl (g_move rfl) ?_; clear ha a; intro a ha; refine op_want (yields ha rfl rfl) ?_; refine op_g ha rfl (g_move rfl) ?_; clear ha a; intro a ha; refine op_want (yields ha rfl rfl) ?_; refine op_g ha rfl (g_leq rfl rfl) ?_; clear ha a; intro a ha; refine op_g ha rfl (g_pick rfl rfl) ?_; clear ha a; intro a ha; refine op_g ha rfl (g_assign rfl) ?_; clear ha a; intro a ha; refine wpList_nil ?_; replace ha := ha.sub (σ' := [(6, (.bool (decide (a0 ≤ a2))))]) ⟨rfl, trivial⟩; refine e_then ?_; refine wp_ret ?_; obtain rfl := Option.some.inj hF
    exact f_ret1 ha rfl rfl ⟨rfl, hE⟩
  replace hF := if_f hp1 hF
  rw [show (decide (a1 ≤ a0)) = false from b_false (decide_eq_true_iff) hp1] at ha
  (iterate 3 refine op_unwant ha rfl (yields ha rfl rfl) rfl ?_; clear ha a; intro a ha); refine op_g ha rfl (g_pick rfl rfl) ?_; clear ha a; intro a ha; refine op_g ha rfl (g_assign rfl) ?_; clear ha a; intro a ha; refine wpList_nil ?_; replace ha := ha.sub (σ' := [(6, (.bool false))]) ⟨rfl, trivial⟩; refine e_then ?_; refine wp_ret ?_; obtain rfl := Option.some.inj hF
  exact f_ret1 ha rfl rfl ⟨rfl, hE⟩
end Go.Proofs.Ytjcnkijmbjhcnaa
