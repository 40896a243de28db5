/- Walks, printed by gen.py. -/
import Derived.Test.YtacgmkncleiblaaF
import Derived.Test.YtacgmkncleiblaaSlc
import Derived.Test.YtacgmkncleiblaaProg
import Derived.KernelRfl
set_option maxRecDepth 100000
namespace Go.Proofs.Ytacgmkncleiblaa
open Go Go.RowKit

theorem hmix : Try.prog.follows .mixedOrders = true := by kernel_rfl
theorem sl22 : SlT Try.prog 22 2 1 8 (.int .i64 0) := ⟨by kernel_rfl, by kernel_rfl, by rfl⟩
theorem sl47 : SlT Try.prog 47 22 1 24 (.slice none 0 0) := ⟨by kernel_rfl, by kernel_rfl, by rfl⟩
theorem st29_0 : stF Try.prog 29 0 = some 0 := by kernel_rfl
theorem sl27 : SlT Try.prog 27 60 3 24 (.agg #[(.int .i64 0), (.int .i64 0), (.int .i64 0)]) := ⟨by kernel_rfl, by kernel_rfl, by rfl⟩
theorem st60_0 : stF Try.prog 60 0 = some 0 := by kernel_rfl
theorem st60_1 : stF Try.prog 60 1 = some 1 := by kernel_rfl
theorem st60_2 : stF Try.prog 60 2 = some 2 := by kernel_rfl
theorem un4 : Try.prog.underlying 4 = some .bool := by kernel_rfl
set_option maxHeartbeats 2000000 in
theorem W_spec_l1In {W : World} {a0 : Int} (ha0 : InI a0) {a1 : Int} (ha1 : InI a1) {a2 : Int} (ha2 : InI a2) {r : Bool} (hF : F_spec_l1In a0 a1 a2 = some r) :
    Calls Try.prog 38 [.int .i64 a0, .int .i64 a1, .int .i64 a2].toArray W (Ret fun u w' => u = .bool r ∧ Ext W w') := by
  refine f_enter Try.func38 rfl Try.ntmps38 rfl ?_
  intro a ha
  replace ha : Fr 15 [(0, (.int .i64 a0)), (1, (.int .i64 a1)), (2, (.int .i64 a2))] a := ha
  have hE : Chg [] W W := Chg.refl _ _
  unfold F_spec_l1In at hF
  refine wp_seq ?_
  refine wp_region_lit ?_
  refine op_g ha rfl (g_assign rfl) ?_; clear ha a; intro a ha
  refine wpList_nil ?_
  replace ha := ha.sub (σ' := [(0, (.int .i64 a0)), (1, (.int .i64 a1)), (2, (.int .i64 a2))]) ⟨rfl, rfl, rfl, trivial⟩
  refine e_then ?_
  refine wp_seq ?_
  refine wp_region_lit ?_
  refine op_g ha rfl (g_move rfl) ?_; clear ha a; intro a ha
  refine op_g ha rfl (g_move rfl) ?_; clear ha a; intro a ha
  refine op_g ha rfl (g_geq rfl rfl) ?_; clear ha a; intro a ha
  refine op_g ha rfl (g_move rfl) ?_; clear ha a; intro a ha
  by_cases hp1 : a1 ≤ a0
  · replace hF := if_t hp1 hF
    rw [show (decide (a1 ≤ a0)) = true from (decide_eq_true_iff).2 hp1] at ha
    refine op_want (yields ha rfl rfl) ?_
    refine op_g ha rfl (g_move rfl) ?_; clear ha a; intro a ha
    refine op_want (yields ha rfl rfl) ?_
    refine op_g ha rfl (g_move rfl) ?_; clear ha a; intro a ha
    refine op_want (yields ha rfl rfl) ?_
    refine op_g ha rfl (g_leq rfl rfl) ?_; clear ha a; intro a ha
    refine op_g ha rfl (g_pick rfl rfl) ?_; clear ha a; intro a ha
    refine op_g ha rfl (g_assign rfl) ?_; clear ha a; intro a ha
    refine wpList_nil ?_
    replace ha := ha.sub (σ' := [(6, (.bool (decide (a0 ≤ a2))))]) ⟨rfl, trivial⟩
    refine e_then ?_
    refine wp_ret ?_
    obtain rfl := Option.some.inj hF
    exact f_ret1 ha rfl rfl ⟨rfl, hE⟩
  · replace hF := if_f hp1 hF
    rw [show (decide (a1 ≤ a0)) = false from b_false (decide_eq_true_iff) hp1] at ha
    refine op_unwant ha rfl (yields ha rfl rfl) rfl ?_; clear ha a; intro a ha
    refine op_unwant ha rfl (yields ha rfl rfl) rfl ?_; clear ha a; intro a ha
    refine op_unwant ha rfl (yields ha rfl rfl) rfl ?_; clear ha a; intro a ha
    refine op_g ha rfl (g_pick rfl rfl) ?_; clear ha a; intro a ha
    refine op_g ha rfl (g_assign rfl) ?_; clear ha a; intro a ha
    refine wpList_nil ?_
    replace ha := ha.sub (σ' := [(6, (.bool false))]) ⟨rfl, trivial⟩
    refine e_then ?_
    refine wp_ret ?_
    obtain rfl := Option.some.inj hF
    exact f_ret1 ha rfl rfl ⟨rfl, hE⟩
set_option maxHeartbeats 2000000 in
theorem W_spec_NamedFormula {W : World} {a0 : Int} (ha0 : InI a0) {r : ((List (Int × (Int × Int))) × Bool)} (hF : F_spec_NamedFormula a0 = some r) :
    Calls Try.prog 15 [.int .i64 a0].toArray W (Ret fun u w' => ∃ (u0 : Value) (u1 : Value) (u0_0 : Value) (b_u0_0 : Int), u = .tuple #[u0, u1] ∧ u0 = .agg #[u0_0] ∧ Ow (Rp.prod Rp.int (Rp.prod Rp.int Rp.int)) 60 true w' [] b_u0_0 u0_0 r.1 ∧ Zn W b_u0_0 ∧ u1 = .bool r.2 ∧ Ext W w') := by
  refine f_enter Try.func15 rfl Try.ntmps15 rfl ?_
  intro a ha
  replace ha : Fr 60 [(0, (.int .i64 a0))] a := ha
  have hE : Chg [] W W := Chg.refl _ _
  unfold F_spec_NamedFormula at hF
  refine wp_seq ?_
  refine wp_region_lit ?_
  refine o_alloc (cs := [(.slice none 0 0)]) ha rfl Try.zeroValue29 rfl ?_; clear ha a; intro b1 w2 hB3 hx4 hlo5 a ha
  have q6 := Zn.one hlo5
  have q7 := Zn.upD q6 hE
  have hE8 := Ext.trans hE hx4
  refine op_g ha rfl (g_assign rfl) ?_; clear ha a; intro a ha
  refine wpList_nil ?_
  replace ha := ha.sub (σ' := [(0, (.int .i64 a0)), (2, (.pointer (some ⟨b1, 0, none⟩)))]) ⟨rfl, rfl, trivial⟩
  refine e_then ?_
  refine wp_seq ?_
  refine wp_region_lit ?_
  have hvob13 : ∀ p ∈ ([((.int .i64 1), [(.int .i64 1)]), ((.int .i64 0), [(.int .i64 0)]), ((.int .i64 1), [(.int .i64 1)]), ((.int .i64 7), [(.int .i64 7)]), ((.int .i64 1), [(.int .i64 1)]), ((.int .i64 0), [(.int .i64 0)]), ((.int .i64 4), [(.int .i64 4)]), ((.int .i64 1), [(.int .i64 1)]), ((.int .i64 0), [(.int .i64 0)]), ((.int .i64 7), [(.int .i64 7)]), ((.int .i64 0), [(.int .i64 0)]), ((.int .i64 2), [(.int .i64 2)])] : List (Value × List Value)), p.1.cells = p.2.toArray ∧ p.2.length = 1 := by
    intro p hp; simp only [List.mem_cons, List.not_mem_nil, or_false] at hp; rcases hp with hp | hp | hp | hp | hp | hp | hp | hp | hp | hp | hp | hp <;> subst hp <;> first | exact ⟨rfl, rfl⟩
  refine o_litM (o := true) (f := []) (ps := [((.int .i64 1), [(.int .i64 1)]), ((.int .i64 0), [(.int .i64 0)]), ((.int .i64 1), [(.int .i64 1)]), ((.int .i64 7), [(.int .i64 7)]), ((.int .i64 1), [(.int .i64 1)]), ((.int .i64 0), [(.int .i64 0)]), ((.int .i64 4), [(.int .i64 4)]), ((.int .i64 1), [(.int .i64 1)]), ((.int .i64 0), [(.int .i64 0)]), ((.int .i64 7), [(.int .i64 7)]), ((.int .i64 0), [(.int .i64 0)]), ((.int .i64 2), [(.int .i64 2)])]) (ys := [1, 0, 1, 7, 1, 0, 4, 1, 0, 7, 0, 2]) Rp.int ha rfl sl22 rfl rfl rfl rfl hvob13 ⟨[], [], [(.int .i64 1)], _, rfl, rfl, ⟨rfl, (show InI 1 from by decide), rfl⟩, ⟨[], [], [(.int .i64 0)], _, rfl, rfl, ⟨rfl, (show InI 0 from by decide), rfl⟩, ⟨[], [], [(.int .i64 1)], _, rfl, rfl, ⟨rfl, (show InI 1 from by decide), rfl⟩, ⟨[], [], [(.int .i64 7)], _, rfl, rfl, ⟨rfl, (show InI 7 from by decide), rfl⟩, ⟨[], [], [(.int .i64 1)], _, rfl, rfl, ⟨rfl, (show InI 1 from by decide), rfl⟩, ⟨[], [], [(.int .i64 0)], _, rfl, rfl, ⟨rfl, (show InI 0 from by decide), rfl⟩, ⟨[], [], [(.int .i64 4)], _, rfl, rfl, ⟨rfl, (show InI 4 from by decide), rfl⟩, ⟨[], [], [(.int .i64 1)], _, rfl, rfl, ⟨rfl, (show InI 1 from by decide), rfl⟩, ⟨[], [], [(.int .i64 0)], _, rfl, rfl, ⟨rfl, (show InI 0 from by decide), rfl⟩, ⟨[], [], [(.int .i64 7)], _, rfl, rfl, ⟨rfl, (show InI 7 from by decide), rfl⟩, ⟨[], [], [(.int .i64 0)], _, rfl, rfl, ⟨rfl, (show InI 0 from by decide), rfl⟩, ⟨[], [], [(.int .i64 2)], _, rfl, rfl, ⟨rfl, (show InI 2 from by decide), rfl⟩, ⟨rfl, rfl⟩⟩⟩⟩⟩⟩⟩⟩⟩⟩⟩⟩⟩ ?_; clear ha a; intro v9 w10 h11 hx12 a ha
  obtain ⟨b14, hb14⟩ : ∃ b : Int, b = w2.heap.size := ⟨_, rfl⟩; rw [← hb14] at h11
  have q15 := zn_of hb14
  have q16 := Nq.new hB3.fpb q15
  have q17 := Nq.madeO q15 hB3.bi
  have q18 := Zn.upD q15 hE8
  replace hB3 := hB3.ext hx12
  have hE19 := Ext.trans hE8 hx12
  have hvob24 : ∀ p ∈ ([((.int .i64 1), [(.int .i64 1)]), ((.int .i64 0), [(.int .i64 0)]), ((.int .i64 1), [(.int .i64 1)]), ((.int .i64 2), [(.int .i64 2)]), ((.int .i64 0), [(.int .i64 0)]), ((.int .i64 1), [(.int .i64 1)]), ((.int .i64 6), [(.int .i64 6)]), ((.int .i64 0), [(.int .i64 0)]), ((.int .i64 1), [(.int .i64 1)]), ((.int .i64 4), [(.int .i64 4)]), ((.int .i64 2), [(.int .i64 2)]), ((.int .i64 0), [(.int .i64 0)]), ((.int .i64 7), [(.int .i64 7)]), ((.int .i64 1), [(.int .i64 1)]), ((.int .i64 3), [(.int .i64 3)]), ((.int .i64 4), [(.int .i64 4)]), ((.int .i64 4), [(.int .i64 4)]), ((.int .i64 0), [(.int .i64 0)]), ((.int .i64 7), [(.int .i64 7)]), ((.int .i64 0), [(.int .i64 0)]), ((.int .i64 5), [(.int .i64 5)])] : List (Value × List Value)), p.1.cells = p.2.toArray ∧ p.2.length = 1 := by
    intro p hp; simp only [List.mem_cons, List.not_mem_nil, or_false] at hp; rcases hp with hp | hp | hp | hp | hp | hp | hp | hp | hp | hp | hp | hp | hp | hp | hp | hp | hp | hp | hp | hp | hp <;> subst hp <;> first | exact ⟨rfl, rfl⟩
  refine o_litM (o := true) (f := []) (ps := [((.int .i64 1), [(.int .i64 1)]), ((.int .i64 0), [(.int .i64 0)]), ((.int .i64 1), [(.int .i64 1)]), ((.int .i64 2), [(.int .i64 2)]), ((.int .i64 0), [(.int .i64 0)]), ((.int .i64 1), [(.int .i64 1)]), ((.int .i64 6), [(.int .i64 6)]), ((.int .i64 0), [(.int .i64 0)]), ((.int .i64 1), [(.int .i64 1)]), ((.int .i64 4), [(.int .i64 4)]), ((.int .i64 2), [(.int .i64 2)]), ((.int .i64 0), [(.int .i64 0)]), ((.int .i64 7), [(.int .i64 7)]), ((.int .i64 1), [(.int .i64 1)]), ((.int .i64 3), [(.int .i64 3)]), ((.int .i64 4), [(.int .i64 4)]), ((.int .i64 4), [(.int .i64 4)]), ((.int .i64 0), [(.int .i64 0)]), ((.int .i64 7), [(.int .i64 7)]), ((.int .i64 0), [(.int .i64 0)]), ((.int .i64 5), [(.int .i64 5)])]) (ys := [1, 0, 1, 2, 0, 1, 6, 0, 1, 4, 2, 0, 7, 1, 3, 4, 4, 0, 7, 0, 5]) Rp.int ha rfl sl22 rfl rfl rfl rfl hvob24 ⟨[], [], [(.int .i64 1)], _, rfl, rfl, ⟨rfl, (show InI 1 from by decide), rfl⟩, ⟨[], [], [(.int .i64 0)], _, rfl, rfl, ⟨rfl, (show InI 0 from by decide), rfl⟩, ⟨[], [], [(.int .i64 1)], _, rfl, rfl, ⟨rfl, (show InI 1 from by decide), rfl⟩, ⟨[], [], [(.int .i64 2)], _, rfl, rfl, ⟨rfl, (show InI 2 from by decide), rfl⟩, ⟨[], [], [(.int .i64 0)], _, rfl, rfl, ⟨rfl, (show InI 0 from by decide), rfl⟩, ⟨[], [], [(.int .i64 1)], _, rfl, rfl, ⟨rfl, (show InI 1 from by decide), rfl⟩, ⟨[], [], [(.int .i64 6)], _, rfl, rfl, ⟨rfl, (show InI 6 from by decide), rfl⟩, ⟨[], [], [(.int .i64 0)], _, rfl, rfl, ⟨rfl, (show InI 0 from by decide), rfl⟩, ⟨[], [], [(.int .i64 1)], _, rfl, rfl, ⟨rfl, (show InI 1 from by decide), rfl⟩, ⟨[], [], [(.int .i64 4)], _, rfl, rfl, ⟨rfl, (show InI 4 from by decide), rfl⟩, ⟨[], [], [(.int .i64 2)], _, rfl, rfl, ⟨rfl, (show InI 2 from by decide), rfl⟩, ⟨[], [], [(.int .i64 0)], _, rfl, rfl, ⟨rfl, (show InI 0 from by decide), rfl⟩, ⟨[], [], [(.int .i64 7)], _, rfl, rfl, ⟨rfl, (show InI 7 from by decide), rfl⟩, ⟨[], [], [(.int .i64 1)], _, rfl, rfl, ⟨rfl, (show InI 1 from by decide), rfl⟩, ⟨[], [], [(.int .i64 3)], _, rfl, rfl, ⟨rfl, (show InI 3 from by decide), rfl⟩, ⟨[], [], [(.int .i64 4)], _, rfl, rfl, ⟨rfl, (show InI 4 from by decide), rfl⟩, ⟨[], [], [(.int .i64 4)], _, rfl, rfl, ⟨rfl, (show InI 4 from by decide), rfl⟩, ⟨[], [], [(.int .i64 0)], _, rfl, rfl, ⟨rfl, (show InI 0 from by decide), rfl⟩, ⟨[], [], [(.int .i64 7)], _, rfl, rfl, ⟨rfl, (show InI 7 from by decide), rfl⟩, ⟨[], [], [(.int .i64 0)], _, rfl, rfl, ⟨rfl, (show InI 0 from by decide), rfl⟩, ⟨[], [], [(.int .i64 5)], _, rfl, rfl, ⟨rfl, (show InI 5 from by decide), rfl⟩, ⟨rfl, rfl⟩⟩⟩⟩⟩⟩⟩⟩⟩⟩⟩⟩⟩⟩⟩⟩⟩⟩⟩⟩⟩⟩ ?_; clear ha a; intro v20 w21 h22 hx23 a ha
  obtain ⟨b25, hb25⟩ : ∃ b : Int, b = w10.heap.size := ⟨_, rfl⟩; rw [← hb25] at h22
  have q26 := zn_of hb25
  have q27 := Nq.new hB3.fpb q26
  have q28 := Nq.madeO q26 hB3.bi
  have q29 := Nq.new h11.fpb q26
  have q30 := Nq.madeO q26 h11.blt
  have q31 := Zn.upD q26 hE19
  replace hB3 := hB3.ext hx23
  replace h11 := h11.ext hx23
  have hE32 := Ext.trans hE19 hx23
  have hvob37 : ∀ p ∈ ([((.int .i64 1), [(.int .i64 1)]), ((.int .i64 0), [(.int .i64 0)]), ((.int .i64 1), [(.int .i64 1)]), ((.int .i64 1), [(.int .i64 1)]), ((.int .i64 0), [(.int .i64 0)]), ((.int .i64 2), [(.int .i64 2)]), ((.int .i64 1), [(.int .i64 1)]), ((.int .i64 1), [(.int .i64 1)]), ((.int .i64 2), [(.int .i64 2)]), ((.int .i64 5), [(.int .i64 5)]), ((.int .i64 0), [(.int .i64 0)]), ((.int .i64 1), [(.int .i64 1)]), ((.int .i64 5), [(.int .i64 5)]), ((.int .i64 3), [(.int .i64 3)]), ((.int .i64 2), [(.int .i64 2)]), ((.int .i64 7), [(.int .i64 7)]), ((.int .i64 2), [(.int .i64 2)]), ((.int .i64 4), [(.int .i64 4)]), ((.int .i64 7), [(.int .i64 7)]), ((.int .i64 1), [(.int .i64 1)]), ((.int .i64 5), [(.int .i64 5)]), ((.int .i64 7), [(.int .i64 7)]), ((.int .i64 0), [(.int .i64 0)]), ((.int .i64 6), [(.int .i64 6)])] : List (Value × List Value)), p.1.cells = p.2.toArray ∧ p.2.length = 1 := by
    intro p hp; simp only [List.mem_cons, List.not_mem_nil, or_false] at hp; rcases hp with hp | hp | hp | hp | hp | hp | hp | hp | hp | hp | hp | hp | hp | hp | hp | hp | hp | hp | hp | hp | hp | hp | hp | hp <;> subst hp <;> first | exact ⟨rfl, rfl⟩
  refine o_litM (o := true) (f := []) (ps := [((.int .i64 1), [(.int .i64 1)]), ((.int .i64 0), [(.int .i64 0)]), ((.int .i64 1), [(.int .i64 1)]), ((.int .i64 1), [(.int .i64 1)]), ((.int .i64 0), [(.int .i64 0)]), ((.int .i64 2), [(.int .i64 2)]), ((.int .i64 1), [(.int .i64 1)]), ((.int .i64 1), [(.int .i64 1)]), ((.int .i64 2), [(.int .i64 2)]), ((.int .i64 5), [(.int .i64 5)]), ((.int .i64 0), [(.int .i64 0)]), ((.int .i64 1), [(.int .i64 1)]), ((.int .i64 5), [(.int .i64 5)]), ((.int .i64 3), [(.int .i64 3)]), ((.int .i64 2), [(.int .i64 2)]), ((.int .i64 7), [(.int .i64 7)]), ((.int .i64 2), [(.int .i64 2)]), ((.int .i64 4), [(.int .i64 4)]), ((.int .i64 7), [(.int .i64 7)]), ((.int .i64 1), [(.int .i64 1)]), ((.int .i64 5), [(.int .i64 5)]), ((.int .i64 7), [(.int .i64 7)]), ((.int .i64 0), [(.int .i64 0)]), ((.int .i64 6), [(.int .i64 6)])]) (ys := [1, 0, 1, 1, 0, 2, 1, 1, 2, 5, 0, 1, 5, 3, 2, 7, 2, 4, 7, 1, 5, 7, 0, 6]) Rp.int ha rfl sl22 rfl rfl rfl rfl hvob37 ⟨[], [], [(.int .i64 1)], _, rfl, rfl, ⟨rfl, (show InI 1 from by decide), rfl⟩, ⟨[], [], [(.int .i64 0)], _, rfl, rfl, ⟨rfl, (show InI 0 from by decide), rfl⟩, ⟨[], [], [(.int .i64 1)], _, rfl, rfl, ⟨rfl, (show InI 1 from by decide), rfl⟩, ⟨[], [], [(.int .i64 1)], _, rfl, rfl, ⟨rfl, (show InI 1 from by decide), rfl⟩, ⟨[], [], [(.int .i64 0)], _, rfl, rfl, ⟨rfl, (show InI 0 from by decide), rfl⟩, ⟨[], [], [(.int .i64 2)], _, rfl, rfl, ⟨rfl, (show InI 2 from by decide), rfl⟩, ⟨[], [], [(.int .i64 1)], _, rfl, rfl, ⟨rfl, (show InI 1 from by decide), rfl⟩, ⟨[], [], [(.int .i64 1)], _, rfl, rfl, ⟨rfl, (show InI 1 from by decide), rfl⟩, ⟨[], [], [(.int .i64 2)], _, rfl, rfl, ⟨rfl, (show InI 2 from by decide), rfl⟩, ⟨[], [], [(.int .i64 5)], _, rfl, rfl, ⟨rfl, (show InI 5 from by decide), rfl⟩, ⟨[], [], [(.int .i64 0)], _, rfl, rfl, ⟨rfl, (show InI 0 from by decide), rfl⟩, ⟨[], [], [(.int .i64 1)], _, rfl, rfl, ⟨rfl, (show InI 1 from by decide), rfl⟩, ⟨[], [], [(.int .i64 5)], _, rfl, rfl, ⟨rfl, (show InI 5 from by decide), rfl⟩, ⟨[], [], [(.int .i64 3)], _, rfl, rfl, ⟨rfl, (show InI 3 from by decide), rfl⟩, ⟨[], [], [(.int .i64 2)], _, rfl, rfl, ⟨rfl, (show InI 2 from by decide), rfl⟩, ⟨[], [], [(.int .i64 7)], _, rfl, rfl, ⟨rfl, (show InI 7 from by decide), rfl⟩, ⟨[], [], [(.int .i64 2)], _, rfl, rfl, ⟨rfl, (show InI 2 from by decide), rfl⟩, ⟨[], [], [(.int .i64 4)], _, rfl, rfl, ⟨rfl, (show InI 4 from by decide), rfl⟩, ⟨[], [], [(.int .i64 7)], _, rfl, rfl, ⟨rfl, (show InI 7 from by decide), rfl⟩, ⟨[], [], [(.int .i64 1)], _, rfl, rfl, ⟨rfl, (show InI 1 from by decide), rfl⟩, ⟨[], [], [(.int .i64 5)], _, rfl, rfl, ⟨rfl, (show InI 5 from by decide), rfl⟩, ⟨[], [], [(.int .i64 7)], _, rfl, rfl, ⟨rfl, (show InI 7 from by decide), rfl⟩, ⟨[], [], [(.int .i64 0)], _, rfl, rfl, ⟨rfl, (show InI 0 from by decide), rfl⟩, ⟨[], [], [(.int .i64 6)], _, rfl, rfl, ⟨rfl, (show InI 6 from by decide), rfl⟩, ⟨rfl, rfl⟩⟩⟩⟩⟩⟩⟩⟩⟩⟩⟩⟩⟩⟩⟩⟩⟩⟩⟩⟩⟩⟩⟩⟩⟩ ?_; clear ha a; intro v33 w34 h35 hx36 a ha
  obtain ⟨b38, hb38⟩ : ∃ b : Int, b = w21.heap.size := ⟨_, rfl⟩; rw [← hb38] at h35
  have q39 := zn_of hb38
  have q40 := Nq.new hB3.fpb q39
  have q41 := Nq.madeO q39 hB3.bi
  have q42 := Nq.new h11.fpb q39
  have q43 := Nq.madeO q39 h11.blt
  have q44 := Nq.new h22.fpb q39
  have q45 := Nq.madeO q39 h22.blt
  have q46 := Zn.upD q39 hE32
  replace hB3 := hB3.ext hx36
  replace h11 := h11.ext hx36
  replace h22 := h22.ext hx36
  have hE47 := Ext.trans hE32 hx36
  have hvob52 : ∀ p ∈ ([((.int .i64 3), [(.int .i64 3)]), ((.int .i64 0), [(.int .i64 0)]), ((.int .i64 0), [(.int .i64 0)]), ((.int .i64 3), [(.int .i64 3)]), ((.int .i64 1), [(.int .i64 1)]), ((.int .i64 0), [(.int .i64 0)]), ((.int .i64 5), [(.int .i64 5)]), ((.int .i64 0), [(.int .i64 0)]), ((.int .i64 1), [(.int .i64 1)]), ((.int .i64 4), [(.int .i64 4)]), ((.int .i64 0), [(.int .i64 0)]), ((.int .i64 0), [(.int .i64 0)]), ((.int .i64 4), [(.int .i64 4)]), ((.int .i64 1), [(.int .i64 1)]), ((.int .i64 0), [(.int .i64 0)]), ((.int .i64 5), [(.int .i64 5)]), ((.int .i64 3), [(.int .i64 3)]), ((.int .i64 4), [(.int .i64 4)]), ((.int .i64 6), [(.int .i64 6)]), ((.int .i64 2), [(.int .i64 2)]), ((.int .i64 5), [(.int .i64 5)]), ((.int .i64 1), [(.int .i64 1)]), ((.int .i64 0), [(.int .i64 0)]), ((.int .i64 1), [(.int .i64 1)]), ((.int .i64 5), [(.int .i64 5)]), ((.int .i64 7), [(.int .i64 7)]), ((.int .i64 6), [(.int .i64 6)]), ((.int .i64 7), [(.int .i64 7)]), ((.int .i64 1), [(.int .i64 1)]), ((.int .i64 8), [(.int .i64 8)]), ((.int .i64 7), [(.int .i64 7)]), ((.int .i64 0), [(.int .i64 0)]), ((.int .i64 9), [(.int .i64 9)]), ((.int .i64 4), [(.int .i64 4)]), ((.int .i64 10), [(.int .i64 10)]), ((.int .i64 0), [(.int .i64 0)]), ((.int .i64 8), [(.int .i64 8)]), ((.int .i64 0), [(.int .i64 0)]), ((.int .i64 11), [(.int .i64 11)])] : List (Value × List Value)), p.1.cells = p.2.toArray ∧ p.2.length = 1 := by
    intro p hp; simp only [List.mem_cons, List.not_mem_nil, or_false] at hp; rcases hp with hp | hp | hp | hp | hp | hp | hp | hp | hp | hp | hp | hp | hp | hp | hp | hp | hp | hp | hp | hp | hp | hp | hp | hp | hp | hp | hp | hp | hp | hp | hp | hp | hp | hp | hp | hp | hp | hp | hp <;> subst hp <;> first | exact ⟨rfl, rfl⟩
  refine o_litM (o := true) (f := []) (ps := [((.int .i64 3), [(.int .i64 3)]), ((.int .i64 0), [(.int .i64 0)]), ((.int .i64 0), [(.int .i64 0)]), ((.int .i64 3), [(.int .i64 3)]), ((.int .i64 1), [(.int .i64 1)]), ((.int .i64 0), [(.int .i64 0)]), ((.int .i64 5), [(.int .i64 5)]), ((.int .i64 0), [(.int .i64 0)]), ((.int .i64 1), [(.int .i64 1)]), ((.int .i64 4), [(.int .i64 4)]), ((.int .i64 0), [(.int .i64 0)]), ((.int .i64 0), [(.int .i64 0)]), ((.int .i64 4), [(.int .i64 4)]), ((.int .i64 1), [(.int .i64 1)]), ((.int .i64 0), [(.int .i64 0)]), ((.int .i64 5), [(.int .i64 5)]), ((.int .i64 3), [(.int .i64 3)]), ((.int .i64 4), [(.int .i64 4)]), ((.int .i64 6), [(.int .i64 6)]), ((.int .i64 2), [(.int .i64 2)]), ((.int .i64 5), [(.int .i64 5)]), ((.int .i64 1), [(.int .i64 1)]), ((.int .i64 0), [(.int .i64 0)]), ((.int .i64 1), [(.int .i64 1)]), ((.int .i64 5), [(.int .i64 5)]), ((.int .i64 7), [(.int .i64 7)]), ((.int .i64 6), [(.int .i64 6)]), ((.int .i64 7), [(.int .i64 7)]), ((.int .i64 1), [(.int .i64 1)]), ((.int .i64 8), [(.int .i64 8)]), ((.int .i64 7), [(.int .i64 7)]), ((.int .i64 0), [(.int .i64 0)]), ((.int .i64 9), [(.int .i64 9)]), ((.int .i64 4), [(.int .i64 4)]), ((.int .i64 10), [(.int .i64 10)]), ((.int .i64 0), [(.int .i64 0)]), ((.int .i64 8), [(.int .i64 8)]), ((.int .i64 0), [(.int .i64 0)]), ((.int .i64 11), [(.int .i64 11)])]) (ys := [3, 0, 0, 3, 1, 0, 5, 0, 1, 4, 0, 0, 4, 1, 0, 5, 3, 4, 6, 2, 5, 1, 0, 1, 5, 7, 6, 7, 1, 8, 7, 0, 9, 4, 10, 0, 8, 0, 11]) Rp.int ha rfl sl22 rfl rfl rfl rfl hvob52 ⟨[], [], [(.int .i64 3)], _, rfl, rfl, ⟨rfl, (show InI 3 from by decide), rfl⟩, ⟨[], [], [(.int .i64 0)], _, rfl, rfl, ⟨rfl, (show InI 0 from by decide), rfl⟩, ⟨[], [], [(.int .i64 0)], _, rfl, rfl, ⟨rfl, (show InI 0 from by decide), rfl⟩, ⟨[], [], [(.int .i64 3)], _, rfl, rfl, ⟨rfl, (show InI 3 from by decide), rfl⟩, ⟨[], [], [(.int .i64 1)], _, rfl, rfl, ⟨rfl, (show InI 1 from by decide), rfl⟩, ⟨[], [], [(.int .i64 0)], _, rfl, rfl, ⟨rfl, (show InI 0 from by decide), rfl⟩, ⟨[], [], [(.int .i64 5)], _, rfl, rfl, ⟨rfl, (show InI 5 from by decide), rfl⟩, ⟨[], [], [(.int .i64 0)], _, rfl, rfl, ⟨rfl, (show InI 0 from by decide), rfl⟩, ⟨[], [], [(.int .i64 1)], _, rfl, rfl, ⟨rfl, (show InI 1 from by decide), rfl⟩, ⟨[], [], [(.int .i64 4)], _, rfl, rfl, ⟨rfl, (show InI 4 from by decide), rfl⟩, ⟨[], [], [(.int .i64 0)], _, rfl, rfl, ⟨rfl, (show InI 0 from by decide), rfl⟩, ⟨[], [], [(.int .i64 0)], _, rfl, rfl, ⟨rfl, (show InI 0 from by decide), rfl⟩, ⟨[], [], [(.int .i64 4)], _, rfl, rfl, ⟨rfl, (show InI 4 from by decide), rfl⟩, ⟨[], [], [(.int .i64 1)], _, rfl, rfl, ⟨rfl, (show InI 1 from by decide), rfl⟩, ⟨[], [], [(.int .i64 0)], _, rfl, rfl, ⟨rfl, (show InI 0 from by decide), rfl⟩, ⟨[], [], [(.int .i64 5)], _, rfl, rfl, ⟨rfl, (show InI 5 from by decide), rfl⟩, ⟨[], [], [(.int .i64 3)], _, rfl, rfl, ⟨rfl, (show InI 3 from by decide), rfl⟩, ⟨[], [], [(.int .i64 4)], _, rfl, rfl, ⟨rfl, (show InI 4 from by decide), rfl⟩, ⟨[], [], [(.int .i64 6)], _, rfl, rfl, ⟨rfl, (show InI 6 from by decide), rfl⟩, ⟨[], [], [(.int .i64 2)], _, rfl, rfl, ⟨rfl, (show InI 2 from by decide), rfl⟩, ⟨[], [], [(.int .i64 5)], _, rfl, rfl, ⟨rfl, (show InI 5 from by decide), rfl⟩, ⟨[], [], [(.int .i64 1)], _, rfl, rfl, ⟨rfl, (show InI 1 from by decide), rfl⟩, ⟨[], [], [(.int .i64 0)], _, rfl, rfl, ⟨rfl, (show InI 0 from by decide), rfl⟩, ⟨[], [], [(.int .i64 1)], _, rfl, rfl, ⟨rfl, (show InI 1 from by decide), rfl⟩, ⟨[], [], [(.int .i64 5)], _, rfl, rfl, ⟨rfl, (show InI 5 from by decide), rfl⟩, ⟨[], [], [(.int .i64 7)], _, rfl, rfl, ⟨rfl, (show InI 7 from by decide), rfl⟩, ⟨[], [], [(.int .i64 6)], _, rfl, rfl, ⟨rfl, (show InI 6 from by decide), rfl⟩, ⟨[], [], [(.int .i64 7)], _, rfl, rfl, ⟨rfl, (show InI 7 from by decide), rfl⟩, ⟨[], [], [(.int .i64 1)], _, rfl, rfl, ⟨rfl, (show InI 1 from by decide), rfl⟩, ⟨[], [], [(.int .i64 8)], _, rfl, rfl, ⟨rfl, (show InI 8 from by decide), rfl⟩, ⟨[], [], [(.int .i64 7)], _, rfl, rfl, ⟨rfl, (show InI 7 from by decide), rfl⟩, ⟨[], [], [(.int .i64 0)], _, rfl, rfl, ⟨rfl, (show InI 0 from by decide), rfl⟩, ⟨[], [], [(.int .i64 9)], _, rfl, rfl, ⟨rfl, (show InI 9 from by decide), rfl⟩, ⟨[], [], [(.int .i64 4)], _, rfl, rfl, ⟨rfl, (show InI 4 from by decide), rfl⟩, ⟨[], [], [(.int .i64 10)], _, rfl, rfl, ⟨rfl, (show InI 10 from by decide), rfl⟩, ⟨[], [], [(.int .i64 0)], _, rfl, rfl, ⟨rfl, (show InI 0 from by decide), rfl⟩, ⟨[], [], [(.int .i64 8)], _, rfl, rfl, ⟨rfl, (show InI 8 from by decide), rfl⟩, ⟨[], [], [(.int .i64 0)], _, rfl, rfl, ⟨rfl, (show InI 0 from by decide), rfl⟩, ⟨[], [], [(.int .i64 11)], _, rfl, rfl, ⟨rfl, (show InI 11 from by decide), rfl⟩, ⟨rfl, rfl⟩⟩⟩⟩⟩⟩⟩⟩⟩⟩⟩⟩⟩⟩⟩⟩⟩⟩⟩⟩⟩⟩⟩⟩⟩⟩⟩⟩⟩⟩⟩⟩⟩⟩⟩⟩⟩⟩⟩⟩ ?_; clear ha a; intro v48 w49 h50 hx51 a ha
  obtain ⟨b53, hb53⟩ : ∃ b : Int, b = w34.heap.size := ⟨_, rfl⟩; rw [← hb53] at h50
  have q54 := zn_of hb53
  have q55 := Nq.new hB3.fpb q54
  have q56 := Nq.madeO q54 hB3.bi
  have q57 := Nq.new h11.fpb q54
  have q58 := Nq.madeO q54 h11.blt
  have q59 := Nq.new h22.fpb q54
  have q60 := Nq.madeO q54 h22.blt
  have q61 := Nq.new h35.fpb q54
  have q62 := Nq.madeO q54 h35.blt
  have q63 := Zn.upD q54 hE47
  replace hB3 := hB3.ext hx51
  replace h11 := h11.ext hx51
  replace h22 := h22.ext hx51
  replace h35 := h35.ext hx51
  have hE64 := Ext.trans hE47 hx51
  have hvob69 : ∀ p ∈ ([((.int .i64 3), [(.int .i64 3)]), ((.int .i64 0), [(.int .i64 0)]), ((.int .i64 0), [(.int .i64 0)]), ((.int .i64 3), [(.int .i64 3)]), ((.int .i64 1), [(.int .i64 1)]), ((.int .i64 0), [(.int .i64 0)]), ((.int .i64 4), [(.int .i64 4)]), ((.int .i64 1), [(.int .i64 1)]), ((.int .i64 0), [(.int .i64 0)]), ((.int .i64 5), [(.int .i64 5)]), ((.int .i64 0), [(.int .i64 0)]), ((.int .i64 2), [(.int .i64 2)]), ((.int .i64 1), [(.int .i64 1)]), ((.int .i64 0), [(.int .i64 0)]), ((.int .i64 1), [(.int .i64 1)]), ((.int .i64 5), [(.int .i64 5)]), ((.int .i64 3), [(.int .i64 3)]), ((.int .i64 4), [(.int .i64 4)]), ((.int .i64 7), [(.int .i64 7)]), ((.int .i64 1), [(.int .i64 1)]), ((.int .i64 5), [(.int .i64 5)]), ((.int .i64 7), [(.int .i64 7)]), ((.int .i64 0), [(.int .i64 0)]), ((.int .i64 6), [(.int .i64 6)]), ((.int .i64 4), [(.int .i64 4)]), ((.int .i64 7), [(.int .i64 7)]), ((.int .i64 0), [(.int .i64 0)]), ((.int .i64 7), [(.int .i64 7)]), ((.int .i64 0), [(.int .i64 0)]), ((.int .i64 0), [(.int .i64 0)]), ((.int .i64 4), [(.int .i64 4)]), ((.int .i64 0), [(.int .i64 0)]), ((.int .i64 0), [(.int .i64 0)]), ((.int .i64 7), [(.int .i64 7)]), ((.int .i64 0), [(.int .i64 0)]), ((.int .i64 10), [(.int .i64 10)]), ((.int .i64 5), [(.int .i64 5)]), ((.int .i64 8), [(.int .i64 8)]), ((.int .i64 9), [(.int .i64 9)]), ((.int .i64 5), [(.int .i64 5)]), ((.int .i64 12), [(.int .i64 12)]), ((.int .i64 11), [(.int .i64 11)]), ((.int .i64 8), [(.int .i64 8)]), ((.int .i64 0), [(.int .i64 0)]), ((.int .i64 13), [(.int .i64 13)])] : List (Value × List Value)), p.1.cells = p.2.toArray ∧ p.2.length = 1 := by
    intro p hp; simp only [List.mem_cons, List.not_mem_nil, or_false] at hp; rcases hp with hp | hp | hp | hp | hp | hp | hp | hp | hp | hp | hp | hp | hp | hp | hp | hp | hp | hp | hp | hp | hp | hp | hp | hp | hp | hp | hp | hp | hp | hp | hp | hp | hp | hp | hp | hp | hp | hp | hp | hp | hp | hp | hp | hp | hp <;> subst hp <;> first | exact ⟨rfl, rfl⟩
  refine o_litM (o := true) (f := []) (ps := [((.int .i64 3), [(.int .i64 3)]), ((.int .i64 0), [(.int .i64 0)]), ((.int .i64 0), [(.int .i64 0)]), ((.int .i64 3), [(.int .i64 3)]), ((.int .i64 1), [(.int .i64 1)]), ((.int .i64 0), [(.int .i64 0)]), ((.int .i64 4), [(.int .i64 4)]), ((.int .i64 1), [(.int .i64 1)]), ((.int .i64 0), [(.int .i64 0)]), ((.int .i64 5), [(.int .i64 5)]), ((.int .i64 0), [(.int .i64 0)]), ((.int .i64 2), [(.int .i64 2)]), ((.int .i64 1), [(.int .i64 1)]), ((.int .i64 0), [(.int .i64 0)]), ((.int .i64 1), [(.int .i64 1)]), ((.int .i64 5), [(.int .i64 5)]), ((.int .i64 3), [(.int .i64 3)]), ((.int .i64 4), [(.int .i64 4)]), ((.int .i64 7), [(.int .i64 7)]), ((.int .i64 1), [(.int .i64 1)]), ((.int .i64 5), [(.int .i64 5)]), ((.int .i64 7), [(.int .i64 7)]), ((.int .i64 0), [(.int .i64 0)]), ((.int .i64 6), [(.int .i64 6)]), ((.int .i64 4), [(.int .i64 4)]), ((.int .i64 7), [(.int .i64 7)]), ((.int .i64 0), [(.int .i64 0)]), ((.int .i64 7), [(.int .i64 7)]), ((.int .i64 0), [(.int .i64 0)]), ((.int .i64 0), [(.int .i64 0)]), ((.int .i64 4), [(.int .i64 4)]), ((.int .i64 0), [(.int .i64 0)]), ((.int .i64 0), [(.int .i64 0)]), ((.int .i64 7), [(.int .i64 7)]), ((.int .i64 0), [(.int .i64 0)]), ((.int .i64 10), [(.int .i64 10)]), ((.int .i64 5), [(.int .i64 5)]), ((.int .i64 8), [(.int .i64 8)]), ((.int .i64 9), [(.int .i64 9)]), ((.int .i64 5), [(.int .i64 5)]), ((.int .i64 12), [(.int .i64 12)]), ((.int .i64 11), [(.int .i64 11)]), ((.int .i64 8), [(.int .i64 8)]), ((.int .i64 0), [(.int .i64 0)]), ((.int .i64 13), [(.int .i64 13)])]) (ys := [3, 0, 0, 3, 1, 0, 4, 1, 0, 5, 0, 2, 1, 0, 1, 5, 3, 4, 7, 1, 5, 7, 0, 6, 4, 7, 0, 7, 0, 0, 4, 0, 0, 7, 0, 10, 5, 8, 9, 5, 12, 11, 8, 0, 13]) Rp.int ha rfl sl22 rfl rfl rfl rfl hvob69 ⟨[], [], [(.int .i64 3)], _, rfl, rfl, ⟨rfl, (show InI 3 from by decide), rfl⟩, ⟨[], [], [(.int .i64 0)], _, rfl, rfl, ⟨rfl, (show InI 0 from by decide), rfl⟩, ⟨[], [], [(.int .i64 0)], _, rfl, rfl, ⟨rfl, (show InI 0 from by decide), rfl⟩, ⟨[], [], [(.int .i64 3)], _, rfl, rfl, ⟨rfl, (show InI 3 from by decide), rfl⟩, ⟨[], [], [(.int .i64 1)], _, rfl, rfl, ⟨rfl, (show InI 1 from by decide), rfl⟩, ⟨[], [], [(.int .i64 0)], _, rfl, rfl, ⟨rfl, (show InI 0 from by decide), rfl⟩, ⟨[], [], [(.int .i64 4)], _, rfl, rfl, ⟨rfl, (show InI 4 from by decide), rfl⟩, ⟨[], [], [(.int .i64 1)], _, rfl, rfl, ⟨rfl, (show InI 1 from by decide), rfl⟩, ⟨[], [], [(.int .i64 0)], _, rfl, rfl, ⟨rfl, (show InI 0 from by decide), rfl⟩, ⟨[], [], [(.int .i64 5)], _, rfl, rfl, ⟨rfl, (show InI 5 from by decide), rfl⟩, ⟨[], [], [(.int .i64 0)], _, rfl, rfl, ⟨rfl, (show InI 0 from by decide), rfl⟩, ⟨[], [], [(.int .i64 2)], _, rfl, rfl, ⟨rfl, (show InI 2 from by decide), rfl⟩, ⟨[], [], [(.int .i64 1)], _, rfl, rfl, ⟨rfl, (show InI 1 from by decide), rfl⟩, ⟨[], [], [(.int .i64 0)], _, rfl, rfl, ⟨rfl, (show InI 0 from by decide), rfl⟩, ⟨[], [], [(.int .i64 1)], _, rfl, rfl, ⟨rfl, (show InI 1 from by decide), rfl⟩, ⟨[], [], [(.int .i64 5)], _, rfl, rfl, ⟨rfl, (show InI 5 from by decide), rfl⟩, ⟨[], [], [(.int .i64 3)], _, rfl, rfl, ⟨rfl, (show InI 3 from by decide), rfl⟩, ⟨[], [], [(.int .i64 4)], _, rfl, rfl, ⟨rfl, (show InI 4 from by decide), rfl⟩, ⟨[], [], [(.int .i64 7)], _, rfl, rfl, ⟨rfl, (show InI 7 from by decide), rfl⟩, ⟨[], [], [(.int .i64 1)], _, rfl, rfl, ⟨rfl, (show InI 1 from by decide), rfl⟩, ⟨[], [], [(.int .i64 5)], _, rfl, rfl, ⟨rfl, (show InI 5 from by decide), rfl⟩, ⟨[], [], [(.int .i64 7)], _, rfl, rfl, ⟨rfl, (show InI 7 from by decide), rfl⟩, ⟨[], [], [(.int .i64 0)], _, rfl, rfl, ⟨rfl, (show InI 0 from by decide), rfl⟩, ⟨[], [], [(.int .i64 6)], _, rfl, rfl, ⟨rfl, (show InI 6 from by decide), rfl⟩, ⟨[], [], [(.int .i64 4)], _, rfl, rfl, ⟨rfl, (show InI 4 from by decide), rfl⟩, ⟨[], [], [(.int .i64 7)], _, rfl, rfl, ⟨rfl, (show InI 7 from by decide), rfl⟩, ⟨[], [], [(.int .i64 0)], _, rfl, rfl, ⟨rfl, (show InI 0 from by decide), rfl⟩, ⟨[], [], [(.int .i64 7)], _, rfl, rfl, ⟨rfl, (show InI 7 from by decide), rfl⟩, ⟨[], [], [(.int .i64 0)], _, rfl, rfl, ⟨rfl, (show InI 0 from by decide), rfl⟩, ⟨[], [], [(.int .i64 0)], _, rfl, rfl, ⟨rfl, (show InI 0 from by decide), rfl⟩, ⟨[], [], [(.int .i64 4)], _, rfl, rfl, ⟨rfl, (show InI 4 from by decide), rfl⟩, ⟨[], [], [(.int .i64 0)], _, rfl, rfl, ⟨rfl, (show InI 0 from by decide), rfl⟩, ⟨[], [], [(.int .i64 0)], _, rfl, rfl, ⟨rfl, (show InI 0 from by decide), rfl⟩, ⟨[], [], [(.int .i64 7)], _, rfl, rfl, ⟨rfl, (show InI 7 from by decide), rfl⟩, ⟨[], [], [(.int .i64 0)], _, rfl, rfl, ⟨rfl, (show InI 0 from by decide), rfl⟩, ⟨[], [], [(.int .i64 10)], _, rfl, rfl, ⟨rfl, (show InI 10 from by decide), rfl⟩, ⟨[], [], [(.int .i64 5)], _, rfl, rfl, ⟨rfl, (show InI 5 from by decide), rfl⟩, ⟨[], [], [(.int .i64 8)], _, rfl, rfl, ⟨rfl, (show InI 8 from by decide), rfl⟩, ⟨[], [], [(.int .i64 9)], _, rfl, rfl, ⟨rfl, (show InI 9 from by decide), rfl⟩, ⟨[], [], [(.int .i64 5)], _, rfl, rfl, ⟨rfl, (show InI 5 from by decide), rfl⟩, ⟨[], [], [(.int .i64 12)], _, rfl, rfl, ⟨rfl, (show InI 12 from by decide), rfl⟩, ⟨[], [], [(.int .i64 11)], _, rfl, rfl, ⟨rfl, (show InI 11 from by decide), rfl⟩, ⟨[], [], [(.int .i64 8)], _, rfl, rfl, ⟨rfl, (show InI 8 from by decide), rfl⟩, ⟨[], [], [(.int .i64 0)], _, rfl, rfl, ⟨rfl, (show InI 0 from by decide), rfl⟩, ⟨[], [], [(.int .i64 13)], _, rfl, rfl, ⟨rfl, (show InI 13 from by decide), rfl⟩, ⟨rfl, rfl⟩⟩⟩⟩⟩⟩⟩⟩⟩⟩⟩⟩⟩⟩⟩⟩⟩⟩⟩⟩⟩⟩⟩⟩⟩⟩⟩⟩⟩⟩⟩⟩⟩⟩⟩⟩⟩⟩⟩⟩⟩⟩⟩⟩⟩⟩ ?_; clear ha a; intro v65 w66 h67 hx68 a ha
  obtain ⟨b70, hb70⟩ : ∃ b : Int, b = w49.heap.size := ⟨_, rfl⟩; rw [← hb70] at h67
  have q71 := zn_of hb70
  have q72 := Nq.new hB3.fpb q71
  have q73 := Nq.madeO q71 hB3.bi
  have q74 := Nq.new h11.fpb q71
  have q75 := Nq.madeO q71 h11.blt
  have q76 := Nq.new h22.fpb q71
  have q77 := Nq.madeO q71 h22.blt
  have q78 := Nq.new h35.fpb q71
  have q79 := Nq.madeO q71 h35.blt
  have q80 := Nq.new h50.fpb q71
  have q81 := Nq.madeO q71 h50.blt
  have q82 := Zn.upD q71 hE64
  replace hB3 := hB3.ext hx68
  replace h11 := h11.ext hx68
  replace h22 := h22.ext hx68
  replace h35 := h35.ext hx68
  replace h50 := h50.ext hx68
  have hE83 := Ext.trans hE64 hx68
  have hvob88 : ∀ p ∈ ([(v9, [v9]), (v20, [v20]), (v33, [v33]), (v48, [v48]), (v65, [v65])] : List (Value × List Value)), p.1.cells = p.2.toArray ∧ p.2.length = 1 := by
    intro p hp; simp only [List.mem_cons, List.not_mem_nil, or_false] at hp; rcases hp with hp | hp | hp | hp | hp <;> subst hp <;> first | exact ⟨rfl, rfl⟩ | exact ⟨h11.cells, rfl⟩ | exact ⟨h22.cells, rfl⟩ | exact ⟨h35.cells, rfl⟩ | exact ⟨h50.cells, rfl⟩ | exact ⟨h67.cells, rfl⟩
  refine o_litM (o := true) (f := ((bl b14 ++ []) ++ ((bl b25 ++ []) ++ ((bl b38 ++ []) ++ ((bl b53 ++ []) ++ ((bl b70 ++ []) ++ [])))))) (ps := [(v9, [v9]), (v20, [v20]), (v33, [v33]), (v48, [v48]), (v65, [v65])]) (ys := [[1, 0, 1, 7, 1, 0, 4, 1, 0, 7, 0, 2], [1, 0, 1, 2, 0, 1, 6, 0, 1, 4, 2, 0, 7, 1, 3, 4, 4, 0, 7, 0, 5], [1, 0, 1, 1, 0, 2, 1, 1, 2, 5, 0, 1, 5, 3, 2, 7, 2, 4, 7, 1, 5, 7, 0, 6], [3, 0, 0, 3, 1, 0, 5, 0, 1, 4, 0, 0, 4, 1, 0, 5, 3, 4, 6, 2, 5, 1, 0, 1, 5, 7, 6, 7, 1, 8, 7, 0, 9, 4, 10, 0, 8, 0, 11], [3, 0, 0, 3, 1, 0, 4, 1, 0, 5, 0, 2, 1, 0, 1, 5, 3, 4, 7, 1, 5, 7, 0, 6, 4, 7, 0, 7, 0, 0, 4, 0, 0, 7, 0, 10, 5, 8, 9, 5, 12, 11, 8, 0, 13]]) (Rp.sl 2 Rp.int) ha rfl sl47 rfl rfl rfl rfl hvob88 ⟨(bl b14 ++ []), ((bl b25 ++ []) ++ ((bl b38 ++ []) ++ ((bl b53 ++ []) ++ ((bl b70 ++ []) ++ [])))), [v9], _, rfl, rfl, (Rp.mkO h11), ⟨(bl b25 ++ []), ((bl b38 ++ []) ++ ((bl b53 ++ []) ++ ((bl b70 ++ []) ++ []))), [v20], _, rfl, rfl, (Rp.mkO h22), ⟨(bl b38 ++ []), ((bl b53 ++ []) ++ ((bl b70 ++ []) ++ [])), [v33], _, rfl, rfl, (Rp.mkO h35), ⟨(bl b53 ++ []), ((bl b70 ++ []) ++ []), [v48], _, rfl, rfl, (Rp.mkO h50), ⟨(bl b70 ++ []), [], [v65], _, rfl, rfl, (Rp.mkO h67), ⟨rfl, rfl⟩⟩⟩⟩⟩⟩ ?_; clear ha a; intro v84 w85 h86 hx87 a ha
  obtain ⟨b89, hb89⟩ : ∃ b : Int, b = w66.heap.size := ⟨_, rfl⟩; rw [← hb89] at h86
  have q90 := zn_of hb89
  have q91 := zf_app (zf_mv q82 (zf_nil _)) (zf_nil _)
  have q92 := nd_two (bl_nodup b70) List.nodup_nil (dj0 _)
  have q93 := bd_app h67.fpb no_nil
  have q94 := Dj.app (dj_of q81) (dj0 _)
  have q95 := nd_two (bl_nodup b53) q92 q94
  have q96 := zf_app (zf_mv q63 (zf_nil _)) q91
  have q97 := bd_app h50.fpb q93
  have q98 := Dj.app (dj_of q79) (dj0 _)
  have q99 := Dj.app (dj_of q62) q98
  have q100 := nd_two (bl_nodup b38) q95 q99
  have q101 := zf_app (zf_mv q46 (zf_nil _)) q96
  have q102 := bd_app h35.fpb q97
  have q103 := Dj.app (dj_of q77) (dj0 _)
  have q104 := Dj.app (dj_of q60) q103
  have q105 := Dj.app (dj_of q45) q104
  have q106 := nd_two (bl_nodup b25) q100 q105
  have q107 := zf_app (zf_mv q31 (zf_nil _)) q101
  have q108 := bd_app h22.fpb q102
  have q109 := Dj.app (dj_of q75) (dj0 _)
  have q110 := Dj.app (dj_of q58) q109
  have q111 := Dj.app (dj_of q43) q110
  have q112 := Dj.app (dj_of q30) q111
  have q113 := nd_two (bl_nodup b14) q106 q112
  have q114 := zf_app (zf_mv q18 (zf_nil _)) q107
  have q115 := bd_app h11.fpb q108
  have q116 := Nq.new hB3.fpb q90
  have q117 := Nq.append (Nq.madeL q90 hB3.bi) (Nq.append q17 (Nq.append q28 (Nq.append q41 (Nq.append q56 (Nq.append q73 (Nq.nil _))))))
  have q118 := Zn.upD q90 hE83
  have q119 := nd_lit q113 q115 hb89
  replace hB3 := hB3.ext hx87
  have hE120 := Ext.trans hE83 hx87
  refine op_g ha rfl (g_assign rfl) ?_; clear ha a; intro a ha
  refine wpList_nil ?_
  replace ha := ha.sub (σ' := [(0, (.int .i64 a0)), (2, (.pointer (some ⟨b1, 0, none⟩))), (4, v84)]) ⟨rfl, rfl, rfl, trivial⟩
  refine e_then ?_
  refine wp_seq ?_
  refine wp_seq ?_
  refine wp_region_lit ?_
  refine op_g ha rfl (g_move rfl) ?_; clear ha a; intro a ha
  refine op_g ha rfl (g_move rfl) ?_; clear ha a; intro a ha
  refine op_g ha rfl (g_lenO sl47.und h86 rfl) ?_; clear ha a; intro a ha
  obtain ⟨hI121, hF⟩ := ck_some hF
  refine op_g ha rfl (g_sub rfl rfl hI121) ?_; clear ha a; intro a ha
  obtain ⟨x123, hc124, hF⟩ := cal_some hF
  refine o_call ha rfl rfl Try.call38 (W_spec_l1In ha0 (show InI 0 from by decide) hI121 hc124) ?_; clear ha a; rintro v125 w126 ⟨rfl, hx127⟩ a ha
  replace hB3 := hB3.ext hx127
  replace h86 := h86.ext hx127
  have hE128 := Ext.trans hE120 hx127
  refine op_g ha rfl (g_not rfl) ?_; clear ha a; intro a ha
  refine wpList_nil ?_
  replace ha := ha.sub (σ' := [(0, (.int .i64 a0)), (2, (.pointer (some ⟨b1, 0, none⟩))), (4, v84), (18, (.bool (!x123)))]) ⟨rfl, rfl, rfl, rfl, trivial⟩
  refine e_then ?_
  refine c_cond (¬ (x123 = true)) ha rfl (n_iff (Iff.rfl)) (fun hp129 => ?_) (fun hp129 => ?_)
  · replace hF := if_t hp129 hF
    refine wp_seq ?_
    refine wp_region_lit ?_
    refine op_g ha rfl (g_build (vs := []) (cells := #[(.slice none 0 0)]) rfl (by rfl)) ?_; clear ha a; intro a ha
    refine o_storeA (vs := [(.slice none 0 0)]) ha hB3 Try.sizeOf29 rfl rfl (by intro c hc; simp only [List.mem_cons, List.not_mem_nil, or_false] at hc; rcases hc with hc <;> subst hc <;> first | rfl | exact rfl) rfl ?_; intro w130 hB131 hc132
    replace hc132 := hc132.bl
    replace hB131 : Bx w130 b1 [(.slice none 0 0)] 29 := hB131
    replace h86 := h86.nq hc132 q117
    have hE133 := Ext.then hE128 hc132 (Zn.bl q7)
    refine op_g ha rfl (g_assign rfl) ?_; clear ha a; intro a ha
    refine wpList_nil ?_
    replace ha := ha.sub (σ' := [(2, (.pointer (some ⟨b1, 0, none⟩))), (3, (.bool false))]) ⟨rfl, rfl, trivial⟩
    refine e_then ?_
    refine wp_ret ?_
    refine e_then_ret ?_
    obtain rfl := Option.some.inj hF
    exact f_retC2 (cs := [(.slice none 0 0)]) ha rfl rfl Try.isAgg29 Try.sizeOf29 hB131 rfl ⟨_, _, _, -1, rfl, rfl, (Ow.nil (by decide)), (.inl (by decide)), rfl, hE133⟩
  · replace hF := if_f hp129 hF
    refine wp_skip ?_
    refine e_then ?_
    refine wp_seq ?_
    refine wp_region_lit ?_
    refine op_g ha rfl (g_build (vs := []) (cells := #[(.slice none 0 0)]) rfl (by rfl)) ?_; clear ha a; intro a ha
    refine o_alloc (cs := [(.slice none 0 0)]) ha rfl Try.zeroValue29 rfl ?_; clear ha a; intro b134 w135 hB136 hx137 hlo138 a ha
    have q139 := Zn.one hlo138
    have q140 := Nq.new hB3.fpb q139
    have q141 := Nq.made1 hlo138 hB3.bi
    have q142 := Nq.new h86.fpb q139
    have q143 := Nq.made1 hlo138 h86.blt
    have q144 := Zn.upD q139 hE128
    replace hB3 := hB3.ext hx137
    replace h86 := h86.ext hx137
    have hE145 := Ext.trans hE128 hx137
    refine o_storeA (vs := [(.slice none 0 0)]) ha hB136 Try.sizeOf29 rfl rfl (by intro c hc; simp only [List.mem_cons, List.not_mem_nil, or_false] at hc; rcases hc with hc <;> subst hc <;> first | rfl | exact rfl) rfl ?_; intro w146 hB147 hc148
    replace hc148 := hc148.bl
    replace hB147 : Bx w146 b134 [(.slice none 0 0)] 29 := hB147
    replace hB3 := hB3.nq hc148 q140
    replace h86 := h86.nq hc148 q142
    have hE149 := Ext.then hE145 hc148 (Zn.bl q144)
    refine wpList_nil ?_
    replace ha := ha.sub (σ' := [(0, (.int .i64 a0)), (2, (.pointer (some ⟨b1, 0, none⟩))), (4, v84), (5, (.pointer (some ⟨b134, 0, none⟩)))]) ⟨rfl, rfl, rfl, rfl, trivial⟩
    refine e_then ?_
    refine wp_seq ?_
    refine wp_seq ?_
    refine wp_region_lit ?_
    refine op_g ha rfl (g_assign rfl) ?_; clear ha a; intro a ha
    refine wpList_nil ?_
    replace ha := ha.sub (σ' := [(0, (.int .i64 a0)), (2, (.pointer (some ⟨b1, 0, none⟩))), (4, v84), (5, (.pointer (some ⟨b134, 0, none⟩))), (6, (.int .i64 0))]) ⟨rfl, rfl, rfl, rfl, rfl, trivial⟩
    refine e_then ?_
    obtain ⟨o648, ho649, hK650⟩ := bnd_some hF
    obtain ⟨n651, hn652⟩ := lp_some ho649; clear ho649
    obtain ⟨b655, hb655⟩ : ∃ b : Int, b = -1 := ⟨_, rfl⟩
    have h654 : Ow (Rp.prod Rp.int (Rp.prod Rp.int Rp.int)) 60 true w146 [] b655 (.slice none 0 0) [] := Ow.nil (by omega)
    have q656 := (.inl (by omega) : Zn w146 b655)
    have q657 := Nq.new hB3.fpb q656
    have q658 := Nq.madeO q656 hB3.bi
    have q659 := Nq.new h86.fpb q656
    have q660 := Nq.madeO q656 h86.blt
    have q661 := Nq.new hB147.fpb q656
    have q662 := Nq.madeO q656 hB147.bi
    have q663 := Zn.upD q656 hE149
    refine c_loop (fun a w => ∃ (l639 : (List (Int × (Int × Int)))) (v640 : Value) (b641 : Int), Fr 60 [(2, (.pointer (some ⟨b1, 0, none⟩))), (5, (.pointer (some ⟨b134, 0, none⟩)))] a ∧ Chg [] W w ∧ Bx w b1 [(.slice none 0 0)] 29 ∧ Zn W (b1 : Int) ∧ Bx w b134 [v640] 29 ∧ Zn W (b134 : Int) ∧ Ow (Rp.prod Rp.int (Rp.prod Rp.int Rp.int)) 60 true w [] b641 v640 l639 ∧ Zn W b641 ∧ Nq ([b1]) (b134 : Int) ∧ Nq ([b1]) b641 ∧ Nq ([b134]) (b1 : Int) ∧ Nq ([b134]) b641 ∧ Nq (bl b641 ++ []) (b1 : Int) ∧ Nq (bl b641 ++ []) (b134 : Int) ∧ o648 = .inl l639) (fun n a w => ∃ (l396 : (List (List Int))) (l404 : (List (Int × (Int × Int)))) (i407 : Int) (fs393 : List Nat) (v397 : Value) (b398 : Int) (v405 : Value) (b406 : Int), Fr 60 [(0, (.int .i64 a0)), (2, (.pointer (some ⟨b1, 0, none⟩))), (4, v397), (5, (.pointer (some ⟨b134, 0, none⟩))), (6, (.int .i64 i407))] a ∧ Chg [] W w ∧ InI i407 ∧ Bx w b1 [(.slice none 0 0)] 29 ∧ Zn W (b1 : Int) ∧ Ow (Rp.sl 2 Rp.int) 22 true w fs393 b398 v397 l396 ∧ Zn W b398 ∧ (∀ k ∈ fs393, W.heap.size ≤ k) ∧ (bl b398 ++ fs393).Nodup ∧ Bx w b134 [v405] 29 ∧ Zn W (b134 : Int) ∧ Ow (Rp.prod Rp.int (Rp.prod Rp.int Rp.int)) 60 true w [] b406 v405 l404 ∧ Zn W b406 ∧ Nq ([b1]) b398 ∧ Nq ([b1]) (b134 : Int) ∧ Nq ([b1]) b406 ∧ Nq (bl b398 ++ fs393) (b1 : Int) ∧ Nq (bl b398 ++ fs393) (b134 : Int) ∧ Nq (bl b398 ++ fs393) b406 ∧ Nq ([b134]) (b1 : Int) ∧ Nq ([b134]) b398 ∧ Nq ([b134]) b406 ∧ Nq (bl b406 ++ []) (b1 : Int) ∧ Nq (bl b406 ++ []) b398 ∧ Nq (bl b406 ++ []) (b134 : Int) ∧ lpN (fun s => F_spec_NamedFormula_l1 a0 s.1 s.2.1 s.2.2) n (l396, l404, i407) = some o648) n651 ⟨[[1, 0, 1, 7, 1, 0, 4, 1, 0, 7, 0, 2], [1, 0, 1, 2, 0, 1, 6, 0, 1, 4, 2, 0, 7, 1, 3, 4, 4, 0, 7, 0, 5], [1, 0, 1, 1, 0, 2, 1, 1, 2, 5, 0, 1, 5, 3, 2, 7, 2, 4, 7, 1, 5, 7, 0, 6], [3, 0, 0, 3, 1, 0, 5, 0, 1, 4, 0, 0, 4, 1, 0, 5, 3, 4, 6, 2, 5, 1, 0, 1, 5, 7, 6, 7, 1, 8, 7, 0, 9, 4, 10, 0, 8, 0, 11], [3, 0, 0, 3, 1, 0, 4, 1, 0, 5, 0, 2, 1, 0, 1, 5, 3, 4, 7, 1, 5, 7, 0, 6, 4, 7, 0, 7, 0, 0, 4, 0, 0, 7, 0, 10, 5, 8, 9, 5, 12, 11, 8, 0, 13]], ([] : (List (Int × (Int × Int)))), 0, ((bl b14 ++ []) ++ ((bl b25 ++ []) ++ ((bl b38 ++ []) ++ ((bl b53 ++ []) ++ ((bl b70 ++ []) ++ []))))), v84, b89, (.slice none 0 0), b655, ha.sub ⟨rfl, rfl, rfl, rfl, rfl, trivial⟩, hE149, (show InI 0 from by decide), hB3, q7, h86, q118, q114, q119, hB147, q144, h654, q663, q116, q140, q657, q117, q142, q659, q141, q143, q661, q658, q660, q662, hn652⟩ ?_ ?_
    · rintro m667 a w387 ⟨l396, l404, i407, fs393, v397, b398, v405, b406, ha, hE421, hI408, hB388, z389, h391, z392, zf394, nd395, hB399, z400, h402, z403, q409, q410, q411, q412, q413, q414, q415, q416, q417, q418, q419, q420, hF⟩
      cases m667 with
      | zero => exact (lpN_zero hF).elim
      | succ m667 =>
        obtain ⟨z666, hF, hN665⟩ := lpN_succ hF
        have hF : F_spec_NamedFormula_l1 a0 l396 l404 i407 = some z666 := hF; unfold F_spec_NamedFormula_l1 at hF
        refine wp_seq ?_
        refine wp_seq ?_
        refine wp_region_lit ?_
        refine op_g ha rfl (g_move rfl) ?_; clear ha a; intro a ha
        refine op_g ha rfl (g_move rfl) ?_; clear ha a; intro a ha
        refine op_g ha rfl (g_move rfl) ?_; clear ha a; intro a ha
        obtain ⟨x668, g669, gx670, hF⟩ := idx_some hF
        obtain ⟨p671, cs672, f673, hf674, hpb675, hat676, hr677, hi678⟩ := h391.at g669 gx670
        replace hr677 := (Rp.sl 2 Rp.int).weak hr677
        obtain ⟨v679, rfl, h680⟩ := hr677
        have h680 : Ro Rp.int w387 f673 v679 x668 := h680
        have q682 := Nq.mono q412 (fun k hk => List.mem_append_right _ (hf674 k hk))
        have q683 := Nq.mono q413 (fun k hk => List.mem_append_right _ (hf674 k hk))
        have q684 := Nq.mono q414 (fun k hk => List.mem_append_right _ (hf674 k hk))
        have q685 := Nq.mono (Ow.ne h391) hf674
        refine op_g ha rfl (hi678.gives sl47 rfl rfl) ?_; clear ha a; intro a ha
        refine op_g ha rfl (g_load Try.isAgg22 rfl hat676.one) ?_; clear ha a; intro a ha
        refine op_g ha rfl (g_lenR sl22.und h680 rfl) ?_; clear ha a; intro a ha
        refine op_g ha rfl (g_lss rfl rfl) ?_; clear ha a; intro a ha
        refine wpList_nil ?_
        replace ha := ha.sub (σ' := [(0, (.int .i64 a0)), (2, (.pointer (some ⟨b1, 0, none⟩))), (4, v397), (5, (.pointer (some ⟨b134, 0, none⟩))), (6, (.int .i64 i407)), (27, (.bool (decide (i407 < (x668.length : Int)))))]) ⟨rfl, rfl, rfl, rfl, rfl, rfl, trivial⟩
        refine e_then ?_
        refine c_cond (i407 < (x668.length : Int)) ha rfl (decide_eq_true_iff) (fun hp686 => ?_) (fun hp686 => ?_)
        · replace hF := if_t hp686 hF
          refine wp_skip ?_
          refine e_then ?_
          refine wp_seq ?_
          refine wp_block ?_
          refine d_region 27 hmix ?_
          refine u_g 0 rfl (by kernel_rfl) (want0 _) ha rfl (g_field0 st29_0 rfl) ?_; clear ha a; intro a ha
          refine u_g 1 rfl (by kernel_rfl) (want0 _) ha rfl (g_load Try.isAgg27 rfl (hB399.cell rfl)) ?_; clear ha a; intro a ha
          refine u_g 2 rfl (by kernel_rfl) (want0 _) ha rfl (g_move rfl) ?_; clear ha a; intro a ha
          refine u_g 3 rfl (by kernel_rfl) (want0 _) ha rfl (g_move rfl) ?_; clear ha a; intro a ha
          obtain ⟨x687, g688, gx689, hF⟩ := idx_some hF
          obtain ⟨p690, cs691, f692, hf693, hpb694, hat695, hr696, hi697⟩ := h391.at g688 gx689
          replace hr696 := (Rp.sl 2 Rp.int).weak hr696
          obtain ⟨v698, rfl, h699⟩ := hr696
          have h699 : Ro Rp.int w387 f692 v698 x687 := h699
          have q701 := Nq.mono q412 (fun k hk => List.mem_append_right _ (hf693 k hk))
          have q702 := Nq.mono q413 (fun k hk => List.mem_append_right _ (hf693 k hk))
          have q703 := Nq.mono q414 (fun k hk => List.mem_append_right _ (hf693 k hk))
          have q704 := Nq.mono (Ow.ne h391) hf693
          refine u_g 4 rfl (by kernel_rfl) (want0 _) ha rfl (hi697.gives sl47 rfl rfl) ?_; clear ha a; intro a ha
          refine u_g 5 rfl (by kernel_rfl) (want0 _) ha rfl (g_load Try.isAgg22 rfl hat695.one) ?_; clear ha a; intro a ha
          refine u_g 6 rfl (by kernel_rfl) (want0 _) ha rfl (g_move rfl) ?_; clear ha a; intro a ha
          obtain ⟨x705, g706, gx707, hF⟩ := idx_some hF
          obtain ⟨p708, cs709, f710, hf711, hpb712, hat713, hr714, hi715⟩ := h699.at g706 gx707
          obtain ⟨rfl, hI716, rfl⟩ := hr714
          refine u_g 7 rfl (by kernel_rfl) (want0 _) ha rfl (hi715.gives sl22 rfl rfl) ?_; clear ha a; intro a ha
          refine u_g 8 rfl (by kernel_rfl) (want0 _) ha rfl (g_load Try.isAgg2 rfl hat713.one) ?_; clear ha a; intro a ha
          refine u_g 9 rfl (by kernel_rfl) (want0 _) ha rfl (g_move rfl) ?_; clear ha a; intro a ha
          refine u_g 10 rfl (by kernel_rfl) (want0 _) ha rfl (g_move rfl) ?_; clear ha a; intro a ha
          obtain ⟨x717, g718, gx719, hF⟩ := idx_some hF
          obtain ⟨p720, cs721, f722, hf723, hpb724, hat725, hr726, hi727⟩ := h391.at g718 gx719
          replace hr726 := (Rp.sl 2 Rp.int).weak hr726
          obtain ⟨v728, rfl, h729⟩ := hr726
          have h729 : Ro Rp.int w387 f722 v728 x717 := h729
          have q731 := Nq.mono q412 (fun k hk => List.mem_append_right _ (hf723 k hk))
          have q732 := Nq.mono q413 (fun k hk => List.mem_append_right _ (hf723 k hk))
          have q733 := Nq.mono q414 (fun k hk => List.mem_append_right _ (hf723 k hk))
          have q734 := Nq.mono (Ow.ne h391) hf723
          refine u_g 11 rfl (by kernel_rfl) (want0 _) ha rfl (hi727.gives sl47 rfl rfl) ?_; clear ha a; intro a ha
          refine u_g 12 rfl (by kernel_rfl) (want0 _) ha rfl (g_load Try.isAgg22 rfl hat725.one) ?_; clear ha a; intro a ha
          refine u_g 13 rfl (by kernel_rfl) (want0 _) ha rfl (g_move rfl) ?_; clear ha a; intro a ha
          obtain ⟨hI735, hF⟩ := ck_some hF
          refine u_g 14 rfl (by kernel_rfl) (want0 _) ha rfl (g_add rfl rfl hI735) ?_; clear ha a; intro a ha
          obtain ⟨x737, g738, gx739, hF⟩ := idx_some hF
          obtain ⟨p740, cs741, f742, hf743, hpb744, hat745, hr746, hi747⟩ := h729.at g738 gx739
          obtain ⟨rfl, hI748, rfl⟩ := hr746
          refine u_g 15 rfl (by kernel_rfl) (want0 _) ha rfl (hi747.gives sl22 rfl rfl) ?_; clear ha a; intro a ha
          refine u_g 16 rfl (by kernel_rfl) (want0 _) ha rfl (g_load Try.isAgg2 rfl hat745.one) ?_; clear ha a; intro a ha
          refine u_g 17 rfl (by kernel_rfl) (want0 _) ha rfl (g_move rfl) ?_; clear ha a; intro a ha
          refine u_g 18 rfl (by kernel_rfl) (want0 _) ha rfl (g_move rfl) ?_; clear ha a; intro a ha
          obtain ⟨x749, g750, gx751, hF⟩ := idx_some hF
          obtain ⟨p752, cs753, f754, hf755, hpb756, hat757, hr758, hi759⟩ := h391.at g750 gx751
          replace hr758 := (Rp.sl 2 Rp.int).weak hr758
          obtain ⟨v760, rfl, h761⟩ := hr758
          have h761 : Ro Rp.int w387 f754 v760 x749 := h761
          have q763 := Nq.mono q412 (fun k hk => List.mem_append_right _ (hf755 k hk))
          have q764 := Nq.mono q413 (fun k hk => List.mem_append_right _ (hf755 k hk))
          have q765 := Nq.mono q414 (fun k hk => List.mem_append_right _ (hf755 k hk))
          have q766 := Nq.mono (Ow.ne h391) hf755
          refine u_g 19 rfl (by kernel_rfl) (want0 _) ha rfl (hi759.gives sl47 rfl rfl) ?_; clear ha a; intro a ha
          refine u_g 20 rfl (by kernel_rfl) (want0 _) ha rfl (g_load Try.isAgg22 rfl hat757.one) ?_; clear ha a; intro a ha
          refine u_g 21 rfl (by kernel_rfl) (want0 _) ha rfl (g_move rfl) ?_; clear ha a; intro a ha
          obtain ⟨hI767, hF⟩ := ck_some hF
          refine u_g 22 rfl (by kernel_rfl) (want0 _) ha rfl (g_add rfl rfl hI767) ?_; clear ha a; intro a ha
          obtain ⟨x769, g770, gx771, hF⟩ := idx_some hF
          obtain ⟨p772, cs773, f774, hf775, hpb776, hat777, hr778, hi779⟩ := h761.at g770 gx771
          obtain ⟨rfl, hI780, rfl⟩ := hr778
          refine u_g 23 rfl (by kernel_rfl) (want0 _) ha rfl (hi779.gives sl22 rfl rfl) ?_; clear ha a; intro a ha
          refine u_g 24 rfl (by kernel_rfl) (want0 _) ha rfl (g_load Try.isAgg2 rfl hat777.one) ?_; clear ha a; intro a ha
          refine u_g 25 rfl (by kernel_rfl) (want0 _) ha rfl (g_build (vs := [(0, (.int .i64 x705)), (1, (.int .i64 x737)), (2, (.int .i64 x769))]) (cells := #[(.int .i64 x705), (.int .i64 x737), (.int .i64 x769)]) rfl (by rfl)) ?_; clear ha a; intro a ha
          refine u_only 26 rfl (by kernel_rfl) ?_; intro w781 hx782
          replace hB388 := hB388.ext hx782
          replace h391 := h391.ext hx782
          replace hB399 := hB399.ext hx782
          replace h402 := h402.ext hx782
          replace h699 := h699.ext hx782
          replace h729 := h729.ext hx782
          replace h761 := h761.ext hx782
          have hE783 := Ext.trans hE421 hx782
          refine o_lit1 (o := true) (y := (x705, x737, x769)) (Rp.prod Rp.int (Rp.prod Rp.int Rp.int)) ha rfl sl27 rfl rfl rfl ⟨[], [], [_], _, rfl, rfl, ⟨rfl, hI716, rfl⟩, ⟨[], [], [_], _, rfl, rfl, ⟨rfl, hI748, rfl⟩, ⟨rfl, hI780, rfl⟩⟩⟩ ?_; clear ha a; intro v784 w785 h786 hx787 a ha
          obtain ⟨b789, hb789⟩ : ∃ b : Int, b = w781.heap.size := ⟨_, rfl⟩; rw [← hb789] at h786
          have q790 := zn_of hb789
          have q791 := Nq.new hB388.fpb q790
          have q792 := Nq.madeO q790 hB388.bi
          have q793 := Nq.new h391.fpb q790
          have q794 := Nq.madeO q790 h391.blt
          have q795 := Nq.new hB399.fpb q790
          have q796 := Nq.madeO q790 hB399.bi
          have q797 := Nq.new h402.fpb q790
          have q798 := Nq.madeO q790 h402.blt
          have q799 := Nq.new h699.bnd q790
          have q800 := Nq.new h729.bnd q790
          have q801 := Nq.new h761.bnd q790
          have q802 := Zn.upD q790 hE783
          replace hB388 := hB388.ext hx787
          replace h391 := h391.ext hx787
          replace hB399 := hB399.ext hx787
          replace h402 := h402.ext hx787
          replace h699 := h699.ext hx787
          replace h729 := h729.ext hx787
          replace h761 := h761.ext hx787
          have hE803 := Ext.trans hE783 hx787
          refine wpList_nil (e_sq ?_)
          refine ⟨fun _ => hx787, ?_⟩
          refine u_only 27 rfl (by kernel_rfl) ?_; intro w804 hx805
          replace hB388 := hB388.ext hx805
          replace h391 := h391.ext hx805
          replace hB399 := hB399.ext hx805
          replace h402 := h402.ext hx805
          replace h699 := h699.ext hx805
          replace h729 := h729.ext hx805
          replace h761 := h761.ext hx805
          replace h786 := h786.ext hx805
          have hE806 := Ext.trans hE803 hx805
          obtain ⟨hl807, hF⟩ := app_some hF
          refine o_append ha rfl sl27 rfl rfl rfl h402 h786.src (Nq.nil _) hl807 ?_; clear ha a; intro v808 w809 b810 h811 hc812 hb813 a ha
          replace h811 : Ow (Rp.prod Rp.int (Rp.prod Rp.int Rp.int)) 60 true w809 [] b810 v808 _ := h811
          have q815 := Nq.appY q411 hB388.fpb hb813
          have q816 := Nq.appX q418 (Nq.nil _) hb813 hB388.bi
          have q817 := Nq.appY q414 h391.fpb hb813
          have q818 := Nq.appX q419 (Nq.nil _) hb813 h391.blt
          have q819 := Nq.appY q417 hB399.fpb hb813
          have q820 := Nq.appX q420 (Nq.nil _) hb813 hB399.bi
          have q821 := Nq.appY q703 h699.bnd hb813
          have q822 := Nq.appY q733 h729.bnd hb813
          have q823 := Nq.appY q765 h761.bnd hb813
          have q824 := Nq.appY q798 h786.fpb hb813
          have q825 := Nq.appX q797 (Nq.nil _) hb813 h786.blt
          have q826 := Zn.appD z403 hb813 hE806
          replace hB388 := hB388.nq hc812 q411
          replace h391 := h391.nq hc812 q414
          replace hB399 := hB399.nq hc812 q417
          replace h699 := h699.nq hc812 q703
          replace h729 := h729.nq hc812 q733
          replace h761 := h761.nq hc812 q765
          replace h786 := h786.nq hc812 q798
          have hE827 := Ext.then hE806 hc812 (Zn.bl z403)
          refine wpList_nil (e_sq ?_)
          refine ⟨fun h => absurd h (by decide), ?_⟩
          refine u_only 28 rfl (by kernel_rfl) ?_; intro w828 hx829
          replace hB388 := hB388.ext hx829
          replace h391 := h391.ext hx829
          replace hB399 := hB399.ext hx829
          replace h699 := h699.ext hx829
          replace h729 := h729.ext hx829
          replace h761 := h761.ext hx829
          replace h786 := h786.ext hx829
          replace h811 := h811.ext hx829
          have hE830 := Ext.trans hE827 hx829
          refine op_g ha rfl (g_field0 st29_0 rfl) ?_; clear ha a; intro a ha
          refine wpList_nil (e_sq ?_)
          refine ⟨fun h => absurd h (by decide), ?_⟩
          refine u_only 29 rfl (by kernel_rfl) ?_; intro w831 hx832
          replace hB388 := hB388.ext hx832
          replace h391 := h391.ext hx832
          replace hB399 := hB399.ext hx832
          replace h699 := h699.ext hx832
          replace h729 := h729.ext hx832
          replace h761 := h761.ext hx832
          replace h786 := h786.ext hx832
          replace h811 := h811.ext hx832
          have hE833 := Ext.trans hE830 hx832
          refine o_storeB ha hB399 Try.sizeOf27 rfl rfl h811.cells h811.oneC (Nat.le_of_ble_eq_true rfl) ?_; intro w834 hB835 hc836
          replace hc836 := hc836.bl
          replace hB835 : Bx w834 b134 [v808] 29 := hB835
          replace hB388 := hB388.nq hc836 q410
          replace h391 := h391.nq hc836 q413
          replace h699 := h699.nq hc836 q702
          replace h729 := h729.nq hc836 q732
          replace h761 := h761.nq hc836 q764
          replace h786 := h786.nq hc836 q796
          replace h811 := h811.nq hc836 q820
          have hE837 := Ext.then hE833 hc836 (Zn.bl z400)
          refine wpList_nil (e_sq ?_)
          refine ⟨fun h => absurd h (by decide), ?_⟩
          refine u_done (by kernel_rfl) ?_; intro w838 hx839
          replace hB388 := hB388.ext hx839
          replace h391 := h391.ext hx839
          replace hB835 := hB835.ext hx839
          replace h699 := h699.ext hx839
          replace h729 := h729.ext hx839
          replace h761 := h761.ext hx839
          replace h786 := h786.ext hx839
          replace h811 := h811.ext hx839
          have hE840 := Ext.trans hE837 hx839
          replace ha := ha.sub (σ' := [(0, (.int .i64 a0)), (2, (.pointer (some ⟨b1, 0, none⟩))), (4, v397), (5, (.pointer (some ⟨b134, 0, none⟩))), (6, (.int .i64 i407))]) ⟨rfl, rfl, rfl, rfl, rfl, trivial⟩
          refine e_blk ?_
          refine e_then ?_
          refine wp_region_lit ?_
          refine op_g ha rfl (g_move rfl) ?_; clear ha a; intro a ha
          obtain ⟨hI841, hF⟩ := ck_some hF
          refine op_g ha rfl (g_add rfl rfl hI841) ?_; clear ha a; intro a ha
          refine op_g ha rfl (g_assign rfl) ?_; clear ha a; intro a ha
          refine wpList_nil ?_
          replace ha := ha.sub (σ' := [(0, (.int .i64 a0)), (2, (.pointer (some ⟨b1, 0, none⟩))), (4, v397), (5, (.pointer (some ⟨b134, 0, none⟩))), (6, (.int .i64 (i407 + 3)))]) ⟨rfl, rfl, rfl, rfl, rfl, trivial⟩
          refine e_lq ?_
          obtain rfl := Option.some.inj hF
          exact ⟨_, Nat.lt_succ_self _, l396, (l404 ++ ([(x705, x737, x769)])), i407 + 3, fs393, v397, b398, v808, b810, ha.sub ⟨rfl, rfl, rfl, rfl, rfl, trivial⟩, hE840, hI841, hB388, z389, h391, z392, zf394, nd395, hB835, z400, h811, q826, q409, q410, q815, q412, q413, q817, q415, q416, q819, q816, q818, q820, hN665⟩
        · replace hF := if_f hp686 hF
          refine wp_exit ?_
          refine e_then_exit ?_
          refine e_lq_eq ?_
          obtain rfl := Option.some.inj hF
          exact ⟨l404, v405, b406, ha.sub ⟨rfl, rfl, trivial⟩, hE421, hB388, z389, hB399, z400, h402, z403, q410, q411, q415, q417, q418, q420, (LK_inr hN665).symm⟩
    · rintro a w631 ⟨l639, v640, b641, ha, hE664, hB632, z633, hB634, z635, h637, z638, q642, q643, q644, q645, q646, q647, rfl⟩
      have hF : F_spec_NamedFormula_k2 l639 = some _ := hK650; clear hK650; unfold F_spec_NamedFormula_k2 at hF
      refine e_then ?_
      refine wp_seq ?_
      refine wp_region_lit ?_
      refine op_g ha rfl (g_loadA (cs := [v640]) Try.isAgg29 Try.sizeOf29 rfl (by simp) hB634.all) ?_; clear ha a; intro a ha
      refine o_storeA (vs := [v640]) ha hB632 Try.sizeOf29 rfl rfl (by intro c hc; simp only [List.mem_cons, List.not_mem_nil, or_false] at hc; rcases hc with hc <;> subst hc <;> first | rfl | exact h637.oneC) rfl ?_; intro w843 hB844 hc845
      replace hc845 := hc845.bl
      replace hB844 : Bx w843 b1 [v640] 29 := hB844
      replace hB634 := hB634.nq hc845 q644
      replace h637 := h637.nq hc845 q646
      have hE846 := Ext.then hE664 hc845 (Zn.bl z633)
      refine op_g ha rfl (g_assign rfl) ?_; clear ha a; intro a ha
      refine wpList_nil ?_
      replace ha := ha.sub (σ' := [(2, (.pointer (some ⟨b1, 0, none⟩))), (3, (.bool true))]) ⟨rfl, rfl, trivial⟩
      refine e_then ?_
      refine wp_ret ?_
      obtain rfl := Option.some.inj hF
      exact f_retC2 (cs := [v640]) ha rfl rfl Try.isAgg29 Try.sizeOf29 hB844 rfl ⟨_, _, _, _, rfl, rfl, h637, z638, rfl, hE846⟩
set_option maxHeartbeats 2000000 in
theorem W_impl_NamedFormula {W : World} {a0 : Int} (ha0 : InI a0) {r : ((List (Int × (Int × Int))) × Bool)} (hF : F_impl_NamedFormula a0 = some r) :
    Calls Try.prog 16 [.int .i64 a0].toArray W (Ret fun u w' => ∃ (u0 : Value) (u1 : Value) (u0_0 : Value) (b_u0_0 : Int), u = .tuple #[u0, u1] ∧ u0 = .agg #[u0_0] ∧ Ow (Rp.prod Rp.int (Rp.prod Rp.int Rp.int)) 60 true w' [] b_u0_0 u0_0 r.1 ∧ Zn W b_u0_0 ∧ u1 = .bool r.2 ∧ Ext W w') := by
  refine f_enter Try.func16 rfl Try.ntmps16 rfl ?_
  intro a ha
  replace ha : Fr 73 [(0, (.int .i64 a0))] a := ha
  have hE : Chg [] W W := Chg.refl _ _
  unfold F_impl_NamedFormula at hF
  refine wp_seq ?_
  refine wp_region_lit ?_
  refine o_alloc (cs := [(.slice none 0 0)]) ha rfl Try.zeroValue29 rfl ?_; clear ha a; intro b1 w2 hB3 hx4 hlo5 a ha
  have q6 := Zn.one hlo5
  have q7 := Zn.upD q6 hE
  have hE8 := Ext.trans hE hx4
  refine op_g ha rfl (g_assign rfl) ?_; clear ha a; intro a ha
  refine wpList_nil ?_
  replace ha := ha.sub (σ' := [(0, (.int .i64 a0)), (2, (.pointer (some ⟨b1, 0, none⟩)))]) ⟨rfl, rfl, trivial⟩
  refine e_then ?_
  refine wp_seq ?_
  refine wp_seq ?_
  refine wp_region_lit ?_
  refine op_g ha rfl (g_move rfl) ?_; clear ha a; intro a ha
  refine wpList_nil ?_
  replace ha := ha.sub (σ' := [(2, (.pointer (some ⟨b1, 0, none⟩))), (4, (.int .i64 a0))]) ⟨rfl, rfl, trivial⟩
  refine e_then ?_
  refine wp_block ?_
  refine wp_seq ?_
  refine wp_region_lit ?_
  refine op_g ha rfl (g_eql rfl rfl) ?_; clear ha a; intro a ha
  refine op_g ha rfl (g_assign rfl) ?_; clear ha a; intro a ha
  refine wpList_nil ?_
  replace ha := ha.sub (σ' := [(2, (.pointer (some ⟨b1, 0, none⟩))), (4, (.int .i64 a0)), (5, (.bool (decide (a0 = 0))))]) ⟨rfl, rfl, rfl, trivial⟩
  refine e_then ?_
  refine c_cond (a0 = 0) ha rfl (decide_eq_true_iff) (fun hp9 => ?_) (fun hp9 => ?_)
  · replace hF := if_t hp9 hF
    refine wp_seq ?_
    refine wp_region_lit ?_
    refine op_g ha rfl (g_build (vs := [(0, (.int .i64 1)), (1, (.int .i64 0)), (2, (.int .i64 1))]) (cells := #[(.int .i64 1), (.int .i64 0), (.int .i64 1)]) rfl (by rfl)) ?_; clear ha a; intro a ha
    refine op_g ha rfl (g_build (vs := [(0, (.int .i64 7)), (1, (.int .i64 1)), (2, (.int .i64 0))]) (cells := #[(.int .i64 7), (.int .i64 1), (.int .i64 0)]) rfl (by rfl)) ?_; clear ha a; intro a ha
    refine op_g ha rfl (g_build (vs := [(0, (.int .i64 4)), (1, (.int .i64 1)), (2, (.int .i64 0))]) (cells := #[(.int .i64 4), (.int .i64 1), (.int .i64 0)]) rfl (by rfl)) ?_; clear ha a; intro a ha
    refine op_g ha rfl (g_build (vs := [(0, (.int .i64 7)), (1, (.int .i64 0)), (2, (.int .i64 2))]) (cells := #[(.int .i64 7), (.int .i64 0), (.int .i64 2)]) rfl (by rfl)) ?_; clear ha a; intro a ha
    have hvob14 : ∀ p ∈ ([((.agg #[(.int .i64 1), (.int .i64 0), (.int .i64 1)]), [(.int .i64 1), (.int .i64 0), (.int .i64 1)]), ((.agg #[(.int .i64 7), (.int .i64 1), (.int .i64 0)]), [(.int .i64 7), (.int .i64 1), (.int .i64 0)]), ((.agg #[(.int .i64 4), (.int .i64 1), (.int .i64 0)]), [(.int .i64 4), (.int .i64 1), (.int .i64 0)]), ((.agg #[(.int .i64 7), (.int .i64 0), (.int .i64 2)]), [(.int .i64 7), (.int .i64 0), (.int .i64 2)])] : List (Value × List Value)), p.1.cells = p.2.toArray ∧ p.2.length = 3 := by
      intro p hp; simp only [List.mem_cons, List.not_mem_nil, or_false] at hp; rcases hp with hp | hp | hp | hp <;> subst hp <;> first | exact ⟨rfl, rfl⟩
    refine o_litM (o := true) (f := []) (ps := [((.agg #[(.int .i64 1), (.int .i64 0), (.int .i64 1)]), [(.int .i64 1), (.int .i64 0), (.int .i64 1)]), ((.agg #[(.int .i64 7), (.int .i64 1), (.int .i64 0)]), [(.int .i64 7), (.int .i64 1), (.int .i64 0)]), ((.agg #[(.int .i64 4), (.int .i64 1), (.int .i64 0)]), [(.int .i64 4), (.int .i64 1), (.int .i64 0)]), ((.agg #[(.int .i64 7), (.int .i64 0), (.int .i64 2)]), [(.int .i64 7), (.int .i64 0), (.int .i64 2)])]) (ys := [(1, 0, 1), (7, 1, 0), (4, 1, 0), (7, 0, 2)]) (Rp.prod Rp.int (Rp.prod Rp.int Rp.int)) ha rfl sl27 rfl rfl rfl rfl hvob14 ⟨[], [], [(.int .i64 1), (.int .i64 0), (.int .i64 1)], _, rfl, rfl, ⟨[], [], [_], _, rfl, rfl, ⟨rfl, (show InI 1 from by decide), rfl⟩, ⟨[], [], [_], _, rfl, rfl, ⟨rfl, (show InI 0 from by decide), rfl⟩, ⟨rfl, (show InI 1 from by decide), rfl⟩⟩⟩, ⟨[], [], [(.int .i64 7), (.int .i64 1), (.int .i64 0)], _, rfl, rfl, ⟨[], [], [_], _, rfl, rfl, ⟨rfl, (show InI 7 from by decide), rfl⟩, ⟨[], [], [_], _, rfl, rfl, ⟨rfl, (show InI 1 from by decide), rfl⟩, ⟨rfl, (show InI 0 from by decide), rfl⟩⟩⟩, ⟨[], [], [(.int .i64 4), (.int .i64 1), (.int .i64 0)], _, rfl, rfl, ⟨[], [], [_], _, rfl, rfl, ⟨rfl, (show InI 4 from by decide), rfl⟩, ⟨[], [], [_], _, rfl, rfl, ⟨rfl, (show InI 1 from by decide), rfl⟩, ⟨rfl, (show InI 0 from by decide), rfl⟩⟩⟩, ⟨[], [], [(.int .i64 7), (.int .i64 0), (.int .i64 2)], _, rfl, rfl, ⟨[], [], [_], _, rfl, rfl, ⟨rfl, (show InI 7 from by decide), rfl⟩, ⟨[], [], [_], _, rfl, rfl, ⟨rfl, (show InI 0 from by decide), rfl⟩, ⟨rfl, (show InI 2 from by decide), rfl⟩⟩⟩, ⟨rfl, rfl⟩⟩⟩⟩⟩ ?_; clear ha a; intro v10 w11 h12 hx13 a ha
    obtain ⟨b15, hb15⟩ : ∃ b : Int, b = w2.heap.size := ⟨_, rfl⟩; rw [← hb15] at h12
    have q16 := zn_of hb15
    have q17 := Nq.new hB3.fpb q16
    have q18 := Nq.madeO q16 hB3.bi
    have q19 := Zn.upD q16 hE8
    replace hB3 := hB3.ext hx13
    have hE20 := Ext.trans hE8 hx13
    refine op_g ha rfl (g_build (vs := [(0, v10)]) (cells := #[v10]) rfl (by obtain ⟨_, _, rfl⟩ := h12.shape ; rfl)) ?_; clear ha a; intro a ha
    refine o_storeA (vs := [v10]) ha hB3 Try.sizeOf29 rfl rfl (by intro c hc; simp only [List.mem_cons, List.not_mem_nil, or_false] at hc; rcases hc with hc <;> subst hc <;> first | rfl | exact h12.oneC) rfl ?_; intro w21 hB22 hc23
    replace hc23 := hc23.bl
    replace hB22 : Bx w21 b1 [v10] 29 := hB22
    replace h12 := h12.nq hc23 q18
    have hE24 := Ext.then hE20 hc23 (Zn.bl q7)
    refine op_g ha rfl (g_assign rfl) ?_; clear ha a; intro a ha
    refine wpList_nil ?_
    replace ha := ha.sub (σ' := [(2, (.pointer (some ⟨b1, 0, none⟩))), (3, (.bool true))]) ⟨rfl, rfl, trivial⟩
    refine e_then ?_
    refine wp_ret ?_
    refine e_blk_ret ?_
    refine e_then_ret ?_
    obtain rfl := Option.some.inj hF
    exact f_retC2 (cs := [v10]) ha rfl rfl Try.isAgg29 Try.sizeOf29 hB22 rfl ⟨_, _, _, _, rfl, rfl, h12, q19, rfl, hE24⟩
  · replace hF := if_f hp9 hF
    refine wp_seq ?_
    refine wp_region_lit ?_
    refine op_g ha rfl (g_eql rfl rfl) ?_; clear ha a; intro a ha
    refine op_g ha rfl (g_assign rfl) ?_; clear ha a; intro a ha
    refine wpList_nil ?_
    replace ha := ha.sub (σ' := [(2, (.pointer (some ⟨b1, 0, none⟩))), (4, (.int .i64 a0)), (13, (.bool (decide (a0 = 1))))]) ⟨rfl, rfl, rfl, trivial⟩
    refine e_then ?_
    refine c_cond (a0 = 1) ha rfl (decide_eq_true_iff) (fun hp25 => ?_) (fun hp25 => ?_)
    · replace hF := if_t hp25 hF
      refine wp_seq ?_
      refine wp_region_lit ?_
      refine op_g ha rfl (g_build (vs := [(0, (.int .i64 1)), (1, (.int .i64 0)), (2, (.int .i64 1))]) (cells := #[(.int .i64 1), (.int .i64 0), (.int .i64 1)]) rfl (by rfl)) ?_; clear ha a; intro a ha
      refine op_g ha rfl (g_build (vs := [(0, (.int .i64 2)), (1, (.int .i64 0)), (2, (.int .i64 1))]) (cells := #[(.int .i64 2), (.int .i64 0), (.int .i64 1)]) rfl (by rfl)) ?_; clear ha a; intro a ha
      refine op_g ha rfl (g_build (vs := [(0, (.int .i64 6)), (1, (.int .i64 0)), (2, (.int .i64 1))]) (cells := #[(.int .i64 6), (.int .i64 0), (.int .i64 1)]) rfl (by rfl)) ?_; clear ha a; intro a ha
      refine op_g ha rfl (g_build (vs := [(0, (.int .i64 4)), (1, (.int .i64 2)), (2, (.int .i64 0))]) (cells := #[(.int .i64 4), (.int .i64 2), (.int .i64 0)]) rfl (by rfl)) ?_; clear ha a; intro a ha
      refine op_g ha rfl (g_build (vs := [(0, (.int .i64 7)), (1, (.int .i64 1)), (2, (.int .i64 3))]) (cells := #[(.int .i64 7), (.int .i64 1), (.int .i64 3)]) rfl (by rfl)) ?_; clear ha a; intro a ha
      refine op_g ha rfl (g_build (vs := [(0, (.int .i64 4)), (1, (.int .i64 4)), (2, (.int .i64 0))]) (cells := #[(.int .i64 4), (.int .i64 4), (.int .i64 0)]) rfl (by rfl)) ?_; clear ha a; intro a ha
      refine op_g ha rfl (g_build (vs := [(0, (.int .i64 7)), (1, (.int .i64 0)), (2, (.int .i64 5))]) (cells := #[(.int .i64 7), (.int .i64 0), (.int .i64 5)]) rfl (by rfl)) ?_; clear ha a; intro a ha
      have hvob30 : ∀ p ∈ ([((.agg #[(.int .i64 1), (.int .i64 0), (.int .i64 1)]), [(.int .i64 1), (.int .i64 0), (.int .i64 1)]), ((.agg #[(.int .i64 2), (.int .i64 0), (.int .i64 1)]), [(.int .i64 2), (.int .i64 0), (.int .i64 1)]), ((.agg #[(.int .i64 6), (.int .i64 0), (.int .i64 1)]), [(.int .i64 6), (.int .i64 0), (.int .i64 1)]), ((.agg #[(.int .i64 4), (.int .i64 2), (.int .i64 0)]), [(.int .i64 4), (.int .i64 2), (.int .i64 0)]), ((.agg #[(.int .i64 7), (.int .i64 1), (.int .i64 3)]), [(.int .i64 7), (.int .i64 1), (.int .i64 3)]), ((.agg #[(.int .i64 4), (.int .i64 4), (.int .i64 0)]), [(.int .i64 4), (.int .i64 4), (.int .i64 0)]), ((.agg #[(.int .i64 7), (.int .i64 0), (.int .i64 5)]), [(.int .i64 7), (.int .i64 0), (.int .i64 5)])] : List (Value × List Value)), p.1.cells = p.2.toArray ∧ p.2.length = 3 := by
        intro p hp; simp only [List.mem_cons, List.not_mem_nil, or_false] at hp; rcases hp with hp | hp | hp | hp | hp | hp | hp <;> subst hp <;> first | exact ⟨rfl, rfl⟩
      refine o_litM (o := true) (f := []) (ps := [((.agg #[(.int .i64 1), (.int .i64 0), (.int .i64 1)]), [(.int .i64 1), (.int .i64 0), (.int .i64 1)]), ((.agg #[(.int .i64 2), (.int .i64 0), (.int .i64 1)]), [(.int .i64 2), (.int .i64 0), (.int .i64 1)]), ((.agg #[(.int .i64 6), (.int .i64 0), (.int .i64 1)]), [(.int .i64 6), (.int .i64 0), (.int .i64 1)]), ((.agg #[(.int .i64 4), (.int .i64 2), (.int .i64 0)]), [(.int .i64 4), (.int .i64 2), (.int .i64 0)]), ((.agg #[(.int .i64 7), (.int .i64 1), (.int .i64 3)]), [(.int .i64 7), (.int .i64 1), (.int .i64 3)]), ((.agg #[(.int .i64 4), (.int .i64 4), (.int .i64 0)]), [(.int .i64 4), (.int .i64 4), (.int .i64 0)]), ((.agg #[(.int .i64 7), (.int .i64 0), (.int .i64 5)]), [(.int .i64 7), (.int .i64 0), (.int .i64 5)])]) (ys := [(1, 0, 1), (2, 0, 1), (6, 0, 1), (4, 2, 0), (7, 1, 3), (4, 4, 0), (7, 0, 5)]) (Rp.prod Rp.int (Rp.prod Rp.int Rp.int)) ha rfl sl27 rfl rfl rfl rfl hvob30 ⟨[], [], [(.int .i64 1), (.int .i64 0), (.int .i64 1)], _, rfl, rfl, ⟨[], [], [_], _, rfl, rfl, ⟨rfl, (show InI 1 from by decide), rfl⟩, ⟨[], [], [_], _, rfl, rfl, ⟨rfl, (show InI 0 from by decide), rfl⟩, ⟨rfl, (show InI 1 from by decide), rfl⟩⟩⟩, ⟨[], [], [(.int .i64 2), (.int .i64 0), (.int .i64 1)], _, rfl, rfl, ⟨[], [], [_], _, rfl, rfl, ⟨rfl, (show InI 2 from by decide), rfl⟩, ⟨[], [], [_], _, rfl, rfl, ⟨rfl, (show InI 0 from by decide), rfl⟩, ⟨rfl, (show InI 1 from by decide), rfl⟩⟩⟩, ⟨[], [], [(.int .i64 6), (.int .i64 0), (.int .i64 1)], _, rfl, rfl, ⟨[], [], [_], _, rfl, rfl, ⟨rfl, (show InI 6 from by decide), rfl⟩, ⟨[], [], [_], _, rfl, rfl, ⟨rfl, (show InI 0 from by decide), rfl⟩, ⟨rfl, (show InI 1 from by decide), rfl⟩⟩⟩, ⟨[], [], [(.int .i64 4), (.int .i64 2), (.int .i64 0)], _, rfl, rfl, ⟨[], [], [_], _, rfl, rfl, ⟨rfl, (show InI 4 from by decide), rfl⟩, ⟨[], [], [_], _, rfl, rfl, ⟨rfl, (show InI 2 from by decide), rfl⟩, ⟨rfl, (show InI 0 from by decide), rfl⟩⟩⟩, ⟨[], [], [(.int .i64 7), (.int .i64 1), (.int .i64 3)], _, rfl, rfl, ⟨[], [], [_], _, rfl, rfl, ⟨rfl, (show InI 7 from by decide), rfl⟩, ⟨[], [], [_], _, rfl, rfl, ⟨rfl, (show InI 1 from by decide), rfl⟩, ⟨rfl, (show InI 3 from by decide), rfl⟩⟩⟩, ⟨[], [], [(.int .i64 4), (.int .i64 4), (.int .i64 0)], _, rfl, rfl, ⟨[], [], [_], _, rfl, rfl, ⟨rfl, (show InI 4 from by decide), rfl⟩, ⟨[], [], [_], _, rfl, rfl, ⟨rfl, (show InI 4 from by decide), rfl⟩, ⟨rfl, (show InI 0 from by decide), rfl⟩⟩⟩, ⟨[], [], [(.int .i64 7), (.int .i64 0), (.int .i64 5)], _, rfl, rfl, ⟨[], [], [_], _, rfl, rfl, ⟨rfl, (show InI 7 from by decide), rfl⟩, ⟨[], [], [_], _, rfl, rfl, ⟨rfl, (show InI 0 from by decide), rfl⟩, ⟨rfl, (show InI 5 from by decide), rfl⟩⟩⟩, ⟨rfl, rfl⟩⟩⟩⟩⟩⟩⟩⟩ ?_; clear ha a; intro v26 w27 h28 hx29 a ha
      obtain ⟨b31, hb31⟩ : ∃ b : Int, b = w2.heap.size := ⟨_, rfl⟩; rw [← hb31] at h28
      have q32 := zn_of hb31
      have q33 := Nq.new hB3.fpb q32
      have q34 := Nq.madeO q32 hB3.bi
      have q35 := Zn.upD q32 hE8
      replace hB3 := hB3.ext hx29
      have hE36 := Ext.trans hE8 hx29
      refine op_g ha rfl (g_build (vs := [(0, v26)]) (cells := #[v26]) rfl (by obtain ⟨_, _, rfl⟩ := h28.shape ; rfl)) ?_; clear ha a; intro a ha
      refine o_storeA (vs := [v26]) ha hB3 Try.sizeOf29 rfl rfl (by intro c hc; simp only [List.mem_cons, List.not_mem_nil, or_false] at hc; rcases hc with hc <;> subst hc <;> first | rfl | exact h28.oneC) rfl ?_; intro w37 hB38 hc39
      replace hc39 := hc39.bl
      replace hB38 : Bx w37 b1 [v26] 29 := hB38
      replace h28 := h28.nq hc39 q34
      have hE40 := Ext.then hE36 hc39 (Zn.bl q7)
      refine op_g ha rfl (g_assign rfl) ?_; clear ha a; intro a ha
      refine wpList_nil ?_
      replace ha := ha.sub (σ' := [(2, (.pointer (some ⟨b1, 0, none⟩))), (3, (.bool true))]) ⟨rfl, rfl, trivial⟩
      refine e_then ?_
      refine wp_ret ?_
      refine e_blk_ret ?_
      refine e_then_ret ?_
      obtain rfl := Option.some.inj hF
      exact f_retC2 (cs := [v26]) ha rfl rfl Try.isAgg29 Try.sizeOf29 hB38 rfl ⟨_, _, _, _, rfl, rfl, h28, q35, rfl, hE40⟩
    · replace hF := if_f hp25 hF
      refine wp_seq ?_
      refine wp_region_lit ?_
      refine op_g ha rfl (g_eql rfl rfl) ?_; clear ha a; intro a ha
      refine op_g ha rfl (g_assign rfl) ?_; clear ha a; intro a ha
      refine wpList_nil ?_
      replace ha := ha.sub (σ' := [(2, (.pointer (some ⟨b1, 0, none⟩))), (4, (.int .i64 a0)), (24, (.bool (decide (a0 = 2))))]) ⟨rfl, rfl, rfl, trivial⟩
      refine e_then ?_
      refine c_cond (a0 = 2) ha rfl (decide_eq_true_iff) (fun hp41 => ?_) (fun hp41 => ?_)
      · replace hF := if_t hp41 hF
        refine wp_seq ?_
        refine wp_region_lit ?_
        refine op_g ha rfl (g_build (vs := [(0, (.int .i64 1)), (1, (.int .i64 0)), (2, (.int .i64 1))]) (cells := #[(.int .i64 1), (.int .i64 0), (.int .i64 1)]) rfl (by rfl)) ?_; clear ha a; intro a ha
        refine op_g ha rfl (g_build (vs := [(0, (.int .i64 1)), (1, (.int .i64 0)), (2, (.int .i64 2))]) (cells := #[(.int .i64 1), (.int .i64 0), (.int .i64 2)]) rfl (by rfl)) ?_; clear ha a; intro a ha
        refine op_g ha rfl (g_build (vs := [(0, (.int .i64 1)), (1, (.int .i64 1)), (2, (.int .i64 2))]) (cells := #[(.int .i64 1), (.int .i64 1), (.int .i64 2)]) rfl (by rfl)) ?_; clear ha a; intro a ha
        refine op_g ha rfl (g_build (vs := [(0, (.int .i64 5)), (1, (.int .i64 0)), (2, (.int .i64 1))]) (cells := #[(.int .i64 5), (.int .i64 0), (.int .i64 1)]) rfl (by rfl)) ?_; clear ha a; intro a ha
        refine op_g ha rfl (g_build (vs := [(0, (.int .i64 5)), (1, (.int .i64 3)), (2, (.int .i64 2))]) (cells := #[(.int .i64 5), (.int .i64 3), (.int .i64 2)]) rfl (by rfl)) ?_; clear ha a; intro a ha
        refine op_g ha rfl (g_build (vs := [(0, (.int .i64 7)), (1, (.int .i64 2)), (2, (.int .i64 4))]) (cells := #[(.int .i64 7), (.int .i64 2), (.int .i64 4)]) rfl (by rfl)) ?_; clear ha a; intro a ha
        refine op_g ha rfl (g_build (vs := [(0, (.int .i64 7)), (1, (.int .i64 1)), (2, (.int .i64 5))]) (cells := #[(.int .i64 7), (.int .i64 1), (.int .i64 5)]) rfl (by rfl)) ?_; clear ha a; intro a ha
        refine op_g ha rfl (g_build (vs := [(0, (.int .i64 7)), (1, (.int .i64 0)), (2, (.int .i64 6))]) (cells := #[(.int .i64 7), (.int .i64 0), (.int .i64 6)]) rfl (by rfl)) ?_; clear ha a; intro a ha
        have hvob46 : ∀ p ∈ ([((.agg #[(.int .i64 1), (.int .i64 0), (.int .i64 1)]), [(.int .i64 1), (.int .i64 0), (.int .i64 1)]), ((.agg #[(.int .i64 1), (.int .i64 0), (.int .i64 2)]), [(.int .i64 1), (.int .i64 0), (.int .i64 2)]), ((.agg #[(.int .i64 1), (.int .i64 1), (.int .i64 2)]), [(.int .i64 1), (.int .i64 1), (.int .i64 2)]), ((.agg #[(.int .i64 5), (.int .i64 0), (.int .i64 1)]), [(.int .i64 5), (.int .i64 0), (.int .i64 1)]), ((.agg #[(.int .i64 5), (.int .i64 3), (.int .i64 2)]), [(.int .i64 5), (.int .i64 3), (.int .i64 2)]), ((.agg #[(.int .i64 7), (.int .i64 2), (.int .i64 4)]), [(.int .i64 7), (.int .i64 2), (.int .i64 4)]), ((.agg #[(.int .i64 7), (.int .i64 1), (.int .i64 5)]), [(.int .i64 7), (.int .i64 1), (.int .i64 5)]), ((.agg #[(.int .i64 7), (.int .i64 0), (.int .i64 6)]), [(.int .i64 7), (.int .i64 0), (.int .i64 6)])] : List (Value × List Value)), p.1.cells = p.2.toArray ∧ p.2.length = 3 := by
          intro p hp; simp only [List.mem_cons, List.not_mem_nil, or_false] at hp; rcases hp with hp | hp | hp | hp | hp | hp | hp | hp <;> subst hp <;> first | exact ⟨rfl, rfl⟩
        refine o_litM (o := true) (f := []) (ps := [((.agg #[(.int .i64 1), (.int .i64 0), (.int .i64 1)]), [(.int .i64 1), (.int .i64 0), (.int .i64 1)]), ((.agg #[(.int .i64 1), (.int .i64 0), (.int .i64 2)]), [(.int .i64 1), (.int .i64 0), (.int .i64 2)]), ((.agg #[(.int .i64 1), (.int .i64 1), (.int .i64 2)]), [(.int .i64 1), (.int .i64 1), (.int .i64 2)]), ((.agg #[(.int .i64 5), (.int .i64 0), (.int .i64 1)]), [(.int .i64 5), (.int .i64 0), (.int .i64 1)]), ((.agg #[(.int .i64 5), (.int .i64 3), (.int .i64 2)]), [(.int .i64 5), (.int .i64 3), (.int .i64 2)]), ((.agg #[(.int .i64 7), (.int .i64 2), (.int .i64 4)]), [(.int .i64 7), (.int .i64 2), (.int .i64 4)]), ((.agg #[(.int .i64 7), (.int .i64 1), (.int .i64 5)]), [(.int .i64 7), (.int .i64 1), (.int .i64 5)]), ((.agg #[(.int .i64 7), (.int .i64 0), (.int .i64 6)]), [(.int .i64 7), (.int .i64 0), (.int .i64 6)])]) (ys := [(1, 0, 1), (1, 0, 2), (1, 1, 2), (5, 0, 1), (5, 3, 2), (7, 2, 4), (7, 1, 5), (7, 0, 6)]) (Rp.prod Rp.int (Rp.prod Rp.int Rp.int)) ha rfl sl27 rfl rfl rfl rfl hvob46 ⟨[], [], [(.int .i64 1), (.int .i64 0), (.int .i64 1)], _, rfl, rfl, ⟨[], [], [_], _, rfl, rfl, ⟨rfl, (show InI 1 from by decide), rfl⟩, ⟨[], [], [_], _, rfl, rfl, ⟨rfl, (show InI 0 from by decide), rfl⟩, ⟨rfl, (show InI 1 from by decide), rfl⟩⟩⟩, ⟨[], [], [(.int .i64 1), (.int .i64 0), (.int .i64 2)], _, rfl, rfl, ⟨[], [], [_], _, rfl, rfl, ⟨rfl, (show InI 1 from by decide), rfl⟩, ⟨[], [], [_], _, rfl, rfl, ⟨rfl, (show InI 0 from by decide), rfl⟩, ⟨rfl, (show InI 2 from by decide), rfl⟩⟩⟩, ⟨[], [], [(.int .i64 1), (.int .i64 1), (.int .i64 2)], _, rfl, rfl, ⟨[], [], [_], _, rfl, rfl, ⟨rfl, (show InI 1 from by decide), rfl⟩, ⟨[], [], [_], _, rfl, rfl, ⟨rfl, (show InI 1 from by decide), rfl⟩, ⟨rfl, (show InI 2 from by decide), rfl⟩⟩⟩, ⟨[], [], [(.int .i64 5), (.int .i64 0), (.int .i64 1)], _, rfl, rfl, ⟨[], [], [_], _, rfl, rfl, ⟨rfl, (show InI 5 from by decide), rfl⟩, ⟨[], [], [_], _, rfl, rfl, ⟨rfl, (show InI 0 from by decide), rfl⟩, ⟨rfl, (show InI 1 from by decide), rfl⟩⟩⟩, ⟨[], [], [(.int .i64 5), (.int .i64 3), (.int .i64 2)], _, rfl, rfl, ⟨[], [], [_], _, rfl, rfl, ⟨rfl, (show InI 5 from by decide), rfl⟩, ⟨[], [], [_], _, rfl, rfl, ⟨rfl, (show InI 3 from by decide), rfl⟩, ⟨rfl, (show InI 2 from by decide), rfl⟩⟩⟩, ⟨[], [], [(.int .i64 7), (.int .i64 2), (.int .i64 4)], _, rfl, rfl, ⟨[], [], [_], _, rfl, rfl, ⟨rfl, (show InI 7 from by decide), rfl⟩, ⟨[], [], [_], _, rfl, rfl, ⟨rfl, (show InI 2 from by decide), rfl⟩, ⟨rfl, (show InI 4 from by decide), rfl⟩⟩⟩, ⟨[], [], [(.int .i64 7), (.int .i64 1), (.int .i64 5)], _, rfl, rfl, ⟨[], [], [_], _, rfl, rfl, ⟨rfl, (show InI 7 from by decide), rfl⟩, ⟨[], [], [_], _, rfl, rfl, ⟨rfl, (show InI 1 from by decide), rfl⟩, ⟨rfl, (show InI 5 from by decide), rfl⟩⟩⟩, ⟨[], [], [(.int .i64 7), (.int .i64 0), (.int .i64 6)], _, rfl, rfl, ⟨[], [], [_], _, rfl, rfl, ⟨rfl, (show InI 7 from by decide), rfl⟩, ⟨[], [], [_], _, rfl, rfl, ⟨rfl, (show InI 0 from by decide), rfl⟩, ⟨rfl, (show InI 6 from by decide), rfl⟩⟩⟩, ⟨rfl, rfl⟩⟩⟩⟩⟩⟩⟩⟩⟩ ?_; clear ha a; intro v42 w43 h44 hx45 a ha
        obtain ⟨b47, hb47⟩ : ∃ b : Int, b = w2.heap.size := ⟨_, rfl⟩; rw [← hb47] at h44
        have q48 := zn_of hb47
        have q49 := Nq.new hB3.fpb q48
        have q50 := Nq.madeO q48 hB3.bi
        have q51 := Zn.upD q48 hE8
        replace hB3 := hB3.ext hx45
        have hE52 := Ext.trans hE8 hx45
        refine op_g ha rfl (g_build (vs := [(0, v42)]) (cells := #[v42]) rfl (by obtain ⟨_, _, rfl⟩ := h44.shape ; rfl)) ?_; clear ha a; intro a ha
        refine o_storeA (vs := [v42]) ha hB3 Try.sizeOf29 rfl rfl (by intro c hc; simp only [List.mem_cons, List.not_mem_nil, or_false] at hc; rcases hc with hc <;> subst hc <;> first | rfl | exact h44.oneC) rfl ?_; intro w53 hB54 hc55
        replace hc55 := hc55.bl
        replace hB54 : Bx w53 b1 [v42] 29 := hB54
        replace h44 := h44.nq hc55 q50
        have hE56 := Ext.then hE52 hc55 (Zn.bl q7)
        refine op_g ha rfl (g_assign rfl) ?_; clear ha a; intro a ha
        refine wpList_nil ?_
        replace ha := ha.sub (σ' := [(2, (.pointer (some ⟨b1, 0, none⟩))), (3, (.bool true))]) ⟨rfl, rfl, trivial⟩
        refine e_then ?_
        refine wp_ret ?_
        refine e_blk_ret ?_
        refine e_then_ret ?_
        obtain rfl := Option.some.inj hF
        exact f_retC2 (cs := [v42]) ha rfl rfl Try.isAgg29 Try.sizeOf29 hB54 rfl ⟨_, _, _, _, rfl, rfl, h44, q51, rfl, hE56⟩
      · replace hF := if_f hp41 hF
        refine wp_seq ?_
        refine wp_region_lit ?_
        refine op_g ha rfl (g_eql rfl rfl) ?_; clear ha a; intro a ha
        refine op_g ha rfl (g_assign rfl) ?_; clear ha a; intro a ha
        refine wpList_nil ?_
        replace ha := ha.sub (σ' := [(2, (.pointer (some ⟨b1, 0, none⟩))), (4, (.int .i64 a0)), (36, (.bool (decide (a0 = 3))))]) ⟨rfl, rfl, rfl, trivial⟩
        refine e_then ?_
        refine c_cond (a0 = 3) ha rfl (decide_eq_true_iff) (fun hp57 => ?_) (fun hp57 => ?_)
        · replace hF := if_t hp57 hF
          refine wp_seq ?_
          refine wp_region_lit ?_
          refine op_g ha rfl (g_build (vs := [(0, (.int .i64 3)), (1, (.int .i64 0)), (2, (.int .i64 0))]) (cells := #[(.int .i64 3), (.int .i64 0), (.int .i64 0)]) rfl (by rfl)) ?_; clear ha a; intro a ha
          refine op_g ha rfl (g_build (vs := [(0, (.int .i64 3)), (1, (.int .i64 1)), (2, (.int .i64 0))]) (cells := #[(.int .i64 3), (.int .i64 1), (.int .i64 0)]) rfl (by rfl)) ?_; clear ha a; intro a ha
          refine op_g ha rfl (g_build (vs := [(0, (.int .i64 5)), (1, (.int .i64 0)), (2, (.int .i64 1))]) (cells := #[(.int .i64 5), (.int .i64 0), (.int .i64 1)]) rfl (by rfl)) ?_; clear ha a; intro a ha
          refine op_g ha rfl (g_build (vs := [(0, (.int .i64 4)), (1, (.int .i64 0)), (2, (.int .i64 0))]) (cells := #[(.int .i64 4), (.int .i64 0), (.int .i64 0)]) rfl (by rfl)) ?_; clear ha a; intro a ha
          refine op_g ha rfl (g_build (vs := [(0, (.int .i64 4)), (1, (.int .i64 1)), (2, (.int .i64 0))]) (cells := #[(.int .i64 4), (.int .i64 1), (.int .i64 0)]) rfl (by rfl)) ?_; clear ha a; intro a ha
          refine op_g ha rfl (g_build (vs := [(0, (.int .i64 5)), (1, (.int .i64 3)), (2, (.int .i64 4))]) (cells := #[(.int .i64 5), (.int .i64 3), (.int .i64 4)]) rfl (by rfl)) ?_; clear ha a; intro a ha
          refine op_g ha rfl (g_build (vs := [(0, (.int .i64 6)), (1, (.int .i64 2)), (2, (.int .i64 5))]) (cells := #[(.int .i64 6), (.int .i64 2), (.int .i64 5)]) rfl (by rfl)) ?_; clear ha a; intro a ha
          refine op_g ha rfl (g_build (vs := [(0, (.int .i64 1)), (1, (.int .i64 0)), (2, (.int .i64 1))]) (cells := #[(.int .i64 1), (.int .i64 0), (.int .i64 1)]) rfl (by rfl)) ?_; clear ha a; intro a ha
          refine op_g ha rfl (g_build (vs := [(0, (.int .i64 5)), (1, (.int .i64 7)), (2, (.int .i64 6))]) (cells := #[(.int .i64 5), (.int .i64 7), (.int .i64 6)]) rfl (by rfl)) ?_; clear ha a; intro a ha
          refine op_g ha rfl (g_build (vs := [(0, (.int .i64 7)), (1, (.int .i64 1)), (2, (.int .i64 8))]) (cells := #[(.int .i64 7), (.int .i64 1), (.int .i64 8)]) rfl (by rfl)) ?_; clear ha a; intro a ha
          refine op_g ha rfl (g_build (vs := [(0, (.int .i64 7)), (1, (.int .i64 0)), (2, (.int .i64 9))]) (cells := #[(.int .i64 7), (.int .i64 0), (.int .i64 9)]) rfl (by rfl)) ?_; clear ha a; intro a ha
          refine op_g ha rfl (g_build (vs := [(0, (.int .i64 4)), (1, (.int .i64 10)), (2, (.int .i64 0))]) (cells := #[(.int .i64 4), (.int .i64 10), (.int .i64 0)]) rfl (by rfl)) ?_; clear ha a; intro a ha
          refine op_g ha rfl (g_build (vs := [(0, (.int .i64 8)), (1, (.int .i64 0)), (2, (.int .i64 11))]) (cells := #[(.int .i64 8), (.int .i64 0), (.int .i64 11)]) rfl (by rfl)) ?_; clear ha a; intro a ha
          have hvob62 : ∀ p ∈ ([((.agg #[(.int .i64 3), (.int .i64 0), (.int .i64 0)]), [(.int .i64 3), (.int .i64 0), (.int .i64 0)]), ((.agg #[(.int .i64 3), (.int .i64 1), (.int .i64 0)]), [(.int .i64 3), (.int .i64 1), (.int .i64 0)]), ((.agg #[(.int .i64 5), (.int .i64 0), (.int .i64 1)]), [(.int .i64 5), (.int .i64 0), (.int .i64 1)]), ((.agg #[(.int .i64 4), (.int .i64 0), (.int .i64 0)]), [(.int .i64 4), (.int .i64 0), (.int .i64 0)]), ((.agg #[(.int .i64 4), (.int .i64 1), (.int .i64 0)]), [(.int .i64 4), (.int .i64 1), (.int .i64 0)]), ((.agg #[(.int .i64 5), (.int .i64 3), (.int .i64 4)]), [(.int .i64 5), (.int .i64 3), (.int .i64 4)]), ((.agg #[(.int .i64 6), (.int .i64 2), (.int .i64 5)]), [(.int .i64 6), (.int .i64 2), (.int .i64 5)]), ((.agg #[(.int .i64 1), (.int .i64 0), (.int .i64 1)]), [(.int .i64 1), (.int .i64 0), (.int .i64 1)]), ((.agg #[(.int .i64 5), (.int .i64 7), (.int .i64 6)]), [(.int .i64 5), (.int .i64 7), (.int .i64 6)]), ((.agg #[(.int .i64 7), (.int .i64 1), (.int .i64 8)]), [(.int .i64 7), (.int .i64 1), (.int .i64 8)]), ((.agg #[(.int .i64 7), (.int .i64 0), (.int .i64 9)]), [(.int .i64 7), (.int .i64 0), (.int .i64 9)]), ((.agg #[(.int .i64 4), (.int .i64 10), (.int .i64 0)]), [(.int .i64 4), (.int .i64 10), (.int .i64 0)]), ((.agg #[(.int .i64 8), (.int .i64 0), (.int .i64 11)]), [(.int .i64 8), (.int .i64 0), (.int .i64 11)])] : List (Value × List Value)), p.1.cells = p.2.toArray ∧ p.2.length = 3 := by
            intro p hp; simp only [List.mem_cons, List.not_mem_nil, or_false] at hp; rcases hp with hp | hp | hp | hp | hp | hp | hp | hp | hp | hp | hp | hp | hp <;> subst hp <;> first | exact ⟨rfl, rfl⟩
          refine o_litM (o := true) (f := []) (ps := [((.agg #[(.int .i64 3), (.int .i64 0), (.int .i64 0)]), [(.int .i64 3), (.int .i64 0), (.int .i64 0)]), ((.agg #[(.int .i64 3), (.int .i64 1), (.int .i64 0)]), [(.int .i64 3), (.int .i64 1), (.int .i64 0)]), ((.agg #[(.int .i64 5), (.int .i64 0), (.int .i64 1)]), [(.int .i64 5), (.int .i64 0), (.int .i64 1)]), ((.agg #[(.int .i64 4), (.int .i64 0), (.int .i64 0)]), [(.int .i64 4), (.int .i64 0), (.int .i64 0)]), ((.agg #[(.int .i64 4), (.int .i64 1), (.int .i64 0)]), [(.int .i64 4), (.int .i64 1), (.int .i64 0)]), ((.agg #[(.int .i64 5), (.int .i64 3), (.int .i64 4)]), [(.int .i64 5), (.int .i64 3), (.int .i64 4)]), ((.agg #[(.int .i64 6), (.int .i64 2), (.int .i64 5)]), [(.int .i64 6), (.int .i64 2), (.int .i64 5)]), ((.agg #[(.int .i64 1), (.int .i64 0), (.int .i64 1)]), [(.int .i64 1), (.int .i64 0), (.int .i64 1)]), ((.agg #[(.int .i64 5), (.int .i64 7), (.int .i64 6)]), [(.int .i64 5), (.int .i64 7), (.int .i64 6)]), ((.agg #[(.int .i64 7), (.int .i64 1), (.int .i64 8)]), [(.int .i64 7), (.int .i64 1), (.int .i64 8)]), ((.agg #[(.int .i64 7), (.int .i64 0), (.int .i64 9)]), [(.int .i64 7), (.int .i64 0), (.int .i64 9)]), ((.agg #[(.int .i64 4), (.int .i64 10), (.int .i64 0)]), [(.int .i64 4), (.int .i64 10), (.int .i64 0)]), ((.agg #[(.int .i64 8), (.int .i64 0), (.int .i64 11)]), [(.int .i64 8), (.int .i64 0), (.int .i64 11)])]) (ys := [(3, 0, 0), (3, 1, 0), (5, 0, 1), (4, 0, 0), (4, 1, 0), (5, 3, 4), (6, 2, 5), (1, 0, 1), (5, 7, 6), (7, 1, 8), (7, 0, 9), (4, 10, 0), (8, 0, 11)]) (Rp.prod Rp.int (Rp.prod Rp.int Rp.int)) ha rfl sl27 rfl rfl rfl rfl hvob62 ⟨[], [], [(.int .i64 3), (.int .i64 0), (.int .i64 0)], _, rfl, rfl, ⟨[], [], [_], _, rfl, rfl, ⟨rfl, (show InI 3 from by decide), rfl⟩, ⟨[], [], [_], _, rfl, rfl, ⟨rfl, (show InI 0 from by decide), rfl⟩, ⟨rfl, (show InI 0 from by decide), rfl⟩⟩⟩, ⟨[], [], [(.int .i64 3), (.int .i64 1), (.int .i64 0)], _, rfl, rfl, ⟨[], [], [_], _, rfl, rfl, ⟨rfl, (show InI 3 from by decide), rfl⟩, ⟨[], [], [_], _, rfl, rfl, ⟨rfl, (show InI 1 from by decide), rfl⟩, ⟨rfl, (show InI 0 from by decide), rfl⟩⟩⟩, ⟨[], [], [(.int .i64 5), (.int .i64 0), (.int .i64 1)], _, rfl, rfl, ⟨[], [], [_], _, rfl, rfl, ⟨rfl, (show InI 5 from by decide), rfl⟩, ⟨[], [], [_], _, rfl, rfl, ⟨rfl, (show InI 0 from by decide), rfl⟩, ⟨rfl, (show InI 1 from by decide), rfl⟩⟩⟩, ⟨[], [], [(.int .i64 4), (.int .i64 0), (.int .i64 0)], _, rfl, rfl, ⟨[], [], [_], _, rfl, rfl, ⟨rfl, (show InI 4 from by decide), rfl⟩, ⟨[], [], [_], _, rfl, rfl, ⟨rfl, (show InI 0 from by decide), rfl⟩, ⟨rfl, (show InI 0 from by decide), rfl⟩⟩⟩, ⟨[], [], [(.int .i64 4), (.int .i64 1), (.int .i64 0)], _, rfl, rfl, ⟨[], [], [_], _, rfl, rfl, ⟨rfl, (show InI 4 from by decide), rfl⟩, ⟨[], [], [_], _, rfl, rfl, ⟨rfl, (show InI 1 from by decide), rfl⟩, ⟨rfl, (show InI 0 from by decide), rfl⟩⟩⟩, ⟨[], [], [(.int .i64 5), (.int .i64 3), (.int .i64 4)], _, rfl, rfl, ⟨[], [], [_], _, rfl, rfl, ⟨rfl, (show InI 5 from by decide), rfl⟩, ⟨[], [], [_], _, rfl, rfl, ⟨rfl, (show InI 3 from by decide), rfl⟩, ⟨rfl, (show InI 4 from by decide), rfl⟩⟩⟩, ⟨[], [], [(.int .i64 6), (.int .i64 2), (.int .i64 5)], _, rfl, rfl, ⟨[], [], [_], _, rfl, rfl, ⟨rfl, (show InI 6 from by decide), rfl⟩, ⟨[], [], [_], _, rfl, rfl, ⟨rfl, (show InI 2 from by decide), rfl⟩, ⟨rfl, (show InI 5 from by decide), rfl⟩⟩⟩, ⟨[], [], [(.int .i64 1), (.int .i64 0), (.int .i64 1)], _, rfl, rfl, ⟨[], [], [_], _, rfl, rfl, ⟨rfl, (show InI 1 from by decide), rfl⟩, ⟨[], [], [_], _, rfl, rfl, ⟨rfl, (show InI 0 from by decide), rfl⟩, ⟨rfl, (show InI 1 from by decide), rfl⟩⟩⟩, ⟨[], [], [(.int .i64 5), (.int .i64 7), (.int .i64 6)], _, rfl, rfl, ⟨[], [], [_], _, rfl, rfl, ⟨rfl, (show InI 5 from by decide), rfl⟩, ⟨[], [], [_], _, rfl, rfl, ⟨rfl, (show InI 7 from by decide), rfl⟩, ⟨rfl, (show InI 6 from by decide), rfl⟩⟩⟩, ⟨[], [], [(.int .i64 7), (.int .i64 1), (.int .i64 8)], _, rfl, rfl, ⟨[], [], [_], _, rfl, rfl, ⟨rfl, (show InI 7 from by decide), rfl⟩, ⟨[], [], [_], _, rfl, rfl, ⟨rfl, (show InI 1 from by decide), rfl⟩, ⟨rfl, (show InI 8 from by decide), rfl⟩⟩⟩, ⟨[], [], [(.int .i64 7), (.int .i64 0), (.int .i64 9)], _, rfl, rfl, ⟨[], [], [_], _, rfl, rfl, ⟨rfl, (show InI 7 from by decide), rfl⟩, ⟨[], [], [_], _, rfl, rfl, ⟨rfl, (show InI 0 from by decide), rfl⟩, ⟨rfl, (show InI 9 from by decide), rfl⟩⟩⟩, ⟨[], [], [(.int .i64 4), (.int .i64 10), (.int .i64 0)], _, rfl, rfl, ⟨[], [], [_], _, rfl, rfl, ⟨rfl, (show InI 4 from by decide), rfl⟩, ⟨[], [], [_], _, rfl, rfl, ⟨rfl, (show InI 10 from by decide), rfl⟩, ⟨rfl, (show InI 0 from by decide), rfl⟩⟩⟩, ⟨[], [], [(.int .i64 8), (.int .i64 0), (.int .i64 11)], _, rfl, rfl, ⟨[], [], [_], _, rfl, rfl, ⟨rfl, (show InI 8 from by decide), rfl⟩, ⟨[], [], [_], _, rfl, rfl, ⟨rfl, (show InI 0 from by decide), rfl⟩, ⟨rfl, (show InI 11 from by decide), rfl⟩⟩⟩, ⟨rfl, rfl⟩⟩⟩⟩⟩⟩⟩⟩⟩⟩⟩⟩⟩⟩ ?_; clear ha a; intro v58 w59 h60 hx61 a ha
          obtain ⟨b63, hb63⟩ : ∃ b : Int, b = w2.heap.size := ⟨_, rfl⟩; rw [← hb63] at h60
          have q64 := zn_of hb63
          have q65 := Nq.new hB3.fpb q64
          have q66 := Nq.madeO q64 hB3.bi
          have q67 := Zn.upD q64 hE8
          replace hB3 := hB3.ext hx61
          have hE68 := Ext.trans hE8 hx61
          refine op_g ha rfl (g_build (vs := [(0, v58)]) (cells := #[v58]) rfl (by obtain ⟨_, _, rfl⟩ := h60.shape ; rfl)) ?_; clear ha a; intro a ha
          refine o_storeA (vs := [v58]) ha hB3 Try.sizeOf29 rfl rfl (by intro c hc; simp only [List.mem_cons, List.not_mem_nil, or_false] at hc; rcases hc with hc <;> subst hc <;> first | rfl | exact h60.oneC) rfl ?_; intro w69 hB70 hc71
          replace hc71 := hc71.bl
          replace hB70 : Bx w69 b1 [v58] 29 := hB70
          replace h60 := h60.nq hc71 q66
          have hE72 := Ext.then hE68 hc71 (Zn.bl q7)
          refine op_g ha rfl (g_assign rfl) ?_; clear ha a; intro a ha
          refine wpList_nil ?_
          replace ha := ha.sub (σ' := [(2, (.pointer (some ⟨b1, 0, none⟩))), (3, (.bool true))]) ⟨rfl, rfl, trivial⟩
          refine e_then ?_
          refine wp_ret ?_
          refine e_blk_ret ?_
          refine e_then_ret ?_
          obtain rfl := Option.some.inj hF
          exact f_retC2 (cs := [v58]) ha rfl rfl Try.isAgg29 Try.sizeOf29 hB70 rfl ⟨_, _, _, _, rfl, rfl, h60, q67, rfl, hE72⟩
        · replace hF := if_f hp57 hF
          refine wp_seq ?_
          refine wp_region_lit ?_
          refine op_g ha rfl (g_eql rfl rfl) ?_; clear ha a; intro a ha
          refine op_g ha rfl (g_assign rfl) ?_; clear ha a; intro a ha
          refine wpList_nil ?_
          replace ha := ha.sub (σ' := [(2, (.pointer (some ⟨b1, 0, none⟩))), (53, (.bool (decide (a0 = 4))))]) ⟨rfl, rfl, trivial⟩
          refine e_then ?_
          refine c_cond (a0 = 4) ha rfl (decide_eq_true_iff) (fun hp73 => ?_) (fun hp73 => ?_)
          · replace hF := if_t hp73 hF
            refine wp_seq ?_
            refine wp_region_lit ?_
            refine op_g ha rfl (g_build (vs := [(0, (.int .i64 3)), (1, (.int .i64 0)), (2, (.int .i64 0))]) (cells := #[(.int .i64 3), (.int .i64 0), (.int .i64 0)]) rfl (by rfl)) ?_; clear ha a; intro a ha
            refine op_g ha rfl (g_build (vs := [(0, (.int .i64 3)), (1, (.int .i64 1)), (2, (.int .i64 0))]) (cells := #[(.int .i64 3), (.int .i64 1), (.int .i64 0)]) rfl (by rfl)) ?_; clear ha a; intro a ha
            refine op_g ha rfl (g_build (vs := [(0, (.int .i64 4)), (1, (.int .i64 1)), (2, (.int .i64 0))]) (cells := #[(.int .i64 4), (.int .i64 1), (.int .i64 0)]) rfl (by rfl)) ?_; clear ha a; intro a ha
            refine op_g ha rfl (g_build (vs := [(0, (.int .i64 5)), (1, (.int .i64 0)), (2, (.int .i64 2))]) (cells := #[(.int .i64 5), (.int .i64 0), (.int .i64 2)]) rfl (by rfl)) ?_; clear ha a; intro a ha
            refine op_g ha rfl (g_build (vs := [(0, (.int .i64 1)), (1, (.int .i64 0)), (2, (.int .i64 1))]) (cells := #[(.int .i64 1), (.int .i64 0), (.int .i64 1)]) rfl (by rfl)) ?_; clear ha a; intro a ha
            refine op_g ha rfl (g_build (vs := [(0, (.int .i64 5)), (1, (.int .i64 3)), (2, (.int .i64 4))]) (cells := #[(.int .i64 5), (.int .i64 3), (.int .i64 4)]) rfl (by rfl)) ?_; clear ha a; intro a ha
            refine op_g ha rfl (g_build (vs := [(0, (.int .i64 7)), (1, (.int .i64 1)), (2, (.int .i64 5))]) (cells := #[(.int .i64 7), (.int .i64 1), (.int .i64 5)]) rfl (by rfl)) ?_; clear ha a; intro a ha
            refine op_g ha rfl (g_build (vs := [(0, (.int .i64 7)), (1, (.int .i64 0)), (2, (.int .i64 6))]) (cells := #[(.int .i64 7), (.int .i64 0), (.int .i64 6)]) rfl (by rfl)) ?_; clear ha a; intro a ha
            refine op_g ha rfl (g_build (vs := [(0, (.int .i64 4)), (1, (.int .i64 7)), (2, (.int .i64 0))]) (cells := #[(.int .i64 4), (.int .i64 7), (.int .i64 0)]) rfl (by rfl)) ?_; clear ha a; intro a ha
            refine op_g ha rfl (g_build (vs := [(0, (.int .i64 7)), (1, (.int .i64 0)), (2, (.int .i64 0))]) (cells := #[(.int .i64 7), (.int .i64 0), (.int .i64 0)]) rfl (by rfl)) ?_; clear ha a; intro a ha
            refine op_g ha rfl (g_build (vs := [(0, (.int .i64 4)), (1, (.int .i64 0)), (2, (.int .i64 0))]) (cells := #[(.int .i64 4), (.int .i64 0), (.int .i64 0)]) rfl (by rfl)) ?_; clear ha a; intro a ha
            refine op_g ha rfl (g_build (vs := [(0, (.int .i64 7)), (1, (.int .i64 0)), (2, (.int .i64 10))]) (cells := #[(.int .i64 7), (.int .i64 0), (.int .i64 10)]) rfl (by rfl)) ?_; clear ha a; intro a ha
            refine op_g ha rfl (g_build (vs := [(0, (.int .i64 5)), (1, (.int .i64 8)), (2, (.int .i64 9))]) (cells := #[(.int .i64 5), (.int .i64 8), (.int .i64 9)]) rfl (by rfl)) ?_; clear ha a; intro a ha
            refine op_g ha rfl (g_build (vs := [(0, (.int .i64 5)), (1, (.int .i64 12)), (2, (.int .i64 11))]) (cells := #[(.int .i64 5), (.int .i64 12), (.int .i64 11)]) rfl (by rfl)) ?_; clear ha a; intro a ha
            refine op_g ha rfl (g_build (vs := [(0, (.int .i64 8)), (1, (.int .i64 0)), (2, (.int .i64 13))]) (cells := #[(.int .i64 8), (.int .i64 0), (.int .i64 13)]) rfl (by rfl)) ?_; clear ha a; intro a ha
            have hvob78 : ∀ p ∈ ([((.agg #[(.int .i64 3), (.int .i64 0), (.int .i64 0)]), [(.int .i64 3), (.int .i64 0), (.int .i64 0)]), ((.agg #[(.int .i64 3), (.int .i64 1), (.int .i64 0)]), [(.int .i64 3), (.int .i64 1), (.int .i64 0)]), ((.agg #[(.int .i64 4), (.int .i64 1), (.int .i64 0)]), [(.int .i64 4), (.int .i64 1), (.int .i64 0)]), ((.agg #[(.int .i64 5), (.int .i64 0), (.int .i64 2)]), [(.int .i64 5), (.int .i64 0), (.int .i64 2)]), ((.agg #[(.int .i64 1), (.int .i64 0), (.int .i64 1)]), [(.int .i64 1), (.int .i64 0), (.int .i64 1)]), ((.agg #[(.int .i64 5), (.int .i64 3), (.int .i64 4)]), [(.int .i64 5), (.int .i64 3), (.int .i64 4)]), ((.agg #[(.int .i64 7), (.int .i64 1), (.int .i64 5)]), [(.int .i64 7), (.int .i64 1), (.int .i64 5)]), ((.agg #[(.int .i64 7), (.int .i64 0), (.int .i64 6)]), [(.int .i64 7), (.int .i64 0), (.int .i64 6)]), ((.agg #[(.int .i64 4), (.int .i64 7), (.int .i64 0)]), [(.int .i64 4), (.int .i64 7), (.int .i64 0)]), ((.agg #[(.int .i64 7), (.int .i64 0), (.int .i64 0)]), [(.int .i64 7), (.int .i64 0), (.int .i64 0)]), ((.agg #[(.int .i64 4), (.int .i64 0), (.int .i64 0)]), [(.int .i64 4), (.int .i64 0), (.int .i64 0)]), ((.agg #[(.int .i64 7), (.int .i64 0), (.int .i64 10)]), [(.int .i64 7), (.int .i64 0), (.int .i64 10)]), ((.agg #[(.int .i64 5), (.int .i64 8), (.int .i64 9)]), [(.int .i64 5), (.int .i64 8), (.int .i64 9)]), ((.agg #[(.int .i64 5), (.int .i64 12), (.int .i64 11)]), [(.int .i64 5), (.int .i64 12), (.int .i64 11)]), ((.agg #[(.int .i64 8), (.int .i64 0), (.int .i64 13)]), [(.int .i64 8), (.int .i64 0), (.int .i64 13)])] : List (Value × List Value)), p.1.cells = p.2.toArray ∧ p.2.length = 3 := by
              intro p hp; simp only [List.mem_cons, List.not_mem_nil, or_false] at hp; rcases hp with hp | hp | hp | hp | hp | hp | hp | hp | hp | hp | hp | hp | hp | hp | hp <;> subst hp <;> first | exact ⟨rfl, rfl⟩
            refine o_litM (o := true) (f := []) (ps := [((.agg #[(.int .i64 3), (.int .i64 0), (.int .i64 0)]), [(.int .i64 3), (.int .i64 0), (.int .i64 0)]), ((.agg #[(.int .i64 3), (.int .i64 1), (.int .i64 0)]), [(.int .i64 3), (.int .i64 1), (.int .i64 0)]), ((.agg #[(.int .i64 4), (.int .i64 1), (.int .i64 0)]), [(.int .i64 4), (.int .i64 1), (.int .i64 0)]), ((.agg #[(.int .i64 5), (.int .i64 0), (.int .i64 2)]), [(.int .i64 5), (.int .i64 0), (.int .i64 2)]), ((.agg #[(.int .i64 1), (.int .i64 0), (.int .i64 1)]), [(.int .i64 1), (.int .i64 0), (.int .i64 1)]), ((.agg #[(.int .i64 5), (.int .i64 3), (.int .i64 4)]), [(.int .i64 5), (.int .i64 3), (.int .i64 4)]), ((.agg #[(.int .i64 7), (.int .i64 1), (.int .i64 5)]), [(.int .i64 7), (.int .i64 1), (.int .i64 5)]), ((.agg #[(.int .i64 7), (.int .i64 0), (.int .i64 6)]), [(.int .i64 7), (.int .i64 0), (.int .i64 6)]), ((.agg #[(.int .i64 4), (.int .i64 7), (.int .i64 0)]), [(.int .i64 4), (.int .i64 7), (.int .i64 0)]), ((.agg #[(.int .i64 7), (.int .i64 0), (.int .i64 0)]), [(.int .i64 7), (.int .i64 0), (.int .i64 0)]), ((.agg #[(.int .i64 4), (.int .i64 0), (.int .i64 0)]), [(.int .i64 4), (.int .i64 0), (.int .i64 0)]), ((.agg #[(.int .i64 7), (.int .i64 0), (.int .i64 10)]), [(.int .i64 7), (.int .i64 0), (.int .i64 10)]), ((.agg #[(.int .i64 5), (.int .i64 8), (.int .i64 9)]), [(.int .i64 5), (.int .i64 8), (.int .i64 9)]), ((.agg #[(.int .i64 5), (.int .i64 12), (.int .i64 11)]), [(.int .i64 5), (.int .i64 12), (.int .i64 11)]), ((.agg #[(.int .i64 8), (.int .i64 0), (.int .i64 13)]), [(.int .i64 8), (.int .i64 0), (.int .i64 13)])]) (ys := [(3, 0, 0), (3, 1, 0), (4, 1, 0), (5, 0, 2), (1, 0, 1), (5, 3, 4), (7, 1, 5), (7, 0, 6), (4, 7, 0), (7, 0, 0), (4, 0, 0), (7, 0, 10), (5, 8, 9), (5, 12, 11), (8, 0, 13)]) (Rp.prod Rp.int (Rp.prod Rp.int Rp.int)) ha rfl sl27 rfl rfl rfl rfl hvob78 ⟨[], [], [(.int .i64 3), (.int .i64 0), (.int .i64 0)], _, rfl, rfl, ⟨[], [], [_], _, rfl, rfl, ⟨rfl, (show InI 3 from by decide), rfl⟩, ⟨[], [], [_], _, rfl, rfl, ⟨rfl, (show InI 0 from by decide), rfl⟩, ⟨rfl, (show InI 0 from by decide), rfl⟩⟩⟩, ⟨[], [], [(.int .i64 3), (.int .i64 1), (.int .i64 0)], _, rfl, rfl, ⟨[], [], [_], _, rfl, rfl, ⟨rfl, (show InI 3 from by decide), rfl⟩, ⟨[], [], [_], _, rfl, rfl, ⟨rfl, (show InI 1 from by decide), rfl⟩, ⟨rfl, (show InI 0 from by decide), rfl⟩⟩⟩, ⟨[], [], [(.int .i64 4), (.int .i64 1), (.int .i64 0)], _, rfl, rfl, ⟨[], [], [_], _, rfl, rfl, ⟨rfl, (show InI 4 from by decide), rfl⟩, ⟨[], [], [_], _, rfl, rfl, ⟨rfl, (show InI 1 from by decide), rfl⟩, ⟨rfl, (show InI 0 from by decide), rfl⟩⟩⟩, ⟨[], [], [(.int .i64 5), (.int .i64 0), (.int .i64 2)], _, rfl, rfl, ⟨[], [], [_], _, rfl, rfl, ⟨rfl, (show InI 5 from by decide), rfl⟩, ⟨[], [], [_], _, rfl, rfl, ⟨rfl, (show InI 0 from by decide), rfl⟩, ⟨rfl, (show InI 2 from by decide), rfl⟩⟩⟩, ⟨[], [], [(.int .i64 1), (.int .i64 0), (.int .i64 1)], _, rfl, rfl, ⟨[], [], [_], _, rfl, rfl, ⟨rfl, (show InI 1 from by decide), rfl⟩, ⟨[], [], [_], _, rfl, rfl, ⟨rfl, (show InI 0 from by decide), rfl⟩, ⟨rfl, (show InI 1 from by decide), rfl⟩⟩⟩, ⟨[], [], [(.int .i64 5), (.int .i64 3), (.int .i64 4)], _, rfl, rfl, ⟨[], [], [_], _, rfl, rfl, ⟨rfl, (show InI 5 from by decide), rfl⟩, ⟨[], [], [_], _, rfl, rfl, ⟨rfl, (show InI 3 from by decide), rfl⟩, ⟨rfl, (show InI 4 from by decide), rfl⟩⟩⟩, ⟨[], [], [(.int .i64 7), (.int .i64 1), (.int .i64 5)], _, rfl, rfl, ⟨[], [], [_], _, rfl, rfl, ⟨rfl, (show InI 7 from by decide), rfl⟩, ⟨[], [], [_], _, rfl, rfl, ⟨rfl, (show InI 1 from by decide), rfl⟩, ⟨rfl, (show InI 5 from by decide), rfl⟩⟩⟩, ⟨[], [], [(.int .i64 7), (.int .i64 0), (.int .i64 6)], _, rfl, rfl, ⟨[], [], [_], _, rfl, rfl, ⟨rfl, (show InI 7 from by decide), rfl⟩, ⟨[], [], [_], _, rfl, rfl, ⟨rfl, (show InI 0 from by decide), rfl⟩, ⟨rfl, (show InI 6 from by decide), rfl⟩⟩⟩, ⟨[], [], [(.int .i64 4), (.int .i64 7), (.int .i64 0)], _, rfl, rfl, ⟨[], [], [_], _, rfl, rfl, ⟨rfl, (show InI 4 from by decide), rfl⟩, ⟨[], [], [_], _, rfl, rfl, ⟨rfl, (show InI 7 from by decide), rfl⟩, ⟨rfl, (show InI 0 from by decide), rfl⟩⟩⟩, ⟨[], [], [(.int .i64 7), (.int .i64 0), (.int .i64 0)], _, rfl, rfl, ⟨[], [], [_], _, rfl, rfl, ⟨rfl, (show InI 7 from by decide), rfl⟩, ⟨[], [], [_], _, rfl, rfl, ⟨rfl, (show InI 0 from by decide), rfl⟩, ⟨rfl, (show InI 0 from by decide), rfl⟩⟩⟩, ⟨[], [], [(.int .i64 4), (.int .i64 0), (.int .i64 0)], _, rfl, rfl, ⟨[], [], [_], _, rfl, rfl, ⟨rfl, (show InI 4 from by decide), rfl⟩, ⟨[], [], [_], _, rfl, rfl, ⟨rfl, (show InI 0 from by decide), rfl⟩, ⟨rfl, (show InI 0 from by decide), rfl⟩⟩⟩, ⟨[], [], [(.int .i64 7), (.int .i64 0), (.int .i64 10)], _, rfl, rfl, ⟨[], [], [_], _, rfl, rfl, ⟨rfl, (show InI 7 from by decide), rfl⟩, ⟨[], [], [_], _, rfl, rfl, ⟨rfl, (show InI 0 from by decide), rfl⟩, ⟨rfl, (show InI 10 from by decide), rfl⟩⟩⟩, ⟨[], [], [(.int .i64 5), (.int .i64 8), (.int .i64 9)], _, rfl, rfl, ⟨[], [], [_], _, rfl, rfl, ⟨rfl, (show InI 5 from by decide), rfl⟩, ⟨[], [], [_], _, rfl, rfl, ⟨rfl, (show InI 8 from by decide), rfl⟩, ⟨rfl, (show InI 9 from by decide), rfl⟩⟩⟩, ⟨[], [], [(.int .i64 5), (.int .i64 12), (.int .i64 11)], _, rfl, rfl, ⟨[], [], [_], _, rfl, rfl, ⟨rfl, (show InI 5 from by decide), rfl⟩, ⟨[], [], [_], _, rfl, rfl, ⟨rfl, (show InI 12 from by decide), rfl⟩, ⟨rfl, (show InI 11 from by decide), rfl⟩⟩⟩, ⟨[], [], [(.int .i64 8), (.int .i64 0), (.int .i64 13)], _, rfl, rfl, ⟨[], [], [_], _, rfl, rfl, ⟨rfl, (show InI 8 from by decide), rfl⟩, ⟨[], [], [_], _, rfl, rfl, ⟨rfl, (show InI 0 from by decide), rfl⟩, ⟨rfl, (show InI 13 from by decide), rfl⟩⟩⟩, ⟨rfl, rfl⟩⟩⟩⟩⟩⟩⟩⟩⟩⟩⟩⟩⟩⟩⟩⟩ ?_; clear ha a; intro v74 w75 h76 hx77 a ha
            obtain ⟨b79, hb79⟩ : ∃ b : Int, b = w2.heap.size := ⟨_, rfl⟩; rw [← hb79] at h76
            have q80 := zn_of hb79
            have q81 := Nq.new hB3.fpb q80
            have q82 := Nq.madeO q80 hB3.bi
            have q83 := Zn.upD q80 hE8
            replace hB3 := hB3.ext hx77
            have hE84 := Ext.trans hE8 hx77
            refine op_g ha rfl (g_build (vs := [(0, v74)]) (cells := #[v74]) rfl (by obtain ⟨_, _, rfl⟩ := h76.shape ; rfl)) ?_; clear ha a; intro a ha
            refine o_storeA (vs := [v74]) ha hB3 Try.sizeOf29 rfl rfl (by intro c hc; simp only [List.mem_cons, List.not_mem_nil, or_false] at hc; rcases hc with hc <;> subst hc <;> first | rfl | exact h76.oneC) rfl ?_; intro w85 hB86 hc87
            replace hc87 := hc87.bl
            replace hB86 : Bx w85 b1 [v74] 29 := hB86
            replace h76 := h76.nq hc87 q82
            have hE88 := Ext.then hE84 hc87 (Zn.bl q7)
            refine op_g ha rfl (g_assign rfl) ?_; clear ha a; intro a ha
            refine wpList_nil ?_
            replace ha := ha.sub (σ' := [(2, (.pointer (some ⟨b1, 0, none⟩))), (3, (.bool true))]) ⟨rfl, rfl, trivial⟩
            refine e_then ?_
            refine wp_ret ?_
            refine e_blk_ret ?_
            refine e_then_ret ?_
            obtain rfl := Option.some.inj hF
            exact f_retC2 (cs := [v74]) ha rfl rfl Try.isAgg29 Try.sizeOf29 hB86 rfl ⟨_, _, _, _, rfl, rfl, h76, q83, rfl, hE88⟩
          · replace hF := if_f hp73 hF
            refine wp_skip ?_
            refine e_blk ?_
            refine e_then ?_
            refine wp_seq ?_
            refine wp_region_lit ?_
            refine op_g ha rfl (g_build (vs := []) (cells := #[(.slice none 0 0)]) rfl (by rfl)) ?_; clear ha a; intro a ha
            refine o_storeA (vs := [(.slice none 0 0)]) ha hB3 Try.sizeOf29 rfl rfl (by intro c hc; simp only [List.mem_cons, List.not_mem_nil, or_false] at hc; rcases hc with hc <;> subst hc <;> first | rfl | exact rfl) rfl ?_; intro w89 hB90 hc91
            replace hc91 := hc91.bl
            replace hB90 : Bx w89 b1 [(.slice none 0 0)] 29 := hB90
            have hE92 := Ext.then hE8 hc91 (Zn.bl q7)
            refine op_g ha rfl (g_assign rfl) ?_; clear ha a; intro a ha
            refine wpList_nil ?_
            replace ha := ha.sub (σ' := [(2, (.pointer (some ⟨b1, 0, none⟩))), (3, (.bool false))]) ⟨rfl, rfl, trivial⟩
            refine e_then ?_
            refine wp_ret ?_
            obtain rfl := Option.some.inj hF
            exact f_retC2 (cs := [(.slice none 0 0)]) ha rfl rfl Try.isAgg29 Try.sizeOf29 hB90 rfl ⟨_, _, _, -1, rfl, rfl, (Ow.nil (by decide)), (.inl (by decide)), rfl, hE92⟩
set_option maxHeartbeats 2000000 in
theorem W_laws_eqFact {W : World} {a0_0 : Int} (ha0_0 : InI a0_0) {a0_1 : Int} (ha0_1 : InI a0_1) {a0_2 : Int} (ha0_2 : InI a0_2) {a1_0 : Int} (ha1_0 : InI a1_0) {a1_1 : Int} (ha1_1 : InI a1_1) {a1_2 : Int} (ha1_2 : InI a1_2) {r : Bool} (hF : F_laws_eqFact a0_0 a0_1 a0_2 a1_0 a1_1 a1_2 = some r) :
    Calls Try.prog 58 [.agg #[.int .i64 a0_0, .int .i64 a0_1, .int .i64 a0_2], .agg #[.int .i64 a1_0, .int .i64 a1_1, .int .i64 a1_2]].toArray W (Ret fun u w' => u = .bool r ∧ Ext W w') := by
  refine f_enter Try.func58 rfl Try.ntmps58 rfl ?_
  intro a ha
  replace ha : Fr 20 [(0, (.agg #[(.int .i64 a0_0), (.int .i64 a0_1), (.int .i64 a0_2)])), (1, (.agg #[(.int .i64 a1_0), (.int .i64 a1_1), (.int .i64 a1_2)]))] a := ha
  have hE : Chg [] W W := Chg.refl _ _
  unfold F_laws_eqFact at hF
  refine wp_seq ?_
  refine wp_region_lit ?_
  refine o_box ha rfl rfl rfl ?_; clear ha a; intro b1 w2 hB3 hx4 hlo5 a ha
  have q6 := Zn.one hlo5
  have q7 := Zn.upD q6 hE
  have hE8 := Ext.trans hE hx4
  refine o_box ha rfl rfl rfl ?_; clear ha a; intro b9 w10 hB11 hx12 hlo13 a ha
  have q14 := Zn.one hlo13
  have q15 := Nq.new hB3.fpb q14
  have q16 := Nq.made1 hlo13 hB3.bi
  have q17 := Zn.upD q14 hE8
  replace hB3 := hB3.ext hx12
  have hE18 := Ext.trans hE8 hx12
  refine op_g ha rfl (g_assign rfl) ?_; clear ha a; intro a ha
  refine wpList_nil ?_
  replace ha := ha.sub (σ' := [(2, (.pointer (some ⟨b1, 0, none⟩))), (3, (.pointer (some ⟨b9, 0, none⟩)))]) ⟨rfl, rfl, trivial⟩
  refine e_then ?_
  refine wp_seq ?_
  refine wp_seq ?_
  refine wp_region_lit ?_
  refine op_g ha rfl (g_field0 st60_0 rfl) ?_; clear ha a; intro a ha
  refine op_g ha rfl (g_load Try.isAgg2 rfl (hB3.cell rfl)) ?_; clear ha a; intro a ha
  refine op_g ha rfl (g_field0 st60_0 rfl) ?_; clear ha a; intro a ha
  refine op_g ha rfl (g_load Try.isAgg2 rfl (hB11.cell rfl)) ?_; clear ha a; intro a ha
  refine op_g ha rfl (g_neq rfl rfl) ?_; clear ha a; intro a ha
  refine wpList_nil ?_
  replace ha := ha.sub (σ' := [(2, (.pointer (some ⟨b1, 0, none⟩))), (3, (.pointer (some ⟨b9, 0, none⟩))), (9, (.bool (decide (a0_0 ≠ a1_0))))]) ⟨rfl, rfl, rfl, trivial⟩
  refine e_then ?_
  refine c_cond (a0_0 ≠ a1_0) ha rfl (decide_eq_true_iff) (fun hp19 => ?_) (fun hp19 => ?_)
  · replace hF := if_t hp19 hF
    refine wp_seq ?_
    refine wp_region_lit ?_
    refine op_g ha rfl (g_assign rfl) ?_; clear ha a; intro a ha
    refine wpList_nil ?_
    replace ha := ha.sub (σ' := [(4, (.bool false))]) ⟨rfl, trivial⟩
    refine e_then ?_
    refine wp_ret ?_
    refine e_then_ret ?_
    obtain rfl := Option.some.inj hF
    exact f_ret1 ha rfl rfl ⟨rfl, hE18⟩
  · replace hF := if_f hp19 hF
    refine wp_skip ?_
    refine e_then ?_
    refine wp_seq ?_
    refine wp_seq ?_
    refine wp_region_lit ?_
    refine op_g ha rfl (g_field0 st60_1 rfl) ?_; clear ha a; intro a ha
    refine op_g ha rfl (g_load Try.isAgg2 rfl (hB3.cell rfl)) ?_; clear ha a; intro a ha
    refine op_g ha rfl (g_field0 st60_1 rfl) ?_; clear ha a; intro a ha
    refine op_g ha rfl (g_load Try.isAgg2 rfl (hB11.cell rfl)) ?_; clear ha a; intro a ha
    refine op_g ha rfl (g_neq rfl rfl) ?_; clear ha a; intro a ha
    refine wpList_nil ?_
    replace ha := ha.sub (σ' := [(2, (.pointer (some ⟨b1, 0, none⟩))), (3, (.pointer (some ⟨b9, 0, none⟩))), (14, (.bool (decide (a0_1 ≠ a1_1))))]) ⟨rfl, rfl, rfl, trivial⟩
    refine e_then ?_
    refine c_cond (a0_1 ≠ a1_1) ha rfl (decide_eq_true_iff) (fun hp20 => ?_) (fun hp20 => ?_)
    · replace hF := if_t hp20 hF
      refine wp_seq ?_
      refine wp_region_lit ?_
      refine op_g ha rfl (g_assign rfl) ?_; clear ha a; intro a ha
      refine wpList_nil ?_
      replace ha := ha.sub (σ' := [(4, (.bool false))]) ⟨rfl, trivial⟩
      refine e_then ?_
      refine wp_ret ?_
      refine e_then_ret ?_
      obtain rfl := Option.some.inj hF
      exact f_ret1 ha rfl rfl ⟨rfl, hE18⟩
    · replace hF := if_f hp20 hF
      refine wp_skip ?_
      refine e_then ?_
      refine wp_seq ?_
      refine wp_seq ?_
      refine wp_region_lit ?_
      refine op_g ha rfl (g_field0 st60_2 rfl) ?_; clear ha a; intro a ha
      refine op_g ha rfl (g_load Try.isAgg2 rfl (hB3.cell rfl)) ?_; clear ha a; intro a ha
      refine op_g ha rfl (g_field0 st60_2 rfl) ?_; clear ha a; intro a ha
      refine op_g ha rfl (g_load Try.isAgg2 rfl (hB11.cell rfl)) ?_; clear ha a; intro a ha
      refine op_g ha rfl (g_neq rfl rfl) ?_; clear ha a; intro a ha
      refine wpList_nil ?_
      replace ha := ha.sub (σ' := [(19, (.bool (decide (a0_2 ≠ a1_2))))]) ⟨rfl, trivial⟩
      refine e_then ?_
      refine c_cond (a0_2 ≠ a1_2) ha rfl (decide_eq_true_iff) (fun hp21 => ?_) (fun hp21 => ?_)
      · replace hF := if_t hp21 hF
        refine wp_seq ?_
        refine wp_region_lit ?_
        refine op_g ha rfl (g_assign rfl) ?_; clear ha a; intro a ha
        refine wpList_nil ?_
        replace ha := ha.sub (σ' := [(4, (.bool false))]) ⟨rfl, trivial⟩
        refine e_then ?_
        refine wp_ret ?_
        refine e_then_ret ?_
        obtain rfl := Option.some.inj hF
        exact f_ret1 ha rfl rfl ⟨rfl, hE18⟩
      · replace hF := if_f hp21 hF
        refine wp_skip ?_
        refine e_then ?_
        refine wp_seq ?_
        refine wp_region_lit ?_
        refine op_g ha rfl (g_assign rfl) ?_; clear ha a; intro a ha
        refine wpList_nil ?_
        replace ha := ha.sub (σ' := [(4, (.bool true))]) ⟨rfl, trivial⟩
        refine e_then ?_
        refine wp_ret ?_
        obtain rfl := Option.some.inj hF
        exact f_ret1 ha rfl rfl ⟨rfl, hE18⟩
set_option maxHeartbeats 2000000 in
theorem W_laws_eqFactS {W : World} {va0 : Value} {fa0 : List Nat} {a0 : (List (Int × (Int × Int)))} (ha0 : Ro (Rp.prod Rp.int (Rp.prod Rp.int Rp.int)) W fa0 va0 a0) {va1 : Value} {fa1 : List Nat} {a1 : (List (Int × (Int × Int)))} (ha1 : Ro (Rp.prod Rp.int (Rp.prod Rp.int Rp.int)) W fa1 va1 a1) {r : Bool} (hF : F_laws_eqFactS a0 a1 = some r) :
    Calls Try.prog 39 [va0, va1].toArray W (Ret fun u w' => u = .bool r ∧ Ext W w') := by
  refine f_enter Try.func39 rfl Try.ntmps39 rfl ?_
  intro a ha
  replace ha : Fr 27 [(0, va0), (1, va1)] a := ha
  have hE : Chg [] W W := Chg.refl _ _
  unfold F_laws_eqFactS at hF
  refine wp_seq ?_
  refine wp_region_lit ?_
  refine op_g ha rfl (g_assign rfl) ?_; clear ha a; intro a ha
  refine wpList_nil ?_
  replace ha := ha.sub (σ' := [(0, va0), (1, va1)]) ⟨rfl, rfl, trivial⟩
  refine e_then ?_
  refine wp_seq ?_
  refine wp_seq ?_
  refine wp_region_lit ?_
  refine op_g ha rfl (g_move rfl) ?_; clear ha a; intro a ha
  refine op_g ha rfl (g_lenR sl27.und ha0 rfl) ?_; clear ha a; intro a ha
  refine op_g ha rfl (g_move rfl) ?_; clear ha a; intro a ha
  refine op_g ha rfl (g_lenR sl27.und ha1 rfl) ?_; clear ha a; intro a ha
  refine op_g ha rfl (g_neq rfl rfl) ?_; clear ha a; intro a ha
  refine wpList_nil ?_
  replace ha := ha.sub (σ' := [(0, va0), (1, va1), (10, (.bool (decide ((a0.length : Int) ≠ (a1.length : Int)))))]) ⟨rfl, rfl, rfl, trivial⟩
  refine e_then ?_
  refine c_cond ((a0.length : Int) ≠ (a1.length : Int)) ha rfl (decide_eq_true_iff) (fun hp1 => ?_) (fun hp1 => ?_)
  · replace hF := if_t hp1 hF
    refine wp_seq ?_
    refine wp_region_lit ?_
    refine op_g ha rfl (g_assign rfl) ?_; clear ha a; intro a ha
    refine wpList_nil ?_
    replace ha := ha.sub (σ' := [(4, (.bool false))]) ⟨rfl, trivial⟩
    refine e_then ?_
    refine wp_ret ?_
    refine e_then_ret ?_
    obtain rfl := Option.some.inj hF
    exact f_ret1 ha rfl rfl ⟨rfl, hE⟩
  · replace hF := if_f hp1 hF
    refine wp_skip ?_
    refine e_then ?_
    refine wp_seq ?_
    refine wp_seq ?_
    refine wp_region_lit ?_
    refine op_g ha rfl (g_assign rfl) ?_; clear ha a; intro a ha
    refine wpList_nil ?_
    replace ha := ha.sub (σ' := [(0, va0), (1, va1), (5, (.int .i64 0))]) ⟨rfl, rfl, rfl, trivial⟩
    refine e_then ?_
    obtain ⟨o157, ho158, hK159⟩ := bnd_some hF
    obtain ⟨n160, hn161⟩ := lp_some ho158; clear ho158
    refine c_loop (fun a w => Fr 27 [] a ∧ Chg [] W w ∧ o157 = .inl ()) (fun n a w => ∃ (i79 : Int), Fr 27 [(0, va0), (1, va1), (5, (.int .i64 i79))] a ∧ Chg [] W w ∧ InI i79 ∧ lpN (fun s => F_laws_eqFactS_l1 a0 a1 s) n i79 = some o157) n160 ⟨0, ha.sub ⟨rfl, rfl, rfl, trivial⟩, hE, (show InI 0 from by decide), hn161⟩ ?_ ?_
    · rintro m165 a w78 ⟨i79, ha, hE81, hI80, hF⟩
      cases m165 with
      | zero => exact (lpN_zero hF).elim
      | succ m165 =>
        obtain ⟨z164, hF, hN163⟩ := lpN_succ hF
        have hF : F_laws_eqFactS_l1 a0 a1 i79 = some z164 := hF; unfold F_laws_eqFactS_l1 at hF
        refine wp_seq ?_
        refine wp_seq ?_
        refine wp_region_lit ?_
        refine op_g ha rfl (g_move rfl) ?_; clear ha a; intro a ha
        refine op_g ha rfl (g_move rfl) ?_; clear ha a; intro a ha
        refine op_g ha rfl (g_lenR sl27.und ha0 rfl) ?_; clear ha a; intro a ha
        refine op_g ha rfl (g_lss rfl rfl) ?_; clear ha a; intro a ha
        refine wpList_nil ?_
        replace ha := ha.sub (σ' := [(0, va0), (1, va1), (5, (.int .i64 i79)), (14, (.bool (decide (i79 < (a0.length : Int)))))]) ⟨rfl, rfl, rfl, rfl, trivial⟩
        refine e_then ?_
        refine c_cond (i79 < (a0.length : Int)) ha rfl (decide_eq_true_iff) (fun hp166 => ?_) (fun hp166 => ?_)
        · replace hF := if_t hp166 hF
          refine wp_skip ?_
          refine e_then ?_
          refine wp_seq ?_
          refine wp_block ?_
          refine wp_seq ?_
          refine d_quiet hmix (by kernel_rfl) ?_
          refine q_g ha rfl (g_move rfl) ?_; clear ha a; intro a ha
          refine q_g ha rfl (g_move rfl) ?_; clear ha a; intro a ha
          obtain ⟨x167, g168, gx169, hF⟩ := idx_some hF
          obtain ⟨p170, cs171, f172, hf173, hpb174, hat175, hr176, hi177⟩ := ha0.at g168 gx169
          obtain ⟨f178, f179, c180, c181, rfl, rfl, h182, h183⟩ := hr176
          obtain ⟨rfl, hI186, rfl⟩ := h182
          obtain ⟨f187, f188, c189, c190, rfl, rfl, h191, h192⟩ := h183
          obtain ⟨rfl, hI195, rfl⟩ := h191
          obtain ⟨rfl, hI196, rfl⟩ := h192
          refine q_g ha rfl (hi177.gives sl27 rfl rfl) ?_; clear ha a; intro a ha
          refine q_g ha rfl (g_loadA0 (cs := [(.int .i64 x167.1), (.int .i64 x167.2.1), (.int .i64 x167.2.2)]) hE81 Try.isAgg60 Try.sizeOf60 rfl (by simp) hat175) ?_; clear ha a; intro a ha
          refine q_g ha rfl (g_move rfl) ?_; clear ha a; intro a ha
          refine q_g ha rfl (g_move rfl) ?_; clear ha a; intro a ha
          obtain ⟨x197, g198, gx199, hF⟩ := idx_some hF
          obtain ⟨p200, cs201, f202, hf203, hpb204, hat205, hr206, hi207⟩ := ha1.at g198 gx199
          obtain ⟨f208, f209, c210, c211, rfl, rfl, h212, h213⟩ := hr206
          obtain ⟨rfl, hI216, rfl⟩ := h212
          obtain ⟨f217, f218, c219, c220, rfl, rfl, h221, h222⟩ := h213
          obtain ⟨rfl, hI225, rfl⟩ := h221
          obtain ⟨rfl, hI226, rfl⟩ := h222
          refine q_g ha rfl (hi207.gives sl27 rfl rfl) ?_; clear ha a; intro a ha
          refine q_g ha rfl (g_loadA0 (cs := [(.int .i64 x197.1), (.int .i64 x197.2.1), (.int .i64 x197.2.2)]) hE81 Try.isAgg60 Try.sizeOf60 rfl (by simp) hat205) ?_; clear ha a; intro a ha
          obtain ⟨x229, hc230, hF⟩ := cal_some hF
          refine q_call (.bool x229) ha rfl rfl Try.call58 (fun w228 hx227 => W_laws_eqFact hI186 hI195 hI196 hI216 hI225 hI226 hc230) (fun _ _ _ h => ⟨h.1, h.2⟩) ?_; clear ha a; intro a ha
          refine q_g ha rfl (g_not rfl) ?_; clear ha a; intro a ha
          refine q_nil ?_; intro w231 hx232
          have hE233 := Ext.trans hE81 hx232
          replace ha := ha.sub (σ' := [(0, va0), (1, va1), (5, (.int .i64 i79)), (26, (.bool (!x229)))]) ⟨rfl, rfl, rfl, rfl, trivial⟩
          refine e_then ?_
          refine c_cond (¬ (x229 = true)) ha rfl (n_iff (Iff.rfl)) (fun hp234 => ?_) (fun hp234 => ?_)
          · replace hF := if_t hp234 hF
            refine wp_seq ?_
            refine wp_region_lit ?_
            refine op_g ha rfl (g_assign rfl) ?_; clear ha a; intro a ha
            refine wpList_nil ?_
            replace ha := ha.sub (σ' := [(4, (.bool false))]) ⟨rfl, trivial⟩
            refine e_then ?_
            refine wp_ret ?_
            refine e_blk_ret ?_
            refine e_then_ret ?_
            refine e_lq_ret ?_
            refine e_then_ret ?_
            obtain rfl := Option.some.inj hF
            have e235 := LK_inr hN163; subst e235
            have e236 := BK_inr hK159; subst e236
            exact f_ret1 ha rfl rfl ⟨rfl, hE233⟩
          · replace hF := if_f hp234 hF
            refine wp_skip ?_
            refine e_blk ?_
            refine e_then ?_
            refine wp_region_lit ?_
            refine op_g ha rfl (g_move rfl) ?_; clear ha a; intro a ha
            obtain ⟨hI237, hF⟩ := ck_some hF
            refine op_g ha rfl (g_add rfl rfl hI237) ?_; clear ha a; intro a ha
            refine op_g ha rfl (g_assign rfl) ?_; clear ha a; intro a ha
            refine wpList_nil ?_
            replace ha := ha.sub (σ' := [(0, va0), (1, va1), (5, (.int .i64 (i79 + 1)))]) ⟨rfl, rfl, rfl, trivial⟩
            refine e_lq ?_
            obtain rfl := Option.some.inj hF
            exact ⟨_, Nat.lt_succ_self _, i79 + 1, ha.sub ⟨rfl, rfl, rfl, trivial⟩, hE233, hI237, hN163⟩
        · replace hF := if_f hp166 hF
          refine wp_exit ?_
          refine e_then_exit ?_
          refine e_lq_eq ?_
          obtain rfl := Option.some.inj hF
          exact ⟨ha.sub trivial, hE81, (LK_inr hN163).symm⟩
    · rintro a w156 ⟨ha, hE162, rfl⟩
      have hF : F_laws_eqFactS_k2 = some _ := hK159; clear hK159; unfold F_laws_eqFactS_k2 at hF
      refine e_then ?_
      refine wp_seq ?_
      refine wp_region_lit ?_
      refine op_g ha rfl (g_assign rfl) ?_; clear ha a; intro a ha
      refine wpList_nil ?_
      refine e_then ?_
      refine wp_ret ?_
      obtain rfl := Option.some.inj hF
      exact f_ret1 ha rfl rfl ⟨rfl, hE162⟩
set_option maxHeartbeats 2000000 in
theorem W_laws_eqFormula {W : World} {va0_0 : Value} {fa0_0 : List Nat} {a0_0 : (List (Int × (Int × Int)))} (ha0_0 : Ro (Rp.prod Rp.int (Rp.prod Rp.int Rp.int)) W fa0_0 va0_0 a0_0) {va1_0 : Value} {fa1_0 : List Nat} {a1_0 : (List (Int × (Int × Int)))} (ha1_0 : Ro (Rp.prod Rp.int (Rp.prod Rp.int Rp.int)) W fa1_0 va1_0 a1_0) {r : Bool} (hF : F_laws_eqFormula a0_0 a1_0 = some r) :
    Calls Try.prog 17 [.agg #[va0_0], .agg #[va1_0]].toArray W (Ret fun u w' => u = .bool r ∧ Ext W w') := by
  refine f_enter Try.func17 rfl Try.ntmps17 rfl ?_
  intro a ha
  replace ha : Fr 11 [(0, (.agg #[va0_0])), (1, (.agg #[va1_0]))] a := ha
  have hE : Chg [] W W := Chg.refl _ _
  unfold F_laws_eqFormula at hF
  refine wp_seq ?_
  refine wp_region_lit ?_
  refine o_box ha rfl rfl rfl ?_; clear ha a; intro b1 w2 hB3 hx4 hlo5 a ha
  have q6 := Zn.one hlo5
  have q7 := Zn.upD q6 hE
  have hE8 := Ext.trans hE hx4
  refine o_box ha rfl rfl rfl ?_; clear ha a; intro b9 w10 hB11 hx12 hlo13 a ha
  have q14 := Zn.one hlo13
  have q15 := Nq.new hB3.fpb q14
  have q16 := Nq.made1 hlo13 hB3.bi
  have q17 := Zn.upD q14 hE8
  replace hB3 := hB3.ext hx12
  have hE18 := Ext.trans hE8 hx12
  refine op_g ha rfl (g_assign rfl) ?_; clear ha a; intro a ha
  refine wpList_nil ?_
  replace ha := ha.sub (σ' := [(2, (.pointer (some ⟨b1, 0, none⟩))), (3, (.pointer (some ⟨b9, 0, none⟩)))]) ⟨rfl, rfl, trivial⟩
  refine e_then ?_
  refine wp_seq ?_
  refine wp_seq ?_
  refine wp_region_lit ?_
  refine op_g ha rfl (g_field0 st29_0 rfl) ?_; clear ha a; intro a ha
  refine op_g ha rfl (g_load Try.isAgg27 rfl (hB3.cell rfl)) ?_; clear ha a; intro a ha
  refine op_g ha rfl (g_field0 st29_0 rfl) ?_; clear ha a; intro a ha
  refine op_g ha rfl (g_load Try.isAgg27 rfl (hB11.cell rfl)) ?_; clear ha a; intro a ha
  obtain ⟨x19, hc20, hF⟩ := cal_some hF
  refine o_call ha rfl rfl Try.call39 (W_laws_eqFactS (ha0_0.ext hE18) (ha1_0.ext hE18) hc20) ?_; clear ha a; rintro v21 w22 ⟨rfl, hx23⟩ a ha
  replace hB3 := hB3.ext hx23
  replace hB11 := hB11.ext hx23
  have hE24 := Ext.trans hE18 hx23
  refine op_g ha rfl (g_not rfl) ?_; clear ha a; intro a ha
  refine wpList_nil ?_
  replace ha := ha.sub (σ' := [(10, (.bool (!x19)))]) ⟨rfl, trivial⟩
  refine e_then ?_
  refine c_cond (¬ (x19 = true)) ha rfl (n_iff (Iff.rfl)) (fun hp25 => ?_) (fun hp25 => ?_)
  · replace hF := if_t hp25 hF
    refine wp_seq ?_
    refine wp_region_lit ?_
    refine op_g ha rfl (g_assign rfl) ?_; clear ha a; intro a ha
    refine wpList_nil ?_
    replace ha := ha.sub (σ' := [(4, (.bool false))]) ⟨rfl, trivial⟩
    refine e_then ?_
    refine wp_ret ?_
    refine e_then_ret ?_
    obtain rfl := Option.some.inj hF
    exact f_ret1 ha rfl rfl ⟨rfl, hE24⟩
  · replace hF := if_f hp25 hF
    refine wp_skip ?_
    refine e_then ?_
    refine wp_seq ?_
    refine wp_region_lit ?_
    refine op_g ha rfl (g_assign rfl) ?_; clear ha a; intro a ha
    refine wpList_nil ?_
    replace ha := ha.sub (σ' := [(4, (.bool true))]) ⟨rfl, trivial⟩
    refine e_then ?_
    refine wp_ret ?_
    obtain rfl := Option.some.inj hF
    exact f_ret1 ha rfl rfl ⟨rfl, hE24⟩
set_option maxHeartbeats 2000000 in
theorem W_laws_markFactS {W : World} {va0 : Value} {ba0 : Int} {a0 : (List (Int × (Int × Int)))} (ha0 : Ow (Rp.prod Rp.int (Rp.prod Rp.int Rp.int)) 60 true W [] ba0 va0 a0) {a1 : Int} (ha1 : InI a1) {r : (Int × (List (Int × (Int × Int))))} (hF : F_laws_markFactS a0 a1 = some r) :
    Calls Try.prog 40 [va0, .int .i64 a1].toArray W (Ret fun u w' => (u = .int .i64 r.1 ∧ InI r.1) ∧ Ow (Rp.prod Rp.int (Rp.prod Rp.int Rp.int)) 60 true w' [] ba0 va0 r.2 ∧ Chg (bl ba0) W w') := by
  refine f_enter Try.func40 rfl Try.ntmps40 rfl ?_
  intro a ha
  replace ha : Fr 34 [(0, va0), (1, (.int .i64 a1))] a := ha
  have hE : Chg (bl ba0) W W := Chg.refl _ _
  unfold F_laws_markFactS at hF
  refine wp_seq ?_
  refine wp_region_lit ?_
  refine op_g ha rfl (g_assign rfl) ?_; clear ha a; intro a ha
  refine wpList_nil ?_
  replace ha := ha.sub (σ' := [(0, va0), (1, (.int .i64 a1))]) ⟨rfl, rfl, trivial⟩
  refine e_then ?_
  refine wp_seq ?_
  refine wp_seq ?_
  refine wp_region_lit ?_
  refine op_g ha rfl (g_assign rfl) ?_; clear ha a; intro a ha
  refine wpList_nil ?_
  refine e_then ?_
  obtain ⟨o273, ho274, hK275⟩ := bnd_some hF
  obtain ⟨n276, hn277⟩ := lp_some ho274; clear ho274
  refine c_loop (fun a w => ∃ (i267 : Int) (l270 : (List (Int × (Int × Int)))), Fr 34 [(1, (.int .i64 i267))] a ∧ Chg (bl ba0) W w ∧ InI i267 ∧ Ow (Rp.prod Rp.int (Rp.prod Rp.int Rp.int)) 60 true w [] ba0 va0 l270 ∧ o273 = .inl (i267, l270)) (fun n a w => ∃ (l132 : (List (Int × (Int × Int)))) (i135 : Int) (i137 : Int), Fr 34 [(0, va0), (1, (.int .i64 i135)), (5, (.int .i64 i137))] a ∧ Chg (bl ba0) W w ∧ InI i135 ∧ InI i137 ∧ Ow (Rp.prod Rp.int (Rp.prod Rp.int Rp.int)) 60 true w [] ba0 va0 l132 ∧ lpN (fun s => F_laws_markFactS_l1 s.1 s.2.1 s.2.2) n (l132, i135, i137) = some o273) n276 ⟨a0, a1, 0, ha.sub ⟨rfl, rfl, rfl, trivial⟩, hE, ha1, (show InI 0 from by decide), ha0, hn277⟩ ?_ ?_
  · rintro m281 a w130 ⟨l132, i135, i137, ha, hE139, hI136, hI138, h131, hF⟩
    cases m281 with
    | zero => exact (lpN_zero hF).elim
    | succ m281 =>
      obtain ⟨z280, hF, hN279⟩ := lpN_succ hF
      have hF : F_laws_markFactS_l1 l132 i135 i137 = some z280 := hF; unfold F_laws_markFactS_l1 at hF
      refine wp_seq ?_
      refine wp_seq ?_
      refine wp_region_lit ?_
      refine op_g ha rfl (g_move rfl) ?_; clear ha a; intro a ha
      refine op_g ha rfl (g_move rfl) ?_; clear ha a; intro a ha
      refine op_g ha rfl (g_lenO sl27.und h131 rfl) ?_; clear ha a; intro a ha
      refine op_g ha rfl (g_lss rfl rfl) ?_; clear ha a; intro a ha
      refine wpList_nil ?_
      replace ha := ha.sub (σ' := [(0, va0), (1, (.int .i64 i135)), (5, (.int .i64 i137)), (9, (.bool (decide (i137 < (l132.length : Int)))))]) ⟨rfl, rfl, rfl, rfl, trivial⟩
      refine e_then ?_
      refine c_cond (i137 < (l132.length : Int)) ha rfl (decide_eq_true_iff) (fun hp282 => ?_) (fun hp282 => ?_)
      · replace hF := if_t hp282 hF
        refine wp_skip ?_
        refine e_then ?_
        refine wp_seq ?_
        refine wp_block ?_
        refine wp_seq ?_
        refine wp_region_lit ?_
        refine op_g ha rfl (g_move rfl) ?_; clear ha a; intro a ha
        refine op_g ha rfl (g_move rfl) ?_; clear ha a; intro a ha
        refine op_g ha rfl (g_move rfl) ?_; clear ha a; intro a ha
        obtain ⟨x283, g284, gx285, hF⟩ := idx_some hF
        obtain ⟨p286, cs287, f288, hf289, hpb290, hat291, hr292, hi293⟩ := h131.at g284 gx285
        obtain ⟨f294, f295, c296, c297, rfl, rfl, h298, h299⟩ := hr292
        obtain ⟨rfl, hI302, rfl⟩ := h298
        obtain ⟨f303, f304, c305, c306, rfl, rfl, h307, h308⟩ := h299
        obtain ⟨rfl, hI311, rfl⟩ := h307
        obtain ⟨rfl, hI312, rfl⟩ := h308
        refine op_g ha rfl (hi293.gives sl27 rfl rfl) ?_; clear ha a; intro a ha
        refine op_g ha rfl (g_field st60_0 rfl) ?_; clear ha a; intro a ha
        refine o_storeF (cs := [(.int .i64 x283.1), (.int .i64 x283.2.1), (.int .i64 x283.2.2)]) (c := [(.int .i64 i135), (.int .i64 x283.2.1), (.int .i64 x283.2.2)]) (f := []) (q := (i135, x283.2.1, x283.2.2)) ha Try.sizeOf2 rfl rfl rfl h131 hi293 hat291 ⟨[], [], [_], _, rfl, rfl, ⟨rfl, hI136, rfl⟩, ⟨[], [], [_], _, rfl, rfl, ⟨rfl, hI311, rfl⟩, ⟨rfl, hI312, rfl⟩⟩⟩ rfl rfl rfl rfl (Nq.nil _) ?_; intro w313 fs314 h315 hc316 hs317
        obtain rfl := Subst.nil hs317
        have hE318 := Chg.same hE139 hc316
        refine wpList_nil ?_
        replace ha := ha.sub (σ' := [(0, va0), (1, (.int .i64 i135)), (5, (.int .i64 i137))]) ⟨rfl, rfl, rfl, trivial⟩
        refine e_then ?_
        refine wp_seq ?_
        refine wp_region_lit ?_
        refine op_g ha rfl (g_move rfl) ?_; clear ha a; intro a ha
        obtain ⟨hI319, hF⟩ := ck_some hF
        refine op_g ha rfl (g_add rfl rfl hI319) ?_; clear ha a; intro a ha
        refine op_g ha rfl (g_assign rfl) ?_; clear ha a; intro a ha
        refine wpList_nil ?_
        replace ha := ha.sub (σ' := [(0, va0), (1, (.int .i64 (i135 + 1))), (5, (.int .i64 i137))]) ⟨rfl, rfl, rfl, trivial⟩
        refine e_then ?_
        refine wp_seq ?_
        refine wp_region_lit ?_
        refine op_g ha rfl (g_move rfl) ?_; clear ha a; intro a ha
        refine op_g ha rfl (g_move rfl) ?_; clear ha a; intro a ha
        refine op_g ha rfl (g_move rfl) ?_; clear ha a; intro a ha
        obtain ⟨x321, g322, gx323, hF⟩ := idx_some hF
        obtain ⟨p324, cs325, f326, hf327, hpb328, hat329, hr330, hi331⟩ := h315.at g322 gx323
        obtain ⟨f332, f333, c334, c335, rfl, rfl, h336, h337⟩ := hr330
        obtain ⟨rfl, hI340, rfl⟩ := h336
        obtain ⟨f341, f342, c343, c344, rfl, rfl, h345, h346⟩ := h337
        obtain ⟨rfl, hI349, rfl⟩ := h345
        obtain ⟨rfl, hI350, rfl⟩ := h346
        refine op_g ha rfl (hi331.gives sl27 rfl rfl) ?_; clear ha a; intro a ha
        refine op_g ha rfl (g_field st60_1 rfl) ?_; clear ha a; intro a ha
        refine o_storeF (cs := [(.int .i64 x321.1), (.int .i64 x321.2.1), (.int .i64 x321.2.2)]) (c := [(.int .i64 x321.1), (.int .i64 (i135 + 1)), (.int .i64 x321.2.2)]) (f := []) (q := (x321.1, i135 + 1, x321.2.2)) ha Try.sizeOf2 rfl rfl rfl h315 hi331 hat329 ⟨[], [], [_], _, rfl, rfl, ⟨rfl, hI340, rfl⟩, ⟨[], [], [_], _, rfl, rfl, ⟨rfl, hI319, rfl⟩, ⟨rfl, hI350, rfl⟩⟩⟩ rfl rfl rfl rfl (Nq.nil _) ?_; intro w351 fs352 h353 hc354 hs355
        obtain rfl := Subst.nil hs355
        have hE356 := Chg.same hE318 hc354
        refine wpList_nil ?_
        replace ha := ha.sub (σ' := [(0, va0), (1, (.int .i64 (i135 + 1))), (5, (.int .i64 i137))]) ⟨rfl, rfl, rfl, trivial⟩
        refine e_then ?_
        refine wp_seq ?_
        refine wp_region_lit ?_
        refine op_g ha rfl (g_move rfl) ?_; clear ha a; intro a ha
        obtain ⟨hI357, hF⟩ := ck_some hF
        refine op_g ha rfl (g_add rfl rfl hI357) ?_; clear ha a; intro a ha
        refine op_g ha rfl (g_assign rfl) ?_; clear ha a; intro a ha
        refine wpList_nil ?_
        replace ha := ha.sub (σ' := [(0, va0), (1, (.int .i64 ((i135 + 1) + 1))), (5, (.int .i64 i137))]) ⟨rfl, rfl, rfl, trivial⟩
        refine e_then ?_
        refine wp_seq ?_
        refine wp_region_lit ?_
        refine op_g ha rfl (g_move rfl) ?_; clear ha a; intro a ha
        refine op_g ha rfl (g_move rfl) ?_; clear ha a; intro a ha
        refine op_g ha rfl (g_move rfl) ?_; clear ha a; intro a ha
        obtain ⟨x359, g360, gx361, hF⟩ := idx_some hF
        obtain ⟨p362, cs363, f364, hf365, hpb366, hat367, hr368, hi369⟩ := h353.at g360 gx361
        obtain ⟨f370, f371, c372, c373, rfl, rfl, h374, h375⟩ := hr368
        obtain ⟨rfl, hI378, rfl⟩ := h374
        obtain ⟨f379, f380, c381, c382, rfl, rfl, h383, h384⟩ := h375
        obtain ⟨rfl, hI387, rfl⟩ := h383
        obtain ⟨rfl, hI388, rfl⟩ := h384
        refine op_g ha rfl (hi369.gives sl27 rfl rfl) ?_; clear ha a; intro a ha
        refine op_g ha rfl (g_field st60_2 rfl) ?_; clear ha a; intro a ha
        refine o_storeF (cs := [(.int .i64 x359.1), (.int .i64 x359.2.1), (.int .i64 x359.2.2)]) (c := [(.int .i64 x359.1), (.int .i64 x359.2.1), (.int .i64 ((i135 + 1) + 1))]) (f := []) (q := (x359.1, x359.2.1, (i135 + 1) + 1)) ha Try.sizeOf2 rfl rfl rfl h353 hi369 hat367 ⟨[], [], [_], _, rfl, rfl, ⟨rfl, hI378, rfl⟩, ⟨[], [], [_], _, rfl, rfl, ⟨rfl, hI387, rfl⟩, ⟨rfl, hI357, rfl⟩⟩⟩ rfl rfl rfl rfl (Nq.nil _) ?_; intro w389 fs390 h391 hc392 hs393
        obtain rfl := Subst.nil hs393
        have hE394 := Chg.same hE356 hc392
        refine wpList_nil ?_
        replace ha := ha.sub (σ' := [(0, va0), (1, (.int .i64 ((i135 + 1) + 1))), (5, (.int .i64 i137))]) ⟨rfl, rfl, rfl, trivial⟩
        refine e_then ?_
        refine wp_region_lit ?_
        refine op_g ha rfl (g_move rfl) ?_; clear ha a; intro a ha
        obtain ⟨hI395, hF⟩ := ck_some hF
        refine op_g ha rfl (g_add rfl rfl hI395) ?_; clear ha a; intro a ha
        refine op_g ha rfl (g_assign rfl) ?_; clear ha a; intro a ha
        refine wpList_nil ?_
        replace ha := ha.sub (σ' := [(0, va0), (1, (.int .i64 (((i135 + 1) + 1) + 1))), (5, (.int .i64 i137))]) ⟨rfl, rfl, rfl, trivial⟩
        refine e_blk ?_
        refine e_then ?_
        refine wp_region_lit ?_
        refine op_g ha rfl (g_move rfl) ?_; clear ha a; intro a ha
        obtain ⟨hI397, hF⟩ := ck_some hF
        refine op_g ha rfl (g_add rfl rfl hI397) ?_; clear ha a; intro a ha
        refine op_g ha rfl (g_assign rfl) ?_; clear ha a; intro a ha
        refine wpList_nil ?_
        replace ha := ha.sub (σ' := [(0, va0), (1, (.int .i64 (((i135 + 1) + 1) + 1))), (5, (.int .i64 (i137 + 1)))]) ⟨rfl, rfl, rfl, trivial⟩
        refine e_lq ?_
        obtain rfl := Option.some.inj hF
        exact ⟨_, Nat.lt_succ_self _, (((l132.set ((i137).toNat) (i135, x283.2.1, x283.2.2)).set ((i137).toNat) (x321.1, i135 + 1, x321.2.2)).set ((i137).toNat) (x359.1, x359.2.1, (i135 + 1) + 1)), ((i135 + 1) + 1) + 1, i137 + 1, ha.sub ⟨rfl, rfl, rfl, trivial⟩, hE394, hI395, hI397, h391, hN279⟩
      · replace hF := if_f hp282 hF
        refine wp_exit ?_
        refine e_then_exit ?_
        refine e_lq_eq ?_
        obtain rfl := Option.some.inj hF
        exact ⟨i135, l132, ha.sub ⟨rfl, trivial⟩, hE139, hI136, h131, (LK_inr hN279).symm⟩
  · rintro a w266 ⟨i267, l270, ha, hE278, hI268, h269, rfl⟩
    have hF : F_laws_markFactS_k2 i267 l270 = some _ := hK275; clear hK275; unfold F_laws_markFactS_k2 at hF
    refine e_then ?_
    refine wp_seq ?_
    refine wp_region_lit ?_
    refine op_g ha rfl (g_move rfl) ?_; clear ha a; intro a ha
    refine op_g ha rfl (g_assign rfl) ?_; clear ha a; intro a ha
    refine wpList_nil ?_
    replace ha := ha.sub (σ' := [(4, (.int .i64 i267))]) ⟨rfl, trivial⟩
    refine e_then ?_
    refine wp_ret ?_
    obtain rfl := Option.some.inj hF
    exact f_ret1 ha rfl rfl ⟨⟨rfl, hI268⟩, h269, hE278⟩
set_option maxHeartbeats 2000000 in
theorem W_laws_markFormula {W : World} {va0_0 : Value} {ba0_0 : Int} {a0_0 : (List (Int × (Int × Int)))} (ha0_0 : Ow (Rp.prod Rp.int (Rp.prod Rp.int Rp.int)) 60 true W [] ba0_0 va0_0 a0_0) {a1 : Int} (ha1 : InI a1) {r : (Int × (List (Int × (Int × Int))))} (hF : F_laws_markFormula a0_0 a1 = some r) :
    Calls Try.prog 18 [.agg #[va0_0], .int .i64 a1].toArray W (Ret fun u w' => (u = .int .i64 r.1 ∧ InI r.1) ∧ Ow (Rp.prod Rp.int (Rp.prod Rp.int Rp.int)) 60 true w' [] ba0_0 va0_0 r.2 ∧ Chg (bl ba0_0) W w') := by
  refine f_enter Try.func18 rfl Try.ntmps18 rfl ?_
  intro a ha
  replace ha : Fr 10 [(0, (.agg #[va0_0])), (1, (.int .i64 a1))] a := ha
  have hE : Chg (bl ba0_0) W W := Chg.refl _ _
  unfold F_laws_markFormula at hF
  refine wp_seq ?_
  refine wp_region_lit ?_
  refine o_box ha rfl rfl rfl ?_; clear ha a; intro b1 w2 hB3 hx4 hlo5 a ha
  have q6 := Zn.one hlo5
  have q7 := Nq.new ha0_0.fpb q6
  have q8 := Nq.made1 hlo5 ha0_0.blt
  have q9 := Zn.upD q6 hE
  replace ha0_0 := ha0_0.ext hx4
  have hE10 := Chg.more hE hx4
  refine op_g ha rfl (g_assign rfl) ?_; clear ha a; intro a ha
  refine wpList_nil ?_
  replace ha := ha.sub (σ' := [(1, (.int .i64 a1)), (2, (.pointer (some ⟨b1, 0, none⟩)))]) ⟨rfl, rfl, trivial⟩
  refine e_then ?_
  refine wp_seq ?_
  refine wp_region_lit ?_
  refine op_g ha rfl (g_field0 st29_0 rfl) ?_; clear ha a; intro a ha
  refine op_g ha rfl (g_load Try.isAgg27 rfl (hB3.cell rfl)) ?_; clear ha a; intro a ha
  refine op_g ha rfl (g_move rfl) ?_; clear ha a; intro a ha
  obtain ⟨x11, hc12, hF⟩ := cal_some hF
  refine o_call ha rfl rfl Try.call40 (W_laws_markFactS ha0_0 ha1 hc12) ?_; clear ha a; rintro v13 w14 ⟨⟨rfl, hI16⟩, h17, hx15⟩ a ha
  replace hB3 := hB3.nq hx15 q8
  have hE18 := Chg.same hE10 hx15
  refine op_g ha rfl (g_assign rfl) ?_; clear ha a; intro a ha
  refine wpList_nil ?_
  replace ha := ha.sub (σ' := [(1, (.int .i64 x11.1))]) ⟨rfl, trivial⟩
  refine e_then ?_
  refine wp_seq ?_
  refine wp_region_lit ?_
  refine op_g ha rfl (g_move rfl) ?_; clear ha a; intro a ha
  refine op_g ha rfl (g_assign rfl) ?_; clear ha a; intro a ha
  refine wpList_nil ?_
  replace ha := ha.sub (σ' := [(4, (.int .i64 x11.1))]) ⟨rfl, trivial⟩
  refine e_then ?_
  refine wp_ret ?_
  obtain rfl := Option.some.inj hF
  exact f_ret1 ha rfl rfl ⟨⟨rfl, hI16⟩, h17, hE18⟩
set_option maxHeartbeats 2000000 in
theorem W_laws_heldFactS {W : World} {va0 : Value} {fa0 : List Nat} {a0 : (List (Int × (Int × Int)))} (ha0 : Ro (Rp.prod Rp.int (Rp.prod Rp.int Rp.int)) W fa0 va0 a0) {a1 : Int} (ha1 : InI a1) {r : Int} (hF : F_laws_heldFactS a0 a1 = some r) :
    Calls Try.prog 41 [va0, .int .i64 a1].toArray W (Ret fun u w' => (u = .int .i64 r ∧ InI r) ∧ Ext W w') := by
  refine f_enter Try.func41 rfl Try.ntmps41 rfl ?_
  intro a ha
  replace ha : Fr 40 [(0, va0), (1, (.int .i64 a1))] a := ha
  have hE : Chg [] W W := Chg.refl _ _
  unfold F_laws_heldFactS at hF
  refine wp_seq ?_
  refine wp_region_lit ?_
  refine op_g ha rfl (g_assign rfl) ?_; clear ha a; intro a ha
  refine wpList_nil ?_
  replace ha := ha.sub (σ' := [(0, va0), (1, (.int .i64 a1))]) ⟨rfl, rfl, trivial⟩
  refine e_then ?_
  refine wp_seq ?_
  refine wp_seq ?_
  refine wp_region_lit ?_
  refine op_g ha rfl (g_assign rfl) ?_; clear ha a; intro a ha
  refine wpList_nil ?_
  refine e_then ?_
  obtain ⟨o226, ho227, hK228⟩ := bnd_some hF
  obtain ⟨n229, hn230⟩ := lp_some ho227; clear ho227
  refine c_loop (fun a w => ∃ (i224 : Int), Fr 40 [(1, (.int .i64 i224))] a ∧ Chg [] W w ∧ InI i224 ∧ o226 = .inl i224) (fun n a w => ∃ (i111 : Int) (i113 : Int), Fr 40 [(0, va0), (1, (.int .i64 i111)), (5, (.int .i64 i113))] a ∧ Chg [] W w ∧ InI i111 ∧ InI i113 ∧ lpN (fun s => F_laws_heldFactS_l1 a0 s.1 s.2) n (i111, i113) = some o226) n229 ⟨a1, 0, ha.sub ⟨rfl, rfl, rfl, trivial⟩, hE, ha1, (show InI 0 from by decide), hn230⟩ ?_ ?_
  · rintro m234 a w110 ⟨i111, i113, ha, hE115, hI112, hI114, hF⟩
    cases m234 with
    | zero => exact (lpN_zero hF).elim
    | succ m234 =>
      obtain ⟨z233, hF, hN232⟩ := lpN_succ hF
      have hF : F_laws_heldFactS_l1 a0 i111 i113 = some z233 := hF; unfold F_laws_heldFactS_l1 at hF
      refine wp_seq ?_
      refine wp_seq ?_
      refine wp_region_lit ?_
      refine op_g ha rfl (g_move rfl) ?_; clear ha a; intro a ha
      refine op_g ha rfl (g_move rfl) ?_; clear ha a; intro a ha
      refine op_g ha rfl (g_lenR sl27.und ha0 rfl) ?_; clear ha a; intro a ha
      refine op_g ha rfl (g_lss rfl rfl) ?_; clear ha a; intro a ha
      refine wpList_nil ?_
      replace ha := ha.sub (σ' := [(0, va0), (1, (.int .i64 i111)), (5, (.int .i64 i113)), (9, (.bool (decide (i113 < (a0.length : Int)))))]) ⟨rfl, rfl, rfl, rfl, trivial⟩
      refine e_then ?_
      refine c_cond (i113 < (a0.length : Int)) ha rfl (decide_eq_true_iff) (fun hp235 => ?_) (fun hp235 => ?_)
      · replace hF := if_t hp235 hF
        refine wp_skip ?_
        refine e_then ?_
        refine wp_seq ?_
        refine wp_block ?_
        refine wp_seq ?_
        refine wp_seq ?_
        refine wp_region_lit ?_
        refine op_g ha rfl (g_move rfl) ?_; clear ha a; intro a ha
        refine op_g ha rfl (g_move rfl) ?_; clear ha a; intro a ha
        obtain ⟨x236, g237, gx238, hF⟩ := idx_some hF
        obtain ⟨p239, cs240, f241, hf242, hpb243, hat244, hr245, hi246⟩ := ha0.at g237 gx238
        obtain ⟨f247, f248, c249, c250, rfl, rfl, h251, h252⟩ := hr245
        obtain ⟨rfl, hI255, rfl⟩ := h251
        obtain ⟨f256, f257, c258, c259, rfl, rfl, h260, h261⟩ := h252
        obtain ⟨rfl, hI264, rfl⟩ := h260
        obtain ⟨rfl, hI265, rfl⟩ := h261
        refine op_g ha rfl (hi246.gives sl27 rfl rfl) ?_; clear ha a; intro a ha
        refine op_g ha rfl (g_field st60_0 rfl) ?_; clear ha a; intro a ha
        refine op_g ha rfl (g_load0 hE115 Try.isAgg2 rfl (hat244 0 _ rfl)) ?_; clear ha a; intro a ha
        refine op_g ha rfl (g_move rfl) ?_; clear ha a; intro a ha
        refine op_g ha rfl (g_neq rfl rfl) ?_; clear ha a; intro a ha
        refine wpList_nil ?_
        replace ha := ha.sub (σ' := [(0, va0), (1, (.int .i64 i111)), (5, (.int .i64 i113)), (18, (.bool (decide (x236.1 ≠ i111))))]) ⟨rfl, rfl, rfl, rfl, trivial⟩
        refine e_then ?_
        refine c_cond (x236.1 ≠ i111) ha rfl (decide_eq_true_iff) (fun hp266 => ?_) (fun hp266 => ?_)
        · replace hF := if_t hp266 hF
          refine wp_seq ?_
          refine wp_region_lit ?_
          refine op_g ha rfl (g_assign rfl) ?_; clear ha a; intro a ha
          refine wpList_nil ?_
          replace ha := ha.sub (σ' := [(4, (.int .i64 (-1)))]) ⟨rfl, trivial⟩
          refine e_then ?_
          refine wp_ret ?_
          refine e_then_ret ?_
          refine e_blk_ret ?_
          refine e_then_ret ?_
          refine e_lq_ret ?_
          refine e_then_ret ?_
          obtain rfl := Option.some.inj hF
          have e267 := LK_inr hN232; subst e267
          have e268 := BK_inr hK228; subst e268
          exact f_ret1 ha rfl rfl ⟨⟨rfl, (show InI (-1) from by decide)⟩, hE115⟩
        · replace hF := if_f hp266 hF
          refine wp_skip ?_
          refine e_then ?_
          refine wp_seq ?_
          refine wp_region_lit ?_
          refine op_g ha rfl (g_move rfl) ?_; clear ha a; intro a ha
          obtain ⟨hI269, hF⟩ := ck_some hF
          refine op_g ha rfl (g_add rfl rfl hI269) ?_; clear ha a; intro a ha
          refine op_g ha rfl (g_assign rfl) ?_; clear ha a; intro a ha
          refine wpList_nil ?_
          replace ha := ha.sub (σ' := [(0, va0), (1, (.int .i64 (i111 + 1))), (5, (.int .i64 i113))]) ⟨rfl, rfl, rfl, trivial⟩
          refine e_then ?_
          refine wp_seq ?_
          refine wp_seq ?_
          refine wp_region_lit ?_
          refine op_g ha rfl (g_move rfl) ?_; clear ha a; intro a ha
          refine op_g ha rfl (g_move rfl) ?_; clear ha a; intro a ha
          obtain ⟨x271, g272, gx273, hF⟩ := idx_some hF
          obtain ⟨p274, cs275, f276, hf277, hpb278, hat279, hr280, hi281⟩ := ha0.at g272 gx273
          obtain ⟨f282, f283, c284, c285, rfl, rfl, h286, h287⟩ := hr280
          obtain ⟨rfl, hI290, rfl⟩ := h286
          obtain ⟨f291, f292, c293, c294, rfl, rfl, h295, h296⟩ := h287
          obtain ⟨rfl, hI299, rfl⟩ := h295
          obtain ⟨rfl, hI300, rfl⟩ := h296
          refine op_g ha rfl (hi281.gives sl27 rfl rfl) ?_; clear ha a; intro a ha
          refine op_g ha rfl (g_field st60_1 rfl) ?_; clear ha a; intro a ha
          refine op_g ha rfl (g_load0 hE115 Try.isAgg2 rfl (hat279 1 _ rfl)) ?_; clear ha a; intro a ha
          refine op_g ha rfl (g_move rfl) ?_; clear ha a; intro a ha
          refine op_g ha rfl (g_neq rfl rfl) ?_; clear ha a; intro a ha
          refine wpList_nil ?_
          replace ha := ha.sub (σ' := [(0, va0), (1, (.int .i64 (i111 + 1))), (5, (.int .i64 i113)), (27, (.bool (decide (x271.2.1 ≠ (i111 + 1)))))]) ⟨rfl, rfl, rfl, rfl, trivial⟩
          refine e_then ?_
          refine c_cond (x271.2.1 ≠ (i111 + 1)) ha rfl (decide_eq_true_iff) (fun hp301 => ?_) (fun hp301 => ?_)
          · replace hF := if_t hp301 hF
            refine wp_seq ?_
            refine wp_region_lit ?_
            refine op_g ha rfl (g_assign rfl) ?_; clear ha a; intro a ha
            refine wpList_nil ?_
            replace ha := ha.sub (σ' := [(4, (.int .i64 (-1)))]) ⟨rfl, trivial⟩
            refine e_then ?_
            refine wp_ret ?_
            refine e_then_ret ?_
            refine e_blk_ret ?_
            refine e_then_ret ?_
            refine e_lq_ret ?_
            refine e_then_ret ?_
            obtain rfl := Option.some.inj hF
            have e302 := LK_inr hN232; subst e302
            have e303 := BK_inr hK228; subst e303
            exact f_ret1 ha rfl rfl ⟨⟨rfl, (show InI (-1) from by decide)⟩, hE115⟩
          · replace hF := if_f hp301 hF
            refine wp_skip ?_
            refine e_then ?_
            refine wp_seq ?_
            refine wp_region_lit ?_
            refine op_g ha rfl (g_move rfl) ?_; clear ha a; intro a ha
            obtain ⟨hI304, hF⟩ := ck_some hF
            refine op_g ha rfl (g_add rfl rfl hI304) ?_; clear ha a; intro a ha
            refine op_g ha rfl (g_assign rfl) ?_; clear ha a; intro a ha
            refine wpList_nil ?_
            replace ha := ha.sub (σ' := [(0, va0), (1, (.int .i64 ((i111 + 1) + 1))), (5, (.int .i64 i113))]) ⟨rfl, rfl, rfl, trivial⟩
            refine e_then ?_
            refine wp_seq ?_
            refine wp_seq ?_
            refine wp_region_lit ?_
            refine op_g ha rfl (g_move rfl) ?_; clear ha a; intro a ha
            refine op_g ha rfl (g_move rfl) ?_; clear ha a; intro a ha
            obtain ⟨x306, g307, gx308, hF⟩ := idx_some hF
            obtain ⟨p309, cs310, f311, hf312, hpb313, hat314, hr315, hi316⟩ := ha0.at g307 gx308
            obtain ⟨f317, f318, c319, c320, rfl, rfl, h321, h322⟩ := hr315
            obtain ⟨rfl, hI325, rfl⟩ := h321
            obtain ⟨f326, f327, c328, c329, rfl, rfl, h330, h331⟩ := h322
            obtain ⟨rfl, hI334, rfl⟩ := h330
            obtain ⟨rfl, hI335, rfl⟩ := h331
            refine op_g ha rfl (hi316.gives sl27 rfl rfl) ?_; clear ha a; intro a ha
            refine op_g ha rfl (g_field st60_2 rfl) ?_; clear ha a; intro a ha
            refine op_g ha rfl (g_load0 hE115 Try.isAgg2 rfl (hat314 2 _ rfl)) ?_; clear ha a; intro a ha
            refine op_g ha rfl (g_move rfl) ?_; clear ha a; intro a ha
            refine op_g ha rfl (g_neq rfl rfl) ?_; clear ha a; intro a ha
            refine wpList_nil ?_
            replace ha := ha.sub (σ' := [(0, va0), (1, (.int .i64 ((i111 + 1) + 1))), (5, (.int .i64 i113)), (36, (.bool (decide (x306.2.2 ≠ ((i111 + 1) + 1)))))]) ⟨rfl, rfl, rfl, rfl, trivial⟩
            refine e_then ?_
            refine c_cond (x306.2.2 ≠ ((i111 + 1) + 1)) ha rfl (decide_eq_true_iff) (fun hp336 => ?_) (fun hp336 => ?_)
            · replace hF := if_t hp336 hF
              refine wp_seq ?_
              refine wp_region_lit ?_
              refine op_g ha rfl (g_assign rfl) ?_; clear ha a; intro a ha
              refine wpList_nil ?_
              replace ha := ha.sub (σ' := [(4, (.int .i64 (-1)))]) ⟨rfl, trivial⟩
              refine e_then ?_
              refine wp_ret ?_
              refine e_then_ret ?_
              refine e_blk_ret ?_
              refine e_then_ret ?_
              refine e_lq_ret ?_
              refine e_then_ret ?_
              obtain rfl := Option.some.inj hF
              have e337 := LK_inr hN232; subst e337
              have e338 := BK_inr hK228; subst e338
              exact f_ret1 ha rfl rfl ⟨⟨rfl, (show InI (-1) from by decide)⟩, hE115⟩
            · replace hF := if_f hp336 hF
              refine wp_skip ?_
              refine e_then ?_
              refine wp_region_lit ?_
              refine op_g ha rfl (g_move rfl) ?_; clear ha a; intro a ha
              obtain ⟨hI339, hF⟩ := ck_some hF
              refine op_g ha rfl (g_add rfl rfl hI339) ?_; clear ha a; intro a ha
              refine op_g ha rfl (g_assign rfl) ?_; clear ha a; intro a ha
              refine wpList_nil ?_
              replace ha := ha.sub (σ' := [(0, va0), (1, (.int .i64 (((i111 + 1) + 1) + 1))), (5, (.int .i64 i113))]) ⟨rfl, rfl, rfl, trivial⟩
              refine e_blk ?_
              refine e_then ?_
              refine wp_region_lit ?_
              refine op_g ha rfl (g_move rfl) ?_; clear ha a; intro a ha
              obtain ⟨hI341, hF⟩ := ck_some hF
              refine op_g ha rfl (g_add rfl rfl hI341) ?_; clear ha a; intro a ha
              refine op_g ha rfl (g_assign rfl) ?_; clear ha a; intro a ha
              refine wpList_nil ?_
              replace ha := ha.sub (σ' := [(0, va0), (1, (.int .i64 (((i111 + 1) + 1) + 1))), (5, (.int .i64 (i113 + 1)))]) ⟨rfl, rfl, rfl, trivial⟩
              refine e_lq ?_
              obtain rfl := Option.some.inj hF
              exact ⟨_, Nat.lt_succ_self _, ((i111 + 1) + 1) + 1, i113 + 1, ha.sub ⟨rfl, rfl, rfl, trivial⟩, hE115, hI339, hI341, hN232⟩
      · replace hF := if_f hp235 hF
        refine wp_exit ?_
        refine e_then_exit ?_
        refine e_lq_eq ?_
        obtain rfl := Option.some.inj hF
        exact ⟨i111, ha.sub ⟨rfl, trivial⟩, hE115, hI112, (LK_inr hN232).symm⟩
  · rintro a w223 ⟨i224, ha, hE231, hI225, rfl⟩
    have hF : F_laws_heldFactS_k2 i224 = some _ := hK228; clear hK228; unfold F_laws_heldFactS_k2 at hF
    refine e_then ?_
    refine wp_seq ?_
    refine wp_region_lit ?_
    refine op_g ha rfl (g_move rfl) ?_; clear ha a; intro a ha
    refine op_g ha rfl (g_assign rfl) ?_; clear ha a; intro a ha
    refine wpList_nil ?_
    replace ha := ha.sub (σ' := [(4, (.int .i64 i224))]) ⟨rfl, trivial⟩
    refine e_then ?_
    refine wp_ret ?_
    obtain rfl := Option.some.inj hF
    exact f_ret1 ha rfl rfl ⟨⟨rfl, hI225⟩, hE231⟩
set_option maxHeartbeats 2000000 in
theorem W_laws_heldFormula {W : World} {va0_0 : Value} {fa0_0 : List Nat} {a0_0 : (List (Int × (Int × Int)))} (ha0_0 : Ro (Rp.prod Rp.int (Rp.prod Rp.int Rp.int)) W fa0_0 va0_0 a0_0) {a1 : Int} (ha1 : InI a1) {r : Int} (hF : F_laws_heldFormula a0_0 a1 = some r) :
    Calls Try.prog 19 [.agg #[va0_0], .int .i64 a1].toArray W (Ret fun u w' => (u = .int .i64 r ∧ InI r) ∧ Ext W w') := by
  refine f_enter Try.func19 rfl Try.ntmps19 rfl ?_
  intro a ha
  replace ha : Fr 12 [(0, (.agg #[va0_0])), (1, (.int .i64 a1))] a := ha
  have hE : Chg [] W W := Chg.refl _ _
  unfold F_laws_heldFormula at hF
  refine wp_seq ?_
  refine wp_region_lit ?_
  refine o_box ha rfl rfl rfl ?_; clear ha a; intro b1 w2 hB3 hx4 hlo5 a ha
  have q6 := Zn.one hlo5
  have q7 := Zn.upD q6 hE
  have hE8 := Ext.trans hE hx4
  refine op_g ha rfl (g_assign rfl) ?_; clear ha a; intro a ha
  refine wpList_nil ?_
  replace ha := ha.sub (σ' := [(1, (.int .i64 a1)), (2, (.pointer (some ⟨b1, 0, none⟩)))]) ⟨rfl, rfl, trivial⟩
  refine e_then ?_
  refine wp_seq ?_
  refine wp_region_lit ?_
  refine op_g ha rfl (g_field0 st29_0 rfl) ?_; clear ha a; intro a ha
  refine op_g ha rfl (g_load Try.isAgg27 rfl (hB3.cell rfl)) ?_; clear ha a; intro a ha
  refine op_g ha rfl (g_move rfl) ?_; clear ha a; intro a ha
  obtain ⟨x9, hc10, hF⟩ := cal_some hF
  refine o_call ha rfl rfl Try.call41 (W_laws_heldFactS (ha0_0.ext hE8) ha1 hc10) ?_; clear ha a; rintro v11 w12 ⟨⟨rfl, hI14⟩, hx13⟩ a ha
  replace hB3 := hB3.ext hx13
  have hE15 := Ext.trans hE8 hx13
  refine op_g ha rfl (g_assign rfl) ?_; clear ha a; intro a ha
  refine wpList_nil ?_
  replace ha := ha.sub (σ' := [(1, (.int .i64 x9))]) ⟨rfl, trivial⟩
  refine e_then ?_
  refine wp_seq ?_
  refine wp_seq ?_
  refine wp_region_lit ?_
  refine op_g ha rfl (g_move rfl) ?_; clear ha a; intro a ha
  refine op_g ha rfl (g_lss rfl rfl) ?_; clear ha a; intro a ha
  refine wpList_nil ?_
  replace ha := ha.sub (σ' := [(1, (.int .i64 x9)), (10, (.bool (decide (x9 < 0))))]) ⟨rfl, rfl, trivial⟩
  refine e_then ?_
  refine c_cond (x9 < 0) ha rfl (decide_eq_true_iff) (fun hp16 => ?_) (fun hp16 => ?_)
  · replace hF := if_t hp16 hF
    refine wp_seq ?_
    refine wp_region_lit ?_
    refine op_g ha rfl (g_assign rfl) ?_; clear ha a; intro a ha
    refine wpList_nil ?_
    replace ha := ha.sub (σ' := [(4, (.int .i64 (-1)))]) ⟨rfl, trivial⟩
    refine e_then ?_
    refine wp_ret ?_
    refine e_then_ret ?_
    obtain rfl := Option.some.inj hF
    exact f_ret1 ha rfl rfl ⟨⟨rfl, (show InI (-1) from by decide)⟩, hE15⟩
  · replace hF := if_f hp16 hF
    refine wp_skip ?_
    refine e_then ?_
    refine wp_seq ?_
    refine wp_region_lit ?_
    refine op_g ha rfl (g_move rfl) ?_; clear ha a; intro a ha
    refine op_g ha rfl (g_assign rfl) ?_; clear ha a; intro a ha
    refine wpList_nil ?_
    replace ha := ha.sub (σ' := [(4, (.int .i64 x9))]) ⟨rfl, trivial⟩
    refine e_then ?_
    refine wp_ret ?_
    obtain rfl := Option.some.inj hF
    exact f_ret1 ha rfl rfl ⟨⟨rfl, hI14⟩, hE15⟩
set_option maxHeartbeats 2000000 in
theorem W_laws_FnExactNamedFormula {W : World} {a0 : Int} (ha0 : InI a0) {r : Bool} (hF : F_laws_FnExactNamedFormula a0 = some r) :
    Calls Try.prog 4 [.int .i64 a0].toArray W (Ret fun u w' => u = .bool r ∧ Ext W w') := by
  refine f_enter Try.func4 rfl Try.ntmps4 rfl ?_
  intro a ha
  replace ha : Fr 63 [(0, (.int .i64 a0))] a := ha
  have hE : Chg [] W W := Chg.refl _ _
  unfold F_laws_FnExactNamedFormula at hF
  refine wp_seq ?_
  refine wp_region_lit ?_
  refine op_g ha rfl (g_assign rfl) ?_; clear ha a; intro a ha
  refine wpList_nil ?_
  replace ha := ha.sub (σ' := [(0, (.int .i64 a0))]) ⟨rfl, trivial⟩
  refine e_then ?_
  refine wp_seq ?_
  refine wp_region_lit ?_
  refine op_g ha rfl (g_move rfl) ?_; clear ha a; intro a ha
  obtain ⟨x1, hc2, hF⟩ := cal_some hF
  refine o_call ha rfl rfl Try.call15 (W_spec_NamedFormula ha0 hc2) ?_; clear ha a; rintro v3 w4 ⟨u6, u7, u8, b9, rfl, rfl, h10, z11, rfl, hx5⟩ a ha
  have hE13 := Ext.trans hE hx5
  have q14 := Zn.upD z11 hE
  refine op_g ha rfl (g_move rfl) ?_; clear ha a; intro a ha
  refine op_g ha rfl (g_extract rfl rfl) ?_; clear ha a; intro a ha
  refine op_g ha rfl (g_extract rfl rfl) ?_; clear ha a; intro a ha
  refine o_alloc (cs := [(.slice none 0 0)]) ha rfl Try.zeroValue29 rfl ?_; clear ha a; intro b15 w16 hB17 hx18 hlo19 a ha
  have q20 := Zn.one hlo19
  have q21 := Nq.new h10.fpb q20
  have q22 := Nq.made1 hlo19 h10.blt
  have q23 := Zn.upD q20 hE13
  replace h10 := h10.ext hx18
  have hE24 := Ext.trans hE13 hx18
  refine o_storeA (vs := [u8]) ha hB17 Try.sizeOf29 rfl rfl (by intro c hc; simp only [List.mem_cons, List.not_mem_nil, or_false] at hc; rcases hc with hc <;> subst hc <;> first | rfl | exact h10.oneC) rfl ?_; intro w25 hB26 hc27
  replace hc27 := hc27.bl
  replace hB26 : Bx w25 b15 [u8] 29 := hB26
  replace h10 := h10.nq hc27 q21
  have hE28 := Ext.then hE24 hc27 (Zn.bl q23)
  refine op_g ha rfl (g_assign rfl) ?_; clear ha a; intro a ha
  refine wpList_nil ?_
  replace ha := ha.sub (σ' := [(0, (.int .i64 a0)), (3, (.pointer (some ⟨b15, 0, none⟩))), (4, (.bool x1.2))]) ⟨rfl, rfl, rfl, trivial⟩
  refine e_then ?_
  refine wp_seq ?_
  refine wp_region_lit ?_
  refine op_g ha rfl (g_move rfl) ?_; clear ha a; intro a ha
  obtain ⟨x29, hc30, hF⟩ := cal_some hF
  refine o_call ha rfl rfl Try.call16 (W_impl_NamedFormula ha0 hc30) ?_; clear ha a; rintro v31 w32 ⟨u34, u35, u36, b37, rfl, rfl, h38, z39, rfl, hx33⟩ a ha
  have q41 := Nq.new h10.fpb z39
  have q42 := Nq.madeO z39 h10.blt
  have q43 := Nq.new hB26.fpb z39
  have q44 := Nq.madeO z39 hB26.bi
  replace h10 := h10.ext hx33
  replace hB26 := hB26.ext hx33
  have hE45 := Ext.trans hE28 hx33
  have q46 := Zn.upD z39 hE28
  refine op_g ha rfl (g_move rfl) ?_; clear ha a; intro a ha
  refine op_g ha rfl (g_extract rfl rfl) ?_; clear ha a; intro a ha
  refine op_g ha rfl (g_extract rfl rfl) ?_; clear ha a; intro a ha
  refine o_alloc (cs := [(.slice none 0 0)]) ha rfl Try.zeroValue29 rfl ?_; clear ha a; intro b47 w48 hB49 hx50 hlo51 a ha
  have q52 := Zn.one hlo51
  have q53 := Nq.new h10.fpb q52
  have q54 := Nq.made1 hlo51 h10.blt
  have q55 := Nq.new hB26.fpb q52
  have q56 := Nq.made1 hlo51 hB26.bi
  have q57 := Nq.new h38.fpb q52
  have q58 := Nq.made1 hlo51 h38.blt
  have q59 := Zn.upD q52 hE45
  replace h10 := h10.ext hx50
  replace hB26 := hB26.ext hx50
  replace h38 := h38.ext hx50
  have hE60 := Ext.trans hE45 hx50
  refine o_storeA (vs := [u36]) ha hB49 Try.sizeOf29 rfl rfl (by intro c hc; simp only [List.mem_cons, List.not_mem_nil, or_false] at hc; rcases hc with hc <;> subst hc <;> first | rfl | exact h38.oneC) rfl ?_; intro w61 hB62 hc63
  replace hc63 := hc63.bl
  replace hB62 : Bx w61 b47 [u36] 29 := hB62
  replace h10 := h10.nq hc63 q53
  replace hB26 := hB26.nq hc63 q55
  replace h38 := h38.nq hc63 q57
  have hE64 := Ext.then hE60 hc63 (Zn.bl q59)
  refine op_g ha rfl (g_assign rfl) ?_; clear ha a; intro a ha
  refine wpList_nil ?_
  replace ha := ha.sub (σ' := [(0, (.int .i64 a0)), (3, (.pointer (some ⟨b15, 0, none⟩))), (4, (.bool x1.2)), (5, (.pointer (some ⟨b47, 0, none⟩))), (6, (.bool x29.2))]) ⟨rfl, rfl, rfl, rfl, rfl, trivial⟩
  refine e_then ?_
  refine wp_seq ?_
  refine wp_seq ?_
  refine wp_region_lit ?_
  refine op_g ha rfl (g_loadA (cs := [u36]) Try.isAgg29 Try.sizeOf29 rfl (by simp) hB62.all) ?_; clear ha a; intro a ha
  refine op_g ha rfl (g_loadA (cs := [u8]) Try.isAgg29 Try.sizeOf29 rfl (by simp) hB26.all) ?_; clear ha a; intro a ha
  obtain ⟨fp77, hro78, -⟩ := h38.weak.ro
  obtain ⟨fp79, hro80, -⟩ := h10.weak.ro
  obtain ⟨x81, hc82, hF⟩ := cal_some hF
  refine o_call ha rfl rfl Try.call17 (W_laws_eqFormula hro78 hro80 hc82) ?_; clear ha a; rintro v83 w84 ⟨rfl, hx85⟩ a ha
  replace h10 := h10.ext hx85
  replace hB26 := hB26.ext hx85
  replace h38 := h38.ext hx85
  replace hB62 := hB62.ext hx85
  have hE86 := Ext.trans hE64 hx85
  refine op_g ha rfl (g_not rfl) ?_; clear ha a; intro a ha
  refine op_g ha rfl (g_move rfl) ?_; clear ha a; intro a ha
  by_cases hp87 : ¬ (x81 = true)
  · replace hF := if_t hp87 hF
    rw [show (!x81) = true from (n_iff (Iff.rfl)).2 hp87] at ha
    refine op_unwant ha rfl (yields ha rfl rfl) rfl ?_; clear ha a; intro a ha
    refine op_unwant ha rfl (yields ha rfl rfl) rfl ?_; clear ha a; intro a ha
    refine op_unwant ha rfl (yields ha rfl rfl) rfl ?_; clear ha a; intro a ha
    refine op_g ha rfl (g_pick rfl rfl) ?_; clear ha a; intro a ha
    refine wpList_nil ?_
    replace ha := ha.sub (σ' := [(0, (.int .i64 a0)), (3, (.pointer (some ⟨b15, 0, none⟩))), (4, (.bool x1.2)), (5, (.pointer (some ⟨b47, 0, none⟩))), (29, (.bool true))]) ⟨rfl, rfl, rfl, rfl, rfl, trivial⟩
    refine e_then ?_
    refine c_true ha rfl ?_
    refine wp_seq ?_
    refine wp_region_lit ?_
    refine op_g ha rfl (g_assign rfl) ?_; clear ha a; intro a ha
    refine wpList_nil ?_
    replace ha := ha.sub (σ' := [(2, (.bool false))]) ⟨rfl, trivial⟩
    refine e_then ?_
    refine wp_ret ?_
    refine e_then_ret ?_
    obtain rfl := Option.some.inj hF
    exact f_ret1 ha rfl rfl ⟨rfl, hE86⟩
  · replace hF := if_f hp87 hF
    rw [show (!x81) = false from b_false (n_iff (Iff.rfl)) hp87] at ha
    refine op_want (yields ha rfl rfl) ?_
    refine op_g ha rfl (g_move rfl) ?_; clear ha a; intro a ha
    refine op_want (yields ha rfl rfl) ?_
    refine op_g ha rfl (g_move rfl) ?_; clear ha a; intro a ha
    refine op_want (yields ha rfl rfl) ?_
    refine op_g ha rfl (gB_neq un4 rfl rfl) ?_; clear ha a; intro a ha
    refine op_g ha rfl (g_pick rfl rfl) ?_; clear ha a; intro a ha
    refine wpList_nil ?_
    replace ha := ha.sub (σ' := [(0, (.int .i64 a0)), (3, (.pointer (some ⟨b15, 0, none⟩))), (4, (.bool x1.2)), (5, (.pointer (some ⟨b47, 0, none⟩))), (29, (.bool (x29.2 != x1.2)))]) ⟨rfl, rfl, rfl, rfl, rfl, trivial⟩
    refine e_then ?_
    refine c_cond ((x29.2 != x1.2) = true) ha rfl (Iff.rfl) (fun hp88 => ?_) (fun hp88 => ?_)
    · replace hF := if_t hp88 hF
      refine wp_seq ?_
      refine wp_region_lit ?_
      refine op_g ha rfl (g_assign rfl) ?_; clear ha a; intro a ha
      refine wpList_nil ?_
      replace ha := ha.sub (σ' := [(2, (.bool false))]) ⟨rfl, trivial⟩
      refine e_then ?_
      refine wp_ret ?_
      refine e_then_ret ?_
      obtain rfl := Option.some.inj hF
      exact f_ret1 ha rfl rfl ⟨rfl, hE86⟩
    · replace hF := if_f hp88 hF
      refine wp_skip ?_
      refine e_then ?_
      refine wp_seq ?_
      refine wp_region_lit ?_
      refine op_g ha rfl (g_assign rfl) ?_; clear ha a; intro a ha
      refine wpList_nil ?_
      replace ha := ha.sub (σ' := [(0, (.int .i64 a0)), (3, (.pointer (some ⟨b15, 0, none⟩))), (4, (.bool x1.2)), (5, (.pointer (some ⟨b47, 0, none⟩))), (7, (.int .i64 1))]) ⟨rfl, rfl, rfl, rfl, rfl, trivial⟩
      refine e_then ?_
      refine wp_seq ?_
      refine wp_region_lit ?_
      refine op_g ha rfl (g_loadA (cs := [u36]) Try.isAgg29 Try.sizeOf29 rfl (by simp) hB62.all) ?_; clear ha a; intro a ha
      refine op_g ha rfl (g_move rfl) ?_; clear ha a; intro a ha
      obtain ⟨x89, hc90, hF⟩ := cal_some hF
      refine o_call ha rfl rfl Try.call18 (W_laws_markFormula h38 (show InI 1 from by decide) hc90) ?_; clear ha a; rintro v91 w92 ⟨⟨rfl, hI94⟩, h95, hx93⟩ a ha
      replace h10 := h10.nq hx93 q41
      replace hB26 := hB26.nq hx93 q43
      replace hB62 := hB62.nq hx93 q58
      have hE96 := Ext.then hE86 hx93 (Zn.bl q46)
      refine op_g ha rfl (g_assign rfl) ?_; clear ha a; intro a ha
      refine wpList_nil ?_
      replace ha := ha.sub (σ' := [(0, (.int .i64 a0)), (3, (.pointer (some ⟨b15, 0, none⟩))), (4, (.bool x1.2)), (5, (.pointer (some ⟨b47, 0, none⟩))), (7, (.int .i64 x89.1))]) ⟨rfl, rfl, rfl, rfl, rfl, trivial⟩
      refine e_then ?_
      refine wp_seq ?_
      refine wp_region_lit ?_
      refine op_g ha rfl (g_assign rfl) ?_; clear ha a; intro a ha
      refine wpList_nil ?_
      replace ha := ha.sub (σ' := [(0, (.int .i64 a0)), (3, (.pointer (some ⟨b15, 0, none⟩))), (4, (.bool x1.2)), (5, (.pointer (some ⟨b47, 0, none⟩))), (7, (.int .i64 x89.1)), (8, (.int .i64 1))]) ⟨rfl, rfl, rfl, rfl, rfl, rfl, trivial⟩
      refine e_then ?_
      refine wp_seq ?_
      refine wp_region_lit ?_
      refine op_g ha rfl (g_loadA (cs := [u36]) Try.isAgg29 Try.sizeOf29 rfl (by simp) hB62.all) ?_; clear ha a; intro a ha
      refine op_g ha rfl (g_move rfl) ?_; clear ha a; intro a ha
      obtain ⟨fp97, hro98, -⟩ := h95.weak.ro
      obtain ⟨x99, hc100, hF⟩ := cal_some hF
      refine o_call ha rfl rfl Try.call19 (W_laws_heldFormula hro98 (show InI 1 from by decide) hc100) ?_; clear ha a; rintro v101 w102 ⟨⟨rfl, hI104⟩, hx103⟩ a ha
      replace h10 := h10.ext hx103
      replace hB26 := hB26.ext hx103
      replace h95 := h95.ext hx103
      replace hB62 := hB62.ext hx103
      have hE105 := Ext.trans hE96 hx103
      refine op_g ha rfl (g_assign rfl) ?_; clear ha a; intro a ha
      refine wpList_nil ?_
      replace ha := ha.sub (σ' := [(0, (.int .i64 a0)), (3, (.pointer (some ⟨b15, 0, none⟩))), (4, (.bool x1.2)), (5, (.pointer (some ⟨b47, 0, none⟩))), (7, (.int .i64 x89.1)), (8, (.int .i64 x99))]) ⟨rfl, rfl, rfl, rfl, rfl, rfl, trivial⟩
      refine e_then ?_
      refine wp_seq ?_
      refine wp_seq ?_
      refine wp_region_lit ?_
      refine op_g ha rfl (g_move rfl) ?_; clear ha a; intro a ha
      refine op_g ha rfl (g_lss rfl rfl) ?_; clear ha a; intro a ha
      refine wpList_nil ?_
      replace ha := ha.sub (σ' := [(0, (.int .i64 a0)), (3, (.pointer (some ⟨b15, 0, none⟩))), (4, (.bool x1.2)), (5, (.pointer (some ⟨b47, 0, none⟩))), (7, (.int .i64 x89.1)), (8, (.int .i64 x99)), (37, (.bool (decide (x99 < 0))))]) ⟨rfl, rfl, rfl, rfl, rfl, rfl, rfl, trivial⟩
      refine e_then ?_
      refine c_cond (x99 < 0) ha rfl (decide_eq_true_iff) (fun hp106 => ?_) (fun hp106 => ?_)
      · replace hF := if_t hp106 hF
        refine wp_seq ?_
        refine wp_region_lit ?_
        refine op_g ha rfl (g_assign rfl) ?_; clear ha a; intro a ha
        refine wpList_nil ?_
        replace ha := ha.sub (σ' := [(2, (.bool false))]) ⟨rfl, trivial⟩
        refine e_then ?_
        refine wp_ret ?_
        refine e_then_ret ?_
        obtain rfl := Option.some.inj hF
        exact f_ret1 ha rfl rfl ⟨rfl, hE105⟩
      · replace hF := if_f hp106 hF
        refine wp_skip ?_
        refine e_then ?_
        refine wp_seq ?_
        refine wp_seq ?_
        refine wp_region_lit ?_
        refine op_g ha rfl (g_move rfl) ?_; clear ha a; intro a ha
        refine op_g ha rfl (g_move rfl) ?_; clear ha a; intro a ha
        refine op_g ha rfl (g_neq rfl rfl) ?_; clear ha a; intro a ha
        refine wpList_nil ?_
        replace ha := ha.sub (σ' := [(0, (.int .i64 a0)), (3, (.pointer (some ⟨b15, 0, none⟩))), (4, (.bool x1.2)), (5, (.pointer (some ⟨b47, 0, none⟩))), (7, (.int .i64 x89.1)), (40, (.bool (decide (x99 ≠ x89.1))))]) ⟨rfl, rfl, rfl, rfl, rfl, rfl, trivial⟩
        refine e_then ?_
        refine c_cond (x99 ≠ x89.1) ha rfl (decide_eq_true_iff) (fun hp107 => ?_) (fun hp107 => ?_)
        · replace hF := if_t hp107 hF
          refine wp_seq ?_
          refine wp_region_lit ?_
          refine op_g ha rfl (g_assign rfl) ?_; clear ha a; intro a ha
          refine wpList_nil ?_
          replace ha := ha.sub (σ' := [(2, (.bool false))]) ⟨rfl, trivial⟩
          refine e_then ?_
          refine wp_ret ?_
          refine e_then_ret ?_
          obtain rfl := Option.some.inj hF
          exact f_ret1 ha rfl rfl ⟨rfl, hE105⟩
        · replace hF := if_f hp107 hF
          refine wp_skip ?_
          refine e_then ?_
          refine wp_seq ?_
          refine wp_region_lit ?_
          refine op_g ha rfl (g_move rfl) ?_; clear ha a; intro a ha
          obtain ⟨x108, hc109, hF⟩ := cal_some hF
          refine o_call ha rfl rfl Try.call16 (W_impl_NamedFormula ha0 hc109) ?_; clear ha a; rintro v110 w111 ⟨u113, u114, u115, b116, rfl, rfl, h117, z118, rfl, hx112⟩ a ha
          have q120 := Nq.new h10.fpb z118
          have q121 := Nq.madeO z118 h10.blt
          have q122 := Nq.new hB26.fpb z118
          have q123 := Nq.madeO z118 hB26.bi
          have q124 := Nq.new h95.fpb z118
          have q125 := Nq.madeO z118 h95.blt
          have q126 := Nq.new hB62.fpb z118
          have q127 := Nq.madeO z118 hB62.bi
          replace h10 := h10.ext hx112
          replace hB26 := hB26.ext hx112
          replace h95 := h95.ext hx112
          replace hB62 := hB62.ext hx112
          have hE128 := Ext.trans hE105 hx112
          have q129 := Zn.upD z118 hE105
          refine op_g ha rfl (g_move rfl) ?_; clear ha a; intro a ha
          refine op_g ha rfl (g_extract rfl rfl) ?_; clear ha a; intro a ha
          refine op_g ha rfl (g_extract rfl rfl) ?_; clear ha a; intro a ha
          refine o_alloc (cs := [(.slice none 0 0)]) ha rfl Try.zeroValue29 rfl ?_; clear ha a; intro b130 w131 hB132 hx133 hlo134 a ha
          have q135 := Zn.one hlo134
          have q136 := Nq.new h10.fpb q135
          have q137 := Nq.made1 hlo134 h10.blt
          have q138 := Nq.new hB26.fpb q135
          have q139 := Nq.made1 hlo134 hB26.bi
          have q140 := Nq.new h95.fpb q135
          have q141 := Nq.made1 hlo134 h95.blt
          have q142 := Nq.new hB62.fpb q135
          have q143 := Nq.made1 hlo134 hB62.bi
          have q144 := Nq.new h117.fpb q135
          have q145 := Nq.made1 hlo134 h117.blt
          have q146 := Zn.upD q135 hE128
          replace h10 := h10.ext hx133
          replace hB26 := hB26.ext hx133
          replace h95 := h95.ext hx133
          replace hB62 := hB62.ext hx133
          replace h117 := h117.ext hx133
          have hE147 := Ext.trans hE128 hx133
          refine o_storeA (vs := [u115]) ha hB132 Try.sizeOf29 rfl rfl (by intro c hc; simp only [List.mem_cons, List.not_mem_nil, or_false] at hc; rcases hc with hc <;> subst hc <;> first | rfl | exact h117.oneC) rfl ?_; intro w148 hB149 hc150
          replace hc150 := hc150.bl
          replace hB149 : Bx w148 b130 [u115] 29 := hB149
          replace h10 := h10.nq hc150 q136
          replace hB26 := hB26.nq hc150 q138
          replace h95 := h95.nq hc150 q140
          replace hB62 := hB62.nq hc150 q142
          replace h117 := h117.nq hc150 q144
          have hE151 := Ext.then hE147 hc150 (Zn.bl q146)
          refine op_g ha rfl (g_assign rfl) ?_; clear ha a; intro a ha
          refine wpList_nil ?_
          replace ha := ha.sub (σ' := [(3, (.pointer (some ⟨b15, 0, none⟩))), (4, (.bool x1.2)), (5, (.pointer (some ⟨b47, 0, none⟩))), (7, (.int .i64 x89.1)), (9, (.pointer (some ⟨b130, 0, none⟩))), (10, (.bool x108.2))]) ⟨rfl, rfl, rfl, rfl, rfl, rfl, trivial⟩
          refine e_then ?_
          refine wp_seq ?_
          refine wp_seq ?_
          refine wp_region_lit ?_
          refine op_g ha rfl (g_loadA (cs := [u115]) Try.isAgg29 Try.sizeOf29 rfl (by simp) hB149.all) ?_; clear ha a; intro a ha
          refine op_g ha rfl (g_loadA (cs := [u8]) Try.isAgg29 Try.sizeOf29 rfl (by simp) hB26.all) ?_; clear ha a; intro a ha
          obtain ⟨fp164, hro165, -⟩ := h117.weak.ro
          obtain ⟨fp166, hro167, -⟩ := h10.weak.ro
          obtain ⟨x168, hc169, hF⟩ := cal_some hF
          refine o_call ha rfl rfl Try.call17 (W_laws_eqFormula hro165 hro167 hc169) ?_; clear ha a; rintro v170 w171 ⟨rfl, hx172⟩ a ha
          replace h10 := h10.ext hx172
          replace hB26 := hB26.ext hx172
          replace h95 := h95.ext hx172
          replace hB62 := hB62.ext hx172
          replace h117 := h117.ext hx172
          replace hB149 := hB149.ext hx172
          have hE173 := Ext.trans hE151 hx172
          refine op_g ha rfl (g_not rfl) ?_; clear ha a; intro a ha
          refine op_g ha rfl (g_move rfl) ?_; clear ha a; intro a ha
          by_cases hp174 : ¬ (x168 = true)
          · replace hF := if_t hp174 hF
            rw [show (!x168) = true from (n_iff (Iff.rfl)).2 hp174] at ha
            refine op_unwant ha rfl (yields ha rfl rfl) rfl ?_; clear ha a; intro a ha
            refine op_unwant ha rfl (yields ha rfl rfl) rfl ?_; clear ha a; intro a ha
            refine op_unwant ha rfl (yields ha rfl rfl) rfl ?_; clear ha a; intro a ha
            refine op_g ha rfl (g_pick rfl rfl) ?_; clear ha a; intro a ha
            refine wpList_nil ?_
            replace ha := ha.sub (σ' := [(5, (.pointer (some ⟨b47, 0, none⟩))), (7, (.int .i64 x89.1)), (54, (.bool true))]) ⟨rfl, rfl, rfl, trivial⟩
            refine e_then ?_
            refine c_true ha rfl ?_
            refine wp_seq ?_
            refine wp_region_lit ?_
            refine op_g ha rfl (g_assign rfl) ?_; clear ha a; intro a ha
            refine wpList_nil ?_
            replace ha := ha.sub (σ' := [(2, (.bool false))]) ⟨rfl, trivial⟩
            refine e_then ?_
            refine wp_ret ?_
            refine e_then_ret ?_
            obtain rfl := Option.some.inj hF
            exact f_ret1 ha rfl rfl ⟨rfl, hE173⟩
          · replace hF := if_f hp174 hF
            rw [show (!x168) = false from b_false (n_iff (Iff.rfl)) hp174] at ha
            refine op_want (yields ha rfl rfl) ?_
            refine op_g ha rfl (g_move rfl) ?_; clear ha a; intro a ha
            refine op_want (yields ha rfl rfl) ?_
            refine op_g ha rfl (g_move rfl) ?_; clear ha a; intro a ha
            refine op_want (yields ha rfl rfl) ?_
            refine op_g ha rfl (gB_neq un4 rfl rfl) ?_; clear ha a; intro a ha
            refine op_g ha rfl (g_pick rfl rfl) ?_; clear ha a; intro a ha
            refine wpList_nil ?_
            replace ha := ha.sub (σ' := [(5, (.pointer (some ⟨b47, 0, none⟩))), (7, (.int .i64 x89.1)), (54, (.bool (x108.2 != x1.2)))]) ⟨rfl, rfl, rfl, trivial⟩
            refine e_then ?_
            refine c_cond ((x108.2 != x1.2) = true) ha rfl (Iff.rfl) (fun hp175 => ?_) (fun hp175 => ?_)
            · replace hF := if_t hp175 hF
              refine wp_seq ?_
              refine wp_region_lit ?_
              refine op_g ha rfl (g_assign rfl) ?_; clear ha a; intro a ha
              refine wpList_nil ?_
              replace ha := ha.sub (σ' := [(2, (.bool false))]) ⟨rfl, trivial⟩
              refine e_then ?_
              refine wp_ret ?_
              refine e_then_ret ?_
              obtain rfl := Option.some.inj hF
              exact f_ret1 ha rfl rfl ⟨rfl, hE173⟩
            · replace hF := if_f hp175 hF
              refine wp_skip ?_
              refine e_then ?_
              refine wp_seq ?_
              refine wp_region_lit ?_
              refine op_g ha rfl (g_assign rfl) ?_; clear ha a; intro a ha
              refine wpList_nil ?_
              replace ha := ha.sub (σ' := [(5, (.pointer (some ⟨b47, 0, none⟩))), (7, (.int .i64 x89.1)), (8, (.int .i64 1))]) ⟨rfl, rfl, rfl, trivial⟩
              refine e_then ?_
              refine wp_seq ?_
              refine wp_region_lit ?_
              refine op_g ha rfl (g_loadA (cs := [u36]) Try.isAgg29 Try.sizeOf29 rfl (by simp) hB62.all) ?_; clear ha a; intro a ha
              refine op_g ha rfl (g_move rfl) ?_; clear ha a; intro a ha
              obtain ⟨fp176, hro177, -⟩ := h95.weak.ro
              obtain ⟨x178, hc179, hF⟩ := cal_some hF
              refine o_call ha rfl rfl Try.call19 (W_laws_heldFormula hro177 (show InI 1 from by decide) hc179) ?_; clear ha a; rintro v180 w181 ⟨⟨rfl, hI183⟩, hx182⟩ a ha
              replace h95 := h95.ext hx182
              replace hB62 := hB62.ext hx182
              have hE184 := Ext.trans hE173 hx182
              refine op_g ha rfl (g_assign rfl) ?_; clear ha a; intro a ha
              refine wpList_nil ?_
              replace ha := ha.sub (σ' := [(7, (.int .i64 x89.1)), (8, (.int .i64 x178))]) ⟨rfl, rfl, trivial⟩
              refine e_then ?_
              refine wp_seq ?_
              refine wp_seq ?_
              refine wp_region_lit ?_
              refine op_g ha rfl (g_move rfl) ?_; clear ha a; intro a ha
              refine op_g ha rfl (g_lss rfl rfl) ?_; clear ha a; intro a ha
              refine wpList_nil ?_
              replace ha := ha.sub (σ' := [(7, (.int .i64 x89.1)), (8, (.int .i64 x178)), (59, (.bool (decide (x178 < 0))))]) ⟨rfl, rfl, rfl, trivial⟩
              refine e_then ?_
              refine c_cond (x178 < 0) ha rfl (decide_eq_true_iff) (fun hp185 => ?_) (fun hp185 => ?_)
              · replace hF := if_t hp185 hF
                refine wp_seq ?_
                refine wp_region_lit ?_
                refine op_g ha rfl (g_assign rfl) ?_; clear ha a; intro a ha
                refine wpList_nil ?_
                replace ha := ha.sub (σ' := [(2, (.bool false))]) ⟨rfl, trivial⟩
                refine e_then ?_
                refine wp_ret ?_
                refine e_then_ret ?_
                obtain rfl := Option.some.inj hF
                exact f_ret1 ha rfl rfl ⟨rfl, hE184⟩
              · replace hF := if_f hp185 hF
                refine wp_skip ?_
                refine e_then ?_
                refine wp_seq ?_
                refine wp_seq ?_
                refine wp_region_lit ?_
                refine op_g ha rfl (g_move rfl) ?_; clear ha a; intro a ha
                refine op_g ha rfl (g_move rfl) ?_; clear ha a; intro a ha
                refine op_g ha rfl (g_neq rfl rfl) ?_; clear ha a; intro a ha
                refine wpList_nil ?_
                replace ha := ha.sub (σ' := [(62, (.bool (decide (x178 ≠ x89.1))))]) ⟨rfl, trivial⟩
                refine e_then ?_
                refine c_cond (x178 ≠ x89.1) ha rfl (decide_eq_true_iff) (fun hp186 => ?_) (fun hp186 => ?_)
                · replace hF := if_t hp186 hF
                  refine wp_seq ?_
                  refine wp_region_lit ?_
                  refine op_g ha rfl (g_assign rfl) ?_; clear ha a; intro a ha
                  refine wpList_nil ?_
                  replace ha := ha.sub (σ' := [(2, (.bool false))]) ⟨rfl, trivial⟩
                  refine e_then ?_
                  refine wp_ret ?_
                  refine e_then_ret ?_
                  obtain rfl := Option.some.inj hF
                  exact f_ret1 ha rfl rfl ⟨rfl, hE184⟩
                · replace hF := if_f hp186 hF
                  refine wp_skip ?_
                  refine e_then ?_
                  refine wp_seq ?_
                  refine wp_region_lit ?_
                  refine op_g ha rfl (g_assign rfl) ?_; clear ha a; intro a ha
                  refine wpList_nil ?_
                  replace ha := ha.sub (σ' := [(2, (.bool true))]) ⟨rfl, trivial⟩
                  refine e_then ?_
                  refine wp_ret ?_
                  obtain rfl := Option.some.inj hF
                  exact f_ret1 ha rfl rfl ⟨rfl, hE184⟩
end Go.Proofs.Ytacgmkncleiblaa
