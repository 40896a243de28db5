/- Walks, printed by gen.py. -/
import Derived.Test.YtlbgoodonecebabF
import Derived.Test.YtlbgoodonecebabW2
import Derived.Test.YtlbgoodonecebabProg
import Derived.KernelRfl
set_option maxRecDepth 100000
namespace Go.Proofs.Ytlbgoodonecebab
open Go Go.RowKit

set_option maxHeartbeats 2000000 in
theorem W_impl_augments {W : World} {va0_0 : Value} {fa0_0 : List Nat} {a0_0 : (List (List Int))} (ha0_0 : Ro (Rp.sl 2 Rp.int) W fa0_0 va0_0 a0_0) {va1 : Value} {fa1 : List Nat} {a1 : (List Int)} (ha1 : Ro Rp.int W fa1 va1 a1) {va2 : Value} {fa2 : List Nat} {a2 : (List Int)} (ha2 : Ro Rp.int W fa2 va2 a2) {r : Bool} (hF : F_impl_augments a0_0 a1 a2 = some r) :
    Calls Try.prog 34 [.agg #[va0_0], va1, va2].toArray W (Ret fun u w' => u = .bool r ∧ Ext W w') := by
  refine f_enter Try.func34 rfl Try.ntmps34 rfl ?_
  intro a ha
  replace ha : Fr 63 [(0, (.agg #[va0_0])), (1, va1), (2, va2)] a := ha
  have hE : Chg [] W W := Chg.refl _ _
  unfold F_impl_augments at hF
  refine wp_seq ?_
  refine wp_region_lit ?_
  refine o_box ha rfl rfl rfl ?_; clear ha a; intro b1 w2 hB3 hx4 hlo5 a ha
  have q6 := Zn.one hlo5
  have q7 := Zn.upD q6 hE
  have hE8 := Ext.trans hE hx4
  refine op_g ha rfl (g_assign rfl) ?_; clear ha a; intro a ha
  refine wpList_nil ?_
  replace ha := ha.sub (σ' := [(1, va1), (2, va2), (3, (.pointer (some ⟨b1, 0, none⟩)))]) ⟨rfl, rfl, rfl, trivial⟩
  refine e_then ?_
  refine wp_seq ?_
  refine wp_region_lit ?_
  refine op_g ha rfl (g_move rfl) ?_; clear ha a; intro a ha
  refine op_g ha rfl (g_lenR sl25.und ha2 rfl) ?_; clear ha a; intro a ha
  refine op_g ha rfl (g_assign rfl) ?_; clear ha a; intro a ha
  refine wpList_nil ?_
  replace ha := ha.sub (σ' := [(1, va1), (2, va2), (3, (.pointer (some ⟨b1, 0, none⟩))), (7, (.int .i64 (a2.length : Int)))]) ⟨rfl, rfl, rfl, rfl, trivial⟩
  refine e_then ?_
  refine wp_seq ?_
  refine wp_seq ?_
  refine wp_region_lit ?_
  refine op_g ha rfl (g_move rfl) ?_; clear ha a; intro a ha
  refine op_g ha rfl (g_lss rfl rfl) ?_; clear ha a; intro a ha
  refine op_g ha rfl (g_move rfl) ?_; clear ha a; intro a ha
  by_cases hp72 : (a2.length : Int) < 2
  · replace hF := if_t hp72 hF
    rw [show (decide ((a2.length : Int) < 2)) = true from (decide_eq_true_iff).2 hp72] at ha
    refine op_unwant ha rfl (yields ha rfl rfl) rfl ?_; clear ha a; intro a ha
    refine op_unwant ha rfl (yields ha rfl rfl) rfl ?_; clear ha a; intro a ha
    refine op_unwant ha rfl (yields ha rfl rfl) rfl ?_; clear ha a; intro a ha
    refine op_g ha rfl (g_pick rfl rfl) ?_; clear ha a; intro a ha
    refine op_g ha rfl (g_move rfl) ?_; clear ha a; intro a ha
    refine op_unwant ha rfl (yields ha rfl rfl) rfl ?_; clear ha a; intro a ha
    refine op_unwant ha rfl (yields ha rfl rfl) rfl ?_; clear ha a; intro a ha
    refine op_unwant ha rfl (yields ha rfl rfl) rfl ?_; clear ha a; intro a ha
    refine op_unwant ha rfl (yields ha rfl rfl) rfl ?_; clear ha a; intro a ha
    refine op_g ha rfl (g_pick rfl rfl) ?_; clear ha a; intro a ha
    refine op_g ha rfl (g_move rfl) ?_; clear ha a; intro a ha
    refine op_unwant ha rfl (yields ha rfl rfl) rfl ?_; clear ha a; intro a ha
    refine op_unwant ha rfl (yields ha rfl rfl) rfl ?_; clear ha a; intro a ha
    refine op_unwant ha rfl (yields ha rfl rfl) rfl ?_; clear ha a; intro a ha
    refine op_unwant ha rfl (yields ha rfl rfl) rfl ?_; clear ha a; intro a ha
    refine op_unwant ha rfl (yields ha rfl rfl) rfl ?_; clear ha a; intro a ha
    refine op_unwant ha rfl (yields ha rfl rfl) rfl ?_; clear ha a; intro a ha
    refine op_unwant ha rfl (yields ha rfl rfl) rfl ?_; clear ha a; intro a ha
    refine op_g ha rfl (g_pick rfl rfl) ?_; clear ha a; intro a ha
    refine op_g ha rfl (g_move rfl) ?_; clear ha a; intro a ha
    refine op_unwant ha rfl (yields ha rfl rfl) rfl ?_; clear ha a; intro a ha
    refine op_unwant ha rfl (yields ha rfl rfl) rfl ?_; clear ha a; intro a ha
    refine op_unwant ha rfl (yields ha rfl rfl) rfl ?_; clear ha a; intro a ha
    refine op_unwant ha rfl (yields ha rfl rfl) rfl ?_; clear ha a; intro a ha
    refine op_unwant ha rfl (yields ha rfl rfl) rfl ?_; clear ha a; intro a ha
    refine op_unwant ha rfl (yields ha rfl rfl) rfl ?_; clear ha a; intro a ha
    refine op_unwant ha rfl (yields ha rfl rfl) rfl ?_; clear ha a; intro a ha
    refine op_unwant ha rfl (yields ha rfl rfl) rfl ?_; clear ha a; intro a ha
    refine op_unwant ha rfl (yields ha rfl rfl) rfl ?_; clear ha a; intro a ha
    refine op_g ha rfl (g_pick rfl rfl) ?_; clear ha a; intro a ha
    refine wpList_nil ?_
    replace ha := ha.sub (σ' := [(1, va1), (2, va2), (7, (.int .i64 (a2.length : Int))), (43, (.bool true))]) ⟨rfl, rfl, rfl, rfl, trivial⟩
    refine e_then ?_
    refine c_true ha rfl ?_
    refine wp_seq ?_
    refine wp_region_lit ?_
    refine op_g ha rfl (g_assign rfl) ?_; clear ha a; intro a ha
    refine wpList_nil ?_
    replace ha := ha.sub (σ' := [(6, (.bool false))]) ⟨rfl, trivial⟩
    refine e_then ?_
    refine wp_ret ?_
    refine e_then_ret ?_
    obtain rfl := Option.some.inj hF
    exact f_ret1 ha rfl rfl ⟨rfl, hE8⟩
  · replace hF := if_f hp72 hF
    rw [show (decide ((a2.length : Int) < 2)) = false from b_false (decide_eq_true_iff) hp72] at ha
    refine op_want (yields ha rfl rfl) ?_
    refine op_g ha rfl (g_move rfl) ?_; clear ha a; intro a ha
    refine op_want (yields ha rfl rfl) ?_
    obtain ⟨hq73, hF⟩ := grd_some hF
    have hI74 := in_rem ha2.len hq73.1 hq73.2
    refine op_g ha rfl (g_rem rfl rfl ha2.len hq73.1 hq73.2) ?_; clear ha a; intro a ha
    refine op_want (yields ha rfl rfl) ?_
    refine op_g ha rfl (g_neq rfl rfl) ?_; clear ha a; intro a ha
    refine op_g ha rfl (g_pick rfl rfl) ?_; clear ha a; intro a ha
    refine op_g ha rfl (g_move rfl) ?_; clear ha a; intro a ha
    by_cases hp75 : ((a2.length : Int) % 2) ≠ 0
    · replace hF := if_t hp75 hF
      rw [show (decide (((a2.length : Int) % 2) ≠ 0)) = true from (decide_eq_true_iff).2 hp75] at ha
      refine op_unwant ha rfl (yields ha rfl rfl) rfl ?_; clear ha a; intro a ha
      refine op_unwant ha rfl (yields ha rfl rfl) rfl ?_; clear ha a; intro a ha
      refine op_unwant ha rfl (yields ha rfl rfl) rfl ?_; clear ha a; intro a ha
      refine op_unwant ha rfl (yields ha rfl rfl) rfl ?_; clear ha a; intro a ha
      refine op_g ha rfl (g_pick rfl rfl) ?_; clear ha a; intro a ha
      refine op_g ha rfl (g_move rfl) ?_; clear ha a; intro a ha
      refine op_unwant ha rfl (yields ha rfl rfl) rfl ?_; clear ha a; intro a ha
      refine op_unwant ha rfl (yields ha rfl rfl) rfl ?_; clear ha a; intro a ha
      refine op_unwant ha rfl (yields ha rfl rfl) rfl ?_; clear ha a; intro a ha
      refine op_unwant ha rfl (yields ha rfl rfl) rfl ?_; clear ha a; intro a ha
      refine op_unwant ha rfl (yields ha rfl rfl) rfl ?_; clear ha a; intro a ha
      refine op_unwant ha rfl (yields ha rfl rfl) rfl ?_; clear ha a; intro a ha
      refine op_unwant ha rfl (yields ha rfl rfl) rfl ?_; clear ha a; intro a ha
      refine op_g ha rfl (g_pick rfl rfl) ?_; clear ha a; intro a ha
      refine op_g ha rfl (g_move rfl) ?_; clear ha a; intro a ha
      refine op_unwant ha rfl (yields ha rfl rfl) rfl ?_; clear ha a; intro a ha
      refine op_unwant ha rfl (yields ha rfl rfl) rfl ?_; clear ha a; intro a ha
      refine op_unwant ha rfl (yields ha rfl rfl) rfl ?_; clear ha a; intro a ha
      refine op_unwant ha rfl (yields ha rfl rfl) rfl ?_; clear ha a; intro a ha
      refine op_unwant ha rfl (yields ha rfl rfl) rfl ?_; clear ha a; intro a ha
      refine op_unwant ha rfl (yields ha rfl rfl) rfl ?_; clear ha a; intro a ha
      refine op_unwant ha rfl (yields ha rfl rfl) rfl ?_; clear ha a; intro a ha
      refine op_unwant ha rfl (yields ha rfl rfl) rfl ?_; clear ha a; intro a ha
      refine op_unwant ha rfl (yields ha rfl rfl) rfl ?_; clear ha a; intro a ha
      refine op_g ha rfl (g_pick rfl rfl) ?_; clear ha a; intro a ha
      refine wpList_nil ?_
      replace ha := ha.sub (σ' := [(1, va1), (2, va2), (7, (.int .i64 (a2.length : Int))), (43, (.bool true))]) ⟨rfl, rfl, rfl, rfl, trivial⟩
      refine e_then ?_
      refine c_true ha rfl ?_
      refine wp_seq ?_
      refine wp_region_lit ?_
      refine op_g ha rfl (g_assign rfl) ?_; clear ha a; intro a ha
      refine wpList_nil ?_
      replace ha := ha.sub (σ' := [(6, (.bool false))]) ⟨rfl, trivial⟩
      refine e_then ?_
      refine wp_ret ?_
      refine e_then_ret ?_
      obtain rfl := Option.some.inj hF
      exact f_ret1 ha rfl rfl ⟨rfl, hE8⟩
    · replace hF := if_f hp75 hF
      rw [show (decide (((a2.length : Int) % 2) ≠ 0)) = false from b_false (decide_eq_true_iff) hp75] at ha
      refine op_want (yields ha rfl rfl) ?_
      refine op_g ha rfl (g_loadA (cs := [va0_0]) Try.isAgg30 Try.sizeOf30 rfl (by simp) hB3.all) ?_; clear ha a; intro a ha
      refine op_want (yields ha rfl rfl) ?_
      refine op_g ha rfl (g_move rfl) ?_; clear ha a; intro a ha
      refine op_want (yields ha rfl rfl) ?_
      obtain ⟨x76, hc77, hF⟩ := cal_some hF
      refine o_call ha rfl rfl Try.call60 (W_impl_isTrail (ha0_0.ext hE8) (ha2.ext hE8) hc77) ?_; clear ha a; rintro v78 w79 ⟨rfl, hx80⟩ a ha
      replace hB3 := hB3.ext hx80
      have hE81 := Ext.trans hE8 hx80
      refine op_want (yields ha rfl rfl) ?_
      refine op_g ha rfl (g_not rfl) ?_; clear ha a; intro a ha
      refine op_g ha rfl (g_pick rfl rfl) ?_; clear ha a; intro a ha
      refine op_g ha rfl (g_move rfl) ?_; clear ha a; intro a ha
      by_cases hp82 : ¬ (x76 = true)
      · replace hF := if_t hp82 hF
        rw [show (!x76) = true from (n_iff (Iff.rfl)).2 hp82] at ha
        refine op_unwant ha rfl (yields ha rfl rfl) rfl ?_; clear ha a; intro a ha
        refine op_unwant ha rfl (yields ha rfl rfl) rfl ?_; clear ha a; intro a ha
        refine op_unwant ha rfl (yields ha rfl rfl) rfl ?_; clear ha a; intro a ha
        refine op_unwant ha rfl (yields ha rfl rfl) rfl ?_; clear ha a; intro a ha
        refine op_unwant ha rfl (yields ha rfl rfl) rfl ?_; clear ha a; intro a ha
        refine op_unwant ha rfl (yields ha rfl rfl) rfl ?_; clear ha a; intro a ha
        refine op_unwant ha rfl (yields ha rfl rfl) rfl ?_; clear ha a; intro a ha
        refine op_g ha rfl (g_pick rfl rfl) ?_; clear ha a; intro a ha
        refine op_g ha rfl (g_move rfl) ?_; clear ha a; intro a ha
        refine op_unwant ha rfl (yields ha rfl rfl) rfl ?_; clear ha a; intro a ha
        refine op_unwant ha rfl (yields ha rfl rfl) rfl ?_; clear ha a; intro a ha
        refine op_unwant ha rfl (yields ha rfl rfl) rfl ?_; clear ha a; intro a ha
        refine op_unwant ha rfl (yields ha rfl rfl) rfl ?_; clear ha a; intro a ha
        refine op_unwant ha rfl (yields ha rfl rfl) rfl ?_; clear ha a; intro a ha
        refine op_unwant ha rfl (yields ha rfl rfl) rfl ?_; clear ha a; intro a ha
        refine op_unwant ha rfl (yields ha rfl rfl) rfl ?_; clear ha a; intro a ha
        refine op_unwant ha rfl (yields ha rfl rfl) rfl ?_; clear ha a; intro a ha
        refine op_unwant ha rfl (yields ha rfl rfl) rfl ?_; clear ha a; intro a ha
        refine op_g ha rfl (g_pick rfl rfl) ?_; clear ha a; intro a ha
        refine wpList_nil ?_
        replace ha := ha.sub (σ' := [(1, va1), (2, va2), (7, (.int .i64 (a2.length : Int))), (43, (.bool true))]) ⟨rfl, rfl, rfl, rfl, trivial⟩
        refine e_then ?_
        refine c_true ha rfl ?_
        refine wp_seq ?_
        refine wp_region_lit ?_
        refine op_g ha rfl (g_assign rfl) ?_; clear ha a; intro a ha
        refine wpList_nil ?_
        replace ha := ha.sub (σ' := [(6, (.bool false))]) ⟨rfl, trivial⟩
        refine e_then ?_
        refine wp_ret ?_
        refine e_then_ret ?_
        obtain rfl := Option.some.inj hF
        exact f_ret1 ha rfl rfl ⟨rfl, hE81⟩
      · replace hF := if_f hp82 hF
        rw [show (!x76) = false from b_false (n_iff (Iff.rfl)) hp82] at ha
        refine op_want (yields ha rfl rfl) ?_
        refine op_g ha rfl (g_move rfl) ?_; clear ha a; intro a ha
        refine op_want (yields ha rfl rfl) ?_
        refine op_g ha rfl (g_move rfl) ?_; clear ha a; intro a ha
        refine op_want (yields ha rfl rfl) ?_
        obtain ⟨x83, g84, gx85, hF⟩ := idx_some hF
        obtain ⟨p86, cs87, f88, hf89, hpb90, hat91, hr92, hi93⟩ := ha2.at g84 gx85
        obtain ⟨rfl, hI94, rfl⟩ := hr92
        refine op_g ha rfl (hi93.gives sl25 rfl rfl) ?_; clear ha a; intro a ha
        refine op_want (yields ha rfl rfl) ?_
        refine op_g ha rfl (g_load0 hE81 Try.isAgg2 rfl hat91.one) ?_; clear ha a; intro a ha
        refine op_want (yields ha rfl rfl) ?_
        obtain ⟨x95, g96, gx97, hF⟩ := idx_some hF
        obtain ⟨p98, cs99, f100, hf101, hpb102, hat103, hr104, hi105⟩ := ha1.at g96 gx97
        obtain ⟨rfl, hI106, rfl⟩ := hr104
        refine op_g ha rfl (hi105.gives sl56 rfl rfl) ?_; clear ha a; intro a ha
        refine op_want (yields ha rfl rfl) ?_
        refine op_g ha rfl (g_load0 hE81 Try.isAgg3 rfl hat103.one) ?_; clear ha a; intro a ha
        refine op_want (yields ha rfl rfl) ?_
        refine op_g ha rfl (g_geq rfl rfl) ?_; clear ha a; intro a ha
        refine op_g ha rfl (g_pick rfl rfl) ?_; clear ha a; intro a ha
        refine op_g ha rfl (g_move rfl) ?_; clear ha a; intro a ha
        by_cases hp107 : 0 ≤ x95
        · replace hF := if_t hp107 hF
          rw [show (decide (0 ≤ x95)) = true from (decide_eq_true_iff).2 hp107] at ha
          refine op_unwant ha rfl (yields ha rfl rfl) rfl ?_; clear ha a; intro a ha
          refine op_unwant ha rfl (yields ha rfl rfl) rfl ?_; clear ha a; intro a ha
          refine op_unwant ha rfl (yields ha rfl rfl) rfl ?_; clear ha a; intro a ha
          refine op_unwant ha rfl (yields ha rfl rfl) rfl ?_; clear ha a; intro a ha
          refine op_unwant ha rfl (yields ha rfl rfl) rfl ?_; clear ha a; intro a ha
          refine op_unwant ha rfl (yields ha rfl rfl) rfl ?_; clear ha a; intro a ha
          refine op_unwant ha rfl (yields ha rfl rfl) rfl ?_; clear ha a; intro a ha
          refine op_unwant ha rfl (yields ha rfl rfl) rfl ?_; clear ha a; intro a ha
          refine op_unwant ha rfl (yields ha rfl rfl) rfl ?_; clear ha a; intro a ha
          refine op_g ha rfl (g_pick rfl rfl) ?_; clear ha a; intro a ha
          refine wpList_nil ?_
          replace ha := ha.sub (σ' := [(1, va1), (2, va2), (7, (.int .i64 (a2.length : Int))), (43, (.bool true))]) ⟨rfl, rfl, rfl, rfl, trivial⟩
          refine e_then ?_
          refine c_true ha rfl ?_
          refine wp_seq ?_
          refine wp_region_lit ?_
          refine op_g ha rfl (g_assign rfl) ?_; clear ha a; intro a ha
          refine wpList_nil ?_
          replace ha := ha.sub (σ' := [(6, (.bool false))]) ⟨rfl, trivial⟩
          refine e_then ?_
          refine wp_ret ?_
          refine e_then_ret ?_
          obtain rfl := Option.some.inj hF
          exact f_ret1 ha rfl rfl ⟨rfl, hE81⟩
        · replace hF := if_f hp107 hF
          rw [show (decide (0 ≤ x95)) = false from b_false (decide_eq_true_iff) hp107] at ha
          refine op_want (yields ha rfl rfl) ?_
          refine op_g ha rfl (g_move rfl) ?_; clear ha a; intro a ha
          refine op_want (yields ha rfl rfl) ?_
          refine op_g ha rfl (g_move rfl) ?_; clear ha a; intro a ha
          refine op_want (yields ha rfl rfl) ?_
          refine op_g ha rfl (g_move rfl) ?_; clear ha a; intro a ha
          refine op_want (yields ha rfl rfl) ?_
          obtain ⟨hI108, hF⟩ := ck_some hF
          refine op_g ha rfl (g_sub rfl rfl hI108) ?_; clear ha a; intro a ha
          refine op_want (yields ha rfl rfl) ?_
          obtain ⟨x110, g111, gx112, hF⟩ := idx_some hF
          obtain ⟨p113, cs114, f115, hf116, hpb117, hat118, hr119, hi120⟩ := ha2.at g111 gx112
          obtain ⟨rfl, hI121, rfl⟩ := hr119
          refine op_g ha rfl (hi120.gives sl25 rfl rfl) ?_; clear ha a; intro a ha
          refine op_want (yields ha rfl rfl) ?_
          refine op_g ha rfl (g_load0 hE81 Try.isAgg2 rfl hat118.one) ?_; clear ha a; intro a ha
          refine op_want (yields ha rfl rfl) ?_
          obtain ⟨x122, g123, gx124, hF⟩ := idx_some hF
          obtain ⟨p125, cs126, f127, hf128, hpb129, hat130, hr131, hi132⟩ := ha1.at g123 gx124
          obtain ⟨rfl, hI133, rfl⟩ := hr131
          refine op_g ha rfl (hi132.gives sl56 rfl rfl) ?_; clear ha a; intro a ha
          refine op_want (yields ha rfl rfl) ?_
          refine op_g ha rfl (g_load0 hE81 Try.isAgg3 rfl hat130.one) ?_; clear ha a; intro a ha
          refine op_want (yields ha rfl rfl) ?_
          refine op_g ha rfl (g_geq rfl rfl) ?_; clear ha a; intro a ha
          refine op_g ha rfl (g_pick rfl rfl) ?_; clear ha a; intro a ha
          refine wpList_nil ?_
          replace ha := ha.sub (σ' := [(1, va1), (2, va2), (7, (.int .i64 (a2.length : Int))), (43, (.bool (decide (0 ≤ x122))))]) ⟨rfl, rfl, rfl, rfl, trivial⟩
          refine e_then ?_
          refine c_cond (0 ≤ x122) ha rfl (decide_eq_true_iff) (fun hp134 => ?_) (fun hp134 => ?_)
          · replace hF := if_t hp134 hF
            refine wp_seq ?_
            refine wp_region_lit ?_
            refine op_g ha rfl (g_assign rfl) ?_; clear ha a; intro a ha
            refine wpList_nil ?_
            replace ha := ha.sub (σ' := [(6, (.bool false))]) ⟨rfl, trivial⟩
            refine e_then ?_
            refine wp_ret ?_
            refine e_then_ret ?_
            obtain rfl := Option.some.inj hF
            exact f_ret1 ha rfl rfl ⟨rfl, hE81⟩
          · replace hF := if_f hp134 hF
            refine wp_skip ?_
            refine e_then ?_
            refine wp_seq ?_
            refine wp_seq ?_
            refine wp_region_lit ?_
            refine op_g ha rfl (g_assign rfl) ?_; clear ha a; intro a ha
            refine wpList_nil ?_
            replace ha := ha.sub (σ' := [(1, va1), (2, va2), (7, (.int .i64 (a2.length : Int))), (8, (.int .i64 1))]) ⟨rfl, rfl, rfl, rfl, trivial⟩
            refine e_then ?_
            obtain ⟨o242, ho243, hK244⟩ := bnd_some hF
            obtain ⟨n245, hn246⟩ := lp_some ho243; clear ho243
            refine c_loop (fun a w => Fr 63 [] a ∧ Chg [] W w ∧ o242 = .inl ()) (fun n a w => ∃ (i188 : Int), Fr 63 [(1, va1), (2, va2), (7, (.int .i64 (a2.length : Int))), (8, (.int .i64 i188))] a ∧ Chg [] W w ∧ InI i188 ∧ lpN (fun s => F_impl_augments_l1 a1 a2 s) n i188 = some o242) n245 ⟨1, ha.sub ⟨rfl, rfl, rfl, rfl, trivial⟩, hE81, (show InI 1 from by decide), hn246⟩ ?_ ?_
            · rintro m250 a w187 ⟨i188, ha, hE190, hI189, hF⟩
              cases m250 with
              | zero => exact (lpN_zero hF).elim
              | succ m250 =>
                obtain ⟨z249, hF, hN248⟩ := lpN_succ hF
                have hF : F_impl_augments_l1 a1 a2 i188 = some z249 := hF; unfold F_impl_augments_l1 at hF
                refine wp_seq ?_
                refine wp_seq ?_
                refine wp_region_lit ?_
                refine op_g ha rfl (g_move rfl) ?_; clear ha a; intro a ha
                obtain ⟨hI251, hF⟩ := ck_some hF
                refine op_g ha rfl (g_add rfl rfl hI251) ?_; clear ha a; intro a ha
                refine op_g ha rfl (g_move rfl) ?_; clear ha a; intro a ha
                refine op_g ha rfl (g_lss rfl rfl) ?_; clear ha a; intro a ha
                refine wpList_nil ?_
                replace ha := ha.sub (σ' := [(1, va1), (2, va2), (7, (.int .i64 (a2.length : Int))), (8, (.int .i64 i188)), (47, (.bool (decide ((i188 + 1) < (a2.length : Int)))))]) ⟨rfl, rfl, rfl, rfl, rfl, trivial⟩
                refine e_then ?_
                refine c_cond ((i188 + 1) < (a2.length : Int)) ha rfl (decide_eq_true_iff) (fun hp253 => ?_) (fun hp253 => ?_)
                · replace hF := if_t hp253 hF
                  refine wp_skip ?_
                  refine e_then ?_
                  refine wp_seq ?_
                  refine wp_block ?_
                  refine wp_seq ?_
                  refine d_quiet hmix (by kernel_rfl) ?_
                  refine q_g ha rfl (g_move rfl) ?_; clear ha a; intro a ha
                  refine q_g ha rfl (g_move rfl) ?_; clear ha a; intro a ha
                  refine q_g ha rfl (g_move rfl) ?_; clear ha a; intro a ha
                  obtain ⟨x254, g255, gx256, hF⟩ := idx_some hF
                  obtain ⟨p257, cs258, f259, hf260, hpb261, hat262, hr263, hi264⟩ := ha2.at g255 gx256
                  obtain ⟨rfl, hI265, rfl⟩ := hr263
                  refine q_g ha rfl (hi264.gives sl25 rfl rfl) ?_; clear ha a; intro a ha
                  refine q_g ha rfl (g_load0 hE190 Try.isAgg2 rfl hat262.one) ?_; clear ha a; intro a ha
                  obtain ⟨x266, g267, gx268, hF⟩ := idx_some hF
                  obtain ⟨p269, cs270, f271, hf272, hpb273, hat274, hr275, hi276⟩ := ha1.at g267 gx268
                  obtain ⟨rfl, hI277, rfl⟩ := hr275
                  refine q_g ha rfl (hi276.gives sl56 rfl rfl) ?_; clear ha a; intro a ha
                  refine q_g ha rfl (g_load0 hE190 Try.isAgg3 rfl hat274.one) ?_; clear ha a; intro a ha
                  refine q_g ha rfl (g_move rfl) ?_; clear ha a; intro a ha
                  refine q_g ha rfl (g_move rfl) ?_; clear ha a; intro a ha
                  obtain ⟨hI278, hF⟩ := ck_some hF
                  refine q_g ha rfl (g_add rfl rfl hI278) ?_; clear ha a; intro a ha
                  obtain ⟨x280, g281, gx282, hF⟩ := idx_some hF
                  obtain ⟨p283, cs284, f285, hf286, hpb287, hat288, hr289, hi290⟩ := ha2.at g281 gx282
                  obtain ⟨rfl, hI291, rfl⟩ := hr289
                  refine q_g ha rfl (hi290.gives sl25 rfl rfl) ?_; clear ha a; intro a ha
                  refine q_g ha rfl (g_load0 hE190 Try.isAgg2 rfl hat288.one) ?_; clear ha a; intro a ha
                  refine q_g ha rfl (g_neq rfl rfl) ?_; clear ha a; intro a ha
                  refine q_nil ?_; intro w292 hx293
                  have hE294 := Ext.trans hE190 hx293
                  replace ha := ha.sub (σ' := [(1, va1), (2, va2), (7, (.int .i64 (a2.length : Int))), (8, (.int .i64 i188)), (62, (.bool (decide (x266 ≠ x280))))]) ⟨rfl, rfl, rfl, rfl, rfl, trivial⟩
                  refine e_then ?_
                  refine c_cond (x266 ≠ x280) ha rfl (decide_eq_true_iff) (fun hp295 => ?_) (fun hp295 => ?_)
                  · replace hF := if_t hp295 hF
                    refine wp_seq ?_
                    refine wp_region_lit ?_
                    refine op_g ha rfl (g_assign rfl) ?_; clear ha a; intro a ha
                    refine wpList_nil ?_
                    replace ha := ha.sub (σ' := [(6, (.bool false))]) ⟨rfl, trivial⟩
                    refine e_then ?_
                    refine wp_ret ?_
                    refine e_blk_ret ?_
                    refine e_then_ret ?_
                    refine e_lq_ret ?_
                    refine e_then_ret ?_
                    obtain rfl := Option.some.inj hF
                    have e296 := LK_inr hN248; subst e296
                    have e297 := BK_inr hK244; subst e297
                    exact f_ret1 ha rfl rfl ⟨rfl, hE294⟩
                  · replace hF := if_f hp295 hF
                    refine wp_skip ?_
                    refine e_blk ?_
                    refine e_then ?_
                    refine wp_region_lit ?_
                    refine op_g ha rfl (g_move rfl) ?_; clear ha a; intro a ha
                    obtain ⟨hI298, hF⟩ := ck_some hF
                    refine op_g ha rfl (g_add rfl rfl hI298) ?_; clear ha a; intro a ha
                    refine op_g ha rfl (g_assign rfl) ?_; clear ha a; intro a ha
                    refine wpList_nil ?_
                    replace ha := ha.sub (σ' := [(1, va1), (2, va2), (7, (.int .i64 (a2.length : Int))), (8, (.int .i64 (i188 + 2)))]) ⟨rfl, rfl, rfl, rfl, trivial⟩
                    refine e_lq ?_
                    obtain rfl := Option.some.inj hF
                    exact ⟨_, Nat.lt_succ_self _, i188 + 2, ha.sub ⟨rfl, rfl, rfl, rfl, trivial⟩, hE294, hI298, hN248⟩
                · replace hF := if_f hp253 hF
                  refine wp_exit ?_
                  refine e_then_exit ?_
                  refine e_lq_eq ?_
                  obtain rfl := Option.some.inj hF
                  exact ⟨ha.sub trivial, hE190, (LK_inr hN248).symm⟩
            · rintro a w241 ⟨ha, hE247, rfl⟩
              have hF : F_impl_augments_k2 = some _ := hK244; clear hK244; unfold F_impl_augments_k2 at hF
              refine e_then ?_
              refine wp_seq ?_
              refine wp_region_lit ?_
              refine op_g ha rfl (g_assign rfl) ?_; clear ha a; intro a ha
              refine wpList_nil ?_
              refine e_then ?_
              refine wp_ret ?_
              obtain rfl := Option.some.inj hF
              exact f_ret1 ha rfl rfl ⟨rfl, hE247⟩
set_option maxHeartbeats 2000000 in
theorem W_impl_SwitchedBy {W : World} {va0_0 : Value} {fa0_0 : List Nat} {a0_0 : (List (List Int))} (ha0_0 : Ro (Rp.sl 2 Rp.int) W fa0_0 va0_0 a0_0) {va1 : Value} {fa1 : List Nat} {a1 : (List (List Int))} (ha1 : Ro (Rp.sl 2 Rp.int) W fa1 va1 a1) {va2 : Value} {fa2 : List Nat} {a2 : (List Int)} (ha2 : Ro Rp.int W fa2 va2 a2) {r : ((List (List Int)) × Bool)} (hF : F_impl_SwitchedBy a0_0 a1 a2 = some r) :
    Calls Try.prog 11 [.agg #[va0_0], va1, va2].toArray W (Ret fun u w' => ∃ (u0 : Value) (u1 : Value) (b_u0 : Int) (fs_u0 : List Nat), u = .tuple #[u0, u1] ∧ Ow (Rp.sl 2 Rp.int) 25 true w' fs_u0 b_u0 u0 r.1 ∧ Zn W b_u0 ∧ (∀ k ∈ fs_u0, W.heap.size ≤ k) ∧ (bl b_u0 ++ fs_u0).Nodup ∧ u1 = .bool r.2 ∧ Ext W w') := by
  refine f_enter Try.func11 rfl Try.ntmps11 rfl ?_
  intro a ha
  replace ha : Fr 80 [(0, (.agg #[va0_0])), (1, va1), (2, va2)] a := ha
  have hE : Chg [] W W := Chg.refl _ _
  unfold F_impl_SwitchedBy at hF
  refine wp_seq ?_
  refine wp_region_lit ?_
  refine o_box ha rfl rfl rfl ?_; clear ha a; intro b1 w2 hB3 hx4 hlo5 a ha
  have q6 := Zn.one hlo5
  have q7 := Zn.upD q6 hE
  have hE8 := Ext.trans hE hx4
  refine op_g ha rfl (g_assign rfl) ?_; clear ha a; intro a ha
  refine op_g ha rfl (g_assign rfl) ?_; clear ha a; intro a ha
  refine wpList_nil ?_
  replace ha := ha.sub (σ' := [(1, va1), (2, va2), (3, (.pointer (some ⟨b1, 0, none⟩)))]) ⟨rfl, rfl, rfl, trivial⟩
  refine e_then ?_
  refine wp_seq ?_
  refine wp_seq ?_
  refine d_region [0, 1, 2, 3, 4, 5, 6, 7, 8, 9, 10, 11, 12, 13, 14] hmix ?_
  refine u_g 0 rfl (by kernel_rfl) (want0 _) ha rfl (g_loadA (cs := [va0_0]) Try.isAgg30 Try.sizeOf30 rfl (by simp) hB3.all) ?_; clear ha a; intro a ha
  refine u_g 1 rfl (by kernel_rfl) (want0 _) ha rfl (g_move rfl) ?_; clear ha a; intro a ha
  obtain ⟨x46, hc47, hF⟩ := cal_some hF
  refine u_call (.bool x46) 2 rfl (by kernel_rfl) (want0 _) ha rfl rfl Try.call33 (fun w45 hx44 => W_impl_MatchOk (ha0_0.ext (Ext.trans hE8 hx44)) (ha1.ext (Ext.trans hE8 hx44)) hc47) (fun _ _ _ h => ⟨h.1, h.2⟩) ?_; clear ha a; intro a ha
  refine u_g 3 rfl (by kernel_rfl) (want0 _) ha rfl (g_not rfl) ?_; clear ha a; intro a ha
  refine u_g 4 rfl (by kernel_rfl) (want0 _) ha rfl (g_move rfl) ?_; clear ha a; intro a ha
  by_cases hp48 : ¬ (x46 = true)
  · replace hF := if_t hp48 hF
    rw [show (!x46) = true from (n_iff (Iff.rfl)).2 hp48] at ha
    refine u_unwant 5 rfl (by kernel_rfl) (want2 (yields ha rfl rfl) rfl) ha rfl ?_; clear ha a; intro a ha
    refine u_unwant 6 rfl (by kernel_rfl) (want2 (yields ha rfl rfl) rfl) ha rfl ?_; clear ha a; intro a ha
    refine u_unwant 7 rfl (by kernel_rfl) (want2 (yields ha rfl rfl) rfl) ha rfl ?_; clear ha a; intro a ha
    refine u_unwant 8 rfl (by kernel_rfl) (want2 (yields ha rfl rfl) rfl) ha rfl ?_; clear ha a; intro a ha
    refine u_unwant 9 rfl (by kernel_rfl) (want2 (yields ha rfl rfl) rfl) ha rfl ?_; clear ha a; intro a ha
    refine u_unwant 10 rfl (by kernel_rfl) (want2 (yields ha rfl rfl) rfl) ha rfl ?_; clear ha a; intro a ha
    refine u_unwant 11 rfl (by kernel_rfl) (want2 (yields ha rfl rfl) rfl) ha rfl ?_; clear ha a; intro a ha
    refine u_unwant 12 rfl (by kernel_rfl) (want2 (yields ha rfl rfl) rfl) ha rfl ?_; clear ha a; intro a ha
    refine u_unwant 13 rfl (by kernel_rfl) (want2 (yields ha rfl rfl) rfl) ha rfl ?_; clear ha a; intro a ha
    refine u_g 14 rfl (by kernel_rfl) (want0 _) ha rfl (g_pick rfl rfl) ?_; clear ha a; intro a ha
    refine u_done (by kernel_rfl) ?_; intro w49 hx50
    replace hB3 := hB3.ext hx50
    have hE51 := Ext.trans hE8 hx50
    replace ha := ha.sub (σ' := [(1, va1), (2, va2), (3, (.pointer (some ⟨b1, 0, none⟩))), (27, (.bool true))]) ⟨rfl, rfl, rfl, rfl, trivial⟩
    refine e_then ?_
    refine c_true ha rfl ?_
    refine wp_seq ?_
    refine wp_region_lit ?_
    refine op_g ha rfl (g_assign rfl) ?_; clear ha a; intro a ha
    refine op_g ha rfl (g_assign rfl) ?_; clear ha a; intro a ha
    refine wpList_nil ?_
    replace ha := ha.sub (σ' := [(6, (.slice none 0 0)), (7, (.bool false))]) ⟨rfl, rfl, trivial⟩
    refine e_then ?_
    refine wp_ret ?_
    refine e_then_ret ?_
    obtain rfl := Option.some.inj hF
    exact f_ret2 ha rfl rfl rfl ⟨_, _, -1, [], rfl, (Ow.nil (by decide)), (.inl (by decide)), (zf_nil _), (bl_nodup _), rfl, hE51⟩
  · replace hF := if_f hp48 hF
    rw [show (!x46) = false from b_false (n_iff (Iff.rfl)) hp48] at ha
    refine u_g 5 rfl (by kernel_rfl) (want1 (yields ha rfl rfl)) ha rfl (g_loadA (cs := [va0_0]) Try.isAgg30 Try.sizeOf30 rfl (by simp) hB3.all) ?_; clear ha a; intro a ha
    refine u_g 6 rfl (by kernel_rfl) (want1 (yields ha rfl rfl)) ha rfl (g_field0 st30_0 rfl) ?_; clear ha a; intro a ha
    refine u_g 7 rfl (by kernel_rfl) (want1 (yields ha rfl rfl)) ha rfl (g_load Try.isAgg22 rfl (hB3.cell rfl)) ?_; clear ha a; intro a ha
    refine u_g 8 rfl (by kernel_rfl) (want1 (yields ha rfl rfl)) ha rfl (g_lenR sl22.und ha0_0 rfl) ?_; clear ha a; intro a ha
    refine u_g 9 rfl (by kernel_rfl) (want1 (yields ha rfl rfl)) ha rfl (g_move rfl) ?_; clear ha a; intro a ha
    refine u_g 11 rfl (by kernel_rfl) (want1 (yields ha rfl rfl)) ha rfl (g_move rfl) ?_; clear ha a; intro a ha
    refine u_only 10 rfl (by kernel_rfl) ?_; intro w52 hx53
    replace hB3 := hB3.ext hx53
    have hE54 := Ext.trans hE8 hx53
    refine op_want (yields ha rfl rfl) ?_
    obtain ⟨x55, hc56, hF⟩ := cal_some hF
    refine o_call ha rfl rfl Try.call35 (W_impl_mates ha0_0.len (ha1.ext hE54) hc56) ?_; clear ha a; rintro v57 w58 ⟨b60, h61, z62, hx59⟩ a ha
    have q64 := Nq.new hB3.fpb z62
    have q65 := Nq.madeO z62 hB3.bi
    replace hB3 := hB3.ext hx59
    have hE66 := Ext.trans hE54 hx59
    have q67 := Zn.upD z62 hE54
    refine wpList_nil (e_sq ?_)
    refine ⟨fun _ => hx59, ?_⟩
    obtain ⟨fp70, hro71, hs72⟩ := h61.roF
    obtain ⟨x73, hc74, hF⟩ := cal_some hF
    refine u_call (.bool x73) 12 rfl (by kernel_rfl) (want1 (yields ha rfl rfl)) ha rfl rfl Try.call34 (fun w69 hx68 => W_impl_augments (ha0_0.ext (Ext.trans hE66 hx68)) (hro71.ext hx68) (ha2.ext (Ext.trans hE66 hx68)) hc74) (fun _ _ _ h => ⟨h.1, h.2⟩) ?_; clear ha a; intro a ha
    refine u_g 13 rfl (by kernel_rfl) (want1 (yields ha rfl rfl)) ha rfl (g_not rfl) ?_; clear ha a; intro a ha
    refine u_g 14 rfl (by kernel_rfl) (want0 _) ha rfl (g_pick rfl rfl) ?_; clear ha a; intro a ha
    refine u_done (by kernel_rfl) ?_; intro w75 hx76
    replace hB3 := hB3.ext hx76
    replace h61 := h61.ext hx76
    have hE77 := Ext.trans hE66 hx76
    replace ha := ha.sub (σ' := [(1, va1), (2, va2), (3, (.pointer (some ⟨b1, 0, none⟩))), (27, (.bool (!x73)))]) ⟨rfl, rfl, rfl, rfl, trivial⟩
    refine e_then ?_
    refine c_cond (¬ (x73 = true)) ha rfl (n_iff (Iff.rfl)) (fun hp78 => ?_) (fun hp78 => ?_)
    · replace hF := if_t hp78 hF
      refine wp_seq ?_
      refine wp_region_lit ?_
      refine op_g ha rfl (g_assign rfl) ?_; clear ha a; intro a ha
      refine op_g ha rfl (g_assign rfl) ?_; clear ha a; intro a ha
      refine wpList_nil ?_
      replace ha := ha.sub (σ' := [(6, (.slice none 0 0)), (7, (.bool false))]) ⟨rfl, rfl, trivial⟩
      refine e_then ?_
      refine wp_ret ?_
      refine e_then_ret ?_
      obtain rfl := Option.some.inj hF
      exact f_ret2 ha rfl rfl rfl ⟨_, _, -1, [], rfl, (Ow.nil (by decide)), (.inl (by decide)), (zf_nil _), (bl_nodup _), rfl, hE77⟩
    · replace hF := if_f hp78 hF
      refine wp_skip ?_
      refine e_then ?_
      refine wp_seq ?_
      refine wp_region_lit ?_
      refine op_g ha rfl (g_field0 st30_0 rfl) ?_; clear ha a; intro a ha
      refine op_g ha rfl (g_load Try.isAgg22 rfl (hB3.cell rfl)) ?_; clear ha a; intro a ha
      refine op_g ha rfl (g_lenR sl22.und ha0_0 rfl) ?_; clear ha a; intro a ha
      refine op_g ha rfl (g_move rfl) ?_; clear ha a; intro a ha
      obtain ⟨x79, hc80, hF⟩ := cal_some hF
      refine o_call ha rfl rfl Try.call35 (W_impl_mates ha0_0.len (ha1.ext hE77) hc80) ?_; clear ha a; rintro v81 w82 ⟨b84, h85, z86, hx83⟩ a ha
      have q88 := Nq.new hB3.fpb z86
      have q89 := Nq.madeO z86 hB3.bi
      replace hB3 := hB3.ext hx83
      have hE90 := Ext.trans hE77 hx83
      have q91 := Zn.upD z86 hE77
      refine op_g ha rfl (g_assign rfl) ?_; clear ha a; intro a ha
      refine wpList_nil ?_
      replace ha := ha.sub (σ' := [(2, va2), (8, v81)]) ⟨rfl, rfl, trivial⟩
      refine e_then ?_
      refine wp_seq ?_
      refine wp_seq ?_
      refine wp_region_lit ?_
      refine op_g ha rfl (g_assign rfl) ?_; clear ha a; intro a ha
      refine wpList_nil ?_
      refine e_then ?_
      obtain ⟨o338, ho339, hK340⟩ := bnd_some hF
      obtain ⟨n341, hn342⟩ := lp_some ho339; clear ho339
      refine c_loop (fun a w => ∃ (l335 : (List Int)) (v336 : Value) (b337 : Int), Fr 80 [(8, v336)] a ∧ Chg [] W w ∧ Ow Rp.int 3 true w [] b337 v336 l335 ∧ Zn W b337 ∧ o338 = .inl l335) (fun n a w => ∃ (l213 : (List Int)) (i216 : Int) (v214 : Value) (b215 : Int), Fr 80 [(2, va2), (8, v214), (9, (.int .i64 i216))] a ∧ Chg [] W w ∧ InI i216 ∧ Ow Rp.int 3 true w [] b215 v214 l213 ∧ Zn W b215 ∧ lpN (fun s => F_impl_SwitchedBy_l1 a2 s.1 s.2) n (l213, i216) = some o338) n341 ⟨x79, 0, v81, b84, ha.sub ⟨rfl, rfl, rfl, trivial⟩, hE90, (show InI 0 from by decide), h85, q91, hn342⟩ ?_ ?_
      · rintro m346 a w209 ⟨l213, i216, v214, b215, ha, hE218, hI217, h211, z212, hF⟩
        cases m346 with
        | zero => exact (lpN_zero hF).elim
        | succ m346 =>
          obtain ⟨z345, hF, hN344⟩ := lpN_succ hF
          have hF : F_impl_SwitchedBy_l1 a2 l213 i216 = some z345 := hF; unfold F_impl_SwitchedBy_l1 at hF
          refine wp_seq ?_
          refine wp_seq ?_
          refine wp_region_lit ?_
          refine op_g ha rfl (g_move rfl) ?_; clear ha a; intro a ha
          refine op_g ha rfl (g_move rfl) ?_; clear ha a; intro a ha
          refine op_g ha rfl (g_lenR sl25.und ha2 rfl) ?_; clear ha a; intro a ha
          refine op_g ha rfl (g_lss rfl rfl) ?_; clear ha a; intro a ha
          refine wpList_nil ?_
          replace ha := ha.sub (σ' := [(2, va2), (8, v214), (9, (.int .i64 i216)), (36, (.bool (decide (i216 < (a2.length : Int)))))]) ⟨rfl, rfl, rfl, rfl, trivial⟩
          refine e_then ?_
          refine c_cond (i216 < (a2.length : Int)) ha rfl (decide_eq_true_iff) (fun hp347 => ?_) (fun hp347 => ?_)
          · replace hF := if_t hp347 hF
            refine wp_skip ?_
            refine e_then ?_
            refine wp_seq ?_
            refine wp_block ?_
            refine d_region [0, 1, 2, 3, 4, 6, 7, 8, 9, 10, 11, 12, 13, 14, 15, 16, 17, 18, 19, 20] hmix ?_
            refine u_p 5 rfl (by kernel_rfl) (want0 _) ha rfl (fun _ => g_move rfl) ?_; clear ha a; intro a ha
            refine u_g 0 rfl (by kernel_rfl) (want0 _) ha rfl (g_move rfl) ?_; clear ha a; intro a ha
            refine u_g 1 rfl (by kernel_rfl) (want0 _) ha rfl (g_move rfl) ?_; clear ha a; intro a ha
            refine u_g 2 rfl (by kernel_rfl) (want0 _) ha rfl (g_move rfl) ?_; clear ha a; intro a ha
            obtain ⟨x348, g349, gx350, hF⟩ := idx_some hF
            obtain ⟨p351, cs352, f353, hf354, hpb355, hat356, hr357, hi358⟩ := ha2.at g349 gx350
            obtain ⟨rfl, hI359, rfl⟩ := hr357
            refine u_g 3 rfl (by kernel_rfl) (want0 _) ha rfl (hi358.gives sl25 rfl rfl) ?_; clear ha a; intro a ha
            refine u_g 4 rfl (by kernel_rfl) (want0 _) ha rfl (g_load0 hE218 Try.isAgg2 rfl hat356.one) ?_; clear ha a; intro a ha
            refine u_g 6 rfl (by kernel_rfl) (want0 _) ha rfl (g_move rfl) ?_; clear ha a; intro a ha
            refine u_g 7 rfl (by kernel_rfl) (want0 _) ha rfl (g_move rfl) ?_; clear ha a; intro a ha
            obtain ⟨hI360, hF⟩ := ck_some hF
            refine u_g 8 rfl (by kernel_rfl) (want0 _) ha rfl (g_add rfl rfl hI360) ?_; clear ha a; intro a ha
            obtain ⟨x362, g363, gx364, hF⟩ := idx_some hF
            obtain ⟨p365, cs366, f367, hf368, hpb369, hat370, hr371, hi372⟩ := ha2.at g363 gx364
            obtain ⟨rfl, hI373, rfl⟩ := hr371
            refine u_g 9 rfl (by kernel_rfl) (want0 _) ha rfl (hi372.gives sl25 rfl rfl) ?_; clear ha a; intro a ha
            refine u_g 10 rfl (by kernel_rfl) (want0 _) ha rfl (g_load0 hE218 Try.isAgg2 rfl hat370.one) ?_; clear ha a; intro a ha
            refine u_g 11 rfl (by kernel_rfl) (want0 _) ha rfl (g_move rfl) ?_; clear ha a; intro a ha
            refine u_g 12 rfl (by kernel_rfl) (want0 _) ha rfl (g_move rfl) ?_; clear ha a; intro a ha
            obtain ⟨hI374, hF⟩ := ck_some hF
            refine u_g 13 rfl (by kernel_rfl) (want0 _) ha rfl (g_add rfl rfl hI374) ?_; clear ha a; intro a ha
            obtain ⟨x376, g377, gx378, hF⟩ := idx_some hF
            obtain ⟨p379, cs380, f381, hf382, hpb383, hat384, hr385, hi386⟩ := ha2.at g377 gx378
            obtain ⟨rfl, hI387, rfl⟩ := hr385
            refine u_g 14 rfl (by kernel_rfl) (want0 _) ha rfl (hi386.gives sl25 rfl rfl) ?_; clear ha a; intro a ha
            refine u_g 15 rfl (by kernel_rfl) (want0 _) ha rfl (g_load0 hE218 Try.isAgg2 rfl hat384.one) ?_; clear ha a; intro a ha
            refine u_g 16 rfl (by kernel_rfl) (want0 _) ha rfl (g_move rfl) ?_; clear ha a; intro a ha
            refine u_g 17 rfl (by kernel_rfl) (want0 _) ha rfl (g_move rfl) ?_; clear ha a; intro a ha
            obtain ⟨x388, g389, gx390, hF⟩ := idx_some hF
            obtain ⟨p391, cs392, f393, hf394, hpb395, hat396, hr397, hi398⟩ := ha2.at g389 gx390
            obtain ⟨rfl, hI399, rfl⟩ := hr397
            refine u_g 18 rfl (by kernel_rfl) (want0 _) ha rfl (hi398.gives sl25 rfl rfl) ?_; clear ha a; intro a ha
            refine u_g 19 rfl (by kernel_rfl) (want0 _) ha rfl (g_load0 hE218 Try.isAgg2 rfl hat396.one) ?_; clear ha a; intro a ha
            obtain ⟨x400, g401, gx402, hF⟩ := idx_some hF
            obtain ⟨p403, cs404, f405, hf406, hpb407, hat408, hr409, hi410⟩ := h211.at g401 gx402
            obtain ⟨rfl, hI411, rfl⟩ := hr409
            refine u_g 20 rfl (by kernel_rfl) (want0 _) ha rfl (hi410.gives sl56 rfl rfl) ?_; clear ha a; intro a ha
            refine u_only 21 rfl (by kernel_rfl) ?_; intro w412 hx413
            replace h211 := h211.ext hx413
            have hE414 := Ext.trans hE218 hx413
            refine o_storeE (f := []) (q := x376) ha Try.sizeOf3 rfl rfl rfl h211 hi410 ⟨rfl, hI387, rfl⟩ (Nq.nil _) ?_; intro w415 fs416 h417 hc418 hs419
            obtain rfl := Subst.nil hs419
            have hE420 := Ext.then hE414 hc418 (Zn.bl z212)
            refine wpList_nil (e_sq ?_)
            refine ⟨fun h => absurd h (by decide), ?_⟩
            refine u_only 22 rfl (by kernel_rfl) ?_; intro w421 hx422
            replace h417 := h417.ext hx422
            have hE423 := Ext.trans hE420 hx422
            obtain ⟨x424, g425, gx426, hF⟩ := idx_some hF
            obtain ⟨p427, cs428, f429, hf430, hpb431, hat432, hr433, hi434⟩ := h417.at g425 gx426
            obtain ⟨rfl, hI435, rfl⟩ := hr433
            refine op_g ha rfl (hi434.gives sl56 rfl rfl) ?_; clear ha a; intro a ha
            refine wpList_nil (e_sq ?_)
            refine ⟨fun h => absurd h (by decide), ?_⟩
            refine u_only 23 rfl (by kernel_rfl) ?_; intro w436 hx437
            replace h417 := h417.ext hx437
            have hE438 := Ext.trans hE423 hx437
            refine o_storeE (f := []) (q := x388) ha Try.sizeOf3 rfl rfl rfl h417 hi434 ⟨rfl, hI399, rfl⟩ (Nq.nil _) ?_; intro w439 fs440 h441 hc442 hs443
            obtain rfl := Subst.nil hs443
            have hE444 := Ext.then hE438 hc442 (Zn.bl z212)
            refine wpList_nil (e_sq ?_)
            refine ⟨fun h => absurd h (by decide), ?_⟩
            refine u_done (by kernel_rfl) ?_; intro w445 hx446
            replace h441 := h441.ext hx446
            have hE447 := Ext.trans hE444 hx446
            replace ha := ha.sub (σ' := [(2, va2), (8, v214), (9, (.int .i64 i216))]) ⟨rfl, rfl, rfl, trivial⟩
            refine e_blk ?_
            refine e_then ?_
            refine wp_region_lit ?_
            refine op_g ha rfl (g_move rfl) ?_; clear ha a; intro a ha
            obtain ⟨hI448, hF⟩ := ck_some hF
            refine op_g ha rfl (g_add rfl rfl hI448) ?_; clear ha a; intro a ha
            refine op_g ha rfl (g_assign rfl) ?_; clear ha a; intro a ha
            refine wpList_nil ?_
            replace ha := ha.sub (σ' := [(2, va2), (8, v214), (9, (.int .i64 (i216 + 2)))]) ⟨rfl, rfl, rfl, trivial⟩
            refine e_lq ?_
            obtain rfl := Option.some.inj hF
            exact ⟨_, Nat.lt_succ_self _, ((l213.set ((x348 : Int).toNat) x376).set ((x362 : Int).toNat) x388), i216 + 2, v214, b215, ha.sub ⟨rfl, rfl, rfl, trivial⟩, hE447, hI448, h441, z212, hN344⟩
          · replace hF := if_f hp347 hF
            refine wp_exit ?_
            refine e_then_exit ?_
            refine e_lq_eq ?_
            obtain rfl := Option.some.inj hF
            exact ⟨l213, v214, b215, ha.sub ⟨rfl, trivial⟩, hE218, h211, z212, (LK_inr hN344).symm⟩
      · rintro a w331 ⟨l335, v336, b337, ha, hE343, h333, z334, rfl⟩
        have hF : F_impl_SwitchedBy_k2 l335 = some _ := hK340; clear hK340; unfold F_impl_SwitchedBy_k2 at hF
        refine e_then ?_
        refine wp_seq ?_
        refine wp_region_lit ?_
        refine o_lit0 (Rp.sl 2 Rp.int) ha rfl sl22 ?_; clear ha a; intro v450 w451 h452 hx453 a ha
        obtain ⟨b455, hb455⟩ : ∃ b : Int, b = w331.heap.size := ⟨_, rfl⟩; rw [← hb455] at h452
        have q456 := zn_of hb455
        have q457 := Nq.new h333.fpb q456
        have q458 := Nq.madeO q456 h333.blt
        have q459 := Zn.upD q456 hE343
        replace h333 := h333.ext hx453
        have hE460 := Ext.trans hE343 hx453
        refine op_g ha rfl (g_assign rfl) ?_; clear ha a; intro a ha
        refine wpList_nil ?_
        replace ha := ha.sub (σ' := [(8, v336), (10, v450)]) ⟨rfl, rfl, trivial⟩
        refine e_then ?_
        refine wp_seq ?_
        refine wp_seq ?_
        refine wp_region_lit ?_
        refine op_g ha rfl (g_move rfl) ?_; clear ha a; intro a ha
        refine op_g ha rfl (g_lenO sl56.und h333 rfl) ?_; clear ha a; intro a ha
        refine op_g ha rfl (g_move rfl) ?_; clear ha a; intro a ha
        refine wpList_nil ?_
        replace ha := ha.sub (σ' := [(10, v450), (62, v336), (63, (.int .i64 (l335.length : Int))), (64, (.int .i64 0))]) ⟨rfl, rfl, rfl, rfl, trivial⟩
        refine e_then ?_
        obtain ⟨o664, ho665, hK666⟩ := bnd_some hF
        obtain ⟨n667, hn668⟩ := lp_some ho665; clear ho665
        refine c_loop (fun a w => ∃ (l661 : (List (List Int))) (fs658 : List Nat) (v662 : Value) (b663 : Int), Fr 80 [(10, v662)] a ∧ Chg [] W w ∧ Ow (Rp.sl 2 Rp.int) 25 true w fs658 b663 v662 l661 ∧ Zn W b663 ∧ (∀ k ∈ fs658, W.heap.size ≤ k) ∧ (bl b663 ++ fs658).Nodup ∧ o664 = .inl l661) (fun n a w => ∃ (l562 : (List (List Int))) (i568 : Int) (fs559 : List Nat) (v563 : Value) (b564 : Int), Fr 80 [(10, v563), (62, v336), (63, (.int .i64 (l335.length : Int))), (64, (.int .i64 i568))] a ∧ Chg [] W w ∧ InI i568 ∧ Ow (Rp.sl 2 Rp.int) 25 true w fs559 b564 v563 l562 ∧ Zn W b564 ∧ (∀ k ∈ fs559, W.heap.size ≤ k) ∧ (bl b564 ++ fs559).Nodup ∧ Ow Rp.int 3 true w [] b337 v336 l335 ∧ Zn W b337 ∧ Nq (bl b564 ++ fs559) b337 ∧ Nq (bl b337 ++ []) b564 ∧ lpN (fun s => F_impl_SwitchedBy_l3 l335 s.1 s.2) n (l562, i568) = some o664) n667 ⟨([] : (List (List Int))), 0, [], v450, b455, ha.sub ⟨rfl, rfl, rfl, rfl, trivial⟩, hE460, (show InI 0 from by decide), h452, q459, (zf_nil _), (bl_nodup b455), h333, z334, q458, q457, hn668⟩ ?_ ?_
        · rintro m672 a w555 ⟨l562, i568, fs559, v563, b564, ha, hE572, hI569, h557, z558, zf560, nd561, h566, z567, q570, q571, hF⟩
          cases m672 with
          | zero => exact (lpN_zero hF).elim
          | succ m672 =>
            obtain ⟨z671, hF, hN670⟩ := lpN_succ hF
            have hF : F_impl_SwitchedBy_l3 l335 l562 i568 = some z671 := hF; unfold F_impl_SwitchedBy_l3 at hF
            refine wp_seq ?_
            refine wp_region_lit ?_
            refine op_g ha rfl (g_lss rfl rfl) ?_; clear ha a; intro a ha
            refine wpList_nil ?_
            replace ha := ha.sub (σ' := [(10, v563), (62, v336), (63, (.int .i64 (l335.length : Int))), (64, (.int .i64 i568)), (65, (.bool (decide (i568 < (l335.length : Int)))))]) ⟨rfl, rfl, rfl, rfl, rfl, trivial⟩
            refine e_then ?_
            refine wp_seq ?_
            refine c_cond (i568 < (l335.length : Int)) ha rfl (decide_eq_true_iff) (fun hp673 => ?_) (fun hp673 => ?_)
            · replace hF := if_t hp673 hF
              refine wp_skip ?_
              refine e_then ?_
              refine wp_seq ?_
              refine wp_block ?_
              refine wp_seq ?_
              refine wp_region_lit ?_
              refine op_g ha rfl (g_move rfl) ?_; clear ha a; intro a ha
              obtain ⟨x674, g675, gx676, hF⟩ := idx_some hF
              obtain ⟨p677, cs678, f679, hf680, hpb681, hat682, hr683, hi684⟩ := h566.at g675 gx676
              obtain ⟨rfl, hI685, rfl⟩ := hr683
              refine op_g ha rfl (hi684.gives sl56 rfl rfl) ?_; clear ha a; intro a ha
              refine op_g ha rfl (g_load Try.isAgg3 rfl hat682.one) ?_; clear ha a; intro a ha
              refine op_g ha rfl (g_assign rfl) ?_; clear ha a; intro a ha
              refine op_g ha rfl (g_assign rfl) ?_; clear ha a; intro a ha
              refine wpList_nil ?_
              replace ha := ha.sub (σ' := [(10, v563), (11, (.int .i64 i568)), (12, (.int .i64 x674)), (62, v336), (63, (.int .i64 (l335.length : Int))), (64, (.int .i64 i568))]) ⟨rfl, rfl, rfl, rfl, rfl, rfl, trivial⟩
              refine e_then ?_
              refine wp_seq ?_
              refine wp_region_lit ?_
              refine op_g ha rfl (g_move rfl) ?_; clear ha a; intro a ha
              refine op_g ha rfl (g_move rfl) ?_; clear ha a; intro a ha
              refine op_g ha rfl (g_gtr rfl rfl) ?_; clear ha a; intro a ha
              refine wpList_nil ?_
              replace ha := ha.sub (σ' := [(10, v563), (11, (.int .i64 i568)), (12, (.int .i64 x674)), (62, v336), (63, (.int .i64 (l335.length : Int))), (64, (.int .i64 i568)), (71, (.bool (decide (i568 < x674))))]) ⟨rfl, rfl, rfl, rfl, rfl, rfl, rfl, trivial⟩
              refine e_then ?_
              refine c_cond (i568 < x674) ha rfl (decide_eq_true_iff) (fun hp686 => ?_) (fun hp686 => ?_)
              · replace hF := if_t hp686 hF
                refine wp_region_lit ?_
                refine op_g ha rfl (g_move rfl) ?_; clear ha a; intro a ha
                refine op_g ha rfl (g_move rfl) ?_; clear ha a; intro a ha
                refine op_g ha rfl (g_move rfl) ?_; clear ha a; intro a ha
                have hvob691 : ∀ p ∈ ([((.int .i64 i568), [(.int .i64 i568)]), ((.int .i64 x674), [(.int .i64 x674)])] : List (Value × List Value)), p.1.cells = p.2.toArray ∧ p.2.length = 1 := by
                  intro p hp; simp only [List.mem_cons, List.not_mem_nil, or_false] at hp; rcases hp with hp | hp <;> subst hp <;> first | exact ⟨rfl, rfl⟩
                refine o_litM (o := true) (f := []) (ps := [((.int .i64 i568), [(.int .i64 i568)]), ((.int .i64 x674), [(.int .i64 x674)])]) (ys := [i568, x674]) Rp.int ha rfl sl25 rfl rfl rfl rfl hvob691 ⟨[], [], [(.int .i64 i568)], _, rfl, rfl, ⟨rfl, hI569, rfl⟩, ⟨[], [], [(.int .i64 x674)], _, rfl, rfl, ⟨rfl, hI685, rfl⟩, ⟨rfl, rfl⟩⟩⟩ ?_; clear ha a; intro v687 w688 h689 hx690 a ha
                obtain ⟨b692, hb692⟩ : ∃ b : Int, b = w555.heap.size := ⟨_, rfl⟩; rw [← hb692] at h689
                have q693 := zn_of hb692
                have q694 := Nq.new h557.fpb q693
                have q695 := Nq.madeO q693 h557.blt
                have q696 := Nq.new h566.fpb q693
                have q697 := Nq.madeO q693 h566.blt
                have q698 := Nf.old q693 (zf_nil _) h557.bnd
                have q699 := Zn.upD q693 hE572
                replace h557 := h557.ext hx690
                replace h566 := h566.ext hx690
                have hE700 := Ext.trans hE572 hx690
                refine o_lit1 (o := true) (y := [i568, x674]) (Rp.sl 2 Rp.int) ha rfl sl22 rfl rfl h689.cells (Rp.mkO h689) ?_; clear ha a; intro v701 w702 h703 hx704 a ha
                obtain ⟨b706, hb706⟩ : ∃ b : Int, b = w688.heap.size := ⟨_, rfl⟩; rw [← hb706] at h703
                have q707 := zn_of hb706
                have q708 := zf_mv q699 (zf_nil _)
                have q709 := dj_of q694
                have q710 := dj_of q696
                have q711 := Nq.new h557.fpb q707
                have q712 := Nq.append (Nq.madeL q707 h557.blt) q695
                have q713 := Nq.new h566.fpb q707
                have q714 := Nq.append (Nq.madeL q707 h566.blt) q697
                have q715 := Zn.upD q707 hE700
                have q716 := nd_lit (bl_nodup b692) h689.fpb hb706
                replace h557 := h557.ext hx704
                replace h566 := h566.ext hx704
                have hE717 := Ext.trans hE700 hx704
                obtain ⟨hl718, hF⟩ := app_some hF
                have q719 := Nq.right q712
                refine o_append ha rfl sl22 rfl rfl rfl h557 h703.src q719 hl718 ?_; clear ha a; intro v720 w721 b722 h723 hc724 hb725 a ha
                replace h723 : Ow (Rp.sl 2 Rp.int) 25 true w721 (fs559 ++ (bl b692 ++ [])) b722 v720 _ := h723
                have q727 := zf_app zf560 q708
                have q728 := nd_app nd561 (bl_nodup b692) q709 hb725 h557.fpb h703.bnd
                have q729 := Nq.appY q571 h566.fpb hb725
                have q730 := Nq.appX q570 (Nq.right q714) hb725 h566.blt
                have q731 := Zn.appD z558 hb725 hE717
                replace h566 := h566.nq hc724 q571
                have hE732 := Ext.then hE717 hc724 (Zn.bl z558)
                refine op_g ha rfl (g_assign rfl) ?_; clear ha a; intro a ha
                refine wpList_nil ?_
                replace ha := ha.sub (σ' := [(10, v720), (62, v336), (63, (.int .i64 (l335.length : Int))), (64, (.int .i64 i568))]) ⟨rfl, rfl, rfl, rfl, trivial⟩
                refine e_blk ?_
                refine e_then ?_
                refine wp_region_lit ?_
                obtain ⟨hI733, hF⟩ := ck_some hF
                refine op_g ha rfl (g_add rfl rfl hI733) ?_; clear ha a; intro a ha
                refine op_g ha rfl (g_move rfl) ?_; clear ha a; intro a ha
                refine wpList_nil ?_
                replace ha := ha.sub (σ' := [(10, v720), (62, v336), (63, (.int .i64 (l335.length : Int))), (64, (.int .i64 (i568 + 1)))]) ⟨rfl, rfl, rfl, rfl, trivial⟩
                refine e_lq ?_
                obtain rfl := Option.some.inj hF
                exact ⟨_, Nat.lt_succ_self _, (l562 ++ ([[i568, x674]])), i568 + 1, (fs559 ++ (bl b692 ++ [])), v720, b722, ha.sub ⟨rfl, rfl, rfl, rfl, trivial⟩, hE732, hI733, h723, q731, q727, q728, h566, z567, q730, q729, hN670⟩
              · replace hF := if_f hp686 hF
                refine wp_skip ?_
                refine e_blk ?_
                refine e_then ?_
                refine wp_region_lit ?_
                obtain ⟨hI735, hF⟩ := ck_some hF
                refine op_g ha rfl (g_add rfl rfl hI735) ?_; clear ha a; intro a ha
                refine op_g ha rfl (g_move rfl) ?_; clear ha a; intro a ha
                refine wpList_nil ?_
                replace ha := ha.sub (σ' := [(10, v563), (62, v336), (63, (.int .i64 (l335.length : Int))), (64, (.int .i64 (i568 + 1)))]) ⟨rfl, rfl, rfl, rfl, trivial⟩
                refine e_lq ?_
                obtain rfl := Option.some.inj hF
                exact ⟨_, Nat.lt_succ_self _, l562, i568 + 1, fs559, v563, b564, ha.sub ⟨rfl, rfl, rfl, rfl, trivial⟩, hE572, hI735, h557, z558, zf560, nd561, h566, z567, q570, q571, hN670⟩
            · replace hF := if_f hp673 hF
              refine wp_exit ?_
              refine e_then_exit ?_
              refine e_lq_eq ?_
              obtain rfl := Option.some.inj hF
              exact ⟨l562, fs559, v563, b564, ha.sub ⟨rfl, trivial⟩, hE572, h557, z558, zf560, nd561, (LK_inr hN670).symm⟩
        · rintro a w654 ⟨l661, fs658, v662, b663, ha, hE669, h656, z657, zf659, nd660, rfl⟩
          have hF : F_impl_SwitchedBy_k4 l661 = some _ := hK666; clear hK666; unfold F_impl_SwitchedBy_k4 at hF
          refine e_then ?_
          refine wp_seq ?_
          refine wp_region_lit ?_
          refine op_g ha rfl (g_move rfl) ?_; clear ha a; intro a ha
          refine op_g ha rfl (g_assign rfl) ?_; clear ha a; intro a ha
          refine op_g ha rfl (g_assign rfl) ?_; clear ha a; intro a ha
          refine wpList_nil ?_
          replace ha := ha.sub (σ' := [(6, v662), (7, (.bool true))]) ⟨rfl, rfl, trivial⟩
          refine e_then ?_
          refine wp_ret ?_
          obtain rfl := Option.some.inj hF
          exact f_ret2 ha rfl rfl rfl ⟨_, _, _, _, rfl, h656, z657, zf659, nd660, rfl, hE669⟩
set_option maxHeartbeats 2000000 in
theorem W_laws_eqInt64S {W : World} {va0 : Value} {fa0 : List Nat} {a0 : (List Int)} (ha0 : Ro Rp.int W fa0 va0 a0) {va1 : Value} {fa1 : List Nat} {a1 : (List Int)} (ha1 : Ro Rp.int W fa1 va1 a1) {r : Bool} (hF : F_laws_eqInt64S a0 a1 = some r) :
    Calls Try.prog 14 [va0, va1].toArray W (Ret fun u w' => u = .bool r ∧ Ext W w') := by
  refine f_enter Try.func14 rfl Try.ntmps14 rfl ?_
  intro a ha
  replace ha : Fr 26 [(0, va0), (1, va1)] a := ha
  have hE : Chg [] W W := Chg.refl _ _
  unfold F_laws_eqInt64S at hF
  refine wp_seq ?_
  refine wp_region_lit ?_
  refine op_g ha rfl (g_assign rfl) ?_; clear ha a; intro a ha
  refine wpList_nil ?_
  replace ha := ha.sub (σ' := [(0, va0), (1, va1)]) ⟨rfl, rfl, trivial⟩
  refine e_then ?_
  refine wp_seq ?_
  refine wp_seq ?_
  refine wp_region_lit ?_
  refine op_g ha rfl (g_move rfl) ?_; clear ha a; intro a ha
  refine op_g ha rfl (g_lenR sl25.und ha0 rfl) ?_; clear ha a; intro a ha
  refine op_g ha rfl (g_move rfl) ?_; clear ha a; intro a ha
  refine op_g ha rfl (g_lenR sl25.und ha1 rfl) ?_; clear ha a; intro a ha
  refine op_g ha rfl (g_neq rfl rfl) ?_; clear ha a; intro a ha
  refine wpList_nil ?_
  replace ha := ha.sub (σ' := [(0, va0), (1, va1), (10, (.bool (decide ((a0.length : Int) ≠ (a1.length : Int)))))]) ⟨rfl, rfl, rfl, trivial⟩
  refine e_then ?_
  refine c_cond ((a0.length : Int) ≠ (a1.length : Int)) ha rfl (decide_eq_true_iff) (fun hp1 => ?_) (fun hp1 => ?_)
  · replace hF := if_t hp1 hF
    refine wp_seq ?_
    refine wp_region_lit ?_
    refine op_g ha rfl (g_assign rfl) ?_; clear ha a; intro a ha
    refine wpList_nil ?_
    replace ha := ha.sub (σ' := [(4, (.bool false))]) ⟨rfl, trivial⟩
    refine e_then ?_
    refine wp_ret ?_
    refine e_then_ret ?_
    obtain rfl := Option.some.inj hF
    exact f_ret1 ha rfl rfl ⟨rfl, hE⟩
  · replace hF := if_f hp1 hF
    refine wp_skip ?_
    refine e_then ?_
    refine wp_seq ?_
    refine wp_seq ?_
    refine wp_region_lit ?_
    refine op_g ha rfl (g_assign rfl) ?_; clear ha a; intro a ha
    refine wpList_nil ?_
    replace ha := ha.sub (σ' := [(0, va0), (1, va1), (5, (.int .i64 0))]) ⟨rfl, rfl, rfl, trivial⟩
    refine e_then ?_
    obtain ⟨o77, ho78, hK79⟩ := bnd_some hF
    obtain ⟨n80, hn81⟩ := lp_some ho78; clear ho78
    refine c_loop (fun a w => Fr 26 [] a ∧ Chg [] W w ∧ o77 = .inl ()) (fun n a w => ∃ (i39 : Int), Fr 26 [(0, va0), (1, va1), (5, (.int .i64 i39))] a ∧ Chg [] W w ∧ InI i39 ∧ lpN (fun s => F_laws_eqInt64S_l1 a0 a1 s) n i39 = some o77) n80 ⟨0, ha.sub ⟨rfl, rfl, rfl, trivial⟩, hE, (show InI 0 from by decide), hn81⟩ ?_ ?_
    · rintro m85 a w38 ⟨i39, ha, hE41, hI40, hF⟩
      cases m85 with
      | zero => exact (lpN_zero hF).elim
      | succ m85 =>
        obtain ⟨z84, hF, hN83⟩ := lpN_succ hF
        have hF : F_laws_eqInt64S_l1 a0 a1 i39 = some z84 := hF; unfold F_laws_eqInt64S_l1 at hF
        refine wp_seq ?_
        refine wp_seq ?_
        refine wp_region_lit ?_
        refine op_g ha rfl (g_move rfl) ?_; clear ha a; intro a ha
        refine op_g ha rfl (g_move rfl) ?_; clear ha a; intro a ha
        refine op_g ha rfl (g_lenR sl25.und ha0 rfl) ?_; clear ha a; intro a ha
        refine op_g ha rfl (g_lss rfl rfl) ?_; clear ha a; intro a ha
        refine wpList_nil ?_
        replace ha := ha.sub (σ' := [(0, va0), (1, va1), (5, (.int .i64 i39)), (14, (.bool (decide (i39 < (a0.length : Int)))))]) ⟨rfl, rfl, rfl, rfl, trivial⟩
        refine e_then ?_
        refine c_cond (i39 < (a0.length : Int)) ha rfl (decide_eq_true_iff) (fun hp86 => ?_) (fun hp86 => ?_)
        · replace hF := if_t hp86 hF
          refine wp_skip ?_
          refine e_then ?_
          refine wp_seq ?_
          refine wp_block ?_
          refine wp_seq ?_
          refine d_quiet hmix (by kernel_rfl) ?_
          refine q_g ha rfl (g_move rfl) ?_; clear ha a; intro a ha
          refine q_g ha rfl (g_move rfl) ?_; clear ha a; intro a ha
          obtain ⟨x87, g88, gx89, hF⟩ := idx_some hF
          obtain ⟨p90, cs91, f92, hf93, hpb94, hat95, hr96, hi97⟩ := ha0.at g88 gx89
          obtain ⟨rfl, hI98, rfl⟩ := hr96
          refine q_g ha rfl (hi97.gives sl25 rfl rfl) ?_; clear ha a; intro a ha
          refine q_g ha rfl (g_load0 hE41 Try.isAgg2 rfl hat95.one) ?_; clear ha a; intro a ha
          refine q_g ha rfl (g_move rfl) ?_; clear ha a; intro a ha
          refine q_g ha rfl (g_move rfl) ?_; clear ha a; intro a ha
          obtain ⟨x99, g100, gx101, hF⟩ := idx_some hF
          obtain ⟨p102, cs103, f104, hf105, hpb106, hat107, hr108, hi109⟩ := ha1.at g100 gx101
          obtain ⟨rfl, hI110, rfl⟩ := hr108
          refine q_g ha rfl (hi109.gives sl25 rfl rfl) ?_; clear ha a; intro a ha
          refine q_g ha rfl (g_load0 hE41 Try.isAgg2 rfl hat107.one) ?_; clear ha a; intro a ha
          refine q_g ha rfl (g_neq rfl rfl) ?_; clear ha a; intro a ha
          refine q_nil ?_; intro w111 hx112
          have hE113 := Ext.trans hE41 hx112
          replace ha := ha.sub (σ' := [(0, va0), (1, va1), (5, (.int .i64 i39)), (25, (.bool (decide (x87 ≠ x99))))]) ⟨rfl, rfl, rfl, rfl, trivial⟩
          refine e_then ?_
          refine c_cond (x87 ≠ x99) ha rfl (decide_eq_true_iff) (fun hp114 => ?_) (fun hp114 => ?_)
          · replace hF := if_t hp114 hF
            refine wp_seq ?_
            refine wp_region_lit ?_
            refine op_g ha rfl (g_assign rfl) ?_; clear ha a; intro a ha
            refine wpList_nil ?_
            replace ha := ha.sub (σ' := [(4, (.bool false))]) ⟨rfl, trivial⟩
            refine e_then ?_
            refine wp_ret ?_
            refine e_blk_ret ?_
            refine e_then_ret ?_
            refine e_lq_ret ?_
            refine e_then_ret ?_
            obtain rfl := Option.some.inj hF
            have e115 := LK_inr hN83; subst e115
            have e116 := BK_inr hK79; subst e116
            exact f_ret1 ha rfl rfl ⟨rfl, hE113⟩
          · replace hF := if_f hp114 hF
            refine wp_skip ?_
            refine e_blk ?_
            refine e_then ?_
            refine wp_region_lit ?_
            refine op_g ha rfl (g_move rfl) ?_; clear ha a; intro a ha
            obtain ⟨hI117, hF⟩ := ck_some hF
            refine op_g ha rfl (g_add rfl rfl hI117) ?_; clear ha a; intro a ha
            refine op_g ha rfl (g_assign rfl) ?_; clear ha a; intro a ha
            refine wpList_nil ?_
            replace ha := ha.sub (σ' := [(0, va0), (1, va1), (5, (.int .i64 (i39 + 1)))]) ⟨rfl, rfl, rfl, trivial⟩
            refine e_lq ?_
            obtain rfl := Option.some.inj hF
            exact ⟨_, Nat.lt_succ_self _, i39 + 1, ha.sub ⟨rfl, rfl, rfl, trivial⟩, hE113, hI117, hN83⟩
        · replace hF := if_f hp86 hF
          refine wp_exit ?_
          refine e_then_exit ?_
          refine e_lq_eq ?_
          obtain rfl := Option.some.inj hF
          exact ⟨ha.sub trivial, hE41, (LK_inr hN83).symm⟩
    · rintro a w76 ⟨ha, hE82, rfl⟩
      have hF : F_laws_eqInt64S_k2 = some _ := hK79; clear hK79; unfold F_laws_eqInt64S_k2 at hF
      refine e_then ?_
      refine wp_seq ?_
      refine wp_region_lit ?_
      refine op_g ha rfl (g_assign rfl) ?_; clear ha a; intro a ha
      refine wpList_nil ?_
      refine e_then ?_
      refine wp_ret ?_
      obtain rfl := Option.some.inj hF
      exact f_ret1 ha rfl rfl ⟨rfl, hE82⟩
set_option maxHeartbeats 2000000 in
theorem W_laws_eqInt64SS {W : World} {va0 : Value} {fa0 : List Nat} {a0 : (List (List Int))} (ha0 : Ro (Rp.sl 2 Rp.int) W fa0 va0 a0) {va1 : Value} {fa1 : List Nat} {a1 : (List (List Int))} (ha1 : Ro (Rp.sl 2 Rp.int) W fa1 va1 a1) {r : Bool} (hF : F_laws_eqInt64SS a0 a1 = some r) :
    Calls Try.prog 12 [va0, va1].toArray W (Ret fun u w' => u = .bool r ∧ Ext W w') := by
  refine f_enter Try.func12 rfl Try.ntmps12 rfl ?_
  intro a ha
  replace ha : Fr 27 [(0, va0), (1, va1)] a := ha
  have hE : Chg [] W W := Chg.refl _ _
  unfold F_laws_eqInt64SS at hF
  refine wp_seq ?_
  refine wp_region_lit ?_
  refine op_g ha rfl (g_assign rfl) ?_; clear ha a; intro a ha
  refine wpList_nil ?_
  replace ha := ha.sub (σ' := [(0, va0), (1, va1)]) ⟨rfl, rfl, trivial⟩
  refine e_then ?_
  refine wp_seq ?_
  refine wp_seq ?_
  refine wp_region_lit ?_
  refine op_g ha rfl (g_move rfl) ?_; clear ha a; intro a ha
  refine op_g ha rfl (g_lenR sl22.und ha0 rfl) ?_; clear ha a; intro a ha
  refine op_g ha rfl (g_move rfl) ?_; clear ha a; intro a ha
  refine op_g ha rfl (g_lenR sl22.und ha1 rfl) ?_; clear ha a; intro a ha
  refine op_g ha rfl (g_neq rfl rfl) ?_; clear ha a; intro a ha
  refine wpList_nil ?_
  replace ha := ha.sub (σ' := [(0, va0), (1, va1), (10, (.bool (decide ((a0.length : Int) ≠ (a1.length : Int)))))]) ⟨rfl, rfl, rfl, trivial⟩
  refine e_then ?_
  refine c_cond ((a0.length : Int) ≠ (a1.length : Int)) ha rfl (decide_eq_true_iff) (fun hp1 => ?_) (fun hp1 => ?_)
  · replace hF := if_t hp1 hF
    refine wp_seq ?_
    refine wp_region_lit ?_
    refine op_g ha rfl (g_assign rfl) ?_; clear ha a; intro a ha
    refine wpList_nil ?_
    replace ha := ha.sub (σ' := [(4, (.bool false))]) ⟨rfl, trivial⟩
    refine e_then ?_
    refine wp_ret ?_
    refine e_then_ret ?_
    obtain rfl := Option.some.inj hF
    exact f_ret1 ha rfl rfl ⟨rfl, hE⟩
  · replace hF := if_f hp1 hF
    refine wp_skip ?_
    refine e_then ?_
    refine wp_seq ?_
    refine wp_seq ?_
    refine wp_region_lit ?_
    refine op_g ha rfl (g_assign rfl) ?_; clear ha a; intro a ha
    refine wpList_nil ?_
    replace ha := ha.sub (σ' := [(0, va0), (1, va1), (5, (.int .i64 0))]) ⟨rfl, rfl, rfl, trivial⟩
    refine e_then ?_
    obtain ⟨o93, ho94, hK95⟩ := bnd_some hF
    obtain ⟨n96, hn97⟩ := lp_some ho94; clear ho94
    refine c_loop (fun a w => Fr 27 [] a ∧ Chg [] W w ∧ o93 = .inl ()) (fun n a w => ∃ (i47 : Int), Fr 27 [(0, va0), (1, va1), (5, (.int .i64 i47))] a ∧ Chg [] W w ∧ InI i47 ∧ lpN (fun s => F_laws_eqInt64SS_l1 a0 a1 s) n i47 = some o93) n96 ⟨0, ha.sub ⟨rfl, rfl, rfl, trivial⟩, hE, (show InI 0 from by decide), hn97⟩ ?_ ?_
    · rintro m101 a w46 ⟨i47, ha, hE49, hI48, hF⟩
      cases m101 with
      | zero => exact (lpN_zero hF).elim
      | succ m101 =>
        obtain ⟨z100, hF, hN99⟩ := lpN_succ hF
        have hF : F_laws_eqInt64SS_l1 a0 a1 i47 = some z100 := hF; unfold F_laws_eqInt64SS_l1 at hF
        refine wp_seq ?_
        refine wp_seq ?_
        refine wp_region_lit ?_
        refine op_g ha rfl (g_move rfl) ?_; clear ha a; intro a ha
        refine op_g ha rfl (g_move rfl) ?_; clear ha a; intro a ha
        refine op_g ha rfl (g_lenR sl22.und ha0 rfl) ?_; clear ha a; intro a ha
        refine op_g ha rfl (g_lss rfl rfl) ?_; clear ha a; intro a ha
        refine wpList_nil ?_
        replace ha := ha.sub (σ' := [(0, va0), (1, va1), (5, (.int .i64 i47)), (14, (.bool (decide (i47 < (a0.length : Int)))))]) ⟨rfl, rfl, rfl, rfl, trivial⟩
        refine e_then ?_
        refine c_cond (i47 < (a0.length : Int)) ha rfl (decide_eq_true_iff) (fun hp102 => ?_) (fun hp102 => ?_)
        · replace hF := if_t hp102 hF
          refine wp_skip ?_
          refine e_then ?_
          refine wp_seq ?_
          refine wp_block ?_
          refine wp_seq ?_
          refine d_quiet hmix (by kernel_rfl) ?_
          refine q_g ha rfl (g_move rfl) ?_; clear ha a; intro a ha
          refine q_g ha rfl (g_move rfl) ?_; clear ha a; intro a ha
          obtain ⟨x103, g104, gx105, hF⟩ := idx_some hF
          obtain ⟨p106, cs107, f108, hf109, hpb110, hat111, hr112, hi113⟩ := ha0.at g104 gx105
          obtain ⟨v114, rfl, h115⟩ := hr112
          have h115 : Ro Rp.int W f108 v114 x103 := h115
          refine q_g ha rfl (hi113.gives sl22 rfl rfl) ?_; clear ha a; intro a ha
          refine q_g ha rfl (g_load0 hE49 Try.isAgg25 rfl hat111.one) ?_; clear ha a; intro a ha
          refine q_g ha rfl (g_move rfl) ?_; clear ha a; intro a ha
          refine q_g ha rfl (g_move rfl) ?_; clear ha a; intro a ha
          obtain ⟨x117, g118, gx119, hF⟩ := idx_some hF
          obtain ⟨p120, cs121, f122, hf123, hpb124, hat125, hr126, hi127⟩ := ha1.at g118 gx119
          obtain ⟨v128, rfl, h129⟩ := hr126
          have h129 : Ro Rp.int W f122 v128 x117 := h129
          refine q_g ha rfl (hi127.gives sl22 rfl rfl) ?_; clear ha a; intro a ha
          refine q_g ha rfl (g_load0 hE49 Try.isAgg25 rfl hat125.one) ?_; clear ha a; intro a ha
          obtain ⟨x133, hc134, hF⟩ := cal_some hF
          refine q_call (.bool x133) ha rfl rfl Try.call14 (fun w132 hx131 => W_laws_eqInt64S (h115.ext (Ext.trans hE49 hx131)) (h129.ext (Ext.trans hE49 hx131)) hc134) (fun _ _ _ h => ⟨h.1, h.2⟩) ?_; clear ha a; intro a ha
          refine q_g ha rfl (g_not rfl) ?_; clear ha a; intro a ha
          refine q_nil ?_; intro w135 hx136
          have hE137 := Ext.trans hE49 hx136
          replace ha := ha.sub (σ' := [(0, va0), (1, va1), (5, (.int .i64 i47)), (26, (.bool (!x133)))]) ⟨rfl, rfl, rfl, rfl, trivial⟩
          refine e_then ?_
          refine c_cond (¬ (x133 = true)) ha rfl (n_iff (Iff.rfl)) (fun hp138 => ?_) (fun hp138 => ?_)
          · replace hF := if_t hp138 hF
            refine wp_seq ?_
            refine wp_region_lit ?_
            refine op_g ha rfl (g_assign rfl) ?_; clear ha a; intro a ha
            refine wpList_nil ?_
            replace ha := ha.sub (σ' := [(4, (.bool false))]) ⟨rfl, trivial⟩
            refine e_then ?_
            refine wp_ret ?_
            refine e_blk_ret ?_
            refine e_then_ret ?_
            refine e_lq_ret ?_
            refine e_then_ret ?_
            obtain rfl := Option.some.inj hF
            have e139 := LK_inr hN99; subst e139
            have e140 := BK_inr hK95; subst e140
            exact f_ret1 ha rfl rfl ⟨rfl, hE137⟩
          · replace hF := if_f hp138 hF
            refine wp_skip ?_
            refine e_blk ?_
            refine e_then ?_
            refine wp_region_lit ?_
            refine op_g ha rfl (g_move rfl) ?_; clear ha a; intro a ha
            obtain ⟨hI141, hF⟩ := ck_some hF
            refine op_g ha rfl (g_add rfl rfl hI141) ?_; clear ha a; intro a ha
            refine op_g ha rfl (g_assign rfl) ?_; clear ha a; intro a ha
            refine wpList_nil ?_
            replace ha := ha.sub (σ' := [(0, va0), (1, va1), (5, (.int .i64 (i47 + 1)))]) ⟨rfl, rfl, rfl, trivial⟩
            refine e_lq ?_
            obtain rfl := Option.some.inj hF
            exact ⟨_, Nat.lt_succ_self _, i47 + 1, ha.sub ⟨rfl, rfl, rfl, trivial⟩, hE137, hI141, hN99⟩
        · replace hF := if_f hp102 hF
          refine wp_exit ?_
          refine e_then_exit ?_
          refine e_lq_eq ?_
          obtain rfl := Option.some.inj hF
          exact ⟨ha.sub trivial, hE49, (LK_inr hN99).symm⟩
    · rintro a w92 ⟨ha, hE98, rfl⟩
      have hF : F_laws_eqInt64SS_k2 = some _ := hK95; clear hK95; unfold F_laws_eqInt64SS_k2 at hF
      refine e_then ?_
      refine wp_seq ?_
      refine wp_region_lit ?_
      refine op_g ha rfl (g_assign rfl) ?_; clear ha a; intro a ha
      refine wpList_nil ?_
      refine e_then ?_
      refine wp_ret ?_
      obtain rfl := Option.some.inj hF
      exact f_ret1 ha rfl rfl ⟨rfl, hE98⟩
set_option maxHeartbeats 2000000 in
theorem W_laws_eqGraph {W : World} {va0_0 : Value} {fa0_0 : List Nat} {a0_0 : (List (List Int))} (ha0_0 : Ro (Rp.sl 2 Rp.int) W fa0_0 va0_0 a0_0) {va1_0 : Value} {fa1_0 : List Nat} {a1_0 : (List (List Int))} (ha1_0 : Ro (Rp.sl 2 Rp.int) W fa1_0 va1_0 a1_0) {r : Bool} (hF : F_laws_eqGraph a0_0 a1_0 = some r) :
    Calls Try.prog 13 [.agg #[va0_0], .agg #[va1_0]].toArray W (Ret fun u w' => u = .bool r ∧ Ext W w') := by
  refine f_enter Try.func13 rfl Try.ntmps13 rfl ?_
  intro a ha
  replace ha : Fr 11 [(0, (.agg #[va0_0])), (1, (.agg #[va1_0]))] a := ha
  have hE : Chg [] W W := Chg.refl _ _
  unfold F_laws_eqGraph at hF
  refine wp_seq ?_
  refine wp_region_lit ?_
  refine o_box ha rfl rfl rfl ?_; clear ha a; intro b1 w2 hB3 hx4 hlo5 a ha
  have q6 := Zn.one hlo5
  have q7 := Zn.upD q6 hE
  have hE8 := Ext.trans hE hx4
  refine o_box ha rfl rfl rfl ?_; clear ha a; intro b9 w10 hB11 hx12 hlo13 a ha
  have q14 := Zn.one hlo13
  have q15 := Nq.new hB3.fpb q14
  have q16 := Nq.made1 hlo13 hB3.bi
  have q17 := Zn.upD q14 hE8
  replace hB3 := hB3.ext hx12
  have hE18 := Ext.trans hE8 hx12
  refine op_g ha rfl (g_assign rfl) ?_; clear ha a; intro a ha
  refine wpList_nil ?_
  replace ha := ha.sub (σ' := [(2, (.pointer (some ⟨b1, 0, none⟩))), (3, (.pointer (some ⟨b9, 0, none⟩)))]) ⟨rfl, rfl, trivial⟩
  refine e_then ?_
  refine wp_seq ?_
  refine wp_seq ?_
  refine wp_region_lit ?_
  refine op_g ha rfl (g_field0 st30_0 rfl) ?_; clear ha a; intro a ha
  refine op_g ha rfl (g_load Try.isAgg22 rfl (hB3.cell rfl)) ?_; clear ha a; intro a ha
  refine op_g ha rfl (g_field0 st30_0 rfl) ?_; clear ha a; intro a ha
  refine op_g ha rfl (g_load Try.isAgg22 rfl (hB11.cell rfl)) ?_; clear ha a; intro a ha
  obtain ⟨x19, hc20, hF⟩ := cal_some hF
  refine o_call ha rfl rfl Try.call12 (W_laws_eqInt64SS (ha0_0.ext hE18) (ha1_0.ext hE18) hc20) ?_; clear ha a; rintro v21 w22 ⟨rfl, hx23⟩ a ha
  replace hB3 := hB3.ext hx23
  replace hB11 := hB11.ext hx23
  have hE24 := Ext.trans hE18 hx23
  refine op_g ha rfl (g_not rfl) ?_; clear ha a; intro a ha
  refine wpList_nil ?_
  replace ha := ha.sub (σ' := [(10, (.bool (!x19)))]) ⟨rfl, trivial⟩
  refine e_then ?_
  refine c_cond (¬ (x19 = true)) ha rfl (n_iff (Iff.rfl)) (fun hp25 => ?_) (fun hp25 => ?_)
  · replace hF := if_t hp25 hF
    refine wp_seq ?_
    refine wp_region_lit ?_
    refine op_g ha rfl (g_assign rfl) ?_; clear ha a; intro a ha
    refine wpList_nil ?_
    replace ha := ha.sub (σ' := [(4, (.bool false))]) ⟨rfl, trivial⟩
    refine e_then ?_
    refine wp_ret ?_
    refine e_then_ret ?_
    obtain rfl := Option.some.inj hF
    exact f_ret1 ha rfl rfl ⟨rfl, hE24⟩
  · replace hF := if_f hp25 hF
    refine wp_skip ?_
    refine e_then ?_
    refine wp_seq ?_
    refine wp_region_lit ?_
    refine op_g ha rfl (g_assign rfl) ?_; clear ha a; intro a ha
    refine wpList_nil ?_
    replace ha := ha.sub (σ' := [(4, (.bool true))]) ⟨rfl, trivial⟩
    refine e_then ?_
    refine wp_ret ?_
    obtain rfl := Option.some.inj hF
    exact f_ret1 ha rfl rfl ⟨rfl, hE24⟩
set_option maxHeartbeats 2000000 in
theorem W_laws_markInt64S {W : World} {va0 : Value} {ba0 : Int} {a0 : (List Int)} (ha0 : Ow Rp.int 2 true W [] ba0 va0 a0) {a1 : Int} (ha1 : InI a1) {r : (Int × (List Int))} (hF : F_laws_markInt64S a0 a1 = some r) :
    Calls Try.prog 17 [va0, .int .i64 a1].toArray W (Ret fun u w' => (u = .int .i64 r.1 ∧ InI r.1) ∧ Ow Rp.int 2 true w' [] ba0 va0 r.2 ∧ Chg (bl ba0) W w') := by
  refine f_enter Try.func17 rfl Try.ntmps17 rfl ?_
  intro a ha
  replace ha : Fr 19 [(0, va0), (1, (.int .i64 a1))] a := ha
  have hE : Chg (bl ba0) W W := Chg.refl _ _
  unfold F_laws_markInt64S at hF
  refine wp_seq ?_
  refine wp_region_lit ?_
  refine op_g ha rfl (g_assign rfl) ?_; clear ha a; intro a ha
  refine wpList_nil ?_
  replace ha := ha.sub (σ' := [(0, va0), (1, (.int .i64 a1))]) ⟨rfl, rfl, trivial⟩
  refine e_then ?_
  refine wp_seq ?_
  refine wp_seq ?_
  refine wp_region_lit ?_
  refine op_g ha rfl (g_assign rfl) ?_; clear ha a; intro a ha
  refine wpList_nil ?_
  refine e_then ?_
  obtain ⟨o85, ho86, hK87⟩ := bnd_some hF
  obtain ⟨n88, hn89⟩ := lp_some ho86; clear ho86
  refine c_loop (fun a w => ∃ (i79 : Int) (l82 : (List Int)), Fr 19 [(1, (.int .i64 i79))] a ∧ Chg (bl ba0) W w ∧ InI i79 ∧ Ow Rp.int 2 true w [] ba0 va0 l82 ∧ o85 = .inl (i79, l82)) (fun n a w => ∃ (l38 : (List Int)) (i41 : Int) (i43 : Int), Fr 19 [(0, va0), (1, (.int .i64 i41)), (5, (.int .i64 i43))] a ∧ Chg (bl ba0) W w ∧ InI i41 ∧ InI i43 ∧ Ow Rp.int 2 true w [] ba0 va0 l38 ∧ lpN (fun s => F_laws_markInt64S_l1 s.1 s.2.1 s.2.2) n (l38, i41, i43) = some o85) n88 ⟨a0, a1, 0, ha.sub ⟨rfl, rfl, rfl, trivial⟩, hE, ha1, (show InI 0 from by decide), ha0, hn89⟩ ?_ ?_
  · rintro m93 a w36 ⟨l38, i41, i43, ha, hE45, hI42, hI44, h37, hF⟩
    cases m93 with
    | zero => exact (lpN_zero hF).elim
    | succ m93 =>
      obtain ⟨z92, hF, hN91⟩ := lpN_succ hF
      have hF : F_laws_markInt64S_l1 l38 i41 i43 = some z92 := hF; unfold F_laws_markInt64S_l1 at hF
      refine wp_seq ?_
      refine wp_seq ?_
      refine wp_region_lit ?_
      refine op_g ha rfl (g_move rfl) ?_; clear ha a; intro a ha
      refine op_g ha rfl (g_move rfl) ?_; clear ha a; intro a ha
      refine op_g ha rfl (g_lenO sl25.und h37 rfl) ?_; clear ha a; intro a ha
      refine op_g ha rfl (g_lss rfl rfl) ?_; clear ha a; intro a ha
      refine wpList_nil ?_
      replace ha := ha.sub (σ' := [(0, va0), (1, (.int .i64 i41)), (5, (.int .i64 i43)), (9, (.bool (decide (i43 < (l38.length : Int)))))]) ⟨rfl, rfl, rfl, rfl, trivial⟩
      refine e_then ?_
      refine c_cond (i43 < (l38.length : Int)) ha rfl (decide_eq_true_iff) (fun hp94 => ?_) (fun hp94 => ?_)
      · replace hF := if_t hp94 hF
        refine wp_skip ?_
        refine e_then ?_
        refine wp_seq ?_
        refine wp_block ?_
        refine wp_seq ?_
        refine wp_region_lit ?_
        refine op_g ha rfl (g_move rfl) ?_; clear ha a; intro a ha
        refine op_g ha rfl (g_move rfl) ?_; clear ha a; intro a ha
        refine op_g ha rfl (g_move rfl) ?_; clear ha a; intro a ha
        obtain ⟨x95, g96, gx97, hF⟩ := idx_some hF
        obtain ⟨p98, cs99, f100, hf101, hpb102, hat103, hr104, hi105⟩ := h37.at g96 gx97
        obtain ⟨rfl, hI106, rfl⟩ := hr104
        refine op_g ha rfl (hi105.gives sl25 rfl rfl) ?_; clear ha a; intro a ha
        refine o_storeE (f := []) (q := i41) ha Try.sizeOf2 rfl rfl rfl h37 hi105 ⟨rfl, hI42, rfl⟩ (Nq.nil _) ?_; intro w107 fs108 h109 hc110 hs111
        obtain rfl := Subst.nil hs111
        have hE112 := Chg.same hE45 hc110
        refine wpList_nil ?_
        replace ha := ha.sub (σ' := [(0, va0), (1, (.int .i64 i41)), (5, (.int .i64 i43))]) ⟨rfl, rfl, rfl, trivial⟩
        refine e_then ?_
        refine wp_region_lit ?_
        refine op_g ha rfl (g_move rfl) ?_; clear ha a; intro a ha
        obtain ⟨hI113, hF⟩ := ck_some hF
        refine op_g ha rfl (g_add rfl rfl hI113) ?_; clear ha a; intro a ha
        refine op_g ha rfl (g_assign rfl) ?_; clear ha a; intro a ha
        refine wpList_nil ?_
        replace ha := ha.sub (σ' := [(0, va0), (1, (.int .i64 (i41 + 1))), (5, (.int .i64 i43))]) ⟨rfl, rfl, rfl, trivial⟩
        refine e_blk ?_
        refine e_then ?_
        refine wp_region_lit ?_
        refine op_g ha rfl (g_move rfl) ?_; clear ha a; intro a ha
        obtain ⟨hI115, hF⟩ := ck_some hF
        refine op_g ha rfl (g_add rfl rfl hI115) ?_; clear ha a; intro a ha
        refine op_g ha rfl (g_assign rfl) ?_; clear ha a; intro a ha
        refine wpList_nil ?_
        replace ha := ha.sub (σ' := [(0, va0), (1, (.int .i64 (i41 + 1))), (5, (.int .i64 (i43 + 1)))]) ⟨rfl, rfl, rfl, trivial⟩
        refine e_lq ?_
        obtain rfl := Option.some.inj hF
        exact ⟨_, Nat.lt_succ_self _, (l38.set ((i43 : Int).toNat) i41), i41 + 1, i43 + 1, ha.sub ⟨rfl, rfl, rfl, trivial⟩, hE112, hI113, hI115, h109, hN91⟩
      · replace hF := if_f hp94 hF
        refine wp_exit ?_
        refine e_then_exit ?_
        refine e_lq_eq ?_
        obtain rfl := Option.some.inj hF
        exact ⟨i41, l38, ha.sub ⟨rfl, trivial⟩, hE45, hI42, h37, (LK_inr hN91).symm⟩
  · rintro a w78 ⟨i79, l82, ha, hE90, hI80, h81, rfl⟩
    have hF : F_laws_markInt64S_k2 i79 l82 = some _ := hK87; clear hK87; unfold F_laws_markInt64S_k2 at hF
    refine e_then ?_
    refine wp_seq ?_
    refine wp_region_lit ?_
    refine op_g ha rfl (g_move rfl) ?_; clear ha a; intro a ha
    refine op_g ha rfl (g_assign rfl) ?_; clear ha a; intro a ha
    refine wpList_nil ?_
    replace ha := ha.sub (σ' := [(4, (.int .i64 i79))]) ⟨rfl, trivial⟩
    refine e_then ?_
    refine wp_ret ?_
    obtain rfl := Option.some.inj hF
    exact f_ret1 ha rfl rfl ⟨⟨rfl, hI80⟩, h81, hE90⟩
set_option maxHeartbeats 2000000 in
theorem W_laws_markInt64SS {W : World} {va0 : Value} {ba0 : Int} {fa0 : List Nat} {a0 : (List (List Int))} (ha0 : Ow (Rp.sl 2 Rp.int) 25 true W fa0 ba0 va0 a0) (nda0 : (bl ba0 ++ fa0).Nodup) {a1 : Int} (ha1 : InI a1) {r : (Int × (List (List Int)))} (hF : F_laws_markInt64SS a0 a1 = some r) :
    Calls Try.prog 16 [va0, .int .i64 a1].toArray W (Ret fun u w' => (u = .int .i64 r.1 ∧ InI r.1) ∧ Ow (Rp.sl 2 Rp.int) 25 true w' fa0 ba0 va0 r.2 ∧ Chg ((bl ba0 ++ fa0)) W w') := by
  refine f_enter Try.func16 rfl Try.ntmps16 rfl ?_
  intro a ha
  replace ha : Fr 19 [(0, va0), (1, (.int .i64 a1))] a := ha
  have hE : Chg ((bl ba0 ++ fa0)) W W := Chg.refl _ _
  unfold F_laws_markInt64SS at hF
  refine wp_seq ?_
  refine wp_region_lit ?_
  refine op_g ha rfl (g_assign rfl) ?_; clear ha a; intro a ha
  refine wpList_nil ?_
  replace ha := ha.sub (σ' := [(0, va0), (1, (.int .i64 a1))]) ⟨rfl, rfl, trivial⟩
  refine e_then ?_
  refine wp_seq ?_
  refine wp_seq ?_
  refine wp_region_lit ?_
  refine op_g ha rfl (g_assign rfl) ?_; clear ha a; intro a ha
  refine wpList_nil ?_
  refine e_then ?_
  obtain ⟨o101, ho102, hK103⟩ := bnd_some hF
  obtain ⟨n104, hn105⟩ := lp_some ho102; clear ho102
  refine c_loop (fun a w => ∃ (i95 : Int) (l98 : (List (List Int))), Fr 19 [(1, (.int .i64 i95))] a ∧ Chg ((bl ba0 ++ fa0)) W w ∧ InI i95 ∧ Ow (Rp.sl 2 Rp.int) 25 true w fa0 ba0 va0 l98 ∧ o101 = .inl (i95, l98)) (fun n a w => ∃ (l46 : (List (List Int))) (i49 : Int) (i51 : Int), Fr 19 [(0, va0), (1, (.int .i64 i49)), (5, (.int .i64 i51))] a ∧ Chg ((bl ba0 ++ fa0)) W w ∧ InI i49 ∧ InI i51 ∧ Ow (Rp.sl 2 Rp.int) 25 true w fa0 ba0 va0 l46 ∧ lpN (fun s => F_laws_markInt64SS_l1 s.1 s.2.1 s.2.2) n (l46, i49, i51) = some o101) n104 ⟨a0, a1, 0, ha.sub ⟨rfl, rfl, rfl, trivial⟩, hE, ha1, (show InI 0 from by decide), ha0, hn105⟩ ?_ ?_
  · rintro m109 a w44 ⟨l46, i49, i51, ha, hE53, hI50, hI52, h45, hF⟩
    cases m109 with
    | zero => exact (lpN_zero hF).elim
    | succ m109 =>
      obtain ⟨z108, hF, hN107⟩ := lpN_succ hF
      have hF : F_laws_markInt64SS_l1 l46 i49 i51 = some z108 := hF; unfold F_laws_markInt64SS_l1 at hF
      refine wp_seq ?_
      refine wp_seq ?_
      refine wp_region_lit ?_
      refine op_g ha rfl (g_move rfl) ?_; clear ha a; intro a ha
      refine op_g ha rfl (g_move rfl) ?_; clear ha a; intro a ha
      refine op_g ha rfl (g_lenO sl22.und h45 rfl) ?_; clear ha a; intro a ha
      refine op_g ha rfl (g_lss rfl rfl) ?_; clear ha a; intro a ha
      refine wpList_nil ?_
      replace ha := ha.sub (σ' := [(0, va0), (1, (.int .i64 i49)), (5, (.int .i64 i51)), (9, (.bool (decide (i51 < (l46.length : Int)))))]) ⟨rfl, rfl, rfl, rfl, trivial⟩
      refine e_then ?_
      refine c_cond (i51 < (l46.length : Int)) ha rfl (decide_eq_true_iff) (fun hp110 => ?_) (fun hp110 => ?_)
      · replace hF := if_t hp110 hF
        refine wp_skip ?_
        refine e_then ?_
        refine wp_seq ?_
        refine wp_block ?_
        refine wp_region_lit ?_
        refine op_g ha rfl (g_move rfl) ?_; clear ha a; intro a ha
        refine op_g ha rfl (g_move rfl) ?_; clear ha a; intro a ha
        obtain ⟨x111, g112, gx113, hF⟩ := idx_some hF
        obtain ⟨p114, cs115, f116, hf117, hpb118, hat119, hr120, hi121⟩ := h45.at g112 gx113
        replace hr120 := (Rp.sl 2 Rp.int).weak hr120
        obtain ⟨v122, rfl, h123⟩ := hr120
        have h123 : Ro Rp.int w44 f116 v122 x111 := h123
        have q125 := Nq.mono (Ow.ne h45) hf117
        refine op_g ha rfl (hi121.gives sl22 rfl rfl) ?_; clear ha a; intro a ha
        refine op_g ha rfl (g_load Try.isAgg25 rfl hat119.one) ?_; clear ha a; intro a ha
        refine op_g ha rfl (g_move rfl) ?_; clear ha a; intro a ha
        obtain ⟨b126, h127, hm128, hb129⟩ := Ow.row (k := 0) (lens_sl 2 Rp.int) scal_int h45 nda0 gx113 hi121 hat119 rfl rfl
        obtain ⟨x130, hc131, hF⟩ := cal_some hF
        refine o_call ha rfl rfl Try.call17 (W_laws_markInt64S h127 hI50 hc131) ?_; clear ha a; rintro v132 w133 ⟨⟨rfl, hI135⟩, h136, hx134⟩ a ha
        have h137 := hb129 w133 _ hx134 h136
        have hE138 := Chg.join hE53 hx134 (S2.par hm128)
        refine op_g ha rfl (g_assign rfl) ?_; clear ha a; intro a ha
        refine wpList_nil ?_
        replace ha := ha.sub (σ' := [(0, va0), (1, (.int .i64 x130.1)), (5, (.int .i64 i51))]) ⟨rfl, rfl, rfl, trivial⟩
        refine e_blk ?_
        refine e_then ?_
        refine wp_region_lit ?_
        refine op_g ha rfl (g_move rfl) ?_; clear ha a; intro a ha
        obtain ⟨hI139, hF⟩ := ck_some hF
        refine op_g ha rfl (g_add rfl rfl hI139) ?_; clear ha a; intro a ha
        refine op_g ha rfl (g_assign rfl) ?_; clear ha a; intro a ha
        refine wpList_nil ?_
        replace ha := ha.sub (σ' := [(0, va0), (1, (.int .i64 x130.1)), (5, (.int .i64 (i51 + 1)))]) ⟨rfl, rfl, rfl, trivial⟩
        refine e_lq ?_
        obtain rfl := Option.some.inj hF
        exact ⟨_, Nat.lt_succ_self _, (l46.set ((i51 : Int).toNat) x130.2), x130.1, i51 + 1, ha.sub ⟨rfl, rfl, rfl, trivial⟩, hE138, hI135, hI139, h137, hN107⟩
      · replace hF := if_f hp110 hF
        refine wp_exit ?_
        refine e_then_exit ?_
        refine e_lq_eq ?_
        obtain rfl := Option.some.inj hF
        exact ⟨i49, l46, ha.sub ⟨rfl, trivial⟩, hE53, hI50, h45, (LK_inr hN107).symm⟩
  · rintro a w94 ⟨i95, l98, ha, hE106, hI96, h97, rfl⟩
    have hF : F_laws_markInt64SS_k2 i95 l98 = some _ := hK103; clear hK103; unfold F_laws_markInt64SS_k2 at hF
    refine e_then ?_
    refine wp_seq ?_
    refine wp_region_lit ?_
    refine op_g ha rfl (g_move rfl) ?_; clear ha a; intro a ha
    refine op_g ha rfl (g_assign rfl) ?_; clear ha a; intro a ha
    refine wpList_nil ?_
    replace ha := ha.sub (σ' := [(4, (.int .i64 i95))]) ⟨rfl, trivial⟩
    refine e_then ?_
    refine wp_ret ?_
    obtain rfl := Option.some.inj hF
    exact f_ret1 ha rfl rfl ⟨⟨rfl, hI96⟩, h97, hE106⟩
set_option maxHeartbeats 2000000 in
theorem W_laws_markGraph {W : World} {va0_0 : Value} {ba0_0 : Int} {fa0_0 : List Nat} {a0_0 : (List (List Int))} (ha0_0 : Ow (Rp.sl 2 Rp.int) 25 true W fa0_0 ba0_0 va0_0 a0_0) (nda0_0 : (bl ba0_0 ++ fa0_0).Nodup) {a1 : Int} (ha1 : InI a1) {r : (Int × (List (List Int)))} (hF : F_laws_markGraph a0_0 a1 = some r) :
    Calls Try.prog 15 [.agg #[va0_0], .int .i64 a1].toArray W (Ret fun u w' => (u = .int .i64 r.1 ∧ InI r.1) ∧ Ow (Rp.sl 2 Rp.int) 25 true w' fa0_0 ba0_0 va0_0 r.2 ∧ Chg ((bl ba0_0 ++ fa0_0)) W w') := by
  refine f_enter Try.func15 rfl Try.ntmps15 rfl ?_
  intro a ha
  replace ha : Fr 10 [(0, (.agg #[va0_0])), (1, (.int .i64 a1))] a := ha
  have hE : Chg ((bl ba0_0 ++ fa0_0)) W W := Chg.refl _ _
  unfold F_laws_markGraph at hF
  refine wp_seq ?_
  refine wp_region_lit ?_
  refine o_box ha rfl rfl rfl ?_; clear ha a; intro b1 w2 hB3 hx4 hlo5 a ha
  have q6 := Zn.one hlo5
  have q7 := Nq.new ha0_0.fpb q6
  have q8 := Nq.made1 hlo5 ha0_0.blt
  have q9 := Zn.upD q6 hE
  replace ha0_0 := ha0_0.ext hx4
  have hE10 := Chg.more hE hx4
  refine op_g ha rfl (g_assign rfl) ?_; clear ha a; intro a ha
  refine wpList_nil ?_
  replace ha := ha.sub (σ' := [(1, (.int .i64 a1)), (2, (.pointer (some ⟨b1, 0, none⟩)))]) ⟨rfl, rfl, trivial⟩
  refine e_then ?_
  refine wp_seq ?_
  refine wp_region_lit ?_
  refine op_g ha rfl (g_field0 st30_0 rfl) ?_; clear ha a; intro a ha
  refine op_g ha rfl (g_load Try.isAgg22 rfl (hB3.cell rfl)) ?_; clear ha a; intro a ha
  refine op_g ha rfl (g_move rfl) ?_; clear ha a; intro a ha
  obtain ⟨x11, hc12, hF⟩ := cal_some hF
  refine o_call ha rfl rfl Try.call16 (W_laws_markInt64SS ha0_0 nda0_0 ha1 hc12) ?_; clear ha a; rintro v13 w14 ⟨⟨rfl, hI16⟩, h17, hx15⟩ a ha
  have hE18 := Chg.join hE10 hx15 (S2.par (fun _ h => h))
  refine op_g ha rfl (g_assign rfl) ?_; clear ha a; intro a ha
  refine wpList_nil ?_
  replace ha := ha.sub (σ' := [(1, (.int .i64 x11.1))]) ⟨rfl, trivial⟩
  refine e_then ?_
  refine wp_seq ?_
  refine wp_region_lit ?_
  refine op_g ha rfl (g_move rfl) ?_; clear ha a; intro a ha
  refine op_g ha rfl (g_assign rfl) ?_; clear ha a; intro a ha
  refine wpList_nil ?_
  replace ha := ha.sub (σ' := [(4, (.int .i64 x11.1))]) ⟨rfl, trivial⟩
  refine e_then ?_
  refine wp_ret ?_
  obtain rfl := Option.some.inj hF
  exact f_ret1 ha rfl rfl ⟨⟨rfl, hI16⟩, h17, hE18⟩
set_option maxHeartbeats 2000000 in
theorem W_laws_heldInt64S {W : World} {va0 : Value} {fa0 : List Nat} {a0 : (List Int)} (ha0 : Ro Rp.int W fa0 va0 a0) {a1 : Int} (ha1 : InI a1) {r : Int} (hF : F_laws_heldInt64S a0 a1 = some r) :
    Calls Try.prog 36 [va0, .int .i64 a1].toArray W (Ret fun u w' => (u = .int .i64 r ∧ InI r) ∧ Ext W w') := by
  refine f_enter Try.func36 rfl Try.ntmps36 rfl ?_
  intro a ha
  replace ha : Fr 21 [(0, va0), (1, (.int .i64 a1))] a := ha
  have hE : Chg [] W W := Chg.refl _ _
  unfold F_laws_heldInt64S at hF
  refine wp_seq ?_
  refine wp_region_lit ?_
  refine op_g ha rfl (g_assign rfl) ?_; clear ha a; intro a ha
  refine wpList_nil ?_
  replace ha := ha.sub (σ' := [(0, va0), (1, (.int .i64 a1))]) ⟨rfl, rfl, trivial⟩
  refine e_then ?_
  refine wp_seq ?_
  refine wp_seq ?_
  refine wp_region_lit ?_
  refine op_g ha rfl (g_assign rfl) ?_; clear ha a; intro a ha
  refine wpList_nil ?_
  refine e_then ?_
  obtain ⟨o58, ho59, hK60⟩ := bnd_some hF
  obtain ⟨n61, hn62⟩ := lp_some ho59; clear ho59
  refine c_loop (fun a w => ∃ (i56 : Int), Fr 21 [(1, (.int .i64 i56))] a ∧ Chg [] W w ∧ InI i56 ∧ o58 = .inl i56) (fun n a w => ∃ (i27 : Int) (i29 : Int), Fr 21 [(0, va0), (1, (.int .i64 i27)), (5, (.int .i64 i29))] a ∧ Chg [] W w ∧ InI i27 ∧ InI i29 ∧ lpN (fun s => F_laws_heldInt64S_l1 a0 s.1 s.2) n (i27, i29) = some o58) n61 ⟨a1, 0, ha.sub ⟨rfl, rfl, rfl, trivial⟩, hE, ha1, (show InI 0 from by decide), hn62⟩ ?_ ?_
  · rintro m66 a w26 ⟨i27, i29, ha, hE31, hI28, hI30, hF⟩
    cases m66 with
    | zero => exact (lpN_zero hF).elim
    | succ m66 =>
      obtain ⟨z65, hF, hN64⟩ := lpN_succ hF
      have hF : F_laws_heldInt64S_l1 a0 i27 i29 = some z65 := hF; unfold F_laws_heldInt64S_l1 at hF
      refine wp_seq ?_
      refine wp_seq ?_
      refine wp_region_lit ?_
      refine op_g ha rfl (g_move rfl) ?_; clear ha a; intro a ha
      refine op_g ha rfl (g_move rfl) ?_; clear ha a; intro a ha
      refine op_g ha rfl (g_lenR sl25.und ha0 rfl) ?_; clear ha a; intro a ha
      refine op_g ha rfl (g_lss rfl rfl) ?_; clear ha a; intro a ha
      refine wpList_nil ?_
      replace ha := ha.sub (σ' := [(0, va0), (1, (.int .i64 i27)), (5, (.int .i64 i29)), (9, (.bool (decide (i29 < (a0.length : Int)))))]) ⟨rfl, rfl, rfl, rfl, trivial⟩
      refine e_then ?_
      refine c_cond (i29 < (a0.length : Int)) ha rfl (decide_eq_true_iff) (fun hp67 => ?_) (fun hp67 => ?_)
      · replace hF := if_t hp67 hF
        refine wp_skip ?_
        refine e_then ?_
        refine wp_seq ?_
        refine wp_block ?_
        refine wp_seq ?_
        refine wp_seq ?_
        refine wp_region_lit ?_
        refine op_g ha rfl (g_move rfl) ?_; clear ha a; intro a ha
        refine op_g ha rfl (g_move rfl) ?_; clear ha a; intro a ha
        obtain ⟨x68, g69, gx70, hF⟩ := idx_some hF
        obtain ⟨p71, cs72, f73, hf74, hpb75, hat76, hr77, hi78⟩ := ha0.at g69 gx70
        obtain ⟨rfl, hI79, rfl⟩ := hr77
        refine op_g ha rfl (hi78.gives sl25 rfl rfl) ?_; clear ha a; intro a ha
        refine op_g ha rfl (g_load0 hE31 Try.isAgg2 rfl hat76.one) ?_; clear ha a; intro a ha
        refine op_g ha rfl (g_move rfl) ?_; clear ha a; intro a ha
        refine op_g ha rfl (g_neq rfl rfl) ?_; clear ha a; intro a ha
        refine wpList_nil ?_
        replace ha := ha.sub (σ' := [(0, va0), (1, (.int .i64 i27)), (5, (.int .i64 i29)), (17, (.bool (decide (x68 ≠ i27))))]) ⟨rfl, rfl, rfl, rfl, trivial⟩
        refine e_then ?_
        refine c_cond (x68 ≠ i27) ha rfl (decide_eq_true_iff) (fun hp80 => ?_) (fun hp80 => ?_)
        · replace hF := if_t hp80 hF
          refine wp_seq ?_
          refine wp_region_lit ?_
          refine op_g ha rfl (g_assign rfl) ?_; clear ha a; intro a ha
          refine wpList_nil ?_
          replace ha := ha.sub (σ' := [(4, (.int .i64 (-1)))]) ⟨rfl, trivial⟩
          refine e_then ?_
          refine wp_ret ?_
          refine e_then_ret ?_
          refine e_blk_ret ?_
          refine e_then_ret ?_
          refine e_lq_ret ?_
          refine e_then_ret ?_
          obtain rfl := Option.some.inj hF
          have e81 := LK_inr hN64; subst e81
          have e82 := BK_inr hK60; subst e82
          exact f_ret1 ha rfl rfl ⟨⟨rfl, (show InI (-1) from by decide)⟩, hE31⟩
        · replace hF := if_f hp80 hF
          refine wp_skip ?_
          refine e_then ?_
          refine wp_region_lit ?_
          refine op_g ha rfl (g_move rfl) ?_; clear ha a; intro a ha
          obtain ⟨hI83, hF⟩ := ck_some hF
          refine op_g ha rfl (g_add rfl rfl hI83) ?_; clear ha a; intro a ha
          refine op_g ha rfl (g_assign rfl) ?_; clear ha a; intro a ha
          refine wpList_nil ?_
          replace ha := ha.sub (σ' := [(0, va0), (1, (.int .i64 (i27 + 1))), (5, (.int .i64 i29))]) ⟨rfl, rfl, rfl, trivial⟩
          refine e_blk ?_
          refine e_then ?_
          refine wp_region_lit ?_
          refine op_g ha rfl (g_move rfl) ?_; clear ha a; intro a ha
          obtain ⟨hI85, hF⟩ := ck_some hF
          refine op_g ha rfl (g_add rfl rfl hI85) ?_; clear ha a; intro a ha
          refine op_g ha rfl (g_assign rfl) ?_; clear ha a; intro a ha
          refine wpList_nil ?_
          replace ha := ha.sub (σ' := [(0, va0), (1, (.int .i64 (i27 + 1))), (5, (.int .i64 (i29 + 1)))]) ⟨rfl, rfl, rfl, trivial⟩
          refine e_lq ?_
          obtain rfl := Option.some.inj hF
          exact ⟨_, Nat.lt_succ_self _, i27 + 1, i29 + 1, ha.sub ⟨rfl, rfl, rfl, trivial⟩, hE31, hI83, hI85, hN64⟩
      · replace hF := if_f hp67 hF
        refine wp_exit ?_
        refine e_then_exit ?_
        refine e_lq_eq ?_
        obtain rfl := Option.some.inj hF
        exact ⟨i27, ha.sub ⟨rfl, trivial⟩, hE31, hI28, (LK_inr hN64).symm⟩
  · rintro a w55 ⟨i56, ha, hE63, hI57, rfl⟩
    have hF : F_laws_heldInt64S_k2 i56 = some _ := hK60; clear hK60; unfold F_laws_heldInt64S_k2 at hF
    refine e_then ?_
    refine wp_seq ?_
    refine wp_region_lit ?_
    refine op_g ha rfl (g_move rfl) ?_; clear ha a; intro a ha
    refine op_g ha rfl (g_assign rfl) ?_; clear ha a; intro a ha
    refine wpList_nil ?_
    replace ha := ha.sub (σ' := [(4, (.int .i64 i56))]) ⟨rfl, trivial⟩
    refine e_then ?_
    refine wp_ret ?_
    obtain rfl := Option.some.inj hF
    exact f_ret1 ha rfl rfl ⟨⟨rfl, hI57⟩, hE63⟩
set_option maxHeartbeats 2000000 in
theorem W_laws_heldInt64SS {W : World} {va0 : Value} {fa0 : List Nat} {a0 : (List (List Int))} (ha0 : Ro (Rp.sl 2 Rp.int) W fa0 va0 a0) {a1 : Int} (ha1 : InI a1) {r : Int} (hF : F_laws_heldInt64SS a0 a1 = some r) :
    Calls Try.prog 18 [va0, .int .i64 a1].toArray W (Ret fun u w' => (u = .int .i64 r ∧ InI r) ∧ Ext W w') := by
  refine f_enter Try.func18 rfl Try.ntmps18 rfl ?_
  intro a ha
  replace ha : Fr 21 [(0, va0), (1, (.int .i64 a1))] a := ha
  have hE : Chg [] W W := Chg.refl _ _
  unfold F_laws_heldInt64SS at hF
  refine wp_seq ?_
  refine wp_region_lit ?_
  refine op_g ha rfl (g_assign rfl) ?_; clear ha a; intro a ha
  refine wpList_nil ?_
  replace ha := ha.sub (σ' := [(0, va0), (1, (.int .i64 a1))]) ⟨rfl, rfl, trivial⟩
  refine e_then ?_
  refine wp_seq ?_
  refine wp_seq ?_
  refine wp_region_lit ?_
  refine op_g ha rfl (g_assign rfl) ?_; clear ha a; intro a ha
  refine wpList_nil ?_
  refine e_then ?_
  obtain ⟨o72, ho73, hK74⟩ := bnd_some hF
  obtain ⟨n75, hn76⟩ := lp_some ho73; clear ho73
  refine c_loop (fun a w => ∃ (i70 : Int), Fr 21 [(1, (.int .i64 i70))] a ∧ Chg [] W w ∧ InI i70 ∧ o72 = .inl i70) (fun n a w => ∃ (i34 : Int) (i36 : Int), Fr 21 [(0, va0), (1, (.int .i64 i34)), (5, (.int .i64 i36))] a ∧ Chg [] W w ∧ InI i34 ∧ InI i36 ∧ lpN (fun s => F_laws_heldInt64SS_l1 a0 s.1 s.2) n (i34, i36) = some o72) n75 ⟨a1, 0, ha.sub ⟨rfl, rfl, rfl, trivial⟩, hE, ha1, (show InI 0 from by decide), hn76⟩ ?_ ?_
  · rintro m80 a w33 ⟨i34, i36, ha, hE38, hI35, hI37, hF⟩
    cases m80 with
    | zero => exact (lpN_zero hF).elim
    | succ m80 =>
      obtain ⟨z79, hF, hN78⟩ := lpN_succ hF
      have hF : F_laws_heldInt64SS_l1 a0 i34 i36 = some z79 := hF; unfold F_laws_heldInt64SS_l1 at hF
      refine wp_seq ?_
      refine wp_seq ?_
      refine wp_region_lit ?_
      refine op_g ha rfl (g_move rfl) ?_; clear ha a; intro a ha
      refine op_g ha rfl (g_move rfl) ?_; clear ha a; intro a ha
      refine op_g ha rfl (g_lenR sl22.und ha0 rfl) ?_; clear ha a; intro a ha
      refine op_g ha rfl (g_lss rfl rfl) ?_; clear ha a; intro a ha
      refine wpList_nil ?_
      replace ha := ha.sub (σ' := [(0, va0), (1, (.int .i64 i34)), (5, (.int .i64 i36)), (9, (.bool (decide (i36 < (a0.length : Int)))))]) ⟨rfl, rfl, rfl, rfl, trivial⟩
      refine e_then ?_
      refine c_cond (i36 < (a0.length : Int)) ha rfl (decide_eq_true_iff) (fun hp81 => ?_) (fun hp81 => ?_)
      · replace hF := if_t hp81 hF
        refine wp_skip ?_
        refine e_then ?_
        refine wp_seq ?_
        refine wp_block ?_
        refine wp_seq ?_
        refine wp_region_lit ?_
        refine op_g ha rfl (g_move rfl) ?_; clear ha a; intro a ha
        refine op_g ha rfl (g_move rfl) ?_; clear ha a; intro a ha
        obtain ⟨x82, g83, gx84, hF⟩ := idx_some hF
        obtain ⟨p85, cs86, f87, hf88, hpb89, hat90, hr91, hi92⟩ := ha0.at g83 gx84
        obtain ⟨v93, rfl, h94⟩ := hr91
        have h94 : Ro Rp.int W f87 v93 x82 := h94
        refine op_g ha rfl (hi92.gives sl22 rfl rfl) ?_; clear ha a; intro a ha
        refine op_g ha rfl (g_load0 hE38 Try.isAgg25 rfl hat90.one) ?_; clear ha a; intro a ha
        refine op_g ha rfl (g_move rfl) ?_; clear ha a; intro a ha
        obtain ⟨x96, hc97, hF⟩ := cal_some hF
        refine o_call ha rfl rfl Try.call36 (W_laws_heldInt64S (h94.ext hE38) hI35 hc97) ?_; clear ha a; rintro v98 w99 ⟨⟨rfl, hI101⟩, hx100⟩ a ha
        have hE102 := Ext.trans hE38 hx100
        refine op_g ha rfl (g_assign rfl) ?_; clear ha a; intro a ha
        refine wpList_nil ?_
        replace ha := ha.sub (σ' := [(0, va0), (1, (.int .i64 x96)), (5, (.int .i64 i36))]) ⟨rfl, rfl, rfl, trivial⟩
        refine e_then ?_
        refine wp_seq ?_
        refine wp_region_lit ?_
        refine op_g ha rfl (g_move rfl) ?_; clear ha a; intro a ha
        refine op_g ha rfl (g_lss rfl rfl) ?_; clear ha a; intro a ha
        refine wpList_nil ?_
        replace ha := ha.sub (σ' := [(0, va0), (1, (.int .i64 x96)), (5, (.int .i64 i36)), (19, (.bool (decide (x96 < 0))))]) ⟨rfl, rfl, rfl, rfl, trivial⟩
        refine e_then ?_
        refine c_cond (x96 < 0) ha rfl (decide_eq_true_iff) (fun hp103 => ?_) (fun hp103 => ?_)
        · replace hF := if_t hp103 hF
          refine wp_seq ?_
          refine wp_region_lit ?_
          refine op_g ha rfl (g_assign rfl) ?_; clear ha a; intro a ha
          refine wpList_nil ?_
          replace ha := ha.sub (σ' := [(4, (.int .i64 (-1)))]) ⟨rfl, trivial⟩
          refine e_then ?_
          refine wp_ret ?_
          refine e_blk_ret ?_
          refine e_then_ret ?_
          refine e_lq_ret ?_
          refine e_then_ret ?_
          obtain rfl := Option.some.inj hF
          have e104 := LK_inr hN78; subst e104
          have e105 := BK_inr hK74; subst e105
          exact f_ret1 ha rfl rfl ⟨⟨rfl, (show InI (-1) from by decide)⟩, hE102⟩
        · replace hF := if_f hp103 hF
          refine wp_skip ?_
          refine e_blk ?_
          refine e_then ?_
          refine wp_region_lit ?_
          refine op_g ha rfl (g_move rfl) ?_; clear ha a; intro a ha
          obtain ⟨hI106, hF⟩ := ck_some hF
          refine op_g ha rfl (g_add rfl rfl hI106) ?_; clear ha a; intro a ha
          refine op_g ha rfl (g_assign rfl) ?_; clear ha a; intro a ha
          refine wpList_nil ?_
          replace ha := ha.sub (σ' := [(0, va0), (1, (.int .i64 x96)), (5, (.int .i64 (i36 + 1)))]) ⟨rfl, rfl, rfl, trivial⟩
          refine e_lq ?_
          obtain rfl := Option.some.inj hF
          exact ⟨_, Nat.lt_succ_self _, x96, i36 + 1, ha.sub ⟨rfl, rfl, rfl, trivial⟩, hE102, hI101, hI106, hN78⟩
      · replace hF := if_f hp81 hF
        refine wp_exit ?_
        refine e_then_exit ?_
        refine e_lq_eq ?_
        obtain rfl := Option.some.inj hF
        exact ⟨i34, ha.sub ⟨rfl, trivial⟩, hE38, hI35, (LK_inr hN78).symm⟩
  · rintro a w69 ⟨i70, ha, hE77, hI71, rfl⟩
    have hF : F_laws_heldInt64SS_k2 i70 = some _ := hK74; clear hK74; unfold F_laws_heldInt64SS_k2 at hF
    refine e_then ?_
    refine wp_seq ?_
    refine wp_region_lit ?_
    refine op_g ha rfl (g_move rfl) ?_; clear ha a; intro a ha
    refine op_g ha rfl (g_assign rfl) ?_; clear ha a; intro a ha
    refine wpList_nil ?_
    replace ha := ha.sub (σ' := [(4, (.int .i64 i70))]) ⟨rfl, trivial⟩
    refine e_then ?_
    refine wp_ret ?_
    obtain rfl := Option.some.inj hF
    exact f_ret1 ha rfl rfl ⟨⟨rfl, hI71⟩, hE77⟩
set_option maxHeartbeats 2000000 in
theorem W_laws_FnExactSwitchedBy {W : World} {va0_0 : Value} {fa0_0 : List Nat} {a0_0 : (List (List Int))} (ha0_0 : Ro (Rp.sl 2 Rp.int) W fa0_0 va0_0 a0_0) {va1 : Value} {fa1 : List Nat} {a1 : (List (List Int))} (ha1 : Ro (Rp.sl 2 Rp.int) W fa1 va1 a1) {va2 : Value} {fa2 : List Nat} {a2 : (List Int)} (ha2 : Ro Rp.int W fa2 va2 a2) {r : Bool} (hF : F_laws_FnExactSwitchedBy a0_0 a1 a2 = some r) :
    Calls Try.prog 3 [.agg #[va0_0], va1, va2].toArray W (Ret fun u w' => u = .bool r ∧ Ext W w') := by
  refine f_enter Try.func3 rfl Try.ntmps3 rfl ?_
  intro a ha
  replace ha : Fr 140 [(0, (.agg #[va0_0])), (1, va1), (2, va2)] a := ha
  have hE : Chg [] W W := Chg.refl _ _
  unfold F_laws_FnExactSwitchedBy at hF
  refine wp_seq ?_
  refine wp_region_lit ?_
  refine o_box ha rfl rfl rfl ?_; clear ha a; intro b1 w2 hB3 hx4 hlo5 a ha
  have q6 := Zn.one hlo5
  have q7 := Zn.upD q6 hE
  have hE8 := Ext.trans hE hx4
  refine op_g ha rfl (g_assign rfl) ?_; clear ha a; intro a ha
  refine wpList_nil ?_
  replace ha := ha.sub (σ' := [(1, va1), (2, va2), (3, (.pointer (some ⟨b1, 0, none⟩)))]) ⟨rfl, rfl, rfl, trivial⟩
  refine e_then ?_
  refine wp_seq ?_
  refine wp_seq ?_
  refine wp_region_lit ?_
  refine op_g ha rfl (g_move rfl) ?_; clear ha a; intro a ha
  refine op_g ha rfl (g_lenR sl25.und ha2 rfl) ?_; clear ha a; intro a ha
  refine op_g ha rfl (g_gtr rfl rfl) ?_; clear ha a; intro a ha
  refine wpList_nil ?_
  replace ha := ha.sub (σ' := [(1, va1), (2, va2), (3, (.pointer (some ⟨b1, 0, none⟩))), (22, (.bool (decide (1048576 < (a2.length : Int)))))]) ⟨rfl, rfl, rfl, rfl, trivial⟩
  refine e_then ?_
  refine c_cond (1048576 < (a2.length : Int)) ha rfl (decide_eq_true_iff) (fun hp9 => ?_) (fun hp9 => ?_)
  · replace hF := if_t hp9 hF
    refine wp_seq ?_
    refine wp_region_lit ?_
    refine op_g ha rfl (g_assign rfl) ?_; clear ha a; intro a ha
    refine wpList_nil ?_
    replace ha := ha.sub (σ' := [(6, (.bool true))]) ⟨rfl, trivial⟩
    refine e_then ?_
    refine wp_ret ?_
    refine e_then_ret ?_
    obtain rfl := Option.some.inj hF
    exact f_ret1 ha rfl rfl ⟨rfl, hE8⟩
  · replace hF := if_f hp9 hF
    refine wp_skip ?_
    refine e_then ?_
    refine wp_seq ?_
    refine wp_region_lit ?_
    refine op_g ha rfl (g_assign rfl) ?_; clear ha a; intro a ha
    refine wpList_nil ?_
    replace ha := ha.sub (σ' := [(1, va1), (2, va2), (3, (.pointer (some ⟨b1, 0, none⟩))), (7, (.int .i64 1048576))]) ⟨rfl, rfl, rfl, rfl, trivial⟩
    refine e_then ?_
    refine wp_seq ?_
    refine wp_region_lit ?_
    refine op_g ha rfl (g_loadA (cs := [va0_0]) Try.isAgg24 Try.sizeOf24 rfl (by simp) hB3.all) ?_; clear ha a; intro a ha
    refine op_g ha rfl (g_move rfl) ?_; clear ha a; intro a ha
    obtain ⟨x10, hc11, hF⟩ := cal_some hF
    refine o_call ha rfl rfl Try.call5 (W_laws_szGraph (ha0_0.ext hE8) (show InI 1048576 from by decide) hc11) ?_; clear ha a; rintro v12 w13 ⟨⟨rfl, hI15⟩, hx14⟩ a ha
    replace hB3 := hB3.ext hx14
    have hE16 := Ext.trans hE8 hx14
    refine op_g ha rfl (g_assign rfl) ?_; clear ha a; intro a ha
    refine wpList_nil ?_
    replace ha := ha.sub (σ' := [(1, va1), (2, va2), (3, (.pointer (some ⟨b1, 0, none⟩))), (7, (.int .i64 x10))]) ⟨rfl, rfl, rfl, rfl, trivial⟩
    refine e_then ?_
    refine wp_seq ?_
    refine wp_seq ?_
    refine wp_region_lit ?_
    refine op_g ha rfl (g_move rfl) ?_; clear ha a; intro a ha
    refine op_g ha rfl (g_lss rfl rfl) ?_; clear ha a; intro a ha
    refine wpList_nil ?_
    replace ha := ha.sub (σ' := [(1, va1), (2, va2), (3, (.pointer (some ⟨b1, 0, none⟩))), (7, (.int .i64 x10)), (27, (.bool (decide (x10 < 0))))]) ⟨rfl, rfl, rfl, rfl, rfl, trivial⟩
    refine e_then ?_
    refine c_cond (x10 < 0) ha rfl (decide_eq_true_iff) (fun hp17 => ?_) (fun hp17 => ?_)
    · replace hF := if_t hp17 hF
      refine wp_seq ?_
      refine wp_region_lit ?_
      refine op_g ha rfl (g_assign rfl) ?_; clear ha a; intro a ha
      refine wpList_nil ?_
      replace ha := ha.sub (σ' := [(6, (.bool true))]) ⟨rfl, trivial⟩
      refine e_then ?_
      refine wp_ret ?_
      refine e_then_ret ?_
      obtain rfl := Option.some.inj hF
      exact f_ret1 ha rfl rfl ⟨rfl, hE16⟩
    · replace hF := if_f hp17 hF
      refine wp_skip ?_
      refine e_then ?_
      refine wp_seq ?_
      refine wp_region_lit ?_
      refine op_g ha rfl (g_move rfl) ?_; clear ha a; intro a ha
      refine op_g ha rfl (g_move rfl) ?_; clear ha a; intro a ha
      obtain ⟨x18, hc19, hF⟩ := cal_some hF
      refine o_call ha rfl rfl Try.call6 (W_laws_szInt64SS (ha1.ext hE16) hI15 hc19) ?_; clear ha a; rintro v20 w21 ⟨⟨rfl, hI23⟩, hx22⟩ a ha
      replace hB3 := hB3.ext hx22
      have hE24 := Ext.trans hE16 hx22
      refine op_g ha rfl (g_assign rfl) ?_; clear ha a; intro a ha
      refine wpList_nil ?_
      replace ha := ha.sub (σ' := [(1, va1), (2, va2), (3, (.pointer (some ⟨b1, 0, none⟩))), (7, (.int .i64 x18))]) ⟨rfl, rfl, rfl, rfl, trivial⟩
      refine e_then ?_
      refine wp_seq ?_
      refine wp_seq ?_
      refine wp_region_lit ?_
      refine op_g ha rfl (g_move rfl) ?_; clear ha a; intro a ha
      refine op_g ha rfl (g_lss rfl rfl) ?_; clear ha a; intro a ha
      refine wpList_nil ?_
      replace ha := ha.sub (σ' := [(1, va1), (2, va2), (3, (.pointer (some ⟨b1, 0, none⟩))), (32, (.bool (decide (x18 < 0))))]) ⟨rfl, rfl, rfl, rfl, trivial⟩
      refine e_then ?_
      refine c_cond (x18 < 0) ha rfl (decide_eq_true_iff) (fun hp25 => ?_) (fun hp25 => ?_)
      · replace hF := if_t hp25 hF
        refine wp_seq ?_
        refine wp_region_lit ?_
        refine op_g ha rfl (g_assign rfl) ?_; clear ha a; intro a ha
        refine wpList_nil ?_
        replace ha := ha.sub (σ' := [(6, (.bool true))]) ⟨rfl, trivial⟩
        refine e_then ?_
        refine wp_ret ?_
        refine e_then_ret ?_
        obtain rfl := Option.some.inj hF
        exact f_ret1 ha rfl rfl ⟨rfl, hE24⟩
      · replace hF := if_f hp25 hF
        refine wp_skip ?_
        refine e_then ?_
        refine wp_seq ?_
        refine wp_region_lit ?_
        refine op_g ha rfl (g_loadA (cs := [va0_0]) Try.isAgg24 Try.sizeOf24 rfl (by simp) hB3.all) ?_; clear ha a; intro a ha
        obtain ⟨x26, hc27, hF⟩ := cal_some hF
        refine o_call ha rfl rfl Try.call8 (W_laws_toGraph (ha0_0.ext hE24) hc27) ?_; clear ha a; rintro v28 w29 ⟨u31, b32, fs36, rfl, h33, z34, zf37, nd38, hx30⟩ a ha
        have q39 := Nq.new hB3.fpb z34
        have q40 := Nq.madeF z34 zf37 hB3.bi
        have q41 := Nf.new hB3.fpb zf37
        replace hB3 := hB3.ext hx30
        have hE42 := Ext.trans hE24 hx30
        have q43 := Zn.upD z34 hE24
        have q44 := zf_up zf37 hE24
        refine op_g ha rfl (g_move rfl) ?_; clear ha a; intro a ha
        obtain ⟨x45, hc46, hF⟩ := cal_some hF
        refine o_call ha rfl rfl Try.call9 (W_laws_toInt64SS (ha1.ext hE42) hc46) ?_; clear ha a; rintro v47 w48 ⟨b50, fs54, h51, z52, zf55, nd56, hx49⟩ a ha
        have q57 := Nq.new hB3.fpb z52
        have q58 := Nq.madeF z52 zf55 hB3.bi
        have q59 := Nq.new h33.fpb z52
        have q60 := Nq.madeF z52 zf55 h33.blt
        have q61 := Nf.new hB3.fpb zf55
        have q62 := Nf.new h33.fpb zf55
        have q63 := Nf.old z52 zf55 h33.bnd
        replace hB3 := hB3.ext hx49
        replace h33 := h33.ext hx49
        have hE64 := Ext.trans hE42 hx49
        have q65 := Zn.upD z52 hE42
        have q66 := zf_up zf55 hE42
        refine op_g ha rfl (g_move rfl) ?_; clear ha a; intro a ha
        obtain ⟨x67, hc68, hF⟩ := cal_some hF
        refine o_call ha rfl rfl Try.call10 (W_laws_toInt64S (ha2.ext hE64) hc68) ?_; clear ha a; rintro v69 w70 ⟨b72, h73, z74, hx71⟩ a ha
        have q76 := Nq.new hB3.fpb z74
        have q77 := Nq.madeO z74 hB3.bi
        have q78 := Nq.new h33.fpb z74
        have q79 := Nq.madeO z74 h33.blt
        have q80 := Nq.new h51.fpb z74
        have q81 := Nq.madeO z74 h51.blt
        have q82 := Nf.old z74 (zf_nil _) h33.bnd
        have q83 := Nf.old z74 (zf_nil _) h51.bnd
        replace hB3 := hB3.ext hx71
        replace h33 := h33.ext hx71
        replace h51 := h51.ext hx71
        have hE84 := Ext.trans hE64 hx71
        have q85 := Zn.upD z74 hE64
        obtain ⟨fp86, hro87, hs88⟩ := h33.roF
        obtain ⟨fp89, hro90, hs91⟩ := h51.roF
        obtain ⟨fp92, hro93, hs94⟩ := h73.roF
        obtain ⟨x95, hc96, hF⟩ := cal_some hF
        refine o_call ha rfl rfl Try.call7 (W_spec_SwitchedBy hro87 hro90 hro93 hc96) ?_; clear ha a; rintro v97 w98 ⟨u100, u101, b102, fs106, rfl, h103, z104, zf107, nd108, rfl, hx99⟩ a ha
        have q109 := Nq.new hB3.fpb z104
        have q110 := Nq.madeF z104 zf107 hB3.bi
        have q111 := Nq.new h33.fpb z104
        have q112 := Nq.madeF z104 zf107 h33.blt
        have q113 := Nq.new h51.fpb z104
        have q114 := Nq.madeF z104 zf107 h51.blt
        have q115 := Nq.new h73.fpb z104
        have q116 := Nq.madeF z104 zf107 h73.blt
        have q117 := Nf.new hB3.fpb zf107
        have q118 := Nf.new h33.fpb zf107
        have q119 := Nf.old z104 zf107 h33.bnd
        have q120 := Nf.new h51.fpb zf107
        have q121 := Nf.old z104 zf107 h51.bnd
        have q122 := Nf.new h73.fpb zf107
        replace hB3 := hB3.ext hx99
        replace h33 := h33.ext hx99
        replace h51 := h51.ext hx99
        replace h73 := h73.ext hx99
        have hE123 := Ext.trans hE84 hx99
        have q124 := Zn.upD z104 hE84
        have q125 := zf_up zf107 hE84
        refine op_g ha rfl (g_move rfl) ?_; clear ha a; intro a ha
        refine op_g ha rfl (g_extract rfl rfl) ?_; clear ha a; intro a ha
        refine op_g ha rfl (g_extract rfl rfl) ?_; clear ha a; intro a ha
        refine op_g ha rfl (g_assign rfl) ?_; clear ha a; intro a ha
        refine op_g ha rfl (g_assign rfl) ?_; clear ha a; intro a ha
        refine wpList_nil ?_
        replace ha := ha.sub (σ' := [(1, va1), (2, va2), (3, (.pointer (some ⟨b1, 0, none⟩))), (8, u100), (9, (.bool x95.2))]) ⟨rfl, rfl, rfl, rfl, rfl, trivial⟩
        refine e_then ?_
        refine wp_seq ?_
        refine wp_region_lit ?_
        refine op_g ha rfl (g_loadA (cs := [va0_0]) Try.isAgg24 Try.sizeOf24 rfl (by simp) hB3.all) ?_; clear ha a; intro a ha
        obtain ⟨x126, hc127, hF⟩ := cal_some hF
        refine o_call ha rfl rfl Try.call8 (W_laws_toGraph (ha0_0.ext hE123) hc127) ?_; clear ha a; rintro v128 w129 ⟨u131, b132, fs136, rfl, h133, z134, zf137, nd138, hx130⟩ a ha
        have q139 := Nq.new hB3.fpb z134
        have q140 := Nq.madeF z134 zf137 hB3.bi
        have q141 := Nq.new h103.fpb z134
        have q142 := Nq.madeF z134 zf137 h103.blt
        have q143 := Nf.new hB3.fpb zf137
        have q144 := Nf.new h103.fpb zf137
        have q145 := Nf.old z134 zf137 h103.bnd
        replace hB3 := hB3.ext hx130
        replace h103 := h103.ext hx130
        have hE146 := Ext.trans hE123 hx130
        have q147 := Zn.upD z134 hE123
        have q148 := zf_up zf137 hE123
        refine o_alloc (cs := [(.slice none 0 0)]) ha rfl Try.zeroValue30 rfl ?_; clear ha a; intro b149 w150 hB151 hx152 hlo153 a ha
        have q154 := Zn.one hlo153
        have q155 := Nq.new hB3.fpb q154
        have q156 := Nq.made1 hlo153 hB3.bi
        have q157 := Nq.new h103.fpb q154
        have q158 := Nq.made1 hlo153 h103.blt
        have q159 := Nq.new h133.fpb q154
        have q160 := Nq.made1 hlo153 h133.blt
        have q161 := Zn.upD q154 hE146
        replace hB3 := hB3.ext hx152
        replace h103 := h103.ext hx152
        replace h133 := h133.ext hx152
        have hE162 := Ext.trans hE146 hx152
        refine o_storeA (vs := [u131]) ha hB151 Try.sizeOf30 rfl rfl (by intro c hc; simp only [List.mem_cons, List.not_mem_nil, or_false] at hc; rcases hc with hc <;> subst hc <;> first | rfl | exact h133.oneC) rfl ?_; intro w163 hB164 hc165
        replace hc165 := hc165.bl
        replace hB164 : Bx w163 b149 [u131] 30 := hB164
        replace hB3 := hB3.nq hc165 q155
        replace h103 := h103.nq hc165 q157
        replace h133 := h133.nq hc165 q159
        have hE166 := Ext.then hE162 hc165 (Zn.bl q161)
        refine wpList_nil ?_
        replace ha := ha.sub (σ' := [(1, va1), (2, va2), (3, (.pointer (some ⟨b1, 0, none⟩))), (8, u100), (9, (.bool x95.2)), (10, (.pointer (some ⟨b149, 0, none⟩)))]) ⟨rfl, rfl, rfl, rfl, rfl, rfl, trivial⟩
        refine e_then ?_
        refine wp_seq ?_
        refine wp_region_lit ?_
        refine op_g ha rfl (g_move rfl) ?_; clear ha a; intro a ha
        obtain ⟨x167, hc168, hF⟩ := cal_some hF
        refine o_call ha rfl rfl Try.call9 (W_laws_toInt64SS (ha1.ext hE166) hc168) ?_; clear ha a; rintro v169 w170 ⟨b172, fs176, h173, z174, zf177, nd178, hx171⟩ a ha
        have q179 := Nq.new hB3.fpb z174
        have q180 := Nq.madeF z174 zf177 hB3.bi
        have q181 := Nq.new h103.fpb z174
        have q182 := Nq.madeF z174 zf177 h103.blt
        have q183 := Nq.new h133.fpb z174
        have q184 := Nq.madeF z174 zf177 h133.blt
        have q185 := Nq.new hB164.fpb z174
        have q186 := Nq.madeF z174 zf177 hB164.bi
        have q187 := Nf.new hB3.fpb zf177
        have q188 := Nf.new h103.fpb zf177
        have q189 := Nf.old z174 zf177 h103.bnd
        have q190 := Nf.new h133.fpb zf177
        have q191 := Nf.old z174 zf177 h133.bnd
        have q192 := Nf.new hB164.fpb zf177
        replace hB3 := hB3.ext hx171
        replace h103 := h103.ext hx171
        replace h133 := h133.ext hx171
        replace hB164 := hB164.ext hx171
        have hE193 := Ext.trans hE166 hx171
        have q194 := Zn.upD z174 hE166
        have q195 := zf_up zf177 hE166
        refine op_g ha rfl (g_assign rfl) ?_; clear ha a; intro a ha
        refine wpList_nil ?_
        replace ha := ha.sub (σ' := [(1, va1), (2, va2), (3, (.pointer (some ⟨b1, 0, none⟩))), (8, u100), (9, (.bool x95.2)), (10, (.pointer (some ⟨b149, 0, none⟩))), (11, v169)]) ⟨rfl, rfl, rfl, rfl, rfl, rfl, rfl, trivial⟩
        refine e_then ?_
        refine wp_seq ?_
        refine wp_region_lit ?_
        refine op_g ha rfl (g_move rfl) ?_; clear ha a; intro a ha
        obtain ⟨x196, hc197, hF⟩ := cal_some hF
        refine o_call ha rfl rfl Try.call10 (W_laws_toInt64S (ha2.ext hE193) hc197) ?_; clear ha a; rintro v198 w199 ⟨b201, h202, z203, hx200⟩ a ha
        have q205 := Nq.new hB3.fpb z203
        have q206 := Nq.madeO z203 hB3.bi
        have q207 := Nq.new h103.fpb z203
        have q208 := Nq.madeO z203 h103.blt
        have q209 := Nq.new h133.fpb z203
        have q210 := Nq.madeO z203 h133.blt
        have q211 := Nq.new hB164.fpb z203
        have q212 := Nq.madeO z203 hB164.bi
        have q213 := Nq.new h173.fpb z203
        have q214 := Nq.madeO z203 h173.blt
        have q215 := Nf.old z203 (zf_nil _) h103.bnd
        have q216 := Nf.old z203 (zf_nil _) h133.bnd
        have q217 := Nf.old z203 (zf_nil _) h173.bnd
        replace hB3 := hB3.ext hx200
        replace h103 := h103.ext hx200
        replace h133 := h133.ext hx200
        replace hB164 := hB164.ext hx200
        replace h173 := h173.ext hx200
        have hE218 := Ext.trans hE193 hx200
        have q219 := Zn.upD z203 hE193
        refine op_g ha rfl (g_assign rfl) ?_; clear ha a; intro a ha
        refine wpList_nil ?_
        replace ha := ha.sub (σ' := [(1, va1), (2, va2), (3, (.pointer (some ⟨b1, 0, none⟩))), (8, u100), (9, (.bool x95.2)), (10, (.pointer (some ⟨b149, 0, none⟩))), (11, v169), (12, v198)]) ⟨rfl, rfl, rfl, rfl, rfl, rfl, rfl, rfl, trivial⟩
        refine e_then ?_
        refine wp_seq ?_
        refine wp_region_lit ?_
        refine op_g ha rfl (g_loadA (cs := [u131]) Try.isAgg30 Try.sizeOf30 rfl (by simp) hB164.all) ?_; clear ha a; intro a ha
        refine op_g ha rfl (g_move rfl) ?_; clear ha a; intro a ha
        refine op_g ha rfl (g_move rfl) ?_; clear ha a; intro a ha
        obtain ⟨fp220, hro221, hs222⟩ := h133.roF
        obtain ⟨fp223, hro224, hs225⟩ := h173.roF
        obtain ⟨fp226, hro227, hs228⟩ := h202.roF
        obtain ⟨x229, hc230, hF⟩ := cal_some hF
        refine o_call ha rfl rfl Try.call11 (W_impl_SwitchedBy hro221 hro224 hro227 hc230) ?_; clear ha a; rintro v231 w232 ⟨u234, u235, b236, fs240, rfl, h237, z238, zf241, nd242, rfl, hx233⟩ a ha
        have q243 := Nq.new hB3.fpb z238
        have q244 := Nq.madeF z238 zf241 hB3.bi
        have q245 := Nq.new h103.fpb z238
        have q246 := Nq.madeF z238 zf241 h103.blt
        have q247 := Nq.new h133.fpb z238
        have q248 := Nq.madeF z238 zf241 h133.blt
        have q249 := Nq.new hB164.fpb z238
        have q250 := Nq.madeF z238 zf241 hB164.bi
        have q251 := Nq.new h173.fpb z238
        have q252 := Nq.madeF z238 zf241 h173.blt
        have q253 := Nq.new h202.fpb z238
        have q254 := Nq.madeF z238 zf241 h202.blt
        have q255 := Nf.new hB3.fpb zf241
        have q256 := Nf.new h103.fpb zf241
        have q257 := Nf.old z238 zf241 h103.bnd
        have q258 := Nf.new h133.fpb zf241
        have q259 := Nf.old z238 zf241 h133.bnd
        have q260 := Nf.new hB164.fpb zf241
        have q261 := Nf.new h173.fpb zf241
        have q262 := Nf.old z238 zf241 h173.bnd
        have q263 := Nf.new h202.fpb zf241
        replace hB3 := hB3.ext hx233
        replace h103 := h103.ext hx233
        replace h133 := h133.ext hx233
        replace hB164 := hB164.ext hx233
        replace h173 := h173.ext hx233
        replace h202 := h202.ext hx233
        have hE264 := Ext.trans hE218 hx233
        have q265 := Zn.upD z238 hE218
        have q266 := zf_up zf241 hE218
        refine op_g ha rfl (g_move rfl) ?_; clear ha a; intro a ha
        refine op_g ha rfl (g_extract rfl rfl) ?_; clear ha a; intro a ha
        refine op_g ha rfl (g_extract rfl rfl) ?_; clear ha a; intro a ha
        refine op_g ha rfl (g_assign rfl) ?_; clear ha a; intro a ha
        refine op_g ha rfl (g_assign rfl) ?_; clear ha a; intro a ha
        refine wpList_nil ?_
        replace ha := ha.sub (σ' := [(1, va1), (2, va2), (3, (.pointer (some ⟨b1, 0, none⟩))), (8, u100), (9, (.bool x95.2)), (10, (.pointer (some ⟨b149, 0, none⟩))), (11, v169), (12, v198), (13, u234), (14, (.bool x229.2))]) ⟨rfl, rfl, rfl, rfl, rfl, rfl, rfl, rfl, rfl, rfl, trivial⟩
        refine e_then ?_
        refine wp_seq ?_
        refine wp_seq ?_
        refine wp_region_lit ?_
        refine op_g ha rfl (g_move rfl) ?_; clear ha a; intro a ha
        refine op_g ha rfl (g_move rfl) ?_; clear ha a; intro a ha
        obtain ⟨fp281, hro282, hs283⟩ := h237.roF
        obtain ⟨fp284, hro285, hs286⟩ := h103.roF
        obtain ⟨x287, hc288, hF⟩ := cal_some hF
        refine o_call ha rfl rfl Try.call12 (W_laws_eqInt64SS hro282 hro285 hc288) ?_; clear ha a; rintro v289 w290 ⟨rfl, hx291⟩ a ha
        replace hB3 := hB3.ext hx291
        replace h103 := h103.ext hx291
        replace h133 := h133.ext hx291
        replace hB164 := hB164.ext hx291
        replace h173 := h173.ext hx291
        replace h202 := h202.ext hx291
        replace h237 := h237.ext hx291
        have hE292 := Ext.trans hE264 hx291
        refine op_g ha rfl (g_not rfl) ?_; clear ha a; intro a ha
        refine op_g ha rfl (g_move rfl) ?_; clear ha a; intro a ha
        by_cases hp293 : ¬ (x287 = true)
        · replace hF := if_t hp293 hF
          rw [show (!x287) = true from (n_iff (Iff.rfl)).2 hp293] at ha
          refine op_unwant ha rfl (yields ha rfl rfl) rfl ?_; clear ha a; intro a ha
          refine op_unwant ha rfl (yields ha rfl rfl) rfl ?_; clear ha a; intro a ha
          refine op_unwant ha rfl (yields ha rfl rfl) rfl ?_; clear ha a; intro a ha
          refine op_g ha rfl (g_pick rfl rfl) ?_; clear ha a; intro a ha
          refine wpList_nil ?_
          replace ha := ha.sub (σ' := [(1, va1), (2, va2), (3, (.pointer (some ⟨b1, 0, none⟩))), (8, u100), (9, (.bool x95.2)), (10, (.pointer (some ⟨b149, 0, none⟩))), (11, v169), (12, v198), (13, u234), (14, (.bool x229.2)), (64, (.bool true))]) ⟨rfl, rfl, rfl, rfl, rfl, rfl, rfl, rfl, rfl, rfl, rfl, trivial⟩
          refine e_then ?_
          refine c_true ha rfl ?_
          refine wp_seq ?_
          refine wp_region_lit ?_
          refine op_g ha rfl (g_assign rfl) ?_; clear ha a; intro a ha
          refine wpList_nil ?_
          replace ha := ha.sub (σ' := [(6, (.bool false))]) ⟨rfl, trivial⟩
          refine e_then ?_
          refine wp_ret ?_
          refine e_then_ret ?_
          obtain rfl := Option.some.inj hF
          exact f_ret1 ha rfl rfl ⟨rfl, hE292⟩
        · replace hF := if_f hp293 hF
          rw [show (!x287) = false from b_false (n_iff (Iff.rfl)) hp293] at ha
          refine op_want (yields ha rfl rfl) ?_
          refine op_g ha rfl (g_move rfl) ?_; clear ha a; intro a ha
          refine op_want (yields ha rfl rfl) ?_
          refine op_g ha rfl (g_move rfl) ?_; clear ha a; intro a ha
          refine op_want (yields ha rfl rfl) ?_
          refine op_g ha rfl (gB_neq un4 rfl rfl) ?_; clear ha a; intro a ha
          refine op_g ha rfl (g_pick rfl rfl) ?_; clear ha a; intro a ha
          refine wpList_nil ?_
          replace ha := ha.sub (σ' := [(1, va1), (2, va2), (3, (.pointer (some ⟨b1, 0, none⟩))), (8, u100), (9, (.bool x95.2)), (10, (.pointer (some ⟨b149, 0, none⟩))), (11, v169), (12, v198), (13, u234), (14, (.bool x229.2)), (64, (.bool (x229.2 != x95.2)))]) ⟨rfl, rfl, rfl, rfl, rfl, rfl, rfl, rfl, rfl, rfl, rfl, trivial⟩
          refine e_then ?_
          refine c_cond ((x229.2 != x95.2) = true) ha rfl (Iff.rfl) (fun hp294 => ?_) (fun hp294 => ?_)
          · replace hF := if_t hp294 hF
            refine wp_seq ?_
            refine wp_region_lit ?_
            refine op_g ha rfl (g_assign rfl) ?_; clear ha a; intro a ha
            refine wpList_nil ?_
            replace ha := ha.sub (σ' := [(6, (.bool false))]) ⟨rfl, trivial⟩
            refine e_then ?_
            refine wp_ret ?_
            refine e_then_ret ?_
            obtain rfl := Option.some.inj hF
            exact f_ret1 ha rfl rfl ⟨rfl, hE292⟩
          · replace hF := if_f hp294 hF
            refine wp_skip ?_
            refine e_then ?_
            refine wp_seq ?_
            refine wp_seq ?_
            refine d_region [0, 1, 2, 3, 4] hmix ?_
            refine u_g 0 rfl (by kernel_rfl) (want0 _) ha rfl (g_loadA (cs := [u131]) Try.isAgg30 Try.sizeOf30 rfl (by simp) hB164.all) ?_; clear ha a; intro a ha
            refine u_g 1 rfl (by kernel_rfl) (want0 _) ha rfl (g_loadA (cs := [va0_0]) Try.isAgg24 Try.sizeOf24 rfl (by simp) hB3.all) ?_; clear ha a; intro a ha
            refine u_only 2 rfl (by kernel_rfl) ?_; intro w295 hx296
            replace hB3 := hB3.ext hx296
            replace h103 := h103.ext hx296
            replace h133 := h133.ext hx296
            replace hB164 := hB164.ext hx296
            replace h173 := h173.ext hx296
            replace h202 := h202.ext hx296
            replace h237 := h237.ext hx296
            have hE297 := Ext.trans hE292 hx296
            obtain ⟨x298, hc299, hF⟩ := cal_some hF
            refine o_call ha rfl rfl Try.call8 (W_laws_toGraph (ha0_0.ext hE297) hc299) ?_; clear ha a; rintro v300 w301 ⟨u303, b304, fs308, rfl, h305, z306, zf309, nd310, hx302⟩ a ha
            have q311 := Nq.new hB3.fpb z306
            have q312 := Nq.madeF z306 zf309 hB3.bi
            have q313 := Nq.new h103.fpb z306
            have q314 := Nq.madeF z306 zf309 h103.blt
            have q315 := Nq.new h133.fpb z306
            have q316 := Nq.madeF z306 zf309 h133.blt
            have q317 := Nq.new hB164.fpb z306
            have q318 := Nq.madeF z306 zf309 hB164.bi
            have q319 := Nq.new h173.fpb z306
            have q320 := Nq.madeF z306 zf309 h173.blt
            have q321 := Nq.new h202.fpb z306
            have q322 := Nq.madeF z306 zf309 h202.blt
            have q323 := Nq.new h237.fpb z306
            have q324 := Nq.madeF z306 zf309 h237.blt
            have q325 := Nf.new hB3.fpb zf309
            have q326 := Nf.new h103.fpb zf309
            have q327 := Nf.old z306 zf309 h103.bnd
            have q328 := Nf.new h133.fpb zf309
            have q329 := Nf.old z306 zf309 h133.bnd
            have q330 := Nf.new hB164.fpb zf309
            have q331 := Nf.new h173.fpb zf309
            have q332 := Nf.old z306 zf309 h173.bnd
            have q333 := Nf.new h202.fpb zf309
            have q334 := Nf.new h237.fpb zf309
            have q335 := Nf.old z306 zf309 h237.bnd
            replace hB3 := hB3.ext hx302
            replace h103 := h103.ext hx302
            replace h133 := h133.ext hx302
            replace hB164 := hB164.ext hx302
            replace h173 := h173.ext hx302
            replace h202 := h202.ext hx302
            replace h237 := h237.ext hx302
            have hE336 := Ext.trans hE297 hx302
            have q337 := Zn.upD z306 hE297
            have q338 := zf_up zf309 hE297
            refine wpList_nil (e_sq ?_)
            refine ⟨fun _ => hx302, ?_⟩
            obtain ⟨fp341, hro342, hs343⟩ := h133.roF
            obtain ⟨fp344, hro345, hs346⟩ := h305.roF
            obtain ⟨x347, hc348, hF⟩ := cal_some hF
            refine u_call (.bool x347) 3 rfl (by kernel_rfl) (want0 _) ha rfl rfl Try.call13 (fun w340 hx339 => W_laws_eqGraph (hro342.ext hx339) (hro345.ext hx339) hc348) (fun _ _ _ h => ⟨h.1, h.2⟩) ?_; clear ha a; intro a ha
            refine u_g 4 rfl (by kernel_rfl) (want0 _) ha rfl (g_not rfl) ?_; clear ha a; intro a ha
            refine u_done (by kernel_rfl) ?_; intro w349 hx350
            replace hB3 := hB3.ext hx350
            replace h103 := h103.ext hx350
            replace h133 := h133.ext hx350
            replace hB164 := hB164.ext hx350
            replace h173 := h173.ext hx350
            replace h202 := h202.ext hx350
            replace h237 := h237.ext hx350
            replace h305 := h305.ext hx350
            have hE351 := Ext.trans hE336 hx350
            replace ha := ha.sub (σ' := [(1, va1), (2, va2), (3, (.pointer (some ⟨b1, 0, none⟩))), (8, u100), (9, (.bool x95.2)), (10, (.pointer (some ⟨b149, 0, none⟩))), (11, v169), (12, v198), (13, u234), (14, (.bool x229.2)), (69, (.bool (!x347)))]) ⟨rfl, rfl, rfl, rfl, rfl, rfl, rfl, rfl, rfl, rfl, rfl, trivial⟩
            refine e_then ?_
            refine c_cond (¬ (x347 = true)) ha rfl (n_iff (Iff.rfl)) (fun hp352 => ?_) (fun hp352 => ?_)
            · replace hF := if_t hp352 hF
              refine wp_seq ?_
              refine wp_region_lit ?_
              refine op_g ha rfl (g_assign rfl) ?_; clear ha a; intro a ha
              refine wpList_nil ?_
              replace ha := ha.sub (σ' := [(6, (.bool false))]) ⟨rfl, trivial⟩
              refine e_then ?_
              refine wp_ret ?_
              refine e_then_ret ?_
              obtain rfl := Option.some.inj hF
              exact f_ret1 ha rfl rfl ⟨rfl, hE351⟩
            · replace hF := if_f hp352 hF
              refine wp_skip ?_
              refine e_then ?_
              refine wp_seq ?_
              refine wp_seq ?_
              refine wp_region_lit ?_
              refine op_g ha rfl (g_move rfl) ?_; clear ha a; intro a ha
              refine op_g ha rfl (g_move rfl) ?_; clear ha a; intro a ha
              obtain ⟨x353, hc354, hF⟩ := cal_some hF
              refine o_call ha rfl rfl Try.call9 (W_laws_toInt64SS (ha1.ext hE351) hc354) ?_; clear ha a; rintro v355 w356 ⟨b358, fs362, h359, z360, zf363, nd364, hx357⟩ a ha
              have q365 := Nq.new hB3.fpb z360
              have q366 := Nq.madeF z360 zf363 hB3.bi
              have q367 := Nq.new h103.fpb z360
              have q368 := Nq.madeF z360 zf363 h103.blt
              have q369 := Nq.new h133.fpb z360
              have q370 := Nq.madeF z360 zf363 h133.blt
              have q371 := Nq.new hB164.fpb z360
              have q372 := Nq.madeF z360 zf363 hB164.bi
              have q373 := Nq.new h173.fpb z360
              have q374 := Nq.madeF z360 zf363 h173.blt
              have q375 := Nq.new h202.fpb z360
              have q376 := Nq.madeF z360 zf363 h202.blt
              have q377 := Nq.new h237.fpb z360
              have q378 := Nq.madeF z360 zf363 h237.blt
              have q379 := Nf.new hB3.fpb zf363
              have q380 := Nf.new h103.fpb zf363
              have q381 := Nf.old z360 zf363 h103.bnd
              have q382 := Nf.new h133.fpb zf363
              have q383 := Nf.old z360 zf363 h133.bnd
              have q384 := Nf.new hB164.fpb zf363
              have q385 := Nf.new h173.fpb zf363
              have q386 := Nf.old z360 zf363 h173.bnd
              have q387 := Nf.new h202.fpb zf363
              have q388 := Nf.new h237.fpb zf363
              have q389 := Nf.old z360 zf363 h237.bnd
              replace hB3 := hB3.ext hx357
              replace h103 := h103.ext hx357
              replace h133 := h133.ext hx357
              replace hB164 := hB164.ext hx357
              replace h173 := h173.ext hx357
              replace h202 := h202.ext hx357
              replace h237 := h237.ext hx357
              have hE390 := Ext.trans hE351 hx357
              have q391 := Zn.upD z360 hE351
              have q392 := zf_up zf363 hE351
              obtain ⟨fp393, hro394, hs395⟩ := h173.roF
              obtain ⟨fp396, hro397, hs398⟩ := h359.roF
              obtain ⟨x399, hc400, hF⟩ := cal_some hF
              refine o_call ha rfl rfl Try.call12 (W_laws_eqInt64SS hro394 hro397 hc400) ?_; clear ha a; rintro v401 w402 ⟨rfl, hx403⟩ a ha
              replace hB3 := hB3.ext hx403
              replace h103 := h103.ext hx403
              replace h133 := h133.ext hx403
              replace hB164 := hB164.ext hx403
              replace h173 := h173.ext hx403
              replace h202 := h202.ext hx403
              replace h237 := h237.ext hx403
              replace h359 := h359.ext hx403
              have hE404 := Ext.trans hE390 hx403
              refine op_g ha rfl (g_not rfl) ?_; clear ha a; intro a ha
              refine wpList_nil ?_
              replace ha := ha.sub (σ' := [(1, va1), (2, va2), (3, (.pointer (some ⟨b1, 0, none⟩))), (8, u100), (9, (.bool x95.2)), (10, (.pointer (some ⟨b149, 0, none⟩))), (11, v169), (12, v198), (13, u234), (14, (.bool x229.2)), (74, (.bool (!x399)))]) ⟨rfl, rfl, rfl, rfl, rfl, rfl, rfl, rfl, rfl, rfl, rfl, trivial⟩
              refine e_then ?_
              refine c_cond (¬ (x399 = true)) ha rfl (n_iff (Iff.rfl)) (fun hp405 => ?_) (fun hp405 => ?_)
              · replace hF := if_t hp405 hF
                refine wp_seq ?_
                refine wp_region_lit ?_
                refine op_g ha rfl (g_assign rfl) ?_; clear ha a; intro a ha
                refine wpList_nil ?_
                replace ha := ha.sub (σ' := [(6, (.bool false))]) ⟨rfl, trivial⟩
                refine e_then ?_
                refine wp_ret ?_
                refine e_then_ret ?_
                obtain rfl := Option.some.inj hF
                exact f_ret1 ha rfl rfl ⟨rfl, hE404⟩
              · replace hF := if_f hp405 hF
                refine wp_skip ?_
                refine e_then ?_
                refine wp_seq ?_
                refine wp_seq ?_
                refine wp_region_lit ?_
                refine op_g ha rfl (g_move rfl) ?_; clear ha a; intro a ha
                refine op_g ha rfl (g_move rfl) ?_; clear ha a; intro a ha
                obtain ⟨x406, hc407, hF⟩ := cal_some hF
                refine o_call ha rfl rfl Try.call10 (W_laws_toInt64S (ha2.ext hE404) hc407) ?_; clear ha a; rintro v408 w409 ⟨b411, h412, z413, hx410⟩ a ha
                have q415 := Nq.new hB3.fpb z413
                have q416 := Nq.madeO z413 hB3.bi
                have q417 := Nq.new h103.fpb z413
                have q418 := Nq.madeO z413 h103.blt
                have q419 := Nq.new h133.fpb z413
                have q420 := Nq.madeO z413 h133.blt
                have q421 := Nq.new hB164.fpb z413
                have q422 := Nq.madeO z413 hB164.bi
                have q423 := Nq.new h173.fpb z413
                have q424 := Nq.madeO z413 h173.blt
                have q425 := Nq.new h202.fpb z413
                have q426 := Nq.madeO z413 h202.blt
                have q427 := Nq.new h237.fpb z413
                have q428 := Nq.madeO z413 h237.blt
                have q429 := Nf.old z413 (zf_nil _) h103.bnd
                have q430 := Nf.old z413 (zf_nil _) h133.bnd
                have q431 := Nf.old z413 (zf_nil _) h173.bnd
                have q432 := Nf.old z413 (zf_nil _) h237.bnd
                replace hB3 := hB3.ext hx410
                replace h103 := h103.ext hx410
                replace h133 := h133.ext hx410
                replace hB164 := hB164.ext hx410
                replace h173 := h173.ext hx410
                replace h202 := h202.ext hx410
                replace h237 := h237.ext hx410
                have hE433 := Ext.trans hE404 hx410
                have q434 := Zn.upD z413 hE404
                obtain ⟨fp435, hro436, hs437⟩ := h202.roF
                obtain ⟨fp438, hro439, hs440⟩ := h412.roF
                obtain ⟨x441, hc442, hF⟩ := cal_some hF
                refine o_call ha rfl rfl Try.call14 (W_laws_eqInt64S hro436 hro439 hc442) ?_; clear ha a; rintro v443 w444 ⟨rfl, hx445⟩ a ha
                replace hB3 := hB3.ext hx445
                replace h103 := h103.ext hx445
                replace h133 := h133.ext hx445
                replace hB164 := hB164.ext hx445
                replace h173 := h173.ext hx445
                replace h202 := h202.ext hx445
                replace h237 := h237.ext hx445
                replace h412 := h412.ext hx445
                have hE446 := Ext.trans hE433 hx445
                refine op_g ha rfl (g_not rfl) ?_; clear ha a; intro a ha
                refine wpList_nil ?_
                replace ha := ha.sub (σ' := [(1, va1), (2, va2), (3, (.pointer (some ⟨b1, 0, none⟩))), (8, u100), (9, (.bool x95.2)), (10, (.pointer (some ⟨b149, 0, none⟩))), (11, v169), (12, v198), (13, u234), (14, (.bool x229.2)), (79, (.bool (!x441)))]) ⟨rfl, rfl, rfl, rfl, rfl, rfl, rfl, rfl, rfl, rfl, rfl, trivial⟩
                refine e_then ?_
                refine c_cond (¬ (x441 = true)) ha rfl (n_iff (Iff.rfl)) (fun hp447 => ?_) (fun hp447 => ?_)
                · replace hF := if_t hp447 hF
                  refine wp_seq ?_
                  refine wp_region_lit ?_
                  refine op_g ha rfl (g_assign rfl) ?_; clear ha a; intro a ha
                  refine wpList_nil ?_
                  replace ha := ha.sub (σ' := [(6, (.bool false))]) ⟨rfl, trivial⟩
                  refine e_then ?_
                  refine wp_ret ?_
                  refine e_then_ret ?_
                  obtain rfl := Option.some.inj hF
                  exact f_ret1 ha rfl rfl ⟨rfl, hE446⟩
                · replace hF := if_f hp447 hF
                  refine wp_skip ?_
                  refine e_then ?_
                  refine wp_seq ?_
                  refine wp_region_lit ?_
                  refine op_g ha rfl (g_assign rfl) ?_; clear ha a; intro a ha
                  refine wpList_nil ?_
                  replace ha := ha.sub (σ' := [(1, va1), (2, va2), (3, (.pointer (some ⟨b1, 0, none⟩))), (8, u100), (9, (.bool x95.2)), (10, (.pointer (some ⟨b149, 0, none⟩))), (11, v169), (12, v198), (13, u234), (14, (.bool x229.2)), (15, (.int .i64 1))]) ⟨rfl, rfl, rfl, rfl, rfl, rfl, rfl, rfl, rfl, rfl, rfl, trivial⟩
                  refine e_then ?_
                  refine wp_seq ?_
                  refine wp_region_lit ?_
                  refine op_g ha rfl (g_loadA (cs := [u131]) Try.isAgg30 Try.sizeOf30 rfl (by simp) hB164.all) ?_; clear ha a; intro a ha
                  refine op_g ha rfl (g_move rfl) ?_; clear ha a; intro a ha
                  obtain ⟨x448, hc449, hF⟩ := cal_some hF
                  refine o_call ha rfl rfl Try.call15 (W_laws_markGraph h133 nd138 (show InI 1 from by decide) hc449) ?_; clear ha a; rintro v450 w451 ⟨⟨rfl, hI453⟩, h454, hx452⟩ a ha
                  replace hB3 := hB3.off hx452 (Off.nest q139 q143)
                  replace h103 := h103.off hx452 (Off.nest q141 q144)
                  replace h173 := h173.off hx452 (Off.nest q184 q191)
                  replace h202 := h202.off hx452 (Off.nest q210 q216)
                  replace h237 := h237.off hx452 (Off.nest q248 q259)
                  have hE455 := Chg.join hE446 hx452 (S2.nest q147 q148)
                  refine op_g ha rfl (g_assign rfl) ?_; clear ha a; intro a ha
                  refine wpList_nil ?_
                  replace ha := ha.sub (σ' := [(1, va1), (2, va2), (3, (.pointer (some ⟨b1, 0, none⟩))), (8, u100), (9, (.bool x95.2)), (11, v169), (12, v198), (13, u234), (14, (.bool x229.2)), (15, (.int .i64 x448.1))]) ⟨rfl, rfl, rfl, rfl, rfl, rfl, rfl, rfl, rfl, rfl, trivial⟩
                  refine e_then ?_
                  refine wp_seq ?_
                  refine wp_region_lit ?_
                  refine op_g ha rfl (g_move rfl) ?_; clear ha a; intro a ha
                  refine op_g ha rfl (g_move rfl) ?_; clear ha a; intro a ha
                  obtain ⟨x456, hc457, hF⟩ := cal_some hF
                  refine o_call ha rfl rfl Try.call16 (W_laws_markInt64SS h173 nd178 hI453 hc457) ?_; clear ha a; rintro v458 w459 ⟨⟨rfl, hI461⟩, h462, hx460⟩ a ha
                  replace hB3 := hB3.off hx460 (Off.nest q179 q187)
                  replace h103 := h103.off hx460 (Off.nest q181 q188)
                  replace h202 := h202.off hx460 (Off.nest q214 q217)
                  replace h237 := h237.off hx460 (Off.nest q252 q262)
                  have hE463 := Chg.join hE455 hx460 (S2.nest q194 q195)
                  refine op_g ha rfl (g_assign rfl) ?_; clear ha a; intro a ha
                  refine wpList_nil ?_
                  replace ha := ha.sub (σ' := [(1, va1), (2, va2), (3, (.pointer (some ⟨b1, 0, none⟩))), (8, u100), (9, (.bool x95.2)), (12, v198), (13, u234), (14, (.bool x229.2)), (15, (.int .i64 x456.1))]) ⟨rfl, rfl, rfl, rfl, rfl, rfl, rfl, rfl, rfl, trivial⟩
                  refine e_then ?_
                  refine wp_seq ?_
                  refine wp_region_lit ?_
                  refine op_g ha rfl (g_move rfl) ?_; clear ha a; intro a ha
                  refine op_g ha rfl (g_move rfl) ?_; clear ha a; intro a ha
                  obtain ⟨x464, hc465, hF⟩ := cal_some hF
                  refine o_call ha rfl rfl Try.call17 (W_laws_markInt64S h202 hI461 hc465) ?_; clear ha a; rintro v466 w467 ⟨⟨rfl, hI469⟩, h470, hx468⟩ a ha
                  replace hB3 := hB3.off hx468 (Off.flat q205)
                  replace h103 := h103.off hx468 (Off.flat q207)
                  replace h237 := h237.off hx468 (Off.flat q254)
                  have hE471 := Chg.join hE463 hx468 (S2.own (Zn.bl q219))
                  refine op_g ha rfl (g_assign rfl) ?_; clear ha a; intro a ha
                  refine wpList_nil ?_
                  replace ha := ha.sub (σ' := [(1, va1), (2, va2), (3, (.pointer (some ⟨b1, 0, none⟩))), (8, u100), (9, (.bool x95.2)), (13, u234), (14, (.bool x229.2)), (15, (.int .i64 x464.1))]) ⟨rfl, rfl, rfl, rfl, rfl, rfl, rfl, rfl, trivial⟩
                  refine e_then ?_
                  refine wp_seq ?_
                  refine wp_seq ?_
                  refine wp_region_lit ?_
                  refine op_g ha rfl (g_move rfl) ?_; clear ha a; intro a ha
                  refine op_g ha rfl (g_lss rfl rfl) ?_; clear ha a; intro a ha
                  refine op_g ha rfl (g_move rfl) ?_; clear ha a; intro a ha
                  by_cases hp487 : x464.1 < 0
                  · replace hF := if_t hp487 hF
                    rw [show (decide (x464.1 < 0)) = true from (decide_eq_true_iff).2 hp487] at ha
                    refine op_unwant ha rfl (yields ha rfl rfl) rfl ?_; clear ha a; intro a ha
                    refine op_unwant ha rfl (yields ha rfl rfl) rfl ?_; clear ha a; intro a ha
                    refine op_unwant ha rfl (yields ha rfl rfl) rfl ?_; clear ha a; intro a ha
                    refine op_unwant ha rfl (yields ha rfl rfl) rfl ?_; clear ha a; intro a ha
                    refine op_g ha rfl (g_pick rfl rfl) ?_; clear ha a; intro a ha
                    refine op_g ha rfl (g_move rfl) ?_; clear ha a; intro a ha
                    refine op_unwant ha rfl (yields ha rfl rfl) rfl ?_; clear ha a; intro a ha
                    refine op_unwant ha rfl (yields ha rfl rfl) rfl ?_; clear ha a; intro a ha
                    refine op_unwant ha rfl (yields ha rfl rfl) rfl ?_; clear ha a; intro a ha
                    refine op_g ha rfl (g_pick rfl rfl) ?_; clear ha a; intro a ha
                    refine wpList_nil ?_
                    replace ha := ha.sub (σ' := [(1, va1), (2, va2), (3, (.pointer (some ⟨b1, 0, none⟩))), (8, u100), (9, (.bool x95.2)), (13, u234), (101, (.bool true))]) ⟨rfl, rfl, rfl, rfl, rfl, rfl, rfl, trivial⟩
                    refine e_then ?_
                    refine c_true ha rfl ?_
                    refine wp_seq ?_
                    refine wp_region_lit ?_
                    refine op_g ha rfl (g_assign rfl) ?_; clear ha a; intro a ha
                    refine wpList_nil ?_
                    replace ha := ha.sub (σ' := [(6, (.bool false))]) ⟨rfl, trivial⟩
                    refine e_then ?_
                    refine wp_ret ?_
                    refine e_then_ret ?_
                    obtain rfl := Option.some.inj hF
                    exact f_ret1 ha rfl rfl ⟨rfl, hE471⟩
                  · replace hF := if_f hp487 hF
                    rw [show (decide (x464.1 < 0)) = false from b_false (decide_eq_true_iff) hp487] at ha
                    refine op_want (yields ha rfl rfl) ?_
                    refine op_g ha rfl (g_move rfl) ?_; clear ha a; intro a ha
                    refine op_want (yields ha rfl rfl) ?_
                    refine op_g ha rfl (g_move rfl) ?_; clear ha a; intro a ha
                    refine op_want (yields ha rfl rfl) ?_
                    obtain ⟨fp488, hro489, hs490⟩ := h237.roF
                    obtain ⟨fp491, hro492, hs493⟩ := h103.roF
                    obtain ⟨x494, hc495, hF⟩ := cal_some hF
                    refine o_call ha rfl rfl Try.call12 (W_laws_eqInt64SS hro489 hro492 hc495) ?_; clear ha a; rintro v496 w497 ⟨rfl, hx498⟩ a ha
                    replace hB3 := hB3.ext hx498
                    replace h103 := h103.ext hx498
                    replace h237 := h237.ext hx498
                    have hE499 := Ext.trans hE471 hx498
                    refine op_want (yields ha rfl rfl) ?_
                    refine op_g ha rfl (g_not rfl) ?_; clear ha a; intro a ha
                    refine op_g ha rfl (g_pick rfl rfl) ?_; clear ha a; intro a ha
                    refine op_g ha rfl (g_move rfl) ?_; clear ha a; intro a ha
                    by_cases hp500 : ¬ (x494 = true)
                    · replace hF := if_t hp500 hF
                      rw [show (!x494) = true from (n_iff (Iff.rfl)).2 hp500] at ha
                      refine op_unwant ha rfl (yields ha rfl rfl) rfl ?_; clear ha a; intro a ha
                      refine op_unwant ha rfl (yields ha rfl rfl) rfl ?_; clear ha a; intro a ha
                      refine op_unwant ha rfl (yields ha rfl rfl) rfl ?_; clear ha a; intro a ha
                      refine op_g ha rfl (g_pick rfl rfl) ?_; clear ha a; intro a ha
                      refine wpList_nil ?_
                      replace ha := ha.sub (σ' := [(1, va1), (2, va2), (3, (.pointer (some ⟨b1, 0, none⟩))), (8, u100), (9, (.bool x95.2)), (13, u234), (101, (.bool true))]) ⟨rfl, rfl, rfl, rfl, rfl, rfl, rfl, trivial⟩
                      refine e_then ?_
                      refine c_true ha rfl ?_
                      refine wp_seq ?_
                      refine wp_region_lit ?_
                      refine op_g ha rfl (g_assign rfl) ?_; clear ha a; intro a ha
                      refine wpList_nil ?_
                      replace ha := ha.sub (σ' := [(6, (.bool false))]) ⟨rfl, trivial⟩
                      refine e_then ?_
                      refine wp_ret ?_
                      refine e_then_ret ?_
                      obtain rfl := Option.some.inj hF
                      exact f_ret1 ha rfl rfl ⟨rfl, hE499⟩
                    · replace hF := if_f hp500 hF
                      rw [show (!x494) = false from b_false (n_iff (Iff.rfl)) hp500] at ha
                      refine op_want (yields ha rfl rfl) ?_
                      refine op_g ha rfl (g_move rfl) ?_; clear ha a; intro a ha
                      refine op_want (yields ha rfl rfl) ?_
                      refine op_g ha rfl (g_move rfl) ?_; clear ha a; intro a ha
                      refine op_want (yields ha rfl rfl) ?_
                      refine op_g ha rfl (gB_neq un4 rfl rfl) ?_; clear ha a; intro a ha
                      refine op_g ha rfl (g_pick rfl rfl) ?_; clear ha a; intro a ha
                      refine wpList_nil ?_
                      replace ha := ha.sub (σ' := [(1, va1), (2, va2), (3, (.pointer (some ⟨b1, 0, none⟩))), (8, u100), (9, (.bool x95.2)), (13, u234), (101, (.bool (x229.2 != x95.2)))]) ⟨rfl, rfl, rfl, rfl, rfl, rfl, rfl, trivial⟩
                      refine e_then ?_
                      refine c_cond ((x229.2 != x95.2) = true) ha rfl (Iff.rfl) (fun hp501 => ?_) (fun hp501 => ?_)
                      · replace hF := if_t hp501 hF
                        refine wp_seq ?_
                        refine wp_region_lit ?_
                        refine op_g ha rfl (g_assign rfl) ?_; clear ha a; intro a ha
                        refine wpList_nil ?_
                        replace ha := ha.sub (σ' := [(6, (.bool false))]) ⟨rfl, trivial⟩
                        refine e_then ?_
                        refine wp_ret ?_
                        refine e_then_ret ?_
                        obtain rfl := Option.some.inj hF
                        exact f_ret1 ha rfl rfl ⟨rfl, hE499⟩
                      · replace hF := if_f hp501 hF
                        refine wp_skip ?_
                        refine e_then ?_
                        refine wp_seq ?_
                        refine wp_region_lit ?_
                        refine op_g ha rfl (g_assign rfl) ?_; clear ha a; intro a ha
                        refine wpList_nil ?_
                        replace ha := ha.sub (σ' := [(1, va1), (2, va2), (3, (.pointer (some ⟨b1, 0, none⟩))), (8, u100), (9, (.bool x95.2)), (13, u234), (16, (.int .i64 1))]) ⟨rfl, rfl, rfl, rfl, rfl, rfl, rfl, trivial⟩
                        refine e_then ?_
                        refine wp_seq ?_
                        refine wp_region_lit ?_
                        refine op_g ha rfl (g_move rfl) ?_; clear ha a; intro a ha
                        refine op_g ha rfl (g_move rfl) ?_; clear ha a; intro a ha
                        obtain ⟨x502, hc503, hF⟩ := cal_some hF
                        refine o_call ha rfl rfl Try.call16 (W_laws_markInt64SS h237 nd242 (show InI 1 from by decide) hc503) ?_; clear ha a; rintro v504 w505 ⟨⟨rfl, hI507⟩, h508, hx506⟩ a ha
                        replace hB3 := hB3.off hx506 (Off.nest q243 q255)
                        replace h103 := h103.off hx506 (Off.nest q245 q256)
                        have hE509 := Chg.join hE499 hx506 (S2.nest q265 q266)
                        refine op_g ha rfl (g_assign rfl) ?_; clear ha a; intro a ha
                        refine wpList_nil ?_
                        replace ha := ha.sub (σ' := [(1, va1), (2, va2), (3, (.pointer (some ⟨b1, 0, none⟩))), (8, u100), (9, (.bool x95.2)), (13, u234), (16, (.int .i64 x502.1))]) ⟨rfl, rfl, rfl, rfl, rfl, rfl, rfl, trivial⟩
                        refine e_then ?_
                        refine wp_seq ?_
                        refine wp_region_lit ?_
                        refine op_g ha rfl (g_assign rfl) ?_; clear ha a; intro a ha
                        refine wpList_nil ?_
                        replace ha := ha.sub (σ' := [(1, va1), (2, va2), (3, (.pointer (some ⟨b1, 0, none⟩))), (8, u100), (9, (.bool x95.2)), (13, u234), (16, (.int .i64 x502.1)), (17, (.int .i64 1))]) ⟨rfl, rfl, rfl, rfl, rfl, rfl, rfl, rfl, trivial⟩
                        refine e_then ?_
                        refine wp_seq ?_
                        refine wp_region_lit ?_
                        refine op_g ha rfl (g_move rfl) ?_; clear ha a; intro a ha
                        refine op_g ha rfl (g_move rfl) ?_; clear ha a; intro a ha
                        obtain ⟨fp510, hro511, hs512⟩ := h508.roF
                        obtain ⟨x513, hc514, hF⟩ := cal_some hF
                        refine o_call ha rfl rfl Try.call18 (W_laws_heldInt64SS hro511 (show InI 1 from by decide) hc514) ?_; clear ha a; rintro v515 w516 ⟨⟨rfl, hI518⟩, hx517⟩ a ha
                        replace hB3 := hB3.ext hx517
                        replace h103 := h103.ext hx517
                        replace h508 := h508.ext hx517
                        have hE519 := Ext.trans hE509 hx517
                        refine op_g ha rfl (g_assign rfl) ?_; clear ha a; intro a ha
                        refine wpList_nil ?_
                        replace ha := ha.sub (σ' := [(1, va1), (2, va2), (3, (.pointer (some ⟨b1, 0, none⟩))), (8, u100), (9, (.bool x95.2)), (13, u234), (16, (.int .i64 x502.1)), (17, (.int .i64 x513))]) ⟨rfl, rfl, rfl, rfl, rfl, rfl, rfl, rfl, trivial⟩
                        refine e_then ?_
                        refine wp_seq ?_
                        refine wp_seq ?_
                        refine wp_region_lit ?_
                        refine op_g ha rfl (g_move rfl) ?_; clear ha a; intro a ha
                        refine op_g ha rfl (g_lss rfl rfl) ?_; clear ha a; intro a ha
                        refine wpList_nil ?_
                        replace ha := ha.sub (σ' := [(1, va1), (2, va2), (3, (.pointer (some ⟨b1, 0, none⟩))), (8, u100), (9, (.bool x95.2)), (13, u234), (16, (.int .i64 x502.1)), (17, (.int .i64 x513)), (109, (.bool (decide (x513 < 0))))]) ⟨rfl, rfl, rfl, rfl, rfl, rfl, rfl, rfl, rfl, trivial⟩
                        refine e_then ?_
                        refine c_cond (x513 < 0) ha rfl (decide_eq_true_iff) (fun hp520 => ?_) (fun hp520 => ?_)
                        · replace hF := if_t hp520 hF
                          refine wp_seq ?_
                          refine wp_region_lit ?_
                          refine op_g ha rfl (g_assign rfl) ?_; clear ha a; intro a ha
                          refine wpList_nil ?_
                          replace ha := ha.sub (σ' := [(6, (.bool false))]) ⟨rfl, trivial⟩
                          refine e_then ?_
                          refine wp_ret ?_
                          refine e_then_ret ?_
                          obtain rfl := Option.some.inj hF
                          exact f_ret1 ha rfl rfl ⟨rfl, hE519⟩
                        · replace hF := if_f hp520 hF
                          refine wp_skip ?_
                          refine e_then ?_
                          refine wp_seq ?_
                          refine wp_seq ?_
                          refine wp_region_lit ?_
                          refine op_g ha rfl (g_move rfl) ?_; clear ha a; intro a ha
                          refine op_g ha rfl (g_move rfl) ?_; clear ha a; intro a ha
                          refine op_g ha rfl (g_neq rfl rfl) ?_; clear ha a; intro a ha
                          refine wpList_nil ?_
                          replace ha := ha.sub (σ' := [(1, va1), (2, va2), (3, (.pointer (some ⟨b1, 0, none⟩))), (8, u100), (9, (.bool x95.2)), (13, u234), (16, (.int .i64 x502.1)), (112, (.bool (decide (x513 ≠ x502.1))))]) ⟨rfl, rfl, rfl, rfl, rfl, rfl, rfl, rfl, trivial⟩
                          refine e_then ?_
                          refine c_cond (x513 ≠ x502.1) ha rfl (decide_eq_true_iff) (fun hp521 => ?_) (fun hp521 => ?_)
                          · replace hF := if_t hp521 hF
                            refine wp_seq ?_
                            refine wp_region_lit ?_
                            refine op_g ha rfl (g_assign rfl) ?_; clear ha a; intro a ha
                            refine wpList_nil ?_
                            replace ha := ha.sub (σ' := [(6, (.bool false))]) ⟨rfl, trivial⟩
                            refine e_then ?_
                            refine wp_ret ?_
                            refine e_then_ret ?_
                            obtain rfl := Option.some.inj hF
                            exact f_ret1 ha rfl rfl ⟨rfl, hE519⟩
                          · replace hF := if_f hp521 hF
                            refine wp_skip ?_
                            refine e_then ?_
                            refine wp_seq ?_
                            refine wp_region_lit ?_
                            refine op_g ha rfl (g_loadA (cs := [va0_0]) Try.isAgg24 Try.sizeOf24 rfl (by simp) hB3.all) ?_; clear ha a; intro a ha
                            obtain ⟨x522, hc523, hF⟩ := cal_some hF
                            refine o_call ha rfl rfl Try.call8 (W_laws_toGraph (ha0_0.ext hE519) hc523) ?_; clear ha a; rintro v524 w525 ⟨u527, b528, fs532, rfl, h529, z530, zf533, nd534, hx526⟩ a ha
                            have q535 := Nq.new hB3.fpb z530
                            have q536 := Nq.madeF z530 zf533 hB3.bi
                            have q537 := Nq.new h103.fpb z530
                            have q538 := Nq.madeF z530 zf533 h103.blt
                            have q539 := Nq.new h508.fpb z530
                            have q540 := Nq.madeF z530 zf533 h508.blt
                            have q541 := Nf.new hB3.fpb zf533
                            have q542 := Nf.new h103.fpb zf533
                            have q543 := Nf.old z530 zf533 h103.bnd
                            have q544 := Nf.new h508.fpb zf533
                            have q545 := Nf.old z530 zf533 h508.bnd
                            replace hB3 := hB3.ext hx526
                            replace h103 := h103.ext hx526
                            replace h508 := h508.ext hx526
                            have hE546 := Ext.trans hE519 hx526
                            have q547 := Zn.upD z530 hE519
                            have q548 := zf_up zf533 hE519
                            refine op_g ha rfl (g_move rfl) ?_; clear ha a; intro a ha
                            obtain ⟨x549, hc550, hF⟩ := cal_some hF
                            refine o_call ha rfl rfl Try.call9 (W_laws_toInt64SS (ha1.ext hE546) hc550) ?_; clear ha a; rintro v551 w552 ⟨b554, fs558, h555, z556, zf559, nd560, hx553⟩ a ha
                            have q561 := Nq.new hB3.fpb z556
                            have q562 := Nq.madeF z556 zf559 hB3.bi
                            have q563 := Nq.new h103.fpb z556
                            have q564 := Nq.madeF z556 zf559 h103.blt
                            have q565 := Nq.new h508.fpb z556
                            have q566 := Nq.madeF z556 zf559 h508.blt
                            have q567 := Nq.new h529.fpb z556
                            have q568 := Nq.madeF z556 zf559 h529.blt
                            have q569 := Nf.new hB3.fpb zf559
                            have q570 := Nf.new h103.fpb zf559
                            have q571 := Nf.old z556 zf559 h103.bnd
                            have q572 := Nf.new h508.fpb zf559
                            have q573 := Nf.old z556 zf559 h508.bnd
                            have q574 := Nf.new h529.fpb zf559
                            have q575 := Nf.old z556 zf559 h529.bnd
                            replace hB3 := hB3.ext hx553
                            replace h103 := h103.ext hx553
                            replace h508 := h508.ext hx553
                            replace h529 := h529.ext hx553
                            have hE576 := Ext.trans hE546 hx553
                            have q577 := Zn.upD z556 hE546
                            have q578 := zf_up zf559 hE546
                            refine op_g ha rfl (g_move rfl) ?_; clear ha a; intro a ha
                            obtain ⟨x579, hc580, hF⟩ := cal_some hF
                            refine o_call ha rfl rfl Try.call10 (W_laws_toInt64S (ha2.ext hE576) hc580) ?_; clear ha a; rintro v581 w582 ⟨b584, h585, z586, hx583⟩ a ha
                            have q588 := Nq.new hB3.fpb z586
                            have q589 := Nq.madeO z586 hB3.bi
                            have q590 := Nq.new h103.fpb z586
                            have q591 := Nq.madeO z586 h103.blt
                            have q592 := Nq.new h508.fpb z586
                            have q593 := Nq.madeO z586 h508.blt
                            have q594 := Nq.new h529.fpb z586
                            have q595 := Nq.madeO z586 h529.blt
                            have q596 := Nq.new h555.fpb z586
                            have q597 := Nq.madeO z586 h555.blt
                            have q598 := Nf.old z586 (zf_nil _) h103.bnd
                            have q599 := Nf.old z586 (zf_nil _) h508.bnd
                            have q600 := Nf.old z586 (zf_nil _) h529.bnd
                            have q601 := Nf.old z586 (zf_nil _) h555.bnd
                            replace hB3 := hB3.ext hx583
                            replace h103 := h103.ext hx583
                            replace h508 := h508.ext hx583
                            replace h529 := h529.ext hx583
                            replace h555 := h555.ext hx583
                            have hE602 := Ext.trans hE576 hx583
                            have q603 := Zn.upD z586 hE576
                            obtain ⟨fp604, hro605, hs606⟩ := h529.roF
                            obtain ⟨fp607, hro608, hs609⟩ := h555.roF
                            obtain ⟨fp610, hro611, hs612⟩ := h585.roF
                            obtain ⟨x613, hc614, hF⟩ := cal_some hF
                            refine o_call ha rfl rfl Try.call11 (W_impl_SwitchedBy hro605 hro608 hro611 hc614) ?_; clear ha a; rintro v615 w616 ⟨u618, u619, b620, fs624, rfl, h621, z622, zf625, nd626, rfl, hx617⟩ a ha
                            have q627 := Nq.new hB3.fpb z622
                            have q628 := Nq.madeF z622 zf625 hB3.bi
                            have q629 := Nq.new h103.fpb z622
                            have q630 := Nq.madeF z622 zf625 h103.blt
                            have q631 := Nq.new h508.fpb z622
                            have q632 := Nq.madeF z622 zf625 h508.blt
                            have q633 := Nq.new h529.fpb z622
                            have q634 := Nq.madeF z622 zf625 h529.blt
                            have q635 := Nq.new h555.fpb z622
                            have q636 := Nq.madeF z622 zf625 h555.blt
                            have q637 := Nq.new h585.fpb z622
                            have q638 := Nq.madeF z622 zf625 h585.blt
                            have q639 := Nf.new hB3.fpb zf625
                            have q640 := Nf.new h103.fpb zf625
                            have q641 := Nf.old z622 zf625 h103.bnd
                            have q642 := Nf.new h508.fpb zf625
                            have q643 := Nf.old z622 zf625 h508.bnd
                            have q644 := Nf.new h529.fpb zf625
                            have q645 := Nf.old z622 zf625 h529.bnd
                            have q646 := Nf.new h555.fpb zf625
                            have q647 := Nf.old z622 zf625 h555.bnd
                            have q648 := Nf.new h585.fpb zf625
                            replace hB3 := hB3.ext hx617
                            replace h103 := h103.ext hx617
                            replace h508 := h508.ext hx617
                            replace h529 := h529.ext hx617
                            replace h555 := h555.ext hx617
                            replace h585 := h585.ext hx617
                            have hE649 := Ext.trans hE602 hx617
                            have q650 := Zn.upD z622 hE602
                            have q651 := zf_up zf625 hE602
                            refine op_g ha rfl (g_move rfl) ?_; clear ha a; intro a ha
                            refine op_g ha rfl (g_extract rfl rfl) ?_; clear ha a; intro a ha
                            refine op_g ha rfl (g_extract rfl rfl) ?_; clear ha a; intro a ha
                            refine op_g ha rfl (g_assign rfl) ?_; clear ha a; intro a ha
                            refine op_g ha rfl (g_assign rfl) ?_; clear ha a; intro a ha
                            refine wpList_nil ?_
                            replace ha := ha.sub (σ' := [(8, u100), (9, (.bool x95.2)), (13, u234), (16, (.int .i64 x502.1)), (18, u618), (19, (.bool x613.2))]) ⟨rfl, rfl, rfl, rfl, rfl, rfl, trivial⟩
                            refine e_then ?_
                            refine wp_seq ?_
                            refine wp_seq ?_
                            refine wp_region_lit ?_
                            refine op_g ha rfl (g_move rfl) ?_; clear ha a; intro a ha
                            refine op_g ha rfl (g_move rfl) ?_; clear ha a; intro a ha
                            obtain ⟨fp666, hro667, hs668⟩ := h621.roF
                            obtain ⟨fp669, hro670, hs671⟩ := h103.roF
                            obtain ⟨x672, hc673, hF⟩ := cal_some hF
                            refine o_call ha rfl rfl Try.call12 (W_laws_eqInt64SS hro667 hro670 hc673) ?_; clear ha a; rintro v674 w675 ⟨rfl, hx676⟩ a ha
                            replace h103 := h103.ext hx676
                            replace h508 := h508.ext hx676
                            replace h621 := h621.ext hx676
                            have hE677 := Ext.trans hE649 hx676
                            refine op_g ha rfl (g_not rfl) ?_; clear ha a; intro a ha
                            refine op_g ha rfl (g_move rfl) ?_; clear ha a; intro a ha
                            by_cases hp678 : ¬ (x672 = true)
                            · replace hF := if_t hp678 hF
                              rw [show (!x672) = true from (n_iff (Iff.rfl)).2 hp678] at ha
                              refine op_unwant ha rfl (yields ha rfl rfl) rfl ?_; clear ha a; intro a ha
                              refine op_unwant ha rfl (yields ha rfl rfl) rfl ?_; clear ha a; intro a ha
                              refine op_unwant ha rfl (yields ha rfl rfl) rfl ?_; clear ha a; intro a ha
                              refine op_g ha rfl (g_pick rfl rfl) ?_; clear ha a; intro a ha
                              refine wpList_nil ?_
                              replace ha := ha.sub (σ' := [(13, u234), (16, (.int .i64 x502.1)), (131, (.bool true))]) ⟨rfl, rfl, rfl, trivial⟩
                              refine e_then ?_
                              refine c_true ha rfl ?_
                              refine wp_seq ?_
                              refine wp_region_lit ?_
                              refine op_g ha rfl (g_assign rfl) ?_; clear ha a; intro a ha
                              refine wpList_nil ?_
                              replace ha := ha.sub (σ' := [(6, (.bool false))]) ⟨rfl, trivial⟩
                              refine e_then ?_
                              refine wp_ret ?_
                              refine e_then_ret ?_
                              obtain rfl := Option.some.inj hF
                              exact f_ret1 ha rfl rfl ⟨rfl, hE677⟩
                            · replace hF := if_f hp678 hF
                              rw [show (!x672) = false from b_false (n_iff (Iff.rfl)) hp678] at ha
                              refine op_want (yields ha rfl rfl) ?_
                              refine op_g ha rfl (g_move rfl) ?_; clear ha a; intro a ha
                              refine op_want (yields ha rfl rfl) ?_
                              refine op_g ha rfl (g_move rfl) ?_; clear ha a; intro a ha
                              refine op_want (yields ha rfl rfl) ?_
                              refine op_g ha rfl (gB_neq un4 rfl rfl) ?_; clear ha a; intro a ha
                              refine op_g ha rfl (g_pick rfl rfl) ?_; clear ha a; intro a ha
                              refine wpList_nil ?_
                              replace ha := ha.sub (σ' := [(13, u234), (16, (.int .i64 x502.1)), (131, (.bool (x613.2 != x95.2)))]) ⟨rfl, rfl, rfl, trivial⟩
                              refine e_then ?_
                              refine c_cond ((x613.2 != x95.2) = true) ha rfl (Iff.rfl) (fun hp679 => ?_) (fun hp679 => ?_)
                              · replace hF := if_t hp679 hF
                                refine wp_seq ?_
                                refine wp_region_lit ?_
                                refine op_g ha rfl (g_assign rfl) ?_; clear ha a; intro a ha
                                refine wpList_nil ?_
                                replace ha := ha.sub (σ' := [(6, (.bool false))]) ⟨rfl, trivial⟩
                                refine e_then ?_
                                refine wp_ret ?_
                                refine e_then_ret ?_
                                obtain rfl := Option.some.inj hF
                                exact f_ret1 ha rfl rfl ⟨rfl, hE677⟩
                              · replace hF := if_f hp679 hF
                                refine wp_skip ?_
                                refine e_then ?_
                                refine wp_seq ?_
                                refine wp_region_lit ?_
                                refine op_g ha rfl (g_assign rfl) ?_; clear ha a; intro a ha
                                refine wpList_nil ?_
                                replace ha := ha.sub (σ' := [(13, u234), (16, (.int .i64 x502.1)), (17, (.int .i64 1))]) ⟨rfl, rfl, rfl, trivial⟩
                                refine e_then ?_
                                refine wp_seq ?_
                                refine wp_region_lit ?_
                                refine op_g ha rfl (g_move rfl) ?_; clear ha a; intro a ha
                                refine op_g ha rfl (g_move rfl) ?_; clear ha a; intro a ha
                                obtain ⟨fp680, hro681, hs682⟩ := h508.roF
                                obtain ⟨x683, hc684, hF⟩ := cal_some hF
                                refine o_call ha rfl rfl Try.call18 (W_laws_heldInt64SS hro681 (show InI 1 from by decide) hc684) ?_; clear ha a; rintro v685 w686 ⟨⟨rfl, hI688⟩, hx687⟩ a ha
                                replace h508 := h508.ext hx687
                                have hE689 := Ext.trans hE677 hx687
                                refine op_g ha rfl (g_assign rfl) ?_; clear ha a; intro a ha
                                refine wpList_nil ?_
                                replace ha := ha.sub (σ' := [(16, (.int .i64 x502.1)), (17, (.int .i64 x683))]) ⟨rfl, rfl, trivial⟩
                                refine e_then ?_
                                refine wp_seq ?_
                                refine wp_seq ?_
                                refine wp_region_lit ?_
                                refine op_g ha rfl (g_move rfl) ?_; clear ha a; intro a ha
                                refine op_g ha rfl (g_lss rfl rfl) ?_; clear ha a; intro a ha
                                refine wpList_nil ?_
                                replace ha := ha.sub (σ' := [(16, (.int .i64 x502.1)), (17, (.int .i64 x683)), (136, (.bool (decide (x683 < 0))))]) ⟨rfl, rfl, rfl, trivial⟩
                                refine e_then ?_
                                refine c_cond (x683 < 0) ha rfl (decide_eq_true_iff) (fun hp690 => ?_) (fun hp690 => ?_)
                                · replace hF := if_t hp690 hF
                                  refine wp_seq ?_
                                  refine wp_region_lit ?_
                                  refine op_g ha rfl (g_assign rfl) ?_; clear ha a; intro a ha
                                  refine wpList_nil ?_
                                  replace ha := ha.sub (σ' := [(6, (.bool false))]) ⟨rfl, trivial⟩
                                  refine e_then ?_
                                  refine wp_ret ?_
                                  refine e_then_ret ?_
                                  obtain rfl := Option.some.inj hF
                                  exact f_ret1 ha rfl rfl ⟨rfl, hE689⟩
                                · replace hF := if_f hp690 hF
                                  refine wp_skip ?_
                                  refine e_then ?_
                                  refine wp_seq ?_
                                  refine wp_seq ?_
                                  refine wp_region_lit ?_
                                  refine op_g ha rfl (g_move rfl) ?_; clear ha a; intro a ha
                                  refine op_g ha rfl (g_move rfl) ?_; clear ha a; intro a ha
                                  refine op_g ha rfl (g_neq rfl rfl) ?_; clear ha a; intro a ha
                                  refine wpList_nil ?_
                                  replace ha := ha.sub (σ' := [(139, (.bool (decide (x683 ≠ x502.1))))]) ⟨rfl, trivial⟩
                                  refine e_then ?_
                                  refine c_cond (x683 ≠ x502.1) ha rfl (decide_eq_true_iff) (fun hp691 => ?_) (fun hp691 => ?_)
                                  · replace hF := if_t hp691 hF
                                    refine wp_seq ?_
                                    refine wp_region_lit ?_
                                    refine op_g ha rfl (g_assign rfl) ?_; clear ha a; intro a ha
                                    refine wpList_nil ?_
                                    replace ha := ha.sub (σ' := [(6, (.bool false))]) ⟨rfl, trivial⟩
                                    refine e_then ?_
                                    refine wp_ret ?_
                                    refine e_then_ret ?_
                                    obtain rfl := Option.some.inj hF
                                    exact f_ret1 ha rfl rfl ⟨rfl, hE689⟩
                                  · replace hF := if_f hp691 hF
                                    refine wp_skip ?_
                                    refine e_then ?_
                                    refine wp_seq ?_
                                    refine wp_region_lit ?_
                                    refine op_g ha rfl (g_assign rfl) ?_; clear ha a; intro a ha
                                    refine wpList_nil ?_
                                    replace ha := ha.sub (σ' := [(6, (.bool true))]) ⟨rfl, trivial⟩
                                    refine e_then ?_
                                    refine wp_ret ?_
                                    obtain rfl := Option.some.inj hF
                                    exact f_ret1 ha rfl rfl ⟨rfl, hE689⟩
end Go.Proofs.Ytlbgoodonecebab
