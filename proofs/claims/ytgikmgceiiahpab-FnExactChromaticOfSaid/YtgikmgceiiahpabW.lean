/- Walks, printed by gen.py. -/
import Derived.Test.YtgikmgceiiahpabF
import Derived.Test.YtgikmgceiiahpabW1
import Derived.Test.YtgikmgceiiahpabProg
import Derived.KernelRfl
set_option maxRecDepth 100000
namespace Go.Proofs.Ytgikmgceiiahpab
open Go Go.RowKit

set_option maxHeartbeats 2000000 in
theorem W_impl_bestClasses {W : World} {va0 : Value} {fa0 : List Nat} {a0 : (List (BitVec 32))} (ha0 : Ro Rp.u32 W fa0 va0 a0) {r : (List (BitVec 32))} (hF : F_impl_bestClasses a0 = some r) :
    Calls Try.prog 19 [va0].toArray W (Ret fun u w' => ∃ (b_u : Int), Ow Rp.u32 62 true w' [] b_u u r ∧ Zn W b_u ∧ Ext W w') := by
  refine f_enter Try.func19 rfl Try.ntmps19 rfl ?_
  intro a ha
  replace ha : Fr 13 [(0, va0)] a := ha
  have hE : Chg [] W W := Chg.refl _ _
  unfold F_impl_bestClasses at hF
  refine wp_seq ?_
  refine wp_region_lit ?_
  refine op_g ha rfl (g_assign rfl) ?_; clear ha a; intro a ha
  refine wpList_nil ?_
  replace ha := ha.sub (σ' := [(0, va0)]) ⟨rfl, trivial⟩
  refine e_then ?_
  refine wp_seq ?_
  refine wp_region_lit ?_
  refine op_g ha rfl (g_assign rfl) ?_; clear ha a; intro a ha
  refine wpList_nil ?_
  refine e_then ?_
  obtain ⟨o56, ho57, hK58⟩ := bnd_some hF
  obtain ⟨n59, hn60⟩ := lp_some ho57; clear ho57
  refine c_loop (fun a w => Fr 13 [] a ∧ Chg [] W w ∧ o56 = .inl ()) (fun n a w => ∃ (i28 : Int), Fr 13 [(0, va0), (3, (.int .i64 i28))] a ∧ Chg [] W w ∧ InI i28 ∧ lpN (fun s => F_impl_bestClasses_l1 a0 s) n i28 = some o56) n59 ⟨1, ha.sub ⟨rfl, rfl, trivial⟩, hE, (show InI 1 from by decide), hn60⟩ ?_ ?_
  · rintro m64 a w27 ⟨i28, ha, hE30, hI29, hF⟩
    cases m64 with
    | zero => exact (lpN_zero hF).elim
    | succ m64 =>
      obtain ⟨z63, hF, hN62⟩ := lpN_succ hF
      have hF : F_impl_bestClasses_l1 a0 i28 = some z63 := hF; unfold F_impl_bestClasses_l1 at hF
      refine wp_seq ?_
      refine wp_block ?_
      refine wp_seq ?_
      refine wp_region_lit ?_
      refine op_g ha rfl (g_move rfl) ?_; clear ha a; intro a ha
      obtain ⟨g69, g69b, hF⟩ := mkS_some hF
      refine o_make (z0 := (0 : BitVec 32)) Rp.u32 ha rfl sl41 rfl (fun w => ⟨rfl, rfl⟩) rfl g69 g69b ?_; clear ha a; intro v65 w66 h67 hx68 a ha
      obtain ⟨b72, hb72⟩ : ∃ b : Int, b = w27.heap.size := ⟨_, rfl⟩; rw [← hb72] at h67
      have q73 := zn_of hb72
      have q74 := Zn.upD q73 hE30
      have hE75 := Ext.trans hE30 hx68
      refine op_g ha rfl (g_assign rfl) ?_; clear ha a; intro a ha
      refine wpList_nil ?_
      replace ha := ha.sub (σ' := [(0, va0), (3, (.int .i64 i28)), (4, v65)]) ⟨rfl, rfl, rfl, trivial⟩
      refine e_then ?_
      refine wp_seq ?_
      refine wp_region_lit ?_
      refine op_g ha rfl (g_move rfl) ?_; clear ha a; intro a ha
      refine op_g ha rfl (g_move rfl) ?_; clear ha a; intro a ha
      obtain ⟨x76, hc77, hF⟩ := cal_some hF
      refine o_call ha rfl rfl Try.call39 (W_impl_colourOn (ha0.ext hE75) (show InI 0 from by decide) h67 (show InI 0 from by decide) (Nq.new ha0.bnd q74) hc77) ?_; clear ha a; rintro v78 w79 ⟨rfl, h81, hx80⟩ a ha
      have hE82 := Ext.then hE75 hx80 (Zn.bl q74)
      refine wpList_nil ?_
      replace ha := ha.sub (σ' := [(0, va0), (3, (.int .i64 i28)), (4, v65), (11, (.bool x76.1))]) ⟨rfl, rfl, rfl, rfl, trivial⟩
      refine e_then ?_
      refine c_cond (x76.1 = true) ha rfl (Iff.rfl) (fun hp83 => ?_) (fun hp83 => ?_)
      · replace hF := if_t hp83 hF
        refine wp_seq ?_
        refine wp_region_lit ?_
        refine op_g ha rfl (g_move rfl) ?_; clear ha a; intro a ha
        refine op_g ha rfl (g_assign rfl) ?_; clear ha a; intro a ha
        refine wpList_nil ?_
        replace ha := ha.sub (σ' := [(2, v65)]) ⟨rfl, trivial⟩
        refine e_then ?_
        refine wp_ret ?_
        refine e_blk_ret ?_
        refine e_then_ret ?_
        refine e_lq_ret ?_
        obtain rfl := Option.some.inj hF
        have e84 := LK_inr hN62; subst e84
        have e85 := BK_inr hK58; subst e85
        exact f_ret1 ha rfl rfl ⟨_, h81, q74, hE82⟩
      · replace hF := if_f hp83 hF
        refine wp_skip ?_
        refine e_blk ?_
        refine e_then ?_
        refine wp_region_lit ?_
        refine op_g ha rfl (g_move rfl) ?_; clear ha a; intro a ha
        obtain ⟨hI86, hF⟩ := ck_some hF
        refine op_g ha rfl (g_add rfl rfl hI86) ?_; clear ha a; intro a ha
        refine op_g ha rfl (g_assign rfl) ?_; clear ha a; intro a ha
        refine wpList_nil ?_
        replace ha := ha.sub (σ' := [(0, va0), (3, (.int .i64 (i28 + 1)))]) ⟨rfl, rfl, trivial⟩
        refine e_lq ?_
        obtain rfl := Option.some.inj hF
        exact ⟨_, Nat.lt_succ_self _, i28 + 1, ha.sub ⟨rfl, rfl, trivial⟩, hE82, hI86, hN62⟩
  · rintro a w55 ⟨ha, hE61, rfl⟩
    cases hK58
set_option maxHeartbeats 2000000 in
theorem W_impl_ChromaticOf {W : World} {va0_0 : Value} {fa0_0 : List Nat} {a0_0 : (List (List Int))} (ha0_0 : Ro (Rp.sl 2 Rp.int) W fa0_0 va0_0 a0_0) {r : Int} (hF : F_impl_ChromaticOf a0_0 = some r) :
    Calls Try.prog 8 [.agg #[va0_0]].toArray W (Ret fun u w' => (u = .int .i64 r ∧ InI r) ∧ Ext W w') := by
  refine f_enter Try.func8 rfl Try.ntmps8 rfl ?_
  intro a ha
  replace ha : Fr 10 [(0, (.agg #[va0_0]))] a := ha
  have hE : Chg [] W W := Chg.refl _ _
  unfold F_impl_ChromaticOf at hF
  refine wp_seq ?_
  refine wp_region_lit ?_
  refine o_box ha rfl rfl rfl ?_; clear ha a; intro b1 w2 hB3 hx4 hlo5 a ha
  have q6 := Zn.one hlo5
  have q7 := Zn.upD q6 hE
  have hE8 := Ext.trans hE hx4
  refine op_g ha rfl (g_assign rfl) ?_; clear ha a; intro a ha
  refine wpList_nil ?_
  replace ha := ha.sub (σ' := [(1, (.pointer (some ⟨b1, 0, none⟩)))]) ⟨rfl, trivial⟩
  refine e_then ?_
  refine wp_seq ?_
  refine wp_seq ?_
  refine wp_region_lit ?_
  refine op_g ha rfl (g_loadA (cs := [va0_0]) Try.isAgg27 Try.sizeOf27 rfl (by simp) hB3.all) ?_; clear ha a; intro a ha
  obtain ⟨x9, hc10, hF⟩ := cal_some hF
  refine o_call ha rfl rfl Try.call18 (W_impl_GraphOk (ha0_0.ext hE8) hc10) ?_; clear ha a; rintro v11 w12 ⟨rfl, hx13⟩ a ha
  replace hB3 := hB3.ext hx13
  have hE14 := Ext.trans hE8 hx13
  refine op_g ha rfl (g_not rfl) ?_; clear ha a; intro a ha
  refine wpList_nil ?_
  replace ha := ha.sub (σ' := [(1, (.pointer (some ⟨b1, 0, none⟩))), (5, (.bool (!x9)))]) ⟨rfl, rfl, trivial⟩
  refine e_then ?_
  refine c_cond (¬ (x9 = true)) ha rfl (n_iff (Iff.rfl)) (fun hp15 => ?_) (fun hp15 => ?_)
  · replace hF := if_t hp15 hF
    refine wp_seq ?_
    refine wp_region_lit ?_
    refine op_g ha rfl (g_assign rfl) ?_; clear ha a; intro a ha
    refine wpList_nil ?_
    replace ha := ha.sub (σ' := [(2, (.int .i64 (-1)))]) ⟨rfl, trivial⟩
    refine e_then ?_
    refine wp_ret ?_
    refine e_then_ret ?_
    obtain rfl := Option.some.inj hF
    exact f_ret1 ha rfl rfl ⟨⟨rfl, (show InI (-1) from by decide)⟩, hE14⟩
  · replace hF := if_f hp15 hF
    refine wp_skip ?_
    refine e_then ?_
    refine wp_seq ?_
    refine wp_region_lit ?_
    refine op_g ha rfl (g_loadA (cs := [va0_0]) Try.isAgg27 Try.sizeOf27 rfl (by simp) hB3.all) ?_; clear ha a; intro a ha
    obtain ⟨x16, hc17, hF⟩ := cal_some hF
    refine o_call ha rfl rfl Try.call20 (W_impl_netsOf (ha0_0.ext hE14) hc17) ?_; clear ha a; rintro v18 w19 ⟨b21, h22, z23, hx20⟩ a ha
    have q25 := Nq.new hB3.fpb z23
    have q26 := Nq.madeO z23 hB3.bi
    replace hB3 := hB3.ext hx20
    have hE27 := Ext.trans hE14 hx20
    have q28 := Zn.upD z23 hE14
    obtain ⟨fp29, hro30, hs31⟩ := h22.roF
    obtain ⟨x32, hc33, hF⟩ := cal_some hF
    refine o_call ha rfl rfl Try.call19 (W_impl_bestClasses hro30 hc33) ?_; clear ha a; rintro v34 w35 ⟨b37, h38, z39, hx36⟩ a ha
    have q41 := Nq.new hB3.fpb z39
    have q42 := Nq.madeO z39 hB3.bi
    have q43 := Nq.new h22.fpb z39
    have q44 := Nq.madeO z39 h22.blt
    replace hB3 := hB3.ext hx36
    replace h22 := h22.ext hx36
    have hE45 := Ext.trans hE27 hx36
    have q46 := Zn.upD z39 hE27
    refine op_g ha rfl (g_lenO sl41.und h38 rfl) ?_; clear ha a; intro a ha
    refine op_g ha rfl (g_assign rfl) ?_; clear ha a; intro a ha
    refine wpList_nil ?_
    replace ha := ha.sub (σ' := [(2, (.int .i64 (x32.length : Int)))]) ⟨rfl, trivial⟩
    refine e_then ?_
    refine wp_ret ?_
    obtain rfl := Option.some.inj hF
    exact f_ret1 ha rfl rfl ⟨⟨rfl, h38.len⟩, hE45⟩
set_option maxHeartbeats 2000000 in
theorem W_laws_eqInt64S {W : World} {va0 : Value} {fa0 : List Nat} {a0 : (List Int)} (ha0 : Ro Rp.int W fa0 va0 a0) {va1 : Value} {fa1 : List Nat} {a1 : (List Int)} (ha1 : Ro Rp.int W fa1 va1 a1) {r : Bool} (hF : F_laws_eqInt64S a0 a1 = some r) :
    Calls Try.prog 13 [va0, va1].toArray W (Ret fun u w' => u = .bool r ∧ Ext W w') := by
  refine f_enter Try.func13 rfl Try.ntmps13 rfl ?_
  intro a ha
  replace ha : Fr 26 [(0, va0), (1, va1)] a := ha
  have hE : Chg [] W W := Chg.refl _ _
  unfold F_laws_eqInt64S at hF
  refine wp_seq ?_
  refine wp_region_lit ?_
  refine op_g ha rfl (g_assign rfl) ?_; clear ha a; intro a ha
  refine wpList_nil ?_
  replace ha := ha.sub (σ' := [(0, va0), (1, va1)]) ⟨rfl, rfl, trivial⟩
  refine e_then ?_
  refine wp_seq ?_
  refine wp_seq ?_
  refine wp_region_lit ?_
  refine op_g ha rfl (g_move rfl) ?_; clear ha a; intro a ha
  refine op_g ha rfl (g_lenR sl31.und ha0 rfl) ?_; clear ha a; intro a ha
  refine op_g ha rfl (g_move rfl) ?_; clear ha a; intro a ha
  refine op_g ha rfl (g_lenR sl31.und ha1 rfl) ?_; clear ha a; intro a ha
  refine op_g ha rfl (g_neq rfl rfl) ?_; clear ha a; intro a ha
  refine wpList_nil ?_
  replace ha := ha.sub (σ' := [(0, va0), (1, va1), (10, (.bool (decide ((a0.length : Int) ≠ (a1.length : Int)))))]) ⟨rfl, rfl, rfl, trivial⟩
  refine e_then ?_
  refine c_cond ((a0.length : Int) ≠ (a1.length : Int)) ha rfl (decide_eq_true_iff) (fun hp1 => ?_) (fun hp1 => ?_)
  · replace hF := if_t hp1 hF
    refine wp_seq ?_
    refine wp_region_lit ?_
    refine op_g ha rfl (g_assign rfl) ?_; clear ha a; intro a ha
    refine wpList_nil ?_
    replace ha := ha.sub (σ' := [(4, (.bool false))]) ⟨rfl, trivial⟩
    refine e_then ?_
    refine wp_ret ?_
    refine e_then_ret ?_
    obtain rfl := Option.some.inj hF
    exact f_ret1 ha rfl rfl ⟨rfl, hE⟩
  · replace hF := if_f hp1 hF
    refine wp_skip ?_
    refine e_then ?_
    refine wp_seq ?_
    refine wp_seq ?_
    refine wp_region_lit ?_
    refine op_g ha rfl (g_assign rfl) ?_; clear ha a; intro a ha
    refine wpList_nil ?_
    replace ha := ha.sub (σ' := [(0, va0), (1, va1), (5, (.int .i64 0))]) ⟨rfl, rfl, rfl, trivial⟩
    refine e_then ?_
    obtain ⟨o77, ho78, hK79⟩ := bnd_some hF
    obtain ⟨n80, hn81⟩ := lp_some ho78; clear ho78
    refine c_loop (fun a w => Fr 26 [] a ∧ Chg [] W w ∧ o77 = .inl ()) (fun n a w => ∃ (i39 : Int), Fr 26 [(0, va0), (1, va1), (5, (.int .i64 i39))] a ∧ Chg [] W w ∧ InI i39 ∧ lpN (fun s => F_laws_eqInt64S_l1 a0 a1 s) n i39 = some o77) n80 ⟨0, ha.sub ⟨rfl, rfl, rfl, trivial⟩, hE, (show InI 0 from by decide), hn81⟩ ?_ ?_
    · rintro m85 a w38 ⟨i39, ha, hE41, hI40, hF⟩
      cases m85 with
      | zero => exact (lpN_zero hF).elim
      | succ m85 =>
        obtain ⟨z84, hF, hN83⟩ := lpN_succ hF
        have hF : F_laws_eqInt64S_l1 a0 a1 i39 = some z84 := hF; unfold F_laws_eqInt64S_l1 at hF
        refine wp_seq ?_
        refine wp_seq ?_
        refine wp_region_lit ?_
        refine op_g ha rfl (g_move rfl) ?_; clear ha a; intro a ha
        refine op_g ha rfl (g_move rfl) ?_; clear ha a; intro a ha
        refine op_g ha rfl (g_lenR sl31.und ha0 rfl) ?_; clear ha a; intro a ha
        refine op_g ha rfl (g_lss rfl rfl) ?_; clear ha a; intro a ha
        refine wpList_nil ?_
        replace ha := ha.sub (σ' := [(0, va0), (1, va1), (5, (.int .i64 i39)), (14, (.bool (decide (i39 < (a0.length : Int)))))]) ⟨rfl, rfl, rfl, rfl, trivial⟩
        refine e_then ?_
        refine c_cond (i39 < (a0.length : Int)) ha rfl (decide_eq_true_iff) (fun hp86 => ?_) (fun hp86 => ?_)
        · replace hF := if_t hp86 hF
          refine wp_skip ?_
          refine e_then ?_
          refine wp_seq ?_
          refine wp_block ?_
          refine wp_seq ?_
          refine d_quiet hmix (by kernel_rfl) ?_
          refine q_g ha rfl (g_move rfl) ?_; clear ha a; intro a ha
          refine q_g ha rfl (g_move rfl) ?_; clear ha a; intro a ha
          obtain ⟨x87, g88, gx89, hF⟩ := idx_some hF
          obtain ⟨p90, cs91, f92, hf93, hpb94, hat95, hr96, hi97⟩ := ha0.at g88 gx89
          obtain ⟨rfl, hI98, rfl⟩ := hr96
          refine q_g ha rfl (hi97.gives sl31 rfl rfl) ?_; clear ha a; intro a ha
          refine q_g ha rfl (g_load0 hE41 Try.isAgg2 rfl hat95.one) ?_; clear ha a; intro a ha
          refine q_g ha rfl (g_move rfl) ?_; clear ha a; intro a ha
          refine q_g ha rfl (g_move rfl) ?_; clear ha a; intro a ha
          obtain ⟨x99, g100, gx101, hF⟩ := idx_some hF
          obtain ⟨p102, cs103, f104, hf105, hpb106, hat107, hr108, hi109⟩ := ha1.at g100 gx101
          obtain ⟨rfl, hI110, rfl⟩ := hr108
          refine q_g ha rfl (hi109.gives sl31 rfl rfl) ?_; clear ha a; intro a ha
          refine q_g ha rfl (g_load0 hE41 Try.isAgg2 rfl hat107.one) ?_; clear ha a; intro a ha
          refine q_g ha rfl (g_neq rfl rfl) ?_; clear ha a; intro a ha
          refine q_nil ?_; intro w111 hx112
          have hE113 := Ext.trans hE41 hx112
          replace ha := ha.sub (σ' := [(0, va0), (1, va1), (5, (.int .i64 i39)), (25, (.bool (decide (x87 ≠ x99))))]) ⟨rfl, rfl, rfl, rfl, trivial⟩
          refine e_then ?_
          refine c_cond (x87 ≠ x99) ha rfl (decide_eq_true_iff) (fun hp114 => ?_) (fun hp114 => ?_)
          · replace hF := if_t hp114 hF
            refine wp_seq ?_
            refine wp_region_lit ?_
            refine op_g ha rfl (g_assign rfl) ?_; clear ha a; intro a ha
            refine wpList_nil ?_
            replace ha := ha.sub (σ' := [(4, (.bool false))]) ⟨rfl, trivial⟩
            refine e_then ?_
            refine wp_ret ?_
            refine e_blk_ret ?_
            refine e_then_ret ?_
            refine e_lq_ret ?_
            refine e_then_ret ?_
            obtain rfl := Option.some.inj hF
            have e115 := LK_inr hN83; subst e115
            have e116 := BK_inr hK79; subst e116
            exact f_ret1 ha rfl rfl ⟨rfl, hE113⟩
          · replace hF := if_f hp114 hF
            refine wp_skip ?_
            refine e_blk ?_
            refine e_then ?_
            refine wp_region_lit ?_
            refine op_g ha rfl (g_move rfl) ?_; clear ha a; intro a ha
            obtain ⟨hI117, hF⟩ := ck_some hF
            refine op_g ha rfl (g_add rfl rfl hI117) ?_; clear ha a; intro a ha
            refine op_g ha rfl (g_assign rfl) ?_; clear ha a; intro a ha
            refine wpList_nil ?_
            replace ha := ha.sub (σ' := [(0, va0), (1, va1), (5, (.int .i64 (i39 + 1)))]) ⟨rfl, rfl, rfl, trivial⟩
            refine e_lq ?_
            obtain rfl := Option.some.inj hF
            exact ⟨_, Nat.lt_succ_self _, i39 + 1, ha.sub ⟨rfl, rfl, rfl, trivial⟩, hE113, hI117, hN83⟩
        · replace hF := if_f hp86 hF
          refine wp_exit ?_
          refine e_then_exit ?_
          refine e_lq_eq ?_
          obtain rfl := Option.some.inj hF
          exact ⟨ha.sub trivial, hE41, (LK_inr hN83).symm⟩
    · rintro a w76 ⟨ha, hE82, rfl⟩
      have hF : F_laws_eqInt64S_k2 = some _ := hK79; clear hK79; unfold F_laws_eqInt64S_k2 at hF
      refine e_then ?_
      refine wp_seq ?_
      refine wp_region_lit ?_
      refine op_g ha rfl (g_assign rfl) ?_; clear ha a; intro a ha
      refine wpList_nil ?_
      refine e_then ?_
      refine wp_ret ?_
      obtain rfl := Option.some.inj hF
      exact f_ret1 ha rfl rfl ⟨rfl, hE82⟩
set_option maxHeartbeats 2000000 in
theorem W_laws_eqInt64SS {W : World} {va0 : Value} {fa0 : List Nat} {a0 : (List (List Int))} (ha0 : Ro (Rp.sl 2 Rp.int) W fa0 va0 a0) {va1 : Value} {fa1 : List Nat} {a1 : (List (List Int))} (ha1 : Ro (Rp.sl 2 Rp.int) W fa1 va1 a1) {r : Bool} (hF : F_laws_eqInt64SS a0 a1 = some r) :
    Calls Try.prog 21 [va0, va1].toArray W (Ret fun u w' => u = .bool r ∧ Ext W w') := by
  refine f_enter Try.func21 rfl Try.ntmps21 rfl ?_
  intro a ha
  replace ha : Fr 27 [(0, va0), (1, va1)] a := ha
  have hE : Chg [] W W := Chg.refl _ _
  unfold F_laws_eqInt64SS at hF
  refine wp_seq ?_
  refine wp_region_lit ?_
  refine op_g ha rfl (g_assign rfl) ?_; clear ha a; intro a ha
  refine wpList_nil ?_
  replace ha := ha.sub (σ' := [(0, va0), (1, va1)]) ⟨rfl, rfl, trivial⟩
  refine e_then ?_
  refine wp_seq ?_
  refine wp_seq ?_
  refine wp_region_lit ?_
  refine op_g ha rfl (g_move rfl) ?_; clear ha a; intro a ha
  refine op_g ha rfl (g_lenR sl22.und ha0 rfl) ?_; clear ha a; intro a ha
  refine op_g ha rfl (g_move rfl) ?_; clear ha a; intro a ha
  refine op_g ha rfl (g_lenR sl22.und ha1 rfl) ?_; clear ha a; intro a ha
  refine op_g ha rfl (g_neq rfl rfl) ?_; clear ha a; intro a ha
  refine wpList_nil ?_
  replace ha := ha.sub (σ' := [(0, va0), (1, va1), (10, (.bool (decide ((a0.length : Int) ≠ (a1.length : Int)))))]) ⟨rfl, rfl, rfl, trivial⟩
  refine e_then ?_
  refine c_cond ((a0.length : Int) ≠ (a1.length : Int)) ha rfl (decide_eq_true_iff) (fun hp1 => ?_) (fun hp1 => ?_)
  · replace hF := if_t hp1 hF
    refine wp_seq ?_
    refine wp_region_lit ?_
    refine op_g ha rfl (g_assign rfl) ?_; clear ha a; intro a ha
    refine wpList_nil ?_
    replace ha := ha.sub (σ' := [(4, (.bool false))]) ⟨rfl, trivial⟩
    refine e_then ?_
    refine wp_ret ?_
    refine e_then_ret ?_
    obtain rfl := Option.some.inj hF
    exact f_ret1 ha rfl rfl ⟨rfl, hE⟩
  · replace hF := if_f hp1 hF
    refine wp_skip ?_
    refine e_then ?_
    refine wp_seq ?_
    refine wp_seq ?_
    refine wp_region_lit ?_
    refine op_g ha rfl (g_assign rfl) ?_; clear ha a; intro a ha
    refine wpList_nil ?_
    replace ha := ha.sub (σ' := [(0, va0), (1, va1), (5, (.int .i64 0))]) ⟨rfl, rfl, rfl, trivial⟩
    refine e_then ?_
    obtain ⟨o93, ho94, hK95⟩ := bnd_some hF
    obtain ⟨n96, hn97⟩ := lp_some ho94; clear ho94
    refine c_loop (fun a w => Fr 27 [] a ∧ Chg [] W w ∧ o93 = .inl ()) (fun n a w => ∃ (i47 : Int), Fr 27 [(0, va0), (1, va1), (5, (.int .i64 i47))] a ∧ Chg [] W w ∧ InI i47 ∧ lpN (fun s => F_laws_eqInt64SS_l1 a0 a1 s) n i47 = some o93) n96 ⟨0, ha.sub ⟨rfl, rfl, rfl, trivial⟩, hE, (show InI 0 from by decide), hn97⟩ ?_ ?_
    · rintro m101 a w46 ⟨i47, ha, hE49, hI48, hF⟩
      cases m101 with
      | zero => exact (lpN_zero hF).elim
      | succ m101 =>
        obtain ⟨z100, hF, hN99⟩ := lpN_succ hF
        have hF : F_laws_eqInt64SS_l1 a0 a1 i47 = some z100 := hF; unfold F_laws_eqInt64SS_l1 at hF
        refine wp_seq ?_
        refine wp_seq ?_
        refine wp_region_lit ?_
        refine op_g ha rfl (g_move rfl) ?_; clear ha a; intro a ha
        refine op_g ha rfl (g_move rfl) ?_; clear ha a; intro a ha
        refine op_g ha rfl (g_lenR sl22.und ha0 rfl) ?_; clear ha a; intro a ha
        refine op_g ha rfl (g_lss rfl rfl) ?_; clear ha a; intro a ha
        refine wpList_nil ?_
        replace ha := ha.sub (σ' := [(0, va0), (1, va1), (5, (.int .i64 i47)), (14, (.bool (decide (i47 < (a0.length : Int)))))]) ⟨rfl, rfl, rfl, rfl, trivial⟩
        refine e_then ?_
        refine c_cond (i47 < (a0.length : Int)) ha rfl (decide_eq_true_iff) (fun hp102 => ?_) (fun hp102 => ?_)
        · replace hF := if_t hp102 hF
          refine wp_skip ?_
          refine e_then ?_
          refine wp_seq ?_
          refine wp_block ?_
          refine wp_seq ?_
          refine d_quiet hmix (by kernel_rfl) ?_
          refine q_g ha rfl (g_move rfl) ?_; clear ha a; intro a ha
          refine q_g ha rfl (g_move rfl) ?_; clear ha a; intro a ha
          obtain ⟨x103, g104, gx105, hF⟩ := idx_some hF
          obtain ⟨p106, cs107, f108, hf109, hpb110, hat111, hr112, hi113⟩ := ha0.at g104 gx105
          obtain ⟨v114, rfl, h115⟩ := hr112
          have h115 : Ro Rp.int W f108 v114 x103 := h115
          refine q_g ha rfl (hi113.gives sl22 rfl rfl) ?_; clear ha a; intro a ha
          refine q_g ha rfl (g_load0 hE49 Try.isAgg31 rfl hat111.one) ?_; clear ha a; intro a ha
          refine q_g ha rfl (g_move rfl) ?_; clear ha a; intro a ha
          refine q_g ha rfl (g_move rfl) ?_; clear ha a; intro a ha
          obtain ⟨x117, g118, gx119, hF⟩ := idx_some hF
          obtain ⟨p120, cs121, f122, hf123, hpb124, hat125, hr126, hi127⟩ := ha1.at g118 gx119
          obtain ⟨v128, rfl, h129⟩ := hr126
          have h129 : Ro Rp.int W f122 v128 x117 := h129
          refine q_g ha rfl (hi127.gives sl22 rfl rfl) ?_; clear ha a; intro a ha
          refine q_g ha rfl (g_load0 hE49 Try.isAgg31 rfl hat125.one) ?_; clear ha a; intro a ha
          obtain ⟨x133, hc134, hF⟩ := cal_some hF
          refine q_call (.bool x133) ha rfl rfl Try.call13 (fun w132 hx131 => W_laws_eqInt64S (h115.ext (Ext.trans hE49 hx131)) (h129.ext (Ext.trans hE49 hx131)) hc134) (fun _ _ _ h => ⟨h.1, h.2⟩) ?_; clear ha a; intro a ha
          refine q_g ha rfl (g_not rfl) ?_; clear ha a; intro a ha
          refine q_nil ?_; intro w135 hx136
          have hE137 := Ext.trans hE49 hx136
          replace ha := ha.sub (σ' := [(0, va0), (1, va1), (5, (.int .i64 i47)), (26, (.bool (!x133)))]) ⟨rfl, rfl, rfl, rfl, trivial⟩
          refine e_then ?_
          refine c_cond (¬ (x133 = true)) ha rfl (n_iff (Iff.rfl)) (fun hp138 => ?_) (fun hp138 => ?_)
          · replace hF := if_t hp138 hF
            refine wp_seq ?_
            refine wp_region_lit ?_
            refine op_g ha rfl (g_assign rfl) ?_; clear ha a; intro a ha
            refine wpList_nil ?_
            replace ha := ha.sub (σ' := [(4, (.bool false))]) ⟨rfl, trivial⟩
            refine e_then ?_
            refine wp_ret ?_
            refine e_blk_ret ?_
            refine e_then_ret ?_
            refine e_lq_ret ?_
            refine e_then_ret ?_
            obtain rfl := Option.some.inj hF
            have e139 := LK_inr hN99; subst e139
            have e140 := BK_inr hK95; subst e140
            exact f_ret1 ha rfl rfl ⟨rfl, hE137⟩
          · replace hF := if_f hp138 hF
            refine wp_skip ?_
            refine e_blk ?_
            refine e_then ?_
            refine wp_region_lit ?_
            refine op_g ha rfl (g_move rfl) ?_; clear ha a; intro a ha
            obtain ⟨hI141, hF⟩ := ck_some hF
            refine op_g ha rfl (g_add rfl rfl hI141) ?_; clear ha a; intro a ha
            refine op_g ha rfl (g_assign rfl) ?_; clear ha a; intro a ha
            refine wpList_nil ?_
            replace ha := ha.sub (σ' := [(0, va0), (1, va1), (5, (.int .i64 (i47 + 1)))]) ⟨rfl, rfl, rfl, trivial⟩
            refine e_lq ?_
            obtain rfl := Option.some.inj hF
            exact ⟨_, Nat.lt_succ_self _, i47 + 1, ha.sub ⟨rfl, rfl, rfl, trivial⟩, hE137, hI141, hN99⟩
        · replace hF := if_f hp102 hF
          refine wp_exit ?_
          refine e_then_exit ?_
          refine e_lq_eq ?_
          obtain rfl := Option.some.inj hF
          exact ⟨ha.sub trivial, hE49, (LK_inr hN99).symm⟩
    · rintro a w92 ⟨ha, hE98, rfl⟩
      have hF : F_laws_eqInt64SS_k2 = some _ := hK95; clear hK95; unfold F_laws_eqInt64SS_k2 at hF
      refine e_then ?_
      refine wp_seq ?_
      refine wp_region_lit ?_
      refine op_g ha rfl (g_assign rfl) ?_; clear ha a; intro a ha
      refine wpList_nil ?_
      refine e_then ?_
      refine wp_ret ?_
      obtain rfl := Option.some.inj hF
      exact f_ret1 ha rfl rfl ⟨rfl, hE98⟩
set_option maxHeartbeats 2000000 in
theorem W_laws_eqGraph {W : World} {va0_0 : Value} {fa0_0 : List Nat} {a0_0 : (List (List Int))} (ha0_0 : Ro (Rp.sl 2 Rp.int) W fa0_0 va0_0 a0_0) {va1_0 : Value} {fa1_0 : List Nat} {a1_0 : (List (List Int))} (ha1_0 : Ro (Rp.sl 2 Rp.int) W fa1_0 va1_0 a1_0) {r : Bool} (hF : F_laws_eqGraph a0_0 a1_0 = some r) :
    Calls Try.prog 9 [.agg #[va0_0], .agg #[va1_0]].toArray W (Ret fun u w' => u = .bool r ∧ Ext W w') := by
  refine f_enter Try.func9 rfl Try.ntmps9 rfl ?_
  intro a ha
  replace ha : Fr 11 [(0, (.agg #[va0_0])), (1, (.agg #[va1_0]))] a := ha
  have hE : Chg [] W W := Chg.refl _ _
  unfold F_laws_eqGraph at hF
  refine wp_seq ?_
  refine wp_region_lit ?_
  refine o_box ha rfl rfl rfl ?_; clear ha a; intro b1 w2 hB3 hx4 hlo5 a ha
  have q6 := Zn.one hlo5
  have q7 := Zn.upD q6 hE
  have hE8 := Ext.trans hE hx4
  refine o_box ha rfl rfl rfl ?_; clear ha a; intro b9 w10 hB11 hx12 hlo13 a ha
  have q14 := Zn.one hlo13
  have q15 := Nq.new hB3.fpb q14
  have q16 := Nq.made1 hlo13 hB3.bi
  have q17 := Zn.upD q14 hE8
  replace hB3 := hB3.ext hx12
  have hE18 := Ext.trans hE8 hx12
  refine op_g ha rfl (g_assign rfl) ?_; clear ha a; intro a ha
  refine wpList_nil ?_
  replace ha := ha.sub (σ' := [(2, (.pointer (some ⟨b1, 0, none⟩))), (3, (.pointer (some ⟨b9, 0, none⟩)))]) ⟨rfl, rfl, trivial⟩
  refine e_then ?_
  refine wp_seq ?_
  refine wp_seq ?_
  refine wp_region_lit ?_
  refine op_g ha rfl (g_field0 st27_0 rfl) ?_; clear ha a; intro a ha
  refine op_g ha rfl (g_load Try.isAgg22 rfl (hB3.cell rfl)) ?_; clear ha a; intro a ha
  refine op_g ha rfl (g_field0 st27_0 rfl) ?_; clear ha a; intro a ha
  refine op_g ha rfl (g_load Try.isAgg22 rfl (hB11.cell rfl)) ?_; clear ha a; intro a ha
  obtain ⟨x19, hc20, hF⟩ := cal_some hF
  refine o_call ha rfl rfl Try.call21 (W_laws_eqInt64SS (ha0_0.ext hE18) (ha1_0.ext hE18) hc20) ?_; clear ha a; rintro v21 w22 ⟨rfl, hx23⟩ a ha
  replace hB3 := hB3.ext hx23
  replace hB11 := hB11.ext hx23
  have hE24 := Ext.trans hE18 hx23
  refine op_g ha rfl (g_not rfl) ?_; clear ha a; intro a ha
  refine wpList_nil ?_
  replace ha := ha.sub (σ' := [(10, (.bool (!x19)))]) ⟨rfl, trivial⟩
  refine e_then ?_
  refine c_cond (¬ (x19 = true)) ha rfl (n_iff (Iff.rfl)) (fun hp25 => ?_) (fun hp25 => ?_)
  · replace hF := if_t hp25 hF
    refine wp_seq ?_
    refine wp_region_lit ?_
    refine op_g ha rfl (g_assign rfl) ?_; clear ha a; intro a ha
    refine wpList_nil ?_
    replace ha := ha.sub (σ' := [(4, (.bool false))]) ⟨rfl, trivial⟩
    refine e_then ?_
    refine wp_ret ?_
    refine e_then_ret ?_
    obtain rfl := Option.some.inj hF
    exact f_ret1 ha rfl rfl ⟨rfl, hE24⟩
  · replace hF := if_f hp25 hF
    refine wp_skip ?_
    refine e_then ?_
    refine wp_seq ?_
    refine wp_region_lit ?_
    refine op_g ha rfl (g_assign rfl) ?_; clear ha a; intro a ha
    refine wpList_nil ?_
    replace ha := ha.sub (σ' := [(4, (.bool true))]) ⟨rfl, trivial⟩
    refine e_then ?_
    refine wp_ret ?_
    obtain rfl := Option.some.inj hF
    exact f_ret1 ha rfl rfl ⟨rfl, hE24⟩
set_option maxHeartbeats 2000000 in
theorem W_laws_FnExactChromaticOf {W : World} {va0_0 : Value} {fa0_0 : List Nat} {a0_0 : (List (List Int))} (ha0_0 : Ro (Rp.sl 2 Rp.int) W fa0_0 va0_0 a0_0) {r : Bool} (hF : F_laws_FnExactChromaticOf a0_0 = some r) :
    Calls Try.prog 3 [.agg #[va0_0]].toArray W (Ret fun u w' => u = .bool r ∧ Ext W w') := by
  refine f_enter Try.func3 rfl Try.ntmps3 rfl ?_
  intro a ha
  replace ha : Fr 27 [(0, (.agg #[va0_0]))] a := ha
  have hE : Chg [] W W := Chg.refl _ _
  unfold F_laws_FnExactChromaticOf at hF
  refine wp_seq ?_
  refine wp_region_lit ?_
  refine o_box ha rfl rfl rfl ?_; clear ha a; intro b1 w2 hB3 hx4 hlo5 a ha
  have q6 := Zn.one hlo5
  have q7 := Zn.upD q6 hE
  have hE8 := Ext.trans hE hx4
  refine op_g ha rfl (g_assign rfl) ?_; clear ha a; intro a ha
  refine wpList_nil ?_
  replace ha := ha.sub (σ' := [(1, (.pointer (some ⟨b1, 0, none⟩)))]) ⟨rfl, trivial⟩
  refine e_then ?_
  refine wp_seq ?_
  refine wp_region_lit ?_
  refine op_g ha rfl (g_assign rfl) ?_; clear ha a; intro a ha
  refine wpList_nil ?_
  refine e_then ?_
  refine wp_seq ?_
  refine wp_region_lit ?_
  refine op_g ha rfl (g_loadA (cs := [va0_0]) Try.isAgg24 Try.sizeOf24 rfl (by simp) hB3.all) ?_; clear ha a; intro a ha
  refine op_g ha rfl (g_move rfl) ?_; clear ha a; intro a ha
  obtain ⟨x9, hc10, hF⟩ := cal_some hF
  refine o_call ha rfl rfl Try.call5 (W_laws_szGraph (ha0_0.ext hE8) (show InI 1048576 from by decide) hc10) ?_; clear ha a; rintro v11 w12 ⟨⟨rfl, hI14⟩, hx13⟩ a ha
  replace hB3 := hB3.ext hx13
  have hE15 := Ext.trans hE8 hx13
  refine op_g ha rfl (g_assign rfl) ?_; clear ha a; intro a ha
  refine wpList_nil ?_
  replace ha := ha.sub (σ' := [(1, (.pointer (some ⟨b1, 0, none⟩))), (3, (.int .i64 x9))]) ⟨rfl, rfl, trivial⟩
  refine e_then ?_
  refine wp_seq ?_
  refine wp_seq ?_
  refine wp_region_lit ?_
  refine op_g ha rfl (g_move rfl) ?_; clear ha a; intro a ha
  refine op_g ha rfl (g_lss rfl rfl) ?_; clear ha a; intro a ha
  refine wpList_nil ?_
  replace ha := ha.sub (σ' := [(1, (.pointer (some ⟨b1, 0, none⟩))), (11, (.bool (decide (x9 < 0))))]) ⟨rfl, rfl, trivial⟩
  refine e_then ?_
  refine c_cond (x9 < 0) ha rfl (decide_eq_true_iff) (fun hp16 => ?_) (fun hp16 => ?_)
  · replace hF := if_t hp16 hF
    refine wp_seq ?_
    refine wp_region_lit ?_
    refine op_g ha rfl (g_assign rfl) ?_; clear ha a; intro a ha
    refine wpList_nil ?_
    replace ha := ha.sub (σ' := [(2, (.bool true))]) ⟨rfl, trivial⟩
    refine e_then ?_
    refine wp_ret ?_
    refine e_then_ret ?_
    obtain rfl := Option.some.inj hF
    exact f_ret1 ha rfl rfl ⟨rfl, hE15⟩
  · replace hF := if_f hp16 hF
    refine wp_skip ?_
    refine e_then ?_
    refine wp_seq ?_
    refine wp_region_lit ?_
    refine op_g ha rfl (g_loadA (cs := [va0_0]) Try.isAgg24 Try.sizeOf24 rfl (by simp) hB3.all) ?_; clear ha a; intro a ha
    obtain ⟨x17, hc18, hF⟩ := cal_some hF
    refine o_call ha rfl rfl Try.call7 (W_laws_toGraph (ha0_0.ext hE15) hc18) ?_; clear ha a; rintro v19 w20 ⟨u22, b23, fs27, rfl, h24, z25, zf28, nd29, hx21⟩ a ha
    have q30 := Nq.new hB3.fpb z25
    have q31 := Nq.madeF z25 zf28 hB3.bi
    have q32 := Nf.new hB3.fpb zf28
    replace hB3 := hB3.ext hx21
    have hE33 := Ext.trans hE15 hx21
    have q34 := Zn.upD z25 hE15
    have q35 := zf_up zf28 hE15
    obtain ⟨fp36, hro37, hs38⟩ := h24.roF
    obtain ⟨x39, hc40, hF⟩ := cal_some hF
    refine o_call ha rfl rfl Try.call6 (W_spec_ChromaticOf hro37 hc40) ?_; clear ha a; rintro v41 w42 ⟨⟨rfl, hI44⟩, hx43⟩ a ha
    replace hB3 := hB3.ext hx43
    replace h24 := h24.ext hx43
    have hE45 := Ext.trans hE33 hx43
    refine op_g ha rfl (g_assign rfl) ?_; clear ha a; intro a ha
    refine wpList_nil ?_
    replace ha := ha.sub (σ' := [(1, (.pointer (some ⟨b1, 0, none⟩))), (4, (.int .i64 x39))]) ⟨rfl, rfl, trivial⟩
    refine e_then ?_
    refine wp_seq ?_
    refine wp_region_lit ?_
    refine op_g ha rfl (g_loadA (cs := [va0_0]) Try.isAgg24 Try.sizeOf24 rfl (by simp) hB3.all) ?_; clear ha a; intro a ha
    obtain ⟨x46, hc47, hF⟩ := cal_some hF
    refine o_call ha rfl rfl Try.call7 (W_laws_toGraph (ha0_0.ext hE45) hc47) ?_; clear ha a; rintro v48 w49 ⟨u51, b52, fs56, rfl, h53, z54, zf57, nd58, hx50⟩ a ha
    have q59 := Nq.new hB3.fpb z54
    have q60 := Nq.madeF z54 zf57 hB3.bi
    have q61 := Nf.new hB3.fpb zf57
    replace hB3 := hB3.ext hx50
    have hE62 := Ext.trans hE45 hx50
    have q63 := Zn.upD z54 hE45
    have q64 := zf_up zf57 hE45
    refine o_alloc (cs := [(.slice none 0 0)]) ha rfl Try.zeroValue27 rfl ?_; clear ha a; intro b65 w66 hB67 hx68 hlo69 a ha
    have q70 := Zn.one hlo69
    have q71 := Nq.new hB3.fpb q70
    have q72 := Nq.made1 hlo69 hB3.bi
    have q73 := Nq.new h53.fpb q70
    have q74 := Nq.made1 hlo69 h53.blt
    have q75 := Zn.upD q70 hE62
    replace hB3 := hB3.ext hx68
    replace h53 := h53.ext hx68
    have hE76 := Ext.trans hE62 hx68
    refine o_storeA (vs := [u51]) ha hB67 Try.sizeOf27 rfl rfl (by intro c hc; simp only [List.mem_cons, List.not_mem_nil, or_false] at hc; rcases hc with hc <;> subst hc <;> first | rfl | exact h53.oneC) rfl ?_; intro w77 hB78 hc79
    replace hc79 := hc79.bl
    replace hB78 : Bx w77 b65 [u51] 27 := hB78
    replace hB3 := hB3.nq hc79 q71
    replace h53 := h53.nq hc79 q73
    have hE80 := Ext.then hE76 hc79 (Zn.bl q75)
    refine wpList_nil ?_
    replace ha := ha.sub (σ' := [(1, (.pointer (some ⟨b1, 0, none⟩))), (4, (.int .i64 x39)), (5, (.pointer (some ⟨b65, 0, none⟩)))]) ⟨rfl, rfl, rfl, trivial⟩
    refine e_then ?_
    refine wp_seq ?_
    refine wp_region_lit ?_
    refine op_g ha rfl (g_loadA (cs := [u51]) Try.isAgg27 Try.sizeOf27 rfl (by simp) hB78.all) ?_; clear ha a; intro a ha
    obtain ⟨fp81, hro82, hs83⟩ := h53.roF
    obtain ⟨x84, hc85, hF⟩ := cal_some hF
    refine o_call ha rfl rfl Try.call8 (W_impl_ChromaticOf hro82 hc85) ?_; clear ha a; rintro v86 w87 ⟨⟨rfl, hI89⟩, hx88⟩ a ha
    replace hB3 := hB3.ext hx88
    replace h53 := h53.ext hx88
    replace hB78 := hB78.ext hx88
    have hE90 := Ext.trans hE80 hx88
    refine op_g ha rfl (g_assign rfl) ?_; clear ha a; intro a ha
    refine wpList_nil ?_
    replace ha := ha.sub (σ' := [(1, (.pointer (some ⟨b1, 0, none⟩))), (4, (.int .i64 x39)), (5, (.pointer (some ⟨b65, 0, none⟩))), (6, (.int .i64 x84))]) ⟨rfl, rfl, rfl, rfl, trivial⟩
    refine e_then ?_
    refine wp_seq ?_
    refine wp_seq ?_
    refine wp_region_lit ?_
    refine op_g ha rfl (g_move rfl) ?_; clear ha a; intro a ha
    refine op_g ha rfl (g_move rfl) ?_; clear ha a; intro a ha
    refine op_g ha rfl (g_neq rfl rfl) ?_; clear ha a; intro a ha
    refine wpList_nil ?_
    replace ha := ha.sub (σ' := [(1, (.pointer (some ⟨b1, 0, none⟩))), (5, (.pointer (some ⟨b65, 0, none⟩))), (21, (.bool (decide (x84 ≠ x39))))]) ⟨rfl, rfl, rfl, trivial⟩
    refine e_then ?_
    refine c_cond (x84 ≠ x39) ha rfl (decide_eq_true_iff) (fun hp91 => ?_) (fun hp91 => ?_)
    · replace hF := if_t hp91 hF
      refine wp_seq ?_
      refine wp_region_lit ?_
      refine op_g ha rfl (g_assign rfl) ?_; clear ha a; intro a ha
      refine wpList_nil ?_
      replace ha := ha.sub (σ' := [(2, (.bool false))]) ⟨rfl, trivial⟩
      refine e_then ?_
      refine wp_ret ?_
      refine e_then_ret ?_
      obtain rfl := Option.some.inj hF
      exact f_ret1 ha rfl rfl ⟨rfl, hE90⟩
    · replace hF := if_f hp91 hF
      refine wp_skip ?_
      refine e_then ?_
      refine wp_seq ?_
      refine wp_seq ?_
      refine d_region 5 hmix ?_
      refine u_g 0 rfl (by kernel_rfl) (want0 _) ha rfl (g_loadA (cs := [u51]) Try.isAgg27 Try.sizeOf27 rfl (by simp) hB78.all) ?_; clear ha a; intro a ha
      refine u_g 1 rfl (by kernel_rfl) (want0 _) ha rfl (g_loadA (cs := [va0_0]) Try.isAgg24 Try.sizeOf24 rfl (by simp) hB3.all) ?_; clear ha a; intro a ha
      refine u_only 2 rfl (by kernel_rfl) ?_; intro w92 hx93
      replace hB3 := hB3.ext hx93
      replace h53 := h53.ext hx93
      replace hB78 := hB78.ext hx93
      have hE94 := Ext.trans hE90 hx93
      obtain ⟨x95, hc96, hF⟩ := cal_some hF
      refine o_call ha rfl rfl Try.call7 (W_laws_toGraph (ha0_0.ext hE94) hc96) ?_; clear ha a; rintro v97 w98 ⟨u100, b101, fs105, rfl, h102, z103, zf106, nd107, hx99⟩ a ha
      have q108 := Nq.new hB3.fpb z103
      have q109 := Nq.madeF z103 zf106 hB3.bi
      have q110 := Nq.new h53.fpb z103
      have q111 := Nq.madeF z103 zf106 h53.blt
      have q112 := Nq.new hB78.fpb z103
      have q113 := Nq.madeF z103 zf106 hB78.bi
      have q114 := Nf.new hB3.fpb zf106
      have q115 := Nf.new h53.fpb zf106
      have q116 := Nf.old z103 zf106 h53.bnd
      have q117 := Nf.new hB78.fpb zf106
      replace hB3 := hB3.ext hx99
      replace h53 := h53.ext hx99
      replace hB78 := hB78.ext hx99
      have hE118 := Ext.trans hE94 hx99
      have q119 := Zn.upD z103 hE94
      have q120 := zf_up zf106 hE94
      refine wpList_nil (e_sq ?_)
      refine ⟨fun _ => hx99, ?_⟩
      obtain ⟨fp123, hro124, hs125⟩ := h53.roF
      obtain ⟨fp126, hro127, hs128⟩ := h102.roF
      obtain ⟨x129, hc130, hF⟩ := cal_some hF
      refine u_call (.bool x129) 3 rfl (by kernel_rfl) (want0 _) ha rfl rfl Try.call9 (fun w122 hx121 => W_laws_eqGraph (hro124.ext hx121) (hro127.ext hx121) hc130) (fun _ _ _ h => ⟨h.1, h.2⟩) ?_; clear ha a; intro a ha
      refine u_g 4 rfl (by kernel_rfl) (want0 _) ha rfl (g_not rfl) ?_; clear ha a; intro a ha
      refine u_done (by kernel_rfl) ?_; intro w131 hx132
      replace hB3 := hB3.ext hx132
      replace h53 := h53.ext hx132
      replace hB78 := hB78.ext hx132
      replace h102 := h102.ext hx132
      have hE133 := Ext.trans hE118 hx132
      replace ha := ha.sub (σ' := [(26, (.bool (!x129)))]) ⟨rfl, trivial⟩
      refine e_then ?_
      refine c_cond (¬ (x129 = true)) ha rfl (n_iff (Iff.rfl)) (fun hp134 => ?_) (fun hp134 => ?_)
      · replace hF := if_t hp134 hF
        refine wp_seq ?_
        refine wp_region_lit ?_
        refine op_g ha rfl (g_assign rfl) ?_; clear ha a; intro a ha
        refine wpList_nil ?_
        replace ha := ha.sub (σ' := [(2, (.bool false))]) ⟨rfl, trivial⟩
        refine e_then ?_
        refine wp_ret ?_
        refine e_then_ret ?_
        obtain rfl := Option.some.inj hF
        exact f_ret1 ha rfl rfl ⟨rfl, hE133⟩
      · replace hF := if_f hp134 hF
        refine wp_skip ?_
        refine e_then ?_
        refine wp_seq ?_
        refine wp_region_lit ?_
        refine op_g ha rfl (g_assign rfl) ?_; clear ha a; intro a ha
        refine wpList_nil ?_
        replace ha := ha.sub (σ' := [(2, (.bool true))]) ⟨rfl, trivial⟩
        refine e_then ?_
        refine wp_ret ?_
        obtain rfl := Option.some.inj hF
        exact f_ret1 ha rfl rfl ⟨rfl, hE133⟩
end Go.Proofs.Ytgikmgceiiahpab
