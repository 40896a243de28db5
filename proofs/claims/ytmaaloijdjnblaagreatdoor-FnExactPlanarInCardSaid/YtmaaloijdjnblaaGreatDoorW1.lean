/- Walks, printed by gen.py. -/
import Derived.Test.YtmaaloijdjnblaaGreatDoorF
import Derived.Test.YtmaaloijdjnblaaGreatDoorDeep
import Derived.Test.YtmaaloijdjnblaaGreatDoorSorts
import Derived.Test.YtmaaloijdjnblaaGreatDoorTblP
import Derived.Test.YtmaaloijdjnblaaGreatDoorEmb
import Derived.Test.YtmaaloijdjnblaaGreatDoorTbl
import Derived.Test.YtmaaloijdjnblaaGreatDoorDrawE
import Derived.Test.YtmaaloijdjnblaaGreatDoorProg
import Derived.KernelRfl
set_option maxRecDepth 100000
namespace Go.Proofs.YtmaaloijdjnblaaGreatDoor
open Go Go.RowKit

theorem hmix : Tryz.prog.follows .mixedOrders = true := by kernel_rfl
theorem st24_0 : stF Tryz.prog 24 0 = some 0 := by kernel_rfl
theorem sl22 : SlT Tryz.prog 22 39 1 24 (.slice none 0 0) := ⟨by kernel_rfl, by kernel_rfl, by rfl⟩
theorem sl39 : SlT Tryz.prog 39 2 1 8 (.int .i64 0) := ⟨by kernel_rfl, by kernel_rfl, by rfl⟩
theorem st27_0 : stF Tryz.prog 27 0 = some 0 := by kernel_rfl
theorem un2 : Tryz.prog.underlying 2 = some (.int .i64) := by kernel_rfl
theorem un90 : Tryz.prog.underlying 90 = some (.int .u64) := by kernel_rfl
theorem un3 : Tryz.prog.underlying 3 = some (.int .i64) := by kernel_rfl
theorem sl102 : SlT Tryz.prog 102 4 1 1 (.bool false) := ⟨by kernel_rfl, by kernel_rfl, by rfl⟩
theorem st41_0 : stF Tryz.prog 41 0 = some 0 := by kernel_rfl
theorem st41_1 : stF Tryz.prog 41 1 = some 1 := by kernel_rfl
theorem sl46 : SlT Tryz.prog 46 64 1 4 (.int .u32 0) := ⟨by kernel_rfl, by kernel_rfl, by rfl⟩
theorem sl58 : SlT Tryz.prog 58 82 2 16 (.agg #[(.int .i64 0), (.int .i64 0)]) := ⟨by kernel_rfl, by kernel_rfl, by rfl⟩
theorem sl66 : SlT Tryz.prog 66 3 1 8 (.int .i64 0) := ⟨by kernel_rfl, by kernel_rfl, by rfl⟩
theorem un109 : Tryz.prog.underlying 109 = some (.array 32 5) := by kernel_rfl
theorem un5 : Tryz.prog.underlying 5 = some (.int .u8) := by kernel_rfl
theorem un9 : Tryz.prog.underlying 9 = some .string := by kernel_rfl
theorem sl48 : SlT Tryz.prog 48 66 1 24 (.slice none 0 0) := ⟨by kernel_rfl, by kernel_rfl, by rfl⟩
theorem aP82 (s : K2) : ∃ kl, keyOf Tryz.prog 82 (.agg #[.int .i64 s.1.1, .int .i64 s.1.2]) = some kl :=
  asked_ii (P := Tryz.prog) (k := 82) (tu := 3) (fs := ((Tryz.prog.underlying 82).bind fun | .struct fs => some fs | _ => none).getD #[]) (by kernel_rfl) (by kernel_rfl) (by kernel_rfl) (by kernel_rfl) (by kernel_rfl) (by kernel_rfl) (by kernel_rfl) (of_decide_eq_true (by kernel_rfl)) s.2.1 s.2.2
noncomputable def KP82 : Ky Tryz.prog 82 K2 := Ky.ofLaw (fun s => (.agg #[.int .i64 s.1.1, .int .i64 s.1.2])) k2_inj aP82 (deep_law_laid (m := 2) (by kernel_rfl) (by omega) (of_decide_eq_true (by kernel_rfl)) (by kernel_rfl) (by kernel_rfl))
theorem kP82 (a : K2) : KP82.kv a = (.agg #[.int .i64 a.1.1, .int .i64 a.1.2]) := rfl
theorem uM84 : Tryz.prog.underlying 84 = some (.map 82 3) := by kernel_rfl
theorem sl49 : SlT Tryz.prog 49 66 1 24 (.slice none 0 0) := ⟨by kernel_rfl, by kernel_rfl, by rfl⟩
theorem st82_0 : stF Tryz.prog 82 0 = some 0 := by kernel_rfl
theorem st82_1 : stF Tryz.prog 82 1 = some 1 := by kernel_rfl
theorem st33_0 : stF Tryz.prog 33 0 = some 0 := by kernel_rfl
theorem st61_0 : stF Tryz.prog 61 0 = some 0 := by kernel_rfl
theorem st61_1 : stF Tryz.prog 61 1 = some 1 := by kernel_rfl
theorem st61_2 : stF Tryz.prog 61 2 = some 2 := by kernel_rfl
theorem un4 : Tryz.prog.underlying 4 = some .bool := by kernel_rfl
set_option maxHeartbeats 2000000 in
theorem W_laws_szInt64S {W : World} {va0 : Value} {fa0 : List Nat} {a0 : (List Int)} (ha0 : Ro Rp.int W fa0 va0 a0) {a1 : Int} (ha1 : InI a1) {r : Int} (hF : F_laws_szInt64S a0 a1 = some r) :
    Calls Tryz.prog 14 [va0, .int .i64 a1].toArray W (Ret fun u w' => (u = .int .i64 r ∧ InI r) ∧ Ext W w') := by
  refine f_enter Tryz.func14 rfl Tryz.ntmps14 rfl ?_
  intro a ha
  replace ha : Fr 12 [(0, va0), (1, (.int .i64 a1))] a := ha
  have hE : Chg [] W W := Chg.refl _ _
  unfold F_laws_szInt64S at hF
  refine wp_seq ?_; refine wp_region_lit ?_; refine op_g ha rfl (g_assign rfl) ?_; clear ha a; intro a ha; refine wpList_nil ?_; replace ha := ha.sub (σ' := [(0, va0), (1, (.int .i64 a1))]) ⟨rfl, rfl, trivial⟩; refine e_then ?_; refine wp_seq ?_; refine wp_region_lit ?_; (iterate 2 refine op_g ha rfl (g_move rfl) ?_; clear ha a; intro a ha); refine op_g ha rfl (g_lenR sl39.und ha0 rfl) ?_; clear ha a; intro a ha; obtain ⟨hI1, hF⟩ := ck_some hF; refine op_g ha rfl (g_sub rfl rfl hI1) ?_; clear ha a; intro a ha; refine op_g ha rfl (g_assign rfl) ?_; clear ha a; intro a ha; refine wpList_nil ?_; replace ha := ha.sub (σ' := [(1, (.int .i64 (a1 - (a0.length : Int))))]) ⟨rfl, trivial⟩
  refine e_then ?_; refine wp_seq ?_; refine wp_seq ?_; refine wp_region_lit ?_; refine op_g ha rfl (g_move rfl) ?_; clear ha a; intro a ha; refine op_g ha rfl (g_lss rfl rfl) ?_; clear ha a; intro a ha; refine wpList_nil ?_; replace ha := ha.sub (σ' := [(1, (.int .i64 (a1 - (a0.length : Int)))), (10, (.bool (decide ((a1 - (a0.length : Int)) < 0))))]) ⟨rfl, rfl, trivial⟩; refine e_then ?_; refine c_cond ((a1 - (a0.length : Int)) < 0) ha rfl (decide_eq_true_iff) (fun hp3 => ?_) (fun hp3 => ?_)
  · replace hF := if_t hp3 hF
    refine wp_seq ?_; refine wp_region_lit ?_; refine op_g ha rfl (g_assign rfl) ?_; clear ha a; intro a ha; refine wpList_nil ?_; replace ha := ha.sub (σ' := [(4, (.int .i64 (-1)))]) ⟨rfl, trivial⟩; refine e_then ?_; refine wp_ret ?_; refine e_then_ret ?_; obtain rfl := Option.some.inj hF
    exact f_ret1 ha rfl rfl ⟨⟨rfl, (show InI (-1) from by decide)⟩, hE⟩
  replace hF := if_f hp3 hF; refine wp_skip ?_; refine e_then ?_; refine wp_seq ?_; refine wp_region_lit ?_; refine op_g ha rfl (g_move rfl) ?_; clear ha a; intro a ha; refine op_g ha rfl (g_assign rfl) ?_; clear ha a; intro a ha; refine wpList_nil ?_; replace ha := ha.sub (σ' := [(4, (.int .i64 (a1 - (a0.length : Int))))]) ⟨rfl, trivial⟩; refine e_then ?_; refine wp_ret ?_; obtain rfl := Option.some.inj hF
  exact f_ret1 ha rfl rfl ⟨⟨rfl, hI1⟩, hE⟩
set_option maxHeartbeats 2000000 in
theorem W_laws_szInt64SS {W : World} {va0 : Value} {fa0 : List Nat} {a0 : (List (List Int))} (ha0 : Ro (Rp.sl 2 Rp.int) W fa0 va0 a0) {a1 : Int} (ha1 : InI a1) {r : Int} (hF : F_laws_szInt64SS a0 a1 = some r) :
    Calls Tryz.prog 9 [va0, .int .i64 a1].toArray W (Ret fun u w' => (u = .int .i64 r ∧ InI r) ∧ Ext W w') := by
  refine f_enter Tryz.func9 rfl Tryz.ntmps9 rfl ?_
  intro a ha
  replace ha : Fr 27 [(0, va0), (1, (.int .i64 a1))] a := ha
  have hE : Chg [] W W := Chg.refl _ _
  unfold F_laws_szInt64SS at hF
  refine wp_seq ?_; refine wp_region_lit ?_; refine op_g ha rfl (g_assign rfl) ?_; clear ha a; intro a ha; refine wpList_nil ?_; replace ha := ha.sub (σ' := [(0, va0), (1, (.int .i64 a1))]) ⟨rfl, rfl, trivial⟩; refine e_then ?_; refine wp_seq ?_; refine wp_region_lit ?_; (iterate 2 refine op_g ha rfl (g_move rfl) ?_; clear ha a; intro a ha); refine op_g ha rfl (g_lenR sl22.und ha0 rfl) ?_; clear ha a; intro a ha; obtain ⟨hI1, hF⟩ := ck_some hF; refine op_g ha rfl (g_sub rfl rfl hI1) ?_; clear ha a; intro a ha; refine op_g ha rfl (g_assign rfl) ?_; clear ha a; intro a ha; refine wpList_nil ?_; replace ha := ha.sub (σ' := [(0, va0), (1, (.int .i64 (a1 - (a0.length : Int))))]) ⟨rfl, rfl, trivial⟩
  refine e_then ?_; refine wp_seq ?_; refine wp_seq ?_; refine wp_region_lit ?_; refine op_g ha rfl (g_move rfl) ?_; clear ha a; intro a ha; refine op_g ha rfl (g_lss rfl rfl) ?_; clear ha a; intro a ha; refine wpList_nil ?_; replace ha := ha.sub (σ' := [(0, va0), (1, (.int .i64 (a1 - (a0.length : Int)))), (11, (.bool (decide ((a1 - (a0.length : Int)) < 0))))]) ⟨rfl, rfl, rfl, trivial⟩; refine e_then ?_; refine c_cond ((a1 - (a0.length : Int)) < 0) ha rfl (decide_eq_true_iff) (fun hp3 => ?_) (fun hp3 => ?_)
  · replace hF := if_t hp3 hF
    refine wp_seq ?_; refine wp_region_lit ?_; refine op_g ha rfl (g_assign rfl) ?_; clear ha a; intro a ha; refine wpList_nil ?_; replace ha := ha.sub (σ' := [(4, (.int .i64 (-1)))]) ⟨rfl, trivial⟩; refine e_then ?_; refine wp_ret ?_; refine e_then_ret ?_; obtain rfl := Option.some.inj hF
    exact f_ret1 ha rfl rfl ⟨⟨rfl, (show InI (-1) from by decide)⟩, hE⟩
  replace hF := if_f hp3 hF; refine wp_skip ?_; refine e_then ?_; refine wp_seq ?_; refine wp_seq ?_; refine wp_region_lit ?_; refine op_g ha rfl (g_assign rfl) ?_; clear ha a; intro a ha; refine wpList_nil ?_; replace ha := ha.sub (σ' := [(0, va0), (1, (.int .i64 (a1 - (a0.length : Int)))), (5, (.int .i64 0))]) ⟨rfl, rfl, rfl, trivial⟩; refine e_then ?_; obtain ⟨o75, ho76, hK77⟩ := bnd_some hF
  obtain ⟨n78, hn79⟩ := lp_some ho76; clear ho76
  refine c_loop (fun a w => ∃ (i73 : Int), Fr 27 [(1, (.int .i64 i73))] a ∧ Chg [] W w ∧ InI i73 ∧ o75 = .inl i73) (fun n a w => ∃ (i37 : Int) (i39 : Int), Fr 27 [(0, va0), (1, (.int .i64 i37)), (5, (.int .i64 i39))] a ∧ Chg [] W w ∧ InI i37 ∧ InI i39 ∧ lpN (fun s => F_laws_szInt64SS_l1 a0 s.1 s.2) n (i37, i39) = some o75) n78 ⟨a1 - (a0.length : Int), 0, ha.sub ⟨rfl, rfl, rfl, trivial⟩, hE, hI1, (show InI 0 from by decide), hn79⟩ ?_ ?_
  · rintro m83 a w36 ⟨i37, i39, ha, hE41, hI38, hI40, hF⟩
    cases m83 with
    | zero => exact (lpN_zero hF).elim
    | succ m83 =>
      obtain ⟨z82, hF, hN81⟩ := lpN_succ hF
      have hF : F_laws_szInt64SS_l1 a0 i37 i39 = some z82 := hF; unfold F_laws_szInt64SS_l1 at hF
      refine wp_seq ?_; refine wp_seq ?_; refine wp_region_lit ?_; (iterate 2 refine op_g ha rfl (g_move rfl) ?_; clear ha a; intro a ha); refine op_g ha rfl (g_lenR sl22.und ha0 rfl) ?_; clear ha a; intro a ha; refine op_g ha rfl (g_lss rfl rfl) ?_; clear ha a; intro a ha; refine wpList_nil ?_; replace ha := ha.sub (σ' := [(0, va0), (1, (.int .i64 i37)), (5, (.int .i64 i39)), (15, (.bool (decide (i39 < (a0.length : Int)))))]) ⟨rfl, rfl, rfl, rfl, trivial⟩; refine e_then ?_; refine c_cond (i39 < (a0.length : Int)) ha rfl (decide_eq_true_iff) (fun hp84 => ?_) (fun hp84 => ?_)
      · replace hF := if_t hp84 hF
        refine wp_skip ?_; refine e_then ?_; refine wp_seq ?_; refine wp_block ?_; refine wp_seq ?_; refine wp_region_lit ?_; (iterate 2 refine op_g ha rfl (g_move rfl) ?_; clear ha a; intro a ha); obtain ⟨x85, g86, gx87, hF⟩ := idx_some hF
        obtain ⟨p88, cs89, f90, hf91, hpb92, hat93, hr94, hi95⟩ := ha0.at g86 gx87
        obtain ⟨v96, rfl, h97⟩ := hr94
        have h97 : Ro Rp.int W f90 v96 x85 := h97
        refine op_g ha rfl (hi95.gives sl22 rfl rfl) ?_; clear ha a; intro a ha; refine op_g ha rfl (g_load0 hE41 Tryz.isAgg39 rfl hat93.one) ?_; clear ha a; intro a ha; refine op_g ha rfl (g_move rfl) ?_; clear ha a; intro a ha; obtain ⟨x99, hc100, hF⟩ := cal_some hF
        refine o_call ha rfl rfl Tryz.call14 (W_laws_szInt64S (h97.ext hE41) hI38 hc100) ?_; clear ha a; rintro v101 w102 ⟨⟨rfl, hI104⟩, hx103⟩ a ha
        have hE105 := Ext.trans hE41 hx103
        refine op_g ha rfl (g_assign rfl) ?_; clear ha a; intro a ha; refine wpList_nil ?_; replace ha := ha.sub (σ' := [(0, va0), (1, (.int .i64 x99)), (5, (.int .i64 i39))]) ⟨rfl, rfl, rfl, trivial⟩; refine e_then ?_; refine wp_seq ?_; refine wp_region_lit ?_; refine op_g ha rfl (g_move rfl) ?_; clear ha a; intro a ha; refine op_g ha rfl (g_lss rfl rfl) ?_; clear ha a; intro a ha; refine wpList_nil ?_; replace ha := ha.sub (σ' := [(0, va0), (1, (.int .i64 x99)), (5, (.int .i64 i39)), (25, (.bool (decide (x99 < 0))))]) ⟨rfl, rfl, rfl, rfl, trivial⟩; refine e_then ?_; refine c_cond (x99 < 0) ha rfl (decide_eq_true_iff) (fun hp106 => ?_) (fun hp106 => ?_)
        · replace hF := if_t hp106 hF
          refine wp_seq ?_; refine wp_region_lit ?_; refine op_g ha rfl (g_assign rfl) ?_; clear ha a; intro a ha; refine wpList_nil ?_; replace ha := ha.sub (σ' := [(4, (.int .i64 (-1)))]) ⟨rfl, trivial⟩; refine e_then ?_; refine wp_ret ?_; refine e_blk_ret ?_; refine e_then_ret ?_; refine e_lq_ret ?_; refine e_then_ret ?_; obtain rfl := Option.some.inj hF
          have e107 := LK_inr hN81; subst e107
          have e108 := BK_inr hK77; subst e108
          exact f_ret1 ha rfl rfl ⟨⟨rfl, (show InI (-1) from by decide)⟩, hE105⟩
        replace hF := if_f hp106 hF; refine wp_skip ?_; refine e_blk ?_; refine e_then ?_; refine wp_region_lit ?_; refine op_g ha rfl (g_move rfl) ?_; clear ha a; intro a ha; obtain ⟨hI109, hF⟩ := ck_some hF; refine op_g ha rfl (g_add rfl rfl hI109) ?_; clear ha a; intro a ha; refine op_g ha rfl (g_assign rfl) ?_; clear ha a; intro a ha; refine wpList_nil ?_; replace ha := ha.sub (σ' := [(0, va0), (1, (.int .i64 x99)), (5, (.int .i64 (i39 + 1)))]) ⟨rfl, rfl, rfl, trivial⟩; refine e_lq ?_; obtain rfl := Option.some.inj hF
        exact ⟨_, Nat.lt_succ_self _, x99, i39 + 1, ha.sub ⟨rfl, rfl, rfl, trivial⟩, hE105, hI104, hI109, hN81⟩
      replace hF := if_f hp84 hF; refine wp_exit ?_; refine e_then_exit ?_; refine e_lq_eq ?_; obtain rfl := Option.some.inj hF
      exact ⟨i37, ha.sub ⟨rfl, trivial⟩, hE41, hI38, (LK_inr hN81).symm⟩
  rintro a w72 ⟨i73, ha, hE80, hI74, rfl⟩
  have hF : F_laws_szInt64SS_k2 i73 = some _ := hK77; clear hK77; unfold F_laws_szInt64SS_k2 at hF
  refine e_then ?_; refine wp_seq ?_; refine wp_region_lit ?_; refine op_g ha rfl (g_move rfl) ?_; clear ha a; intro a ha; refine op_g ha rfl (g_assign rfl) ?_; clear ha a; intro a ha; refine wpList_nil ?_; replace ha := ha.sub (σ' := [(4, (.int .i64 i73))]) ⟨rfl, trivial⟩; refine e_then ?_; refine wp_ret ?_; obtain rfl := Option.some.inj hF
  exact f_ret1 ha rfl rfl ⟨⟨rfl, hI74⟩, hE80⟩
set_option maxHeartbeats 2000000 in
theorem W_laws_szGraph {W : World} {va0_0 : Value} {fa0_0 : List Nat} {a0_0 : (List (List Int))} (ha0_0 : Ro (Rp.sl 2 Rp.int) W fa0_0 va0_0 a0_0) {a1 : Int} (ha1 : InI a1) {r : Int} (hF : F_laws_szGraph a0_0 a1 = some r) :
    Calls Tryz.prog 4 [.agg #[va0_0], .int .i64 a1].toArray W (Ret fun u w' => (u = .int .i64 r ∧ InI r) ∧ Ext W w') := by
  refine f_enter Tryz.func4 rfl Tryz.ntmps4 rfl ?_
  intro a ha
  replace ha : Fr 12 [(0, (.agg #[va0_0])), (1, (.int .i64 a1))] a := ha
  have hE : Chg [] W W := Chg.refl _ _
  unfold F_laws_szGraph at hF
  refine wp_seq ?_; refine wp_region_lit ?_
  refine o_box ha rfl rfl rfl ?_; clear ha a; intro b1 w2 hB3 hx4 hlo5 a ha
  have q6 := Zn.one hlo5
  have q7 := Zn.upD q6 hE
  have hE8 := Ext.trans hE hx4
  refine op_g ha rfl (g_assign rfl) ?_; clear ha a; intro a ha; refine wpList_nil ?_; replace ha := ha.sub (σ' := [(1, (.int .i64 a1)), (2, (.pointer (some ⟨b1, 0, none⟩)))]) ⟨rfl, rfl, trivial⟩; refine e_then ?_; refine wp_seq ?_; refine wp_region_lit ?_; refine op_g ha rfl (g_field0 st24_0 rfl) ?_; clear ha a; intro a ha; refine op_g ha rfl (g_load Tryz.isAgg22 rfl (hB3.cell rfl)) ?_; clear ha a; intro a ha; refine op_g ha rfl (g_move rfl) ?_; clear ha a; intro a ha; obtain ⟨x9, hc10, hF⟩ := cal_some hF
  refine o_call ha rfl rfl Tryz.call9 (W_laws_szInt64SS (ha0_0.ext hE8) ha1 hc10) ?_; clear ha a; rintro v11 w12 ⟨⟨rfl, hI14⟩, hx13⟩ a ha
  replace hB3 := hB3.ext hx13
  have hE15 := Ext.trans hE8 hx13
  refine op_g ha rfl (g_assign rfl) ?_; clear ha a; intro a ha; refine wpList_nil ?_; replace ha := ha.sub (σ' := [(1, (.int .i64 x9))]) ⟨rfl, trivial⟩; refine e_then ?_; refine wp_seq ?_; refine wp_seq ?_; refine wp_region_lit ?_; refine op_g ha rfl (g_move rfl) ?_; clear ha a; intro a ha; refine op_g ha rfl (g_lss rfl rfl) ?_; clear ha a; intro a ha; refine wpList_nil ?_; replace ha := ha.sub (σ' := [(1, (.int .i64 x9)), (10, (.bool (decide (x9 < 0))))]) ⟨rfl, rfl, trivial⟩; refine e_then ?_; refine c_cond (x9 < 0) ha rfl (decide_eq_true_iff) (fun hp16 => ?_) (fun hp16 => ?_)
  · replace hF := if_t hp16 hF
    refine wp_seq ?_; refine wp_region_lit ?_; refine op_g ha rfl (g_assign rfl) ?_; clear ha a; intro a ha; refine wpList_nil ?_; replace ha := ha.sub (σ' := [(4, (.int .i64 (-1)))]) ⟨rfl, trivial⟩; refine e_then ?_; refine wp_ret ?_; refine e_then_ret ?_; obtain rfl := Option.some.inj hF
    exact f_ret1 ha rfl rfl ⟨⟨rfl, (show InI (-1) from by decide)⟩, hE15⟩
  replace hF := if_f hp16 hF; refine wp_skip ?_; refine e_then ?_; refine wp_seq ?_; refine wp_region_lit ?_; refine op_g ha rfl (g_move rfl) ?_; clear ha a; intro a ha; refine op_g ha rfl (g_assign rfl) ?_; clear ha a; intro a ha; refine wpList_nil ?_; replace ha := ha.sub (σ' := [(4, (.int .i64 x9))]) ⟨rfl, trivial⟩; refine e_then ?_; refine wp_ret ?_; obtain rfl := Option.some.inj hF
  exact f_ret1 ha rfl rfl ⟨⟨rfl, hI14⟩, hE15⟩
set_option maxHeartbeats 2000000 in
theorem W_laws_toInt64S {W : World} {va0 : Value} {fa0 : List Nat} {a0 : (List Int)} (ha0 : Ro Rp.int W fa0 va0 a0) {r : (List Int)} (hF : F_laws_toInt64S a0 = some r) :
    Calls Tryz.prog 17 [va0].toArray W (Ret fun u w' => ∃ (b_u : Int), Ow Rp.int 2 true w' [] b_u u r ∧ Zn W b_u ∧ Ext W w') := by
  refine f_enter Tryz.func17 rfl Tryz.ntmps17 rfl ?_
  intro a ha
  replace ha : Fr 22 [(0, va0)] a := ha
  have hE : Chg [] W W := Chg.refl _ _
  unfold F_laws_toInt64S at hF
  refine wp_seq ?_; refine wp_region_lit ?_; refine op_g ha rfl (g_assign rfl) ?_; clear ha a; intro a ha; refine wpList_nil ?_; replace ha := ha.sub (σ' := [(0, va0)]) ⟨rfl, trivial⟩; refine e_then ?_; refine wp_seq ?_; refine wp_region_lit ?_; refine op_g ha rfl (g_move rfl) ?_; clear ha a; intro a ha; refine op_g ha rfl (g_lenR sl39.und ha0 rfl) ?_; clear ha a; intro a ha; obtain ⟨g5, g5b, hF⟩ := mkS_some hF
  refine o_make (z0 := (0 : Int)) Rp.int ha rfl sl39 rfl (fun w => ⟨rfl, by decide, rfl⟩) rfl g5 g5b ?_; clear ha a; intro v1 w2 h3 hx4 a ha
  obtain ⟨b8, hb8⟩ : ∃ b : Int, b = W.heap.size := ⟨_, rfl⟩; rw [← hb8] at h3
  have q9 := zn_of hb8
  have q10 := Zn.upD q9 hE
  have hE11 := Ext.trans hE hx4
  refine op_g ha rfl (g_assign rfl) ?_; clear ha a; intro a ha; refine wpList_nil ?_; replace ha := ha.sub (σ' := [(0, va0), (3, v1)]) ⟨rfl, rfl, trivial⟩; refine e_then ?_; refine wp_seq ?_; refine wp_seq ?_; refine wp_region_lit ?_; refine op_g ha rfl (g_assign rfl) ?_; clear ha a; intro a ha; refine wpList_nil ?_; refine e_then ?_; obtain ⟨o118, ho119, hK120⟩ := bnd_some hF
  obtain ⟨n121, hn122⟩ := lp_some ho119; clear ho119
  refine c_loop (fun a w => ∃ (l115 : (List Int)) (v116 : Value) (b117 : Int), Fr 22 [(3, v116)] a ∧ Chg [] W w ∧ Ow Rp.int 2 true w [] b117 v116 l115 ∧ Zn W b117 ∧ o118 = .inl l115) (fun n a w => ∃ (l63 : (List Int)) (i66 : Int) (v64 : Value) (b65 : Int), Fr 22 [(0, va0), (3, v64), (4, (.int .i64 i66))] a ∧ Chg [] W w ∧ InI i66 ∧ Ow Rp.int 2 true w [] b65 v64 l63 ∧ Zn W b65 ∧ lpN (fun s => F_laws_toInt64S_l1 a0 s.1 s.2) n (l63, i66) = some o118) n121 ⟨(List.replicate ((a0.length : Int) : Int).toNat (0 : Int)), 0, v1, b8, ha.sub ⟨rfl, rfl, rfl, trivial⟩, hE11, (show InI 0 from by decide), h3, q10, hn122⟩ ?_ ?_
  · rintro m126 a w59 ⟨l63, i66, v64, b65, ha, hE68, hI67, h61, z62, hF⟩
    cases m126 with
    | zero => exact (lpN_zero hF).elim
    | succ m126 =>
      obtain ⟨z125, hF, hN124⟩ := lpN_succ hF
      have hF : F_laws_toInt64S_l1 a0 l63 i66 = some z125 := hF; unfold F_laws_toInt64S_l1 at hF
      refine wp_seq ?_; refine wp_seq ?_; refine wp_region_lit ?_; (iterate 2 refine op_g ha rfl (g_move rfl) ?_; clear ha a; intro a ha); refine op_g ha rfl (g_lenR sl39.und ha0 rfl) ?_; clear ha a; intro a ha; refine op_g ha rfl (g_lss rfl rfl) ?_; clear ha a; intro a ha; refine wpList_nil ?_; replace ha := ha.sub (σ' := [(0, va0), (3, v64), (4, (.int .i64 i66)), (11, (.bool (decide (i66 < (a0.length : Int)))))]) ⟨rfl, rfl, rfl, rfl, trivial⟩; refine e_then ?_; refine c_cond (i66 < (a0.length : Int)) ha rfl (decide_eq_true_iff) (fun hp127 => ?_) (fun hp127 => ?_)
      · replace hF := if_t hp127 hF
        refine wp_skip ?_; refine e_then ?_; refine wp_seq ?_; refine wp_block ?_; refine wp_region_lit ?_; (iterate 4 refine op_g ha rfl (g_move rfl) ?_; clear ha a; intro a ha); obtain ⟨x128, g129, gx130, hF⟩ := idx_some hF
        obtain ⟨p131, cs132, f133, hf134, hpb135, hat136, hr137, hi138⟩ := ha0.at g129 gx130
        obtain ⟨rfl, hI139, rfl⟩ := hr137
        refine op_g ha rfl (hi138.gives sl39 rfl rfl) ?_; clear ha a; intro a ha; refine op_g ha rfl (g_load0 hE68 Tryz.isAgg2 rfl hat136.one) ?_; clear ha a; intro a ha; obtain ⟨x140, g141, gx142, hF⟩ := idx_some hF
        obtain ⟨p143, cs144, f145, hf146, hpb147, hat148, hr149, hi150⟩ := h61.at g141 gx142
        obtain ⟨rfl, hI151, rfl⟩ := hr149
        refine op_g ha rfl (hi150.gives sl39 rfl rfl) ?_; clear ha a; intro a ha
        refine o_storeE (f := []) (q := x128) ha Tryz.sizeOf2 rfl rfl rfl h61 hi150 ⟨rfl, hI139, rfl⟩ (Nq.nil _) ?_; intro w152 fs153 h154 hc155 hs156
        obtain rfl := Subst.nil hs156
        have hE157 := Ext.then hE68 hc155 (Zn.bl z62)
        refine wpList_nil ?_; replace ha := ha.sub (σ' := [(0, va0), (3, v64), (4, (.int .i64 i66))]) ⟨rfl, rfl, rfl, trivial⟩; refine e_blk ?_; refine e_then ?_; refine wp_region_lit ?_; refine op_g ha rfl (g_move rfl) ?_; clear ha a; intro a ha; obtain ⟨hI158, hF⟩ := ck_some hF; refine op_g ha rfl (g_add rfl rfl hI158) ?_; clear ha a; intro a ha; refine op_g ha rfl (g_assign rfl) ?_; clear ha a; intro a ha; refine wpList_nil ?_; replace ha := ha.sub (σ' := [(0, va0), (3, v64), (4, (.int .i64 (i66 + 1)))]) ⟨rfl, rfl, rfl, trivial⟩; refine e_lq ?_; obtain rfl := Option.some.inj hF
        exact ⟨_, Nat.lt_succ_self _, (l63.set ((i66 : Int).toNat) x128), i66 + 1, v64, b65, ha.sub ⟨rfl, rfl, rfl, trivial⟩, hE157, hI158, h154, z62, hN124⟩
      replace hF := if_f hp127 hF; refine wp_exit ?_; refine e_then_exit ?_; refine e_lq_eq ?_; obtain rfl := Option.some.inj hF
      exact ⟨l63, v64, b65, ha.sub ⟨rfl, trivial⟩, hE68, h61, z62, (LK_inr hN124).symm⟩
  rintro a w111 ⟨l115, v116, b117, ha, hE123, h113, z114, rfl⟩
  have hF : F_laws_toInt64S_k2 l115 = some _ := hK120; clear hK120; unfold F_laws_toInt64S_k2 at hF
  refine e_then ?_; refine wp_seq ?_; refine wp_region_lit ?_; refine op_g ha rfl (g_move rfl) ?_; clear ha a; intro a ha; refine op_g ha rfl (g_assign rfl) ?_; clear ha a; intro a ha; refine wpList_nil ?_; replace ha := ha.sub (σ' := [(2, v116)]) ⟨rfl, trivial⟩; refine e_then ?_; refine wp_ret ?_; obtain rfl := Option.some.inj hF
  exact f_ret1 ha rfl rfl ⟨_, h113, z114, hE123⟩
set_option maxHeartbeats 2000000 in
theorem W_laws_toInt64SS {W : World} {va0 : Value} {fa0 : List Nat} {a0 : (List (List Int))} (ha0 : Ro (Rp.sl 2 Rp.int) W fa0 va0 a0) {r : (List (List Int))} (hF : F_laws_toInt64SS a0 = some r) :
    Calls Tryz.prog 11 [va0].toArray W (Ret fun u w' => ∃ (b_u : Int) (fs_u : List Nat), Ow (Rp.sl 2 Rp.int) 39 true w' fs_u b_u u r ∧ Zn W b_u ∧ (∀ k ∈ fs_u, W.heap.size ≤ k) ∧ (bl b_u ++ fs_u).Nodup ∧ Ext W w') := by
  refine f_enter Tryz.func11 rfl Tryz.ntmps11 rfl ?_
  intro a ha
  replace ha : Fr 23 [(0, va0)] a := ha
  have hE : Chg [] W W := Chg.refl _ _
  unfold F_laws_toInt64SS at hF
  refine wp_seq ?_; refine wp_region_lit ?_; refine op_g ha rfl (g_assign rfl) ?_; clear ha a; intro a ha; refine wpList_nil ?_; replace ha := ha.sub (σ' := [(0, va0)]) ⟨rfl, trivial⟩; refine e_then ?_; refine wp_seq ?_; refine wp_region_lit ?_; refine op_g ha rfl (g_move rfl) ?_; clear ha a; intro a ha; refine op_g ha rfl (g_lenR sl22.und ha0 rfl) ?_; clear ha a; intro a ha; obtain ⟨g5, g5b, hF⟩ := mkS_some hF
  refine o_make (z0 := ([] : (List Int))) (Rp.sl 2 Rp.int) ha rfl sl22 rfl (fun w => nil_rep w) rfl g5 g5b ?_; clear ha a; intro v1 w2 h3 hx4 a ha
  obtain ⟨b8, hb8⟩ : ∃ b : Int, b = W.heap.size := ⟨_, rfl⟩; rw [← hb8] at h3
  have q9 := zn_of hb8
  have q10 := Zn.upD q9 hE
  have hE11 := Ext.trans hE hx4
  refine op_g ha rfl (g_assign rfl) ?_; clear ha a; intro a ha; refine wpList_nil ?_; replace ha := ha.sub (σ' := [(0, va0), (3, v1)]) ⟨rfl, rfl, trivial⟩; refine e_then ?_; refine wp_seq ?_; refine wp_seq ?_; refine wp_region_lit ?_; refine op_g ha rfl (g_assign rfl) ?_; clear ha a; intro a ha; refine wpList_nil ?_; refine e_then ?_; obtain ⟨o181, ho182, hK183⟩ := bnd_some hF
  obtain ⟨n184, hn185⟩ := lp_some ho182; clear ho182
  refine c_loop (fun a w => ∃ (l178 : (List (List Int))) (fs175 : List Nat) (v179 : Value) (b180 : Int), Fr 23 [(3, v179)] a ∧ Chg [] W w ∧ Ow (Rp.sl 2 Rp.int) 39 true w fs175 b180 v179 l178 ∧ Zn W b180 ∧ (∀ k ∈ fs175, W.heap.size ≤ k) ∧ (bl b180 ++ fs175).Nodup ∧ o181 = .inl l178) (fun n a w => ∃ (l96 : (List (List Int))) (i99 : Int) (fs93 : List Nat) (v97 : Value) (b98 : Int), Fr 23 [(0, va0), (3, v97), (4, (.int .i64 i99))] a ∧ Chg [] W w ∧ InI i99 ∧ Ow (Rp.sl 2 Rp.int) 39 true w fs93 b98 v97 l96 ∧ Zn W b98 ∧ (∀ k ∈ fs93, W.heap.size ≤ k) ∧ (bl b98 ++ fs93).Nodup ∧ lpN (fun s => F_laws_toInt64SS_l1 a0 s.1 s.2) n (l96, i99) = some o181) n184 ⟨(List.replicate ((a0.length : Int) : Int).toNat ([] : (List Int))), 0, [], v1, b8, ha.sub ⟨rfl, rfl, rfl, trivial⟩, hE11, (show InI 0 from by decide), h3, q10, (zf_nil _), (bl_nodup b8), hn185⟩ ?_ ?_
  · rintro m189 a w89 ⟨l96, i99, fs93, v97, b98, ha, hE101, hI100, h91, z92, zf94, nd95, hF⟩
    cases m189 with
    | zero => exact (lpN_zero hF).elim
    | succ m189 =>
      obtain ⟨z188, hF, hN187⟩ := lpN_succ hF
      have hF : F_laws_toInt64SS_l1 a0 l96 i99 = some z188 := hF; unfold F_laws_toInt64SS_l1 at hF
      refine wp_seq ?_; refine wp_seq ?_; refine wp_region_lit ?_; (iterate 2 refine op_g ha rfl (g_move rfl) ?_; clear ha a; intro a ha); refine op_g ha rfl (g_lenR sl22.und ha0 rfl) ?_; clear ha a; intro a ha; refine op_g ha rfl (g_lss rfl rfl) ?_; clear ha a; intro a ha; refine wpList_nil ?_; replace ha := ha.sub (σ' := [(0, va0), (3, v97), (4, (.int .i64 i99)), (11, (.bool (decide (i99 < (a0.length : Int)))))]) ⟨rfl, rfl, rfl, rfl, trivial⟩; refine e_then ?_; refine c_cond (i99 < (a0.length : Int)) ha rfl (decide_eq_true_iff) (fun hp190 => ?_) (fun hp190 => ?_)
      · replace hF := if_t hp190 hF
        refine wp_skip ?_; refine e_then ?_; refine wp_seq ?_; refine wp_block ?_; refine wp_region_lit ?_; (iterate 4 refine op_g ha rfl (g_move rfl) ?_; clear ha a; intro a ha); obtain ⟨x191, g192, gx193, hF⟩ := idx_some hF
        obtain ⟨p194, cs195, f196, hf197, hpb198, hat199, hr200, hi201⟩ := ha0.at g192 gx193
        obtain ⟨v202, rfl, h203⟩ := hr200
        have h203 : Ro Rp.int W f196 v202 x191 := h203
        refine op_g ha rfl (hi201.gives sl22 rfl rfl) ?_; clear ha a; intro a ha; refine op_g ha rfl (g_load0 hE101 Tryz.isAgg39 rfl hat199.one) ?_; clear ha a; intro a ha; obtain ⟨x205, hc206, hF⟩ := cal_some hF
        refine o_call ha rfl rfl Tryz.call17 (W_laws_toInt64S (h203.ext hE101) hc206) ?_; clear ha a; rintro v207 w208 ⟨b210, h211, z212, hx209⟩ a ha
        have q214 := Nq.new h91.fpb z212
        have q215 := Nq.madeO z212 h91.blt
        have q216 := Nf.old z212 (zf_nil _) h91.bnd
        replace h91 := h91.ext hx209
        have hE217 := Ext.trans hE101 hx209
        have q218 := Zn.upD z212 hE101
        obtain ⟨x219, g220, gx221, hF⟩ := idx_some hF
        obtain ⟨p222, cs223, f224, hf225, hpb226, hat227, hr228, hi229⟩ := h91.at g220 gx221
        replace hr228 := (Rp.sl 2 Rp.int).weak hr228
        obtain ⟨v230, rfl, h231⟩ := hr228
        have h231 : Ro Rp.int w208 f224 v230 x219 := h231
        have q233 := Nq.mono q214 (fun k hk => List.mem_append_right (bl b98) (hf225 k hk))
        have q234 := Nq.mono (Ow.ne h91) hf225
        refine op_g ha rfl (hi229.gives sl22 rfl rfl) ?_; clear ha a; intro a ha
        refine o_storeE (f := (bl b210 ++ [])) (q := x205) ha Tryz.sizeOf39 rfl rfl h211.cells h91 hi229 (Rp.mkO h211) q215 ?_; intro w235 fs236 h237 hc238 hs239
        have q240 := zf_mv q218 (zf_nil _)
        have q241 := dj_of q214
        have q242 := zf_set hs239 zf94 q240
        have q243 := Subst.nd hs239 nd95 (bl_nodup b210) q241
        replace h231 := h231.nq hc238 q234
        have hE244 := Ext.then hE217 hc238 (Zn.bl z92)
        refine wpList_nil ?_; replace ha := ha.sub (σ' := [(0, va0), (3, v97), (4, (.int .i64 i99))]) ⟨rfl, rfl, rfl, trivial⟩; refine e_blk ?_; refine e_then ?_; refine wp_region_lit ?_; refine op_g ha rfl (g_move rfl) ?_; clear ha a; intro a ha; obtain ⟨hI245, hF⟩ := ck_some hF; refine op_g ha rfl (g_add rfl rfl hI245) ?_; clear ha a; intro a ha; refine op_g ha rfl (g_assign rfl) ?_; clear ha a; intro a ha; refine wpList_nil ?_; replace ha := ha.sub (σ' := [(0, va0), (3, v97), (4, (.int .i64 (i99 + 1)))]) ⟨rfl, rfl, rfl, trivial⟩; refine e_lq ?_; obtain rfl := Option.some.inj hF
        exact ⟨_, Nat.lt_succ_self _, (l96.set ((i99 : Int).toNat) x205), i99 + 1, fs236, v97, b98, ha.sub ⟨rfl, rfl, rfl, trivial⟩, hE244, hI245, h237, z92, q242, q243, hN187⟩
      replace hF := if_f hp190 hF; refine wp_exit ?_; refine e_then_exit ?_; refine e_lq_eq ?_; obtain rfl := Option.some.inj hF
      exact ⟨l96, fs93, v97, b98, ha.sub ⟨rfl, trivial⟩, hE101, h91, z92, zf94, nd95, (LK_inr hN187).symm⟩
  rintro a w171 ⟨l178, fs175, v179, b180, ha, hE186, h173, z174, zf176, nd177, rfl⟩
  have hF : F_laws_toInt64SS_k2 l178 = some _ := hK183; clear hK183; unfold F_laws_toInt64SS_k2 at hF
  refine e_then ?_; refine wp_seq ?_; refine wp_region_lit ?_; refine op_g ha rfl (g_move rfl) ?_; clear ha a; intro a ha; refine op_g ha rfl (g_assign rfl) ?_; clear ha a; intro a ha; refine wpList_nil ?_; replace ha := ha.sub (σ' := [(2, v179)]) ⟨rfl, trivial⟩; refine e_then ?_; refine wp_ret ?_; obtain rfl := Option.some.inj hF
  exact f_ret1 ha rfl rfl ⟨_, _, h173, z174, zf176, nd177, hE186⟩
set_option maxHeartbeats 2000000 in
theorem W_laws_toGraph {W : World} {va0_0 : Value} {fa0_0 : List Nat} {a0_0 : (List (List Int))} (ha0_0 : Ro (Rp.sl 2 Rp.int) W fa0_0 va0_0 a0_0) {r : (List (List Int))} (hF : F_laws_toGraph a0_0 = some r) :
    Calls Tryz.prog 6 [.agg #[va0_0]].toArray W (Ret fun u w' => ∃ (u_0 : Value) (b_u_0 : Int) (fs_u_0 : List Nat), u = .agg #[u_0] ∧ Ow (Rp.sl 2 Rp.int) 39 true w' fs_u_0 b_u_0 u_0 r ∧ Zn W b_u_0 ∧ (∀ k ∈ fs_u_0, W.heap.size ≤ k) ∧ (bl b_u_0 ++ fs_u_0).Nodup ∧ Ext W w') := by
  refine f_enter Tryz.func6 rfl Tryz.ntmps6 rfl ?_
  intro a ha
  replace ha : Fr 9 [(0, (.agg #[va0_0]))] a := ha
  have hE : Chg [] W W := Chg.refl _ _
  unfold F_laws_toGraph at hF
  refine wp_seq ?_; refine wp_region_lit ?_
  refine o_box ha rfl rfl rfl ?_; clear ha a; intro b1 w2 hB3 hx4 hlo5 a ha
  have q6 := Zn.one hlo5
  have q7 := Zn.upD q6 hE
  have hE8 := Ext.trans hE hx4
  refine o_alloc (cs := [(.slice none 0 0)]) ha rfl Tryz.zeroValue27 rfl ?_; clear ha a; intro b9 w10 hB11 hx12 hlo13 a ha
  have q14 := Zn.one hlo13
  have q15 := Nq.new hB3.fpb q14
  have q16 := Nq.made1 hlo13 hB3.bi
  have q17 := Zn.upD q14 hE8
  replace hB3 := hB3.ext hx12
  have hE18 := Ext.trans hE8 hx12
  refine wpList_nil ?_; replace ha := ha.sub (σ' := [(1, (.pointer (some ⟨b1, 0, none⟩))), (2, (.pointer (some ⟨b9, 0, none⟩)))]) ⟨rfl, rfl, trivial⟩; refine e_then ?_; refine wp_seq ?_; refine wp_region_lit ?_
  refine o_alloc (cs := [(.slice none 0 0)]) ha rfl Tryz.zeroValue27 rfl ?_; clear ha a; intro b19 w20 hB21 hx22 hlo23 a ha
  have q24 := Zn.one hlo23
  have q25 := Nq.new hB3.fpb q24
  have q26 := Nq.made1 hlo23 hB3.bi
  have q27 := Nq.new hB11.fpb q24
  have q28 := Nq.made1 hlo23 hB11.bi
  have q29 := Zn.upD q24 hE18
  replace hB3 := hB3.ext hx22
  replace hB11 := hB11.ext hx22
  have hE30 := Ext.trans hE18 hx22
  refine wpList_nil ?_; refine e_then ?_; refine wp_seq ?_; refine wp_region_lit ?_; refine op_g ha rfl (g_field0 st24_0 rfl) ?_; clear ha a; intro a ha; refine op_g ha rfl (g_load Tryz.isAgg22 rfl (hB3.cell rfl)) ?_; clear ha a; intro a ha; obtain ⟨x31, hc32, hF⟩ := cal_some hF
  refine o_call ha rfl rfl Tryz.call11 (W_laws_toInt64SS (ha0_0.ext hE30) hc32) ?_; clear ha a; rintro v33 w34 ⟨b36, fs40, h37, z38, zf41, nd42, hx35⟩ a ha
  have q43 := Nq.new hB3.fpb z38
  have q44 := Nq.madeF z38 zf41 hB3.bi
  have q45 := Nq.new hB11.fpb z38
  have q46 := Nq.madeF z38 zf41 hB11.bi
  have q47 := Nq.new hB21.fpb z38
  have q48 := Nq.madeF z38 zf41 hB21.bi
  have q49 := Nf.new hB3.fpb zf41
  have q50 := Nf.new hB11.fpb zf41
  have q51 := Nf.new hB21.fpb zf41
  replace hB3 := hB3.ext hx35
  replace hB11 := hB11.ext hx35
  replace hB21 := hB21.ext hx35
  have hE52 := Ext.trans hE30 hx35
  have q53 := Zn.upD z38 hE30
  have q54 := zf_up zf41 hE30
  refine op_g ha rfl (g_field0 st27_0 rfl) ?_; clear ha a; intro a ha
  refine o_storeB ha hB21 Tryz.sizeOf22 rfl rfl h37.cells h37.oneC (Nat.le_of_ble_eq_true rfl) ?_; intro w55 hB56 hc57
  replace hc57 := hc57.bl
  replace hB56 : Bx w55 b19 [v33] 27 := hB56
  replace hB3 := hB3.nq hc57 q25
  replace hB11 := hB11.nq hc57 q27
  replace h37 := h37.nq hc57 q48
  have hE58 := Ext.then hE52 hc57 (Zn.bl q29)
  refine wpList_nil ?_; replace ha := ha.sub (σ' := [(2, (.pointer (some ⟨b9, 0, none⟩))), (3, (.pointer (some ⟨b19, 0, none⟩)))]) ⟨rfl, rfl, trivial⟩; refine e_then ?_; refine wp_seq ?_; refine wp_region_lit ?_; refine op_g ha rfl (g_loadA (cs := [v33]) Tryz.isAgg27 Tryz.sizeOf27 rfl (by simp) hB56.all) ?_; clear ha a; intro a ha
  refine o_storeA (vs := [v33]) ha hB11 Tryz.sizeOf27 rfl rfl (by intro c hc; simp only [List.mem_cons, List.not_mem_nil, or_false] at hc; rcases hc with hc <;> subst hc <;> first | rfl | exact h37.oneC) rfl ?_; intro w59 hB60 hc61
  replace hc61 := hc61.bl
  replace hB60 : Bx w59 b9 [v33] 27 := hB60
  replace hB56 := hB56.nq hc61 q28
  replace h37 := h37.nq hc61 q46
  have hE62 := Ext.then hE58 hc61 (Zn.bl q17)
  refine wpList_nil ?_; replace ha := ha.sub (σ' := [(2, (.pointer (some ⟨b9, 0, none⟩)))]) ⟨rfl, trivial⟩; refine e_then ?_; refine wp_ret ?_; obtain rfl := Option.some.inj hF
  exact f_retC (cs := [v33]) ha rfl rfl Tryz.isAgg27 Tryz.sizeOf27 hB60 ⟨_, _, _, rfl, h37, q53, q54, nd42, hE62⟩
set_option maxHeartbeats 2000000 in
theorem W_spec_l1Size {W : World} {va0_0 : Value} {fa0_0 : List Nat} {a0_0 : (List (List Int))} (ha0_0 : Ro (Rp.sl 2 Rp.int) W fa0_0 va0_0 a0_0) {r : Int} (hF : F_spec_l1Size a0_0 = some r) :
    Calls Tryz.prog 38 [.agg #[va0_0]].toArray W (Ret fun u w' => (u = .int .i64 r ∧ InI r) ∧ Ext W w') := by
  refine f_enter Tryz.func38 rfl Tryz.ntmps38 rfl ?_
  intro a ha
  replace ha : Fr 6 [(0, (.agg #[va0_0]))] a := ha
  have hE : Chg [] W W := Chg.refl _ _
  unfold F_spec_l1Size at hF
  refine wp_seq ?_; refine wp_region_lit ?_
  refine o_box ha rfl rfl rfl ?_; clear ha a; intro b1 w2 hB3 hx4 hlo5 a ha
  have q6 := Zn.one hlo5
  have q7 := Zn.upD q6 hE
  have hE8 := Ext.trans hE hx4
  refine op_g ha rfl (g_assign rfl) ?_; clear ha a; intro a ha; refine wpList_nil ?_; replace ha := ha.sub (σ' := [(1, (.pointer (some ⟨b1, 0, none⟩)))]) ⟨rfl, trivial⟩; refine e_then ?_; refine wp_seq ?_; refine wp_region_lit ?_; refine op_g ha rfl (g_field0 st27_0 rfl) ?_; clear ha a; intro a ha; refine op_g ha rfl (g_load Tryz.isAgg22 rfl (hB3.cell rfl)) ?_; clear ha a; intro a ha; refine op_g ha rfl (g_lenR sl22.und ha0_0 rfl) ?_; clear ha a; intro a ha; refine op_g ha rfl (g_assign rfl) ?_; clear ha a; intro a ha; refine wpList_nil ?_; replace ha := ha.sub (σ' := [(2, (.int .i64 (a0_0.length : Int)))]) ⟨rfl, trivial⟩
  refine e_then ?_; refine wp_ret ?_; obtain rfl := Option.some.inj hF
  exact f_ret1 ha rfl rfl ⟨⟨rfl, ha0_0.len⟩, hE8⟩
set_option maxHeartbeats 2000000 in
theorem W_spec_l1In {W : World} {a0 : Int} (ha0 : InI a0) {a1 : Int} (ha1 : InI a1) {a2 : Int} (ha2 : InI a2) {r : Bool} (hF : F_spec_l1In a0 a1 a2 = some r) :
    Calls Tryz.prog 39 [.int .i64 a0, .int .i64 a1, .int .i64 a2].toArray W (Ret fun u w' => u = .bool r ∧ Ext W w') := by
  refine f_enter Tryz.func39 rfl Tryz.ntmps39 rfl ?_
  intro a ha
  replace ha : Fr 15 [(0, (.int .i64 a0)), (1, (.int .i64 a1)), (2, (.int .i64 a2))] a := ha
  have hE : Chg [] W W := Chg.refl _ _
  unfold F_spec_l1In at hF
  refine wp_seq ?_; refine wp_region_lit ?_; refine op_g ha rfl (g_assign rfl) ?_; clear ha a; intro a ha; refine wpList_nil ?_; replace ha := ha.sub (σ' := [(0, (.int .i64 a0)), (1, (.int .i64 a1)), (2, (.int .i64 a2))]) ⟨rfl, rfl, rfl, trivial⟩; refine e_then ?_; refine wp_seq ?_; refine wp_region_lit ?_; (iterate 2 refine op_g ha rfl (g_move rfl) ?_; clear ha a; intro a ha); refine op_g ha rfl (g_geq rfl rfl) ?_; clear ha a; intro a ha; refine op_g ha rfl (g_move rfl) ?_; clear ha a; intro a ha
  by_cases hp1 : a1 ≤ a0
  · replace hF := if_t hp1 hF
    rw [show (decide (a1 ≤ a0)) = true from (decide_eq_true_iff).2 hp1] at ha
    refine op_want (yields ha rfl rfl) ?_; refine op_g ha rfl (g_move rfl) ?_; clear ha a; intro a ha; refine op_want (yields ha rfl rfl) ?_; refine op_g ha rfl (g_move rfl) ?_; clear ha a; intro a ha; refine op_want (yields ha rfl rfl) ?_; refine op_g ha rfl (g_leq rfl rfl) ?_; clear ha a; intro a ha; refine op_g ha rfl (g_pick rfl rfl) ?_; clear ha a; intro a ha; refine op_g ha rfl (g_assign rfl) ?_; clear ha a; intro a ha; refine wpList_nil ?_; replace ha := ha.sub (σ' := [(6, (.bool (decide (a0 ≤ a2))))]) ⟨rfl, trivial⟩; refine e_then ?_; refine wp_ret ?_; obtain rfl := Option.some.inj hF
    exact f_ret1 ha rfl rfl ⟨rfl, hE⟩
  replace hF := if_f hp1 hF
  rw [show (decide (a1 ≤ a0)) = false from b_false (decide_eq_true_iff) hp1] at ha
  (iterate 3 refine op_unwant ha rfl (yields ha rfl rfl) rfl ?_; clear ha a; intro a ha); refine op_g ha rfl (g_pick rfl rfl) ?_; clear ha a; intro a ha; refine op_g ha rfl (g_assign rfl) ?_; clear ha a; intro a ha; refine wpList_nil ?_; replace ha := ha.sub (σ' := [(6, (.bool false))]) ⟨rfl, trivial⟩; refine e_then ?_; refine wp_ret ?_; obtain rfl := Option.some.inj hF
  exact f_ret1 ha rfl rfl ⟨rfl, hE⟩
set_option maxHeartbeats 2000000 in
theorem W_spec_l1Set {W : World} {va0 : Value} {fa0 : List Nat} {a0 : (List Int)} (ha0 : Ro Rp.int W fa0 va0 a0) {a1 : Int} (ha1 : InI a1) {r : Bool} (hF : F_spec_l1Set a0 a1 = some r) :
    Calls Tryz.prog 40 [va0, .int .i64 a1].toArray W (Ret fun u w' => u = .bool r ∧ Ext W w') := by
  refine f_enter Tryz.func40 rfl Tryz.ntmps40 rfl ?_
  intro a ha
  replace ha : Fr 40 [(0, va0), (1, (.int .i64 a1))] a := ha
  have hE : Chg [] W W := Chg.refl _ _
  unfold F_spec_l1Set at hF
  refine wp_seq ?_; refine wp_region_lit ?_; refine op_g ha rfl (g_assign rfl) ?_; clear ha a; intro a ha; refine wpList_nil ?_; replace ha := ha.sub (σ' := [(0, va0), (1, (.int .i64 a1))]) ⟨rfl, rfl, trivial⟩; refine e_then ?_; refine wp_seq ?_; refine wp_seq ?_; refine wp_region_lit ?_; refine op_g ha rfl (g_move rfl) ?_; clear ha a; intro a ha; refine op_g ha rfl (g_lenR sl39.und ha0 rfl) ?_; clear ha a; intro a ha; refine op_g ha rfl (g_move rfl) ?_; clear ha a; intro a ha; refine op_g ha rfl (g_gtr rfl rfl) ?_; clear ha a; intro a ha; refine wpList_nil ?_; replace ha := ha.sub (σ' := [(0, va0), (1, (.int .i64 a1)), (9, (.bool (decide (a1 < (a0.length : Int)))))]) ⟨rfl, rfl, rfl, trivial⟩
  refine e_then ?_; refine c_cond (a1 < (a0.length : Int)) ha rfl (decide_eq_true_iff) (fun hp1 => ?_) (fun hp1 => ?_)
  · replace hF := if_t hp1 hF
    refine wp_seq ?_; refine wp_region_lit ?_; refine op_g ha rfl (g_assign rfl) ?_; clear ha a; intro a ha; refine wpList_nil ?_; replace ha := ha.sub (σ' := [(4, (.bool false))]) ⟨rfl, trivial⟩; refine e_then ?_; refine wp_ret ?_; refine e_then_ret ?_; obtain rfl := Option.some.inj hF
    exact f_ret1 ha rfl rfl ⟨rfl, hE⟩
  replace hF := if_f hp1 hF; refine wp_skip ?_; refine e_then ?_; refine wp_seq ?_; refine wp_seq ?_; refine wp_region_lit ?_; refine op_g ha rfl (g_assign rfl) ?_; clear ha a; intro a ha; refine wpList_nil ?_; replace ha := ha.sub (σ' := [(0, va0), (1, (.int .i64 a1)), (5, (.int .i64 0))]) ⟨rfl, rfl, rfl, trivial⟩; refine e_then ?_; obtain ⟨o137, ho138, hK139⟩ := bnd_some hF
  obtain ⟨n140, hn141⟩ := lp_some ho138; clear ho138
  refine c_loop (fun a w => Fr 40 [] a ∧ Chg [] W w ∧ o137 = .inl ()) (fun n a w => ∃ (i69 : Int), Fr 40 [(0, va0), (1, (.int .i64 a1)), (5, (.int .i64 i69))] a ∧ Chg [] W w ∧ InI i69 ∧ lpN (fun s => F_spec_l1Set_l1 a0 a1 s) n i69 = some o137) n140 ⟨0, ha.sub ⟨rfl, rfl, rfl, trivial⟩, hE, (show InI 0 from by decide), hn141⟩ ?_ ?_
  · rintro m145 a w68 ⟨i69, ha, hE71, hI70, hF⟩
    cases m145 with
    | zero => exact (lpN_zero hF).elim
    | succ m145 =>
      obtain ⟨z144, hF, hN143⟩ := lpN_succ hF
      have hF : F_spec_l1Set_l1 a0 a1 i69 = some z144 := hF; unfold F_spec_l1Set_l1 at hF
      refine wp_seq ?_; refine wp_seq ?_; refine wp_region_lit ?_; (iterate 2 refine op_g ha rfl (g_move rfl) ?_; clear ha a; intro a ha); refine op_g ha rfl (g_lenR sl39.und ha0 rfl) ?_; clear ha a; intro a ha; refine op_g ha rfl (g_lss rfl rfl) ?_; clear ha a; intro a ha; refine wpList_nil ?_; replace ha := ha.sub (σ' := [(0, va0), (1, (.int .i64 a1)), (5, (.int .i64 i69)), (13, (.bool (decide (i69 < (a0.length : Int)))))]) ⟨rfl, rfl, rfl, rfl, trivial⟩; refine e_then ?_; refine c_cond (i69 < (a0.length : Int)) ha rfl (decide_eq_true_iff) (fun hp146 => ?_) (fun hp146 => ?_)
      · replace hF := if_t hp146 hF
        refine wp_skip ?_; refine e_then ?_; refine wp_seq ?_; refine wp_block ?_; refine wp_seq ?_; refine d_quiet hmix (by kernel_rfl) ?_; (iterate 2 refine q_g ha rfl (g_move rfl) ?_; clear ha a; intro a ha); obtain ⟨x147, g148, gx149, hF⟩ := idx_some hF
        obtain ⟨p150, cs151, f152, hf153, hpb154, hat155, hr156, hi157⟩ := ha0.at g148 gx149
        obtain ⟨rfl, hI158, rfl⟩ := hr156
        refine q_g ha rfl (hi157.gives sl39 rfl rfl) ?_; clear ha a; intro a ha; refine q_g ha rfl (g_load0 hE71 Tryz.isAgg2 rfl hat155.one) ?_; clear ha a; intro a ha; refine q_g ha rfl (g_move rfl) ?_; clear ha a; intro a ha; obtain ⟨hI159, hF⟩ := ck_some hF; refine q_g ha rfl (g_sub rfl rfl hI159) ?_; clear ha a; intro a ha; obtain ⟨x163, hc164, hF⟩ := cal_some hF; refine q_call (.bool x163) ha rfl rfl Tryz.call39 (fun w162 hx161 => W_spec_l1In hI158 (show InI 0 from by decide) hI159 hc164) (fun _ _ _ h => ⟨h.1, h.2⟩) ?_; clear ha a; intro a ha; refine q_g ha rfl (g_not rfl) ?_; clear ha a; intro a ha
        refine q_g ha rfl (g_move rfl) ?_; clear ha a; intro a ha
        by_cases hp165 : ¬ (x163 = true)
        · replace hF := if_t hp165 hF
          rw [show (!x163) = true from (n_iff (Iff.rfl)).2 hp165] at ha
          (iterate 3 refine q_unwant ha rfl (yields ha rfl rfl) rfl ?_; clear ha a; intro a ha); (iterate 10 refine q_unwant0 ha rfl (yields0 ha rfl rfl) ?_; clear ha a; intro a ha); refine q_unwant ha rfl (yields ha rfl rfl) rfl ?_; clear ha a; intro a ha; refine q_g ha rfl (g_pick rfl rfl) ?_; clear ha a; intro a ha
          refine q_nil ?_; intro w166 hx167
          have hE168 := Ext.trans hE71 hx167
          replace ha := ha.sub (σ' := [(0, va0), (1, (.int .i64 a1)), (5, (.int .i64 i69)), (39, (.bool true))]) ⟨rfl, rfl, rfl, rfl, trivial⟩; refine e_then ?_; refine c_true ha rfl ?_; refine wp_seq ?_; refine wp_region_lit ?_; refine op_g ha rfl (g_assign rfl) ?_; clear ha a; intro a ha; refine wpList_nil ?_; replace ha := ha.sub (σ' := [(4, (.bool false))]) ⟨rfl, trivial⟩; refine e_then ?_; refine wp_ret ?_; refine e_blk_ret ?_; refine e_then_ret ?_; refine e_lq_ret ?_; refine e_then_ret ?_; obtain rfl := Option.some.inj hF
          have e169 := LK_inr hN143; subst e169
          have e170 := BK_inr hK139; subst e170
          exact f_ret1 ha rfl rfl ⟨rfl, hE168⟩
        replace hF := if_f hp165 hF
        rw [show (!x163) = false from b_false (n_iff (Iff.rfl)) hp165] at ha
        refine q_want (yields ha rfl rfl) ?_; refine q_g ha rfl (g_move rfl) ?_; clear ha a; intro a ha; refine q_want (yields ha rfl rfl) ?_; refine q_g ha rfl (g_gtr rfl rfl) ?_; clear ha a; intro a ha; refine q_want (yields ha rfl rfl) ?_; refine q_g ha rfl (g_move rfl) ?_; clear ha a; intro a ha
        by_cases hp171 : 0 < i69
        · replace hF := if_t hp171 hF
          rw [show (decide (0 < i69)) = true from (decide_eq_true_iff).2 hp171] at ha
          refine q_want (yields ha rfl rfl) ?_; refine q_g ha rfl (g_move rfl) ?_; clear ha a; intro a ha; refine q_want (yields ha rfl rfl) ?_; refine q_g ha rfl (g_move rfl) ?_; clear ha a; intro a ha; refine q_want (yields ha rfl rfl) ?_; obtain ⟨x172, g173, gx174, hF⟩ := idx_some hF
          obtain ⟨p175, cs176, f177, hf178, hpb179, hat180, hr181, hi182⟩ := ha0.at g173 gx174
          obtain ⟨rfl, hI183, rfl⟩ := hr181
          refine q_g ha rfl (hi182.gives sl39 rfl rfl) ?_; clear ha a; intro a ha; refine q_want (yields ha rfl rfl) ?_; refine q_g ha rfl (g_load0 hE71 Tryz.isAgg2 rfl hat180.one) ?_; clear ha a; intro a ha; refine q_want (yields ha rfl rfl) ?_; refine q_g ha rfl (g_move rfl) ?_; clear ha a; intro a ha; refine q_want (yields ha rfl rfl) ?_; refine q_g ha rfl (g_move rfl) ?_; clear ha a; intro a ha; refine q_want (yields ha rfl rfl) ?_; obtain ⟨hI184, hF⟩ := ck_some hF; refine q_g ha rfl (g_sub rfl rfl hI184) ?_; clear ha a; intro a ha; refine q_want (yields ha rfl rfl) ?_; obtain ⟨x186, g187, gx188, hF⟩ := idx_some hF
          obtain ⟨p189, cs190, f191, hf192, hpb193, hat194, hr195, hi196⟩ := ha0.at g187 gx188
          obtain ⟨rfl, hI197, rfl⟩ := hr195
          refine q_g ha rfl (hi196.gives sl39 rfl rfl) ?_; clear ha a; intro a ha; refine q_want (yields ha rfl rfl) ?_; refine q_g ha rfl (g_load0 hE71 Tryz.isAgg2 rfl hat194.one) ?_; clear ha a; intro a ha; refine q_want (yields ha rfl rfl) ?_; refine q_g ha rfl (g_leq rfl rfl) ?_; clear ha a; intro a ha; refine q_want (yields ha rfl rfl) ?_; (iterate 2 refine q_g ha rfl (g_pick rfl rfl) ?_; clear ha a; intro a ha)
          refine q_nil ?_; intro w198 hx199
          have hE200 := Ext.trans hE71 hx199
          replace ha := ha.sub (σ' := [(0, va0), (1, (.int .i64 a1)), (5, (.int .i64 i69)), (25, (.int .i64 i69)), (26, (.bool true)), (27, (.bool true)), (28, va0), (29, (.int .i64 i69)), (30, (.pointer (some p175))), (31, (.int .i64 x172)), (32, va0), (33, (.int .i64 i69)), (34, (.int .i64 (i69 - 1))), (35, (.pointer (some p189))), (36, (.int .i64 x186)), (37, (.bool (decide (x172 ≤ x186)))), (38, (.bool (decide (x172 ≤ x186)))), (39, (.bool (decide (x172 ≤ x186))))]) ⟨rfl, rfl, rfl, rfl, rfl, rfl, rfl, rfl, rfl, rfl, rfl, rfl, rfl, rfl, rfl, rfl, rfl, rfl, trivial⟩; refine e_then ?_; refine c_cond (x172 ≤ x186) ha rfl (decide_eq_true_iff) (fun hp201 => ?_) (fun hp201 => ?_)
          · replace hF := if_t hp201 hF
            refine wp_seq ?_; refine wp_region_lit ?_; refine op_g ha rfl (g_assign rfl) ?_; clear ha a; intro a ha; refine wpList_nil ?_; replace ha := ha.sub (σ' := [(4, (.bool false))]) ⟨rfl, trivial⟩; refine e_then ?_; refine wp_ret ?_; refine e_blk_ret ?_; refine e_then_ret ?_; refine e_lq_ret ?_; refine e_then_ret ?_; obtain rfl := Option.some.inj hF
            have e202 := LK_inr hN143; subst e202
            have e203 := BK_inr hK139; subst e203
            exact f_ret1 ha rfl rfl ⟨rfl, hE200⟩
          replace hF := if_f hp201 hF; refine wp_skip ?_; refine e_blk ?_; refine e_then ?_; refine wp_region_lit ?_; refine op_g ha rfl (g_move rfl) ?_; clear ha a; intro a ha; obtain ⟨hI204, hF⟩ := ck_some hF; refine op_g ha rfl (g_add rfl rfl hI204) ?_; clear ha a; intro a ha; refine op_g ha rfl (g_assign rfl) ?_; clear ha a; intro a ha; refine wpList_nil ?_; replace ha := ha.sub (σ' := [(0, va0), (1, (.int .i64 a1)), (5, (.int .i64 (i69 + 1))), (25, (.int .i64 i69)), (26, (.bool true)), (27, (.bool true)), (28, va0), (29, (.int .i64 i69)), (30, (.pointer (some p175))), (31, (.int .i64 x172)), (32, va0), (33, (.int .i64 i69)), (34, (.int .i64 (i69 - 1))), (35, (.pointer (some p189))), (36, (.int .i64 x186)), (37, (.bool (decide (x172 ≤ x186)))), (38, (.bool (decide (x172 ≤ x186))))]) ⟨rfl, rfl, rfl, rfl, rfl, rfl, rfl, rfl, rfl, rfl, rfl, rfl, rfl, rfl, rfl, rfl, rfl, trivial⟩
          refine e_lq ?_; obtain rfl := Option.some.inj hF
          exact ⟨_, Nat.lt_succ_self _, i69 + 1, ha.sub ⟨rfl, rfl, rfl, trivial⟩, hE200, hI204, hN143⟩
        replace hF := if_f hp171 hF
        rw [show (decide (0 < i69)) = false from b_false (decide_eq_true_iff) hp171] at ha
        (iterate 10 refine q_unwant ha rfl (yields ha rfl rfl) rfl ?_; clear ha a; intro a ha); refine q_want (yields ha rfl rfl) ?_; (iterate 2 refine q_g ha rfl (g_pick rfl rfl) ?_; clear ha a; intro a ha)
        refine q_nil ?_; intro w206 hx207
        have hE208 := Ext.trans hE71 hx207
        replace ha := ha.sub (σ' := [(0, va0), (1, (.int .i64 a1)), (5, (.int .i64 i69)), (25, (.int .i64 i69)), (26, (.bool false)), (27, (.bool false)), (38, (.bool false)), (39, (.bool false))]) ⟨rfl, rfl, rfl, rfl, rfl, rfl, rfl, rfl, trivial⟩; refine e_then ?_; refine c_false ha rfl ?_; refine wp_skip ?_; refine e_blk ?_; refine e_then ?_; refine wp_region_lit ?_; refine op_g ha rfl (g_move rfl) ?_; clear ha a; intro a ha; obtain ⟨hI209, hF⟩ := ck_some hF; refine op_g ha rfl (g_add rfl rfl hI209) ?_; clear ha a; intro a ha; refine op_g ha rfl (g_assign rfl) ?_; clear ha a; intro a ha; refine wpList_nil ?_
        replace ha := ha.sub (σ' := [(0, va0), (1, (.int .i64 a1)), (5, (.int .i64 (i69 + 1))), (25, (.int .i64 i69)), (26, (.bool false)), (27, (.bool false)), (38, (.bool false))]) ⟨rfl, rfl, rfl, rfl, rfl, rfl, rfl, trivial⟩; refine e_lq ?_; obtain rfl := Option.some.inj hF
        exact ⟨_, Nat.lt_succ_self _, i69 + 1, ha.sub ⟨rfl, rfl, rfl, trivial⟩, hE208, hI209, hN143⟩
      replace hF := if_f hp146 hF; refine wp_exit ?_; refine e_then_exit ?_; refine e_lq_eq ?_; obtain rfl := Option.some.inj hF
      exact ⟨ha.sub trivial, hE71, (LK_inr hN143).symm⟩
  rintro a w136 ⟨ha, hE142, rfl⟩
  have hF : F_spec_l1Set_k2 = some _ := hK139; clear hK139; unfold F_spec_l1Set_k2 at hF
  refine e_then ?_; refine wp_seq ?_; refine wp_region_lit ?_; refine op_g ha rfl (g_assign rfl) ?_; clear ha a; intro a ha; refine wpList_nil ?_; refine e_then ?_; refine wp_ret ?_; obtain rfl := Option.some.inj hF
  exact f_ret1 ha rfl rfl ⟨rfl, hE142⟩
set_option maxHeartbeats 2000000 in
theorem W_spec_l1Has {W : World} {va0 : Value} {fa0 : List Nat} {a0 : (List Int)} (ha0 : Ro Rp.int W fa0 va0 a0) {a1 : Int} (ha1 : InI a1) {r : Bool} (hF : F_spec_l1Has a0 a1 = some r) :
    Calls Tryz.prog 41 [va0, .int .i64 a1].toArray W (Ret fun u w' => u = .bool r ∧ Ext W w') := by
  refine f_enter Tryz.func41 rfl Tryz.ntmps41 rfl ?_
  intro a ha
  replace ha : Fr 18 [(0, va0), (1, (.int .i64 a1))] a := ha
  have hE : Chg [] W W := Chg.refl _ _
  unfold F_spec_l1Has at hF
  refine wp_seq ?_; refine wp_region_lit ?_; refine op_g ha rfl (g_assign rfl) ?_; clear ha a; intro a ha; refine wpList_nil ?_; replace ha := ha.sub (σ' := [(0, va0), (1, (.int .i64 a1))]) ⟨rfl, rfl, trivial⟩; refine e_then ?_; refine wp_seq ?_; refine wp_seq ?_; refine wp_region_lit ?_; refine op_g ha rfl (g_assign rfl) ?_; clear ha a; intro a ha; refine wpList_nil ?_; refine e_then ?_; obtain ⟨o46, ho47, hK48⟩ := bnd_some hF
  obtain ⟨n49, hn50⟩ := lp_some ho47; clear ho47
  refine c_loop (fun a w => Fr 18 [] a ∧ Chg [] W w ∧ o46 = .inl ()) (fun n a w => ∃ (i23 : Int), Fr 18 [(0, va0), (1, (.int .i64 a1)), (5, (.int .i64 i23))] a ∧ Chg [] W w ∧ InI i23 ∧ lpN (fun s => F_spec_l1Has_l1 a0 a1 s) n i23 = some o46) n49 ⟨0, ha.sub ⟨rfl, rfl, rfl, trivial⟩, hE, (show InI 0 from by decide), hn50⟩ ?_ ?_
  · rintro m54 a w22 ⟨i23, ha, hE25, hI24, hF⟩
    cases m54 with
    | zero => exact (lpN_zero hF).elim
    | succ m54 =>
      obtain ⟨z53, hF, hN52⟩ := lpN_succ hF
      have hF : F_spec_l1Has_l1 a0 a1 i23 = some z53 := hF; unfold F_spec_l1Has_l1 at hF
      refine wp_seq ?_; refine wp_seq ?_; refine wp_region_lit ?_; (iterate 2 refine op_g ha rfl (g_move rfl) ?_; clear ha a; intro a ha); refine op_g ha rfl (g_lenR sl39.und ha0 rfl) ?_; clear ha a; intro a ha; refine op_g ha rfl (g_lss rfl rfl) ?_; clear ha a; intro a ha; refine wpList_nil ?_; replace ha := ha.sub (σ' := [(0, va0), (1, (.int .i64 a1)), (5, (.int .i64 i23)), (9, (.bool (decide (i23 < (a0.length : Int)))))]) ⟨rfl, rfl, rfl, rfl, trivial⟩; refine e_then ?_; refine c_cond (i23 < (a0.length : Int)) ha rfl (decide_eq_true_iff) (fun hp55 => ?_) (fun hp55 => ?_)
      · replace hF := if_t hp55 hF
        refine wp_skip ?_; refine e_then ?_; refine wp_seq ?_; refine wp_block ?_; refine wp_seq ?_; refine wp_region_lit ?_; (iterate 2 refine op_g ha rfl (g_move rfl) ?_; clear ha a; intro a ha); obtain ⟨x56, g57, gx58, hF⟩ := idx_some hF
        obtain ⟨p59, cs60, f61, hf62, hpb63, hat64, hr65, hi66⟩ := ha0.at g57 gx58
        obtain ⟨rfl, hI67, rfl⟩ := hr65
        refine op_g ha rfl (hi66.gives sl39 rfl rfl) ?_; clear ha a; intro a ha; refine op_g ha rfl (g_load0 hE25 Tryz.isAgg2 rfl hat64.one) ?_; clear ha a; intro a ha; refine op_g ha rfl (g_move rfl) ?_; clear ha a; intro a ha; refine op_g ha rfl (g_eql rfl rfl) ?_; clear ha a; intro a ha; refine wpList_nil ?_; replace ha := ha.sub (σ' := [(0, va0), (1, (.int .i64 a1)), (5, (.int .i64 i23)), (17, (.bool (decide (x56 = a1))))]) ⟨rfl, rfl, rfl, rfl, trivial⟩; refine e_then ?_; refine c_cond (x56 = a1) ha rfl (decide_eq_true_iff) (fun hp68 => ?_) (fun hp68 => ?_)
        · replace hF := if_t hp68 hF
          refine wp_seq ?_; refine wp_region_lit ?_; refine op_g ha rfl (g_assign rfl) ?_; clear ha a; intro a ha; refine wpList_nil ?_; replace ha := ha.sub (σ' := [(4, (.bool true))]) ⟨rfl, trivial⟩; refine e_then ?_; refine wp_ret ?_; refine e_blk_ret ?_; refine e_then_ret ?_; refine e_lq_ret ?_; refine e_then_ret ?_; obtain rfl := Option.some.inj hF
          have e69 := LK_inr hN52; subst e69
          have e70 := BK_inr hK48; subst e70
          exact f_ret1 ha rfl rfl ⟨rfl, hE25⟩
        replace hF := if_f hp68 hF; refine wp_skip ?_; refine e_blk ?_; refine e_then ?_; refine wp_region_lit ?_; refine op_g ha rfl (g_move rfl) ?_; clear ha a; intro a ha; obtain ⟨hI71, hF⟩ := ck_some hF; refine op_g ha rfl (g_add rfl rfl hI71) ?_; clear ha a; intro a ha; refine op_g ha rfl (g_assign rfl) ?_; clear ha a; intro a ha; refine wpList_nil ?_; replace ha := ha.sub (σ' := [(0, va0), (1, (.int .i64 a1)), (5, (.int .i64 (i23 + 1)))]) ⟨rfl, rfl, rfl, trivial⟩; refine e_lq ?_; obtain rfl := Option.some.inj hF
        exact ⟨_, Nat.lt_succ_self _, i23 + 1, ha.sub ⟨rfl, rfl, rfl, trivial⟩, hE25, hI71, hN52⟩
      replace hF := if_f hp55 hF; refine wp_exit ?_; refine e_then_exit ?_; refine e_lq_eq ?_; obtain rfl := Option.some.inj hF
      exact ⟨ha.sub trivial, hE25, (LK_inr hN52).symm⟩
  rintro a w45 ⟨ha, hE51, rfl⟩
  have hF : F_spec_l1Has_k2 = some _ := hK48; clear hK48; unfold F_spec_l1Has_k2 at hF
  refine e_then ?_; refine wp_seq ?_; refine wp_region_lit ?_; refine op_g ha rfl (g_assign rfl) ?_; clear ha a; intro a ha; refine wpList_nil ?_; refine e_then ?_; refine wp_ret ?_; obtain rfl := Option.some.inj hF
  exact f_ret1 ha rfl rfl ⟨rfl, hE51⟩
set_option maxHeartbeats 2000000 in
theorem W_spec_GraphOk {W : World} {va0_0 : Value} {fa0_0 : List Nat} {a0_0 : (List (List Int))} (ha0_0 : Ro (Rp.sl 2 Rp.int) W fa0_0 va0_0 a0_0) {r : Bool} (hF : F_spec_GraphOk a0_0 = some r) :
    Calls Tryz.prog 26 [.agg #[va0_0]].toArray W (Ret fun u w' => u = .bool r ∧ Ext W w') := by
  refine f_enter Tryz.func26 rfl Tryz.ntmps26 rfl ?_
  intro a ha
  replace ha : Fr 64 [(0, (.agg #[va0_0]))] a := ha
  have hE : Chg [] W W := Chg.refl _ _
  unfold F_spec_GraphOk at hF
  refine wp_seq ?_; refine wp_region_lit ?_
  refine o_box ha rfl rfl rfl ?_; clear ha a; intro b1 w2 hB3 hx4 hlo5 a ha
  have q6 := Zn.one hlo5
  have q7 := Zn.upD q6 hE
  have hE8 := Ext.trans hE hx4
  refine op_g ha rfl (g_assign rfl) ?_; clear ha a; intro a ha; refine wpList_nil ?_; replace ha := ha.sub (σ' := [(1, (.pointer (some ⟨b1, 0, none⟩)))]) ⟨rfl, trivial⟩; refine e_then ?_; refine wp_seq ?_; refine wp_region_lit ?_; refine op_g ha rfl (g_loadA (cs := [va0_0]) Tryz.isAgg27 Tryz.sizeOf27 rfl (by simp) hB3.all) ?_; clear ha a; intro a ha; obtain ⟨x9, hc10, hF⟩ := cal_some hF
  refine o_call ha rfl rfl Tryz.call38 (W_spec_l1Size (ha0_0.ext hE8) hc10) ?_; clear ha a; rintro v11 w12 ⟨⟨rfl, hI14⟩, hx13⟩ a ha
  replace hB3 := hB3.ext hx13
  have hE15 := Ext.trans hE8 hx13
  refine op_g ha rfl (g_assign rfl) ?_; clear ha a; intro a ha; refine wpList_nil ?_; replace ha := ha.sub (σ' := [(1, (.pointer (some ⟨b1, 0, none⟩))), (3, (.int .i64 x9))]) ⟨rfl, rfl, trivial⟩; refine e_then ?_; refine wp_seq ?_; refine wp_seq ?_; refine wp_region_lit ?_; refine op_g ha rfl (g_move rfl) ?_; clear ha a; intro a ha; obtain ⟨x16, hc17, hF⟩ := cal_some hF
  refine o_call ha rfl rfl Tryz.call39 (W_spec_l1In hI14 (show InI 1 from by decide) (show InI 16 from by decide) hc17) ?_; clear ha a; rintro v18 w19 ⟨rfl, hx20⟩ a ha
  replace hB3 := hB3.ext hx20
  have hE21 := Ext.trans hE15 hx20
  refine op_g ha rfl (g_not rfl) ?_; clear ha a; intro a ha; refine wpList_nil ?_; replace ha := ha.sub (σ' := [(1, (.pointer (some ⟨b1, 0, none⟩))), (3, (.int .i64 x9)), (11, (.bool (!x16)))]) ⟨rfl, rfl, rfl, trivial⟩; refine e_then ?_; refine c_cond (¬ (x16 = true)) ha rfl (n_iff (Iff.rfl)) (fun hp22 => ?_) (fun hp22 => ?_)
  · replace hF := if_t hp22 hF
    refine wp_seq ?_; refine wp_region_lit ?_; refine op_g ha rfl (g_assign rfl) ?_; clear ha a; intro a ha; refine wpList_nil ?_; replace ha := ha.sub (σ' := [(2, (.bool false))]) ⟨rfl, trivial⟩; refine e_then ?_; refine wp_ret ?_; refine e_then_ret ?_; obtain rfl := Option.some.inj hF
    exact f_ret1 ha rfl rfl ⟨rfl, hE21⟩
  replace hF := if_f hp22 hF; refine wp_skip ?_; refine e_then ?_; refine wp_seq ?_; refine wp_seq ?_; refine wp_region_lit ?_; refine op_g ha rfl (g_assign rfl) ?_; clear ha a; intro a ha; refine wpList_nil ?_; replace ha := ha.sub (σ' := [(1, (.pointer (some ⟨b1, 0, none⟩))), (3, (.int .i64 x9)), (4, (.int .i64 0))]) ⟨rfl, rfl, rfl, trivial⟩; refine e_then ?_; obtain ⟨o136, ho137, hK138⟩ := bnd_some hF
  obtain ⟨n139, hn140⟩ := lp_some ho137; clear ho137
  refine c_loop (fun a w => Fr 64 [(1, (.pointer (some ⟨b1, 0, none⟩))), (3, (.int .i64 x9))] a ∧ Chg [] W w ∧ Bx w b1 [va0_0] 27 ∧ Zn W (b1 : Int) ∧ o136 = .inl ()) (fun n a w => ∃ (i80 : Int), Fr 64 [(1, (.pointer (some ⟨b1, 0, none⟩))), (3, (.int .i64 x9)), (4, (.int .i64 i80))] a ∧ Chg [] W w ∧ InI i80 ∧ Bx w b1 [va0_0] 27 ∧ Zn W (b1 : Int) ∧ lpN (fun s => F_spec_GraphOk_l1 a0_0 x9 s) n i80 = some o136) n139 ⟨0, ha.sub ⟨rfl, rfl, rfl, trivial⟩, hE21, (show InI 0 from by decide), hB3, q7, hn140⟩ ?_ ?_
  · rintro m144 a w77 ⟨i80, ha, hE82, hI81, hB78, z79, hF⟩
    cases m144 with
    | zero => exact (lpN_zero hF).elim
    | succ m144 =>
      obtain ⟨z143, hF, hN142⟩ := lpN_succ hF
      have hF : F_spec_GraphOk_l1 a0_0 x9 i80 = some z143 := hF; unfold F_spec_GraphOk_l1 at hF
      refine wp_seq ?_; refine wp_seq ?_; refine wp_region_lit ?_; (iterate 2 refine op_g ha rfl (g_move rfl) ?_; clear ha a; intro a ha); refine op_g ha rfl (g_lss rfl rfl) ?_; clear ha a; intro a ha; refine wpList_nil ?_; replace ha := ha.sub (σ' := [(1, (.pointer (some ⟨b1, 0, none⟩))), (3, (.int .i64 x9)), (4, (.int .i64 i80)), (14, (.bool (decide (i80 < x9))))]) ⟨rfl, rfl, rfl, rfl, trivial⟩; refine e_then ?_; refine c_cond (i80 < x9) ha rfl (decide_eq_true_iff) (fun hp145 => ?_) (fun hp145 => ?_)
      · replace hF := if_t hp145 hF
        refine wp_skip ?_; refine e_then ?_; refine wp_seq ?_; refine wp_block ?_; refine wp_seq ?_; refine wp_region_lit ?_; refine op_g ha rfl (g_field0 st27_0 rfl) ?_; clear ha a; intro a ha; refine op_g ha rfl (g_load Tryz.isAgg22 rfl (hB78.cell rfl)) ?_; clear ha a; intro a ha; refine op_g ha rfl (g_move rfl) ?_; clear ha a; intro a ha; obtain ⟨x146, g147, gx148, hF⟩ := idx_some hF
        obtain ⟨p149, cs150, f151, hf152, hpb153, hat154, hr155, hi156⟩ := ha0_0.at g147 gx148
        obtain ⟨v157, rfl, h158⟩ := hr155
        have h158 : Ro Rp.int W f151 v157 x146 := h158
        refine op_g ha rfl (hi156.gives sl22 rfl rfl) ?_; clear ha a; intro a ha; refine op_g ha rfl (g_load0 hE82 Tryz.isAgg39 rfl hat154.one) ?_; clear ha a; intro a ha; refine op_g ha rfl (g_move rfl) ?_; clear ha a; intro a ha; obtain ⟨x160, hc161, hF⟩ := cal_some hF
        refine o_call ha rfl rfl Tryz.call40 (W_spec_l1Set (h158.ext hE82) hI14 hc161) ?_; clear ha a; rintro v162 w163 ⟨rfl, hx164⟩ a ha
        replace hB78 := hB78.ext hx164
        have hE165 := Ext.trans hE82 hx164
        refine op_g ha rfl (g_not rfl) ?_; clear ha a; intro a ha; refine op_g ha rfl (g_move rfl) ?_; clear ha a; intro a ha
        by_cases hp166 : ¬ (x160 = true)
        · replace hF := if_t hp166 hF
          rw [show (!x160) = true from (n_iff (Iff.rfl)).2 hp166] at ha
          (iterate 7 refine op_unwant ha rfl (yields ha rfl rfl) rfl ?_; clear ha a; intro a ha); refine op_g ha rfl (g_pick rfl rfl) ?_; clear ha a; intro a ha; refine wpList_nil ?_; replace ha := ha.sub (σ' := [(1, (.pointer (some ⟨b1, 0, none⟩))), (3, (.int .i64 x9)), (4, (.int .i64 i80)), (33, (.bool true))]) ⟨rfl, rfl, rfl, rfl, trivial⟩; refine e_then ?_; refine c_true ha rfl ?_; refine wp_seq ?_; refine wp_region_lit ?_; refine op_g ha rfl (g_assign rfl) ?_; clear ha a; intro a ha; refine wpList_nil ?_; replace ha := ha.sub (σ' := [(2, (.bool false))]) ⟨rfl, trivial⟩; refine e_then ?_; refine wp_ret ?_
          refine e_blk_ret ?_; refine e_then_ret ?_; refine e_lq_ret ?_; refine e_then_ret ?_; obtain rfl := Option.some.inj hF
          have e167 := LK_inr hN142; subst e167
          have e168 := BK_inr hK138; subst e168
          exact f_ret1 ha rfl rfl ⟨rfl, hE165⟩
        replace hF := if_f hp166 hF
        rw [show (!x160) = false from b_false (n_iff (Iff.rfl)) hp166] at ha
        refine op_want (yields ha rfl rfl) ?_; refine op_g ha rfl (g_field0 st27_0 rfl) ?_; clear ha a; intro a ha; refine op_want (yields ha rfl rfl) ?_; refine op_g ha rfl (g_load Tryz.isAgg22 rfl (hB78.cell rfl)) ?_; clear ha a; intro a ha; refine op_want (yields ha rfl rfl) ?_; refine op_g ha rfl (g_move rfl) ?_; clear ha a; intro a ha; refine op_want (yields ha rfl rfl) ?_; obtain ⟨x169, g170, gx171, hF⟩ := idx_some hF
        obtain ⟨p172, cs173, f174, hf175, hpb176, hat177, hr178, hi179⟩ := ha0_0.at g170 gx171
        obtain ⟨v180, rfl, h181⟩ := hr178
        have h181 : Ro Rp.int W f174 v180 x169 := h181
        refine op_g ha rfl (hi179.gives sl22 rfl rfl) ?_; clear ha a; intro a ha; refine op_want (yields ha rfl rfl) ?_; refine op_g ha rfl (g_load0 hE165 Tryz.isAgg39 rfl hat177.one) ?_; clear ha a; intro a ha; refine op_want (yields ha rfl rfl) ?_; refine op_g ha rfl (g_move rfl) ?_; clear ha a; intro a ha; refine op_want (yields ha rfl rfl) ?_; obtain ⟨x183, hc184, hF⟩ := cal_some hF
        refine o_call ha rfl rfl Tryz.call41 (W_spec_l1Has (h181.ext hE165) hI81 hc184) ?_; clear ha a; rintro v185 w186 ⟨rfl, hx187⟩ a ha
        replace hB78 := hB78.ext hx187
        have hE188 := Ext.trans hE165 hx187
        refine op_g ha rfl (g_pick rfl rfl) ?_; clear ha a; intro a ha; refine wpList_nil ?_; replace ha := ha.sub (σ' := [(1, (.pointer (some ⟨b1, 0, none⟩))), (3, (.int .i64 x9)), (4, (.int .i64 i80)), (26, (.pointer (some ⟨b1, 0, none⟩))), (27, va0_0), (28, (.int .i64 i80)), (29, (.pointer (some p172))), (30, v180), (31, (.int .i64 i80)), (32, (.bool x183)), (33, (.bool x183))]) ⟨rfl, rfl, rfl, rfl, rfl, rfl, rfl, rfl, rfl, rfl, rfl, trivial⟩; refine e_then ?_; refine c_cond (x183 = true) ha rfl (Iff.rfl) (fun hp189 => ?_) (fun hp189 => ?_)
        · replace hF := if_t hp189 hF
          refine wp_seq ?_; refine wp_region_lit ?_; refine op_g ha rfl (g_assign rfl) ?_; clear ha a; intro a ha; refine wpList_nil ?_; replace ha := ha.sub (σ' := [(2, (.bool false))]) ⟨rfl, trivial⟩; refine e_then ?_; refine wp_ret ?_; refine e_blk_ret ?_; refine e_then_ret ?_; refine e_lq_ret ?_; refine e_then_ret ?_; obtain rfl := Option.some.inj hF
          have e190 := LK_inr hN142; subst e190
          have e191 := BK_inr hK138; subst e191
          exact f_ret1 ha rfl rfl ⟨rfl, hE188⟩
        replace hF := if_f hp189 hF; refine wp_skip ?_; refine e_blk ?_; refine e_then ?_; refine wp_region_lit ?_; refine op_g ha rfl (g_move rfl) ?_; clear ha a; intro a ha; obtain ⟨hI192, hF⟩ := ck_some hF; refine op_g ha rfl (g_add rfl rfl hI192) ?_; clear ha a; intro a ha; refine op_g ha rfl (g_assign rfl) ?_; clear ha a; intro a ha; refine wpList_nil ?_; replace ha := ha.sub (σ' := [(1, (.pointer (some ⟨b1, 0, none⟩))), (3, (.int .i64 x9)), (4, (.int .i64 (i80 + 1))), (26, (.pointer (some ⟨b1, 0, none⟩))), (27, va0_0), (28, (.int .i64 i80)), (29, (.pointer (some p172))), (30, v180), (31, (.int .i64 i80)), (32, (.bool x183))]) ⟨rfl, rfl, rfl, rfl, rfl, rfl, rfl, rfl, rfl, rfl, trivial⟩
        refine e_lq ?_; obtain rfl := Option.some.inj hF
        exact ⟨_, Nat.lt_succ_self _, i80 + 1, ha.sub ⟨rfl, rfl, rfl, trivial⟩, hE188, hI192, hB78, z79, hN142⟩
      replace hF := if_f hp145 hF; refine wp_exit ?_; refine e_then_exit ?_; refine e_lq_eq ?_; obtain rfl := Option.some.inj hF
      exact ⟨ha.sub ⟨rfl, rfl, trivial⟩, hE82, hB78, z79, (LK_inr hN142).symm⟩
  rintro a w133 ⟨ha, hE141, hB134, z135, rfl⟩
  have hF : F_spec_GraphOk_k2 a0_0 x9 = some _ := hK138; clear hK138; unfold F_spec_GraphOk_k2 at hF
  refine e_then ?_; refine wp_seq ?_; refine wp_seq ?_; refine wp_region_lit ?_; refine op_g ha rfl (g_assign rfl) ?_; clear ha a; intro a ha; refine wpList_nil ?_; refine e_then ?_; obtain ⟨o675, ho676, hK677⟩ := bnd_some hF
  obtain ⟨n678, hn679⟩ := lp_some ho676; clear ho676
  refine c_loop (fun a w => Fr 64 [] a ∧ Chg [] W w ∧ o675 = .inl ()) (fun n a w => ∃ (i436 : Int), Fr 64 [(1, (.pointer (some ⟨b1, 0, none⟩))), (3, (.int .i64 x9)), (5, (.int .i64 i436))] a ∧ Chg [] W w ∧ InI i436 ∧ Bx w b1 [va0_0] 27 ∧ Zn W (b1 : Int) ∧ lpN (fun s => F_spec_GraphOk_l3 a0_0 x9 s) n i436 = some o675) n678 ⟨0, ha.sub ⟨rfl, rfl, rfl, trivial⟩, hE141, (show InI 0 from by decide), hB134, z135, hn679⟩ ?_ ?_
  · rintro m683 a w433 ⟨i436, ha, hE438, hI437, hB434, z435, hF⟩
    cases m683 with
    | zero => exact (lpN_zero hF).elim
    | succ m683 =>
      obtain ⟨z682, hF, hN681⟩ := lpN_succ hF
      have hF : F_spec_GraphOk_l3 a0_0 x9 i436 = some z682 := hF; unfold F_spec_GraphOk_l3 at hF
      refine wp_seq ?_; refine wp_seq ?_; refine wp_region_lit ?_; (iterate 2 refine op_g ha rfl (g_move rfl) ?_; clear ha a; intro a ha); refine op_g ha rfl (g_lss rfl rfl) ?_; clear ha a; intro a ha; refine wpList_nil ?_; replace ha := ha.sub (σ' := [(1, (.pointer (some ⟨b1, 0, none⟩))), (3, (.int .i64 x9)), (5, (.int .i64 i436)), (36, (.bool (decide (i436 < x9))))]) ⟨rfl, rfl, rfl, rfl, trivial⟩; refine e_then ?_; refine c_cond (i436 < x9) ha rfl (decide_eq_true_iff) (fun hp684 => ?_) (fun hp684 => ?_)
      · replace hF := if_t hp684 hF
        refine wp_skip ?_; refine e_then ?_; refine wp_seq ?_; refine wp_block ?_; refine wp_seq ?_; refine wp_region_lit ?_; refine op_g ha rfl (g_assign rfl) ?_; clear ha a; intro a ha; refine wpList_nil ?_; replace ha := ha.sub (σ' := [(1, (.pointer (some ⟨b1, 0, none⟩))), (3, (.int .i64 x9)), (5, (.int .i64 i436)), (6, (.int .i64 0))]) ⟨rfl, rfl, rfl, rfl, trivial⟩; refine e_then ?_; obtain ⟨o838, ho839, hK840⟩ := bnd_some hF
        obtain ⟨n841, hn842⟩ := lp_some ho839; clear ho839
        refine c_loop (fun a w => Fr 64 [(1, (.pointer (some ⟨b1, 0, none⟩))), (3, (.int .i64 x9)), (5, (.int .i64 i436))] a ∧ Chg [] W w ∧ Bx w b1 [va0_0] 27 ∧ Zn W (b1 : Int) ∧ o838 = .inl ()) (fun n a w => ∃ (i762 : Int), Fr 64 [(1, (.pointer (some ⟨b1, 0, none⟩))), (3, (.int .i64 x9)), (5, (.int .i64 i436)), (6, (.int .i64 i762))] a ∧ Chg [] W w ∧ InI i762 ∧ Bx w b1 [va0_0] 27 ∧ Zn W (b1 : Int) ∧ lpN (fun s => F_spec_GraphOk_l4 a0_0 i436 s) n i762 = some o838) n841 ⟨0, ha.sub ⟨rfl, rfl, rfl, rfl, trivial⟩, hE438, (show InI 0 from by decide), hB434, z435, hn842⟩ ?_ ?_
        · rintro m846 a w759 ⟨i762, ha, hE764, hI763, hB760, z761, hF⟩
          cases m846 with
          | zero => exact (lpN_zero hF).elim
          | succ m846 =>
            obtain ⟨z845, hF, hN844⟩ := lpN_succ hF
            have hF : F_spec_GraphOk_l4 a0_0 i436 i762 = some z845 := hF; unfold F_spec_GraphOk_l4 at hF
            refine wp_seq ?_; refine wp_seq ?_; refine wp_region_lit ?_; refine op_g ha rfl (g_move rfl) ?_; clear ha a; intro a ha; refine op_g ha rfl (g_field0 st27_0 rfl) ?_; clear ha a; intro a ha; refine op_g ha rfl (g_load Tryz.isAgg22 rfl (hB760.cell rfl)) ?_; clear ha a; intro a ha; refine op_g ha rfl (g_move rfl) ?_; clear ha a; intro a ha; obtain ⟨x847, g848, gx849, hF⟩ := idx_some hF
            obtain ⟨p850, cs851, f852, hf853, hpb854, hat855, hr856, hi857⟩ := ha0_0.at g848 gx849
            obtain ⟨v858, rfl, h859⟩ := hr856
            have h859 : Ro Rp.int W f852 v858 x847 := h859
            refine op_g ha rfl (hi857.gives sl22 rfl rfl) ?_; clear ha a; intro a ha; refine op_g ha rfl (g_load0 hE764 Tryz.isAgg39 rfl hat855.one) ?_; clear ha a; intro a ha; refine op_g ha rfl (g_lenR sl39.und h859 rfl) ?_; clear ha a; intro a ha; refine op_g ha rfl (g_lss rfl rfl) ?_; clear ha a; intro a ha; refine wpList_nil ?_; replace ha := ha.sub (σ' := [(1, (.pointer (some ⟨b1, 0, none⟩))), (3, (.int .i64 x9)), (5, (.int .i64 i436)), (6, (.int .i64 i762)), (46, (.bool (decide (i762 < (x847.length : Int)))))]) ⟨rfl, rfl, rfl, rfl, rfl, trivial⟩; refine e_then ?_; refine c_cond (i762 < (x847.length : Int)) ha rfl (decide_eq_true_iff) (fun hp861 => ?_) (fun hp861 => ?_)
            · replace hF := if_t hp861 hF
              refine wp_skip ?_; refine e_then ?_; refine wp_seq ?_; refine wp_block ?_; refine wp_seq ?_; refine d_quiet hmix (by kernel_rfl) ?_; refine q_g ha rfl (g_field0 st27_0 rfl) ?_; clear ha a; intro a ha; refine q_g ha rfl (g_load Tryz.isAgg22 rfl (hB760.cell rfl)) ?_; clear ha a; intro a ha; refine q_g ha rfl (g_field0 st27_0 rfl) ?_; clear ha a; intro a ha; refine q_g ha rfl (g_load Tryz.isAgg22 rfl (hB760.cell rfl)) ?_; clear ha a; intro a ha; refine q_g ha rfl (g_move rfl) ?_; clear ha a; intro a ha; obtain ⟨x862, g863, gx864, hF⟩ := idx_some hF
              obtain ⟨p865, cs866, f867, hf868, hpb869, hat870, hr871, hi872⟩ := ha0_0.at g863 gx864
              obtain ⟨v873, rfl, h874⟩ := hr871
              have h874 : Ro Rp.int W f867 v873 x862 := h874
              refine q_g ha rfl (hi872.gives sl22 rfl rfl) ?_; clear ha a; intro a ha; refine q_g ha rfl (g_load0 hE764 Tryz.isAgg39 rfl hat870.one) ?_; clear ha a; intro a ha; refine q_g ha rfl (g_move rfl) ?_; clear ha a; intro a ha; obtain ⟨x876, g877, gx878, hF⟩ := idx_some hF
              obtain ⟨p879, cs880, f881, hf882, hpb883, hat884, hr885, hi886⟩ := h874.at g877 gx878
              obtain ⟨rfl, hI887, rfl⟩ := hr885
              refine q_g ha rfl (hi886.gives sl39 rfl rfl) ?_; clear ha a; intro a ha; refine q_g ha rfl (g_load0 hE764 Tryz.isAgg2 rfl hat884.one) ?_; clear ha a; intro a ha; obtain ⟨x888, g889, gx890, hF⟩ := idx_some hF
              obtain ⟨p891, cs892, f893, hf894, hpb895, hat896, hr897, hi898⟩ := ha0_0.at g889 gx890
              obtain ⟨v899, rfl, h900⟩ := hr897
              have h900 : Ro Rp.int W f893 v899 x888 := h900
              refine q_g ha rfl (hi898.gives sl22 rfl rfl) ?_; clear ha a; intro a ha; refine q_g ha rfl (g_load0 hE764 Tryz.isAgg39 rfl hat896.one) ?_; clear ha a; intro a ha; refine q_g ha rfl (g_move rfl) ?_; clear ha a; intro a ha; obtain ⟨x904, hc905, hF⟩ := cal_some hF; refine q_call (.bool x904) ha rfl rfl Tryz.call41 (fun w903 hx902 => W_spec_l1Has (h900.ext (Ext.trans hE764 hx902)) hI437 hc905) (fun _ _ _ h => ⟨h.1, h.2⟩) ?_; clear ha a; intro a ha; refine q_g ha rfl (g_not rfl) ?_; clear ha a; intro a ha
              refine q_nil ?_; intro w906 hx907
              replace hB760 := hB760.ext hx907
              have hE908 := Ext.trans hE764 hx907
              replace ha := ha.sub (σ' := [(1, (.pointer (some ⟨b1, 0, none⟩))), (3, (.int .i64 x9)), (5, (.int .i64 i436)), (6, (.int .i64 i762)), (63, (.bool (!x904)))]) ⟨rfl, rfl, rfl, rfl, rfl, trivial⟩; refine e_then ?_; refine c_cond (¬ (x904 = true)) ha rfl (n_iff (Iff.rfl)) (fun hp909 => ?_) (fun hp909 => ?_)
              · replace hF := if_t hp909 hF
                refine wp_seq ?_; refine wp_region_lit ?_; refine op_g ha rfl (g_assign rfl) ?_; clear ha a; intro a ha; refine wpList_nil ?_; replace ha := ha.sub (σ' := [(2, (.bool false))]) ⟨rfl, trivial⟩; refine e_then ?_; refine wp_ret ?_; refine e_blk_ret ?_; refine e_then_ret ?_; refine e_lq_ret ?_; refine e_blk_ret ?_; refine e_then_ret ?_; refine e_lq_ret ?_; refine e_then_ret ?_; obtain rfl := Option.some.inj hF
                have e910 := LK_inr hN844; subst e910
                have e911 := BK_inr hK840; subst e911
                have e912 := LK_inr hN681; subst e912
                have e913 := BK_inr hK677; subst e913
                exact f_ret1 ha rfl rfl ⟨rfl, hE908⟩
              replace hF := if_f hp909 hF; refine wp_skip ?_; refine e_blk ?_; refine e_then ?_; refine wp_region_lit ?_; refine op_g ha rfl (g_move rfl) ?_; clear ha a; intro a ha; obtain ⟨hI914, hF⟩ := ck_some hF; refine op_g ha rfl (g_add rfl rfl hI914) ?_; clear ha a; intro a ha; refine op_g ha rfl (g_assign rfl) ?_; clear ha a; intro a ha; refine wpList_nil ?_; replace ha := ha.sub (σ' := [(1, (.pointer (some ⟨b1, 0, none⟩))), (3, (.int .i64 x9)), (5, (.int .i64 i436)), (6, (.int .i64 (i762 + 1)))]) ⟨rfl, rfl, rfl, rfl, trivial⟩; refine e_lq ?_; obtain rfl := Option.some.inj hF
              exact ⟨_, Nat.lt_succ_self _, i762 + 1, ha.sub ⟨rfl, rfl, rfl, rfl, trivial⟩, hE908, hI914, hB760, z761, hN844⟩
            replace hF := if_f hp861 hF; refine wp_exit ?_; refine e_then_exit ?_; refine e_lq_eq ?_; obtain rfl := Option.some.inj hF
            exact ⟨ha.sub ⟨rfl, rfl, rfl, trivial⟩, hE764, hB760, z761, (LK_inr hN844).symm⟩
        rintro a w835 ⟨ha, hE843, hB836, z837, rfl⟩
        have hF : F_spec_GraphOk_k5 i436 = some _ := hK840; clear hK840; unfold F_spec_GraphOk_k5 at hF
        refine e_blk ?_; refine e_then ?_; refine wp_region_lit ?_; refine op_g ha rfl (g_move rfl) ?_; clear ha a; intro a ha; obtain ⟨hI916, hF⟩ := ck_some hF; refine op_g ha rfl (g_add rfl rfl hI916) ?_; clear ha a; intro a ha; refine op_g ha rfl (g_assign rfl) ?_; clear ha a; intro a ha; refine wpList_nil ?_; replace ha := ha.sub (σ' := [(1, (.pointer (some ⟨b1, 0, none⟩))), (3, (.int .i64 x9)), (5, (.int .i64 (i436 + 1)))]) ⟨rfl, rfl, rfl, trivial⟩; refine e_lq ?_; obtain rfl := Option.some.inj hF
        exact ⟨_, Nat.lt_succ_self _, i436 + 1, ha.sub ⟨rfl, rfl, rfl, trivial⟩, hE843, hI916, hB836, z837, hN681⟩
      replace hF := if_f hp684 hF; refine wp_exit ?_; refine e_then_exit ?_; refine e_lq_eq ?_; obtain rfl := Option.some.inj hF
      exact ⟨ha.sub trivial, hE438, (LK_inr hN681).symm⟩
  rintro a w674 ⟨ha, hE680, rfl⟩
  have hF : F_spec_GraphOk_k6 = some _ := hK677; clear hK677; unfold F_spec_GraphOk_k6 at hF
  refine e_then ?_; refine wp_seq ?_; refine wp_region_lit ?_; refine op_g ha rfl (g_assign rfl) ?_; clear ha a; intro a ha; refine wpList_nil ?_; refine e_then ?_; refine wp_ret ?_; obtain rfl := Option.some.inj hF
  exact f_ret1 ha rfl rfl ⟨rfl, hE680⟩
set_option maxHeartbeats 2000000 in
theorem W_spec_l26Small {W : World} {va0_0 : Value} {fa0_0 : List Nat} {a0_0 : (List (List Int))} (ha0_0 : Ro (Rp.sl 2 Rp.int) W fa0_0 va0_0 a0_0) {r : Bool} (hF : F_spec_l26Small a0_0 = some r) :
    Calls Tryz.prog 15 [.agg #[va0_0]].toArray W (Ret fun u w' => u = .bool r ∧ Ext W w') := by
  refine f_enter Tryz.func15 rfl Tryz.ntmps15 rfl ?_
  intro a ha
  replace ha : Fr 11 [(0, (.agg #[va0_0]))] a := ha
  have hE : Chg [] W W := Chg.refl _ _
  unfold F_spec_l26Small at hF
  refine wp_seq ?_; refine wp_region_lit ?_
  refine o_box ha rfl rfl rfl ?_; clear ha a; intro b1 w2 hB3 hx4 hlo5 a ha
  have q6 := Zn.one hlo5
  have q7 := Zn.upD q6 hE
  have hE8 := Ext.trans hE hx4
  refine op_g ha rfl (g_assign rfl) ?_; clear ha a; intro a ha; refine wpList_nil ?_; replace ha := ha.sub (σ' := [(1, (.pointer (some ⟨b1, 0, none⟩)))]) ⟨rfl, trivial⟩; refine e_then ?_; refine wp_seq ?_; refine wp_region_lit ?_; refine op_g ha rfl (g_loadA (cs := [va0_0]) Tryz.isAgg27 Tryz.sizeOf27 rfl (by simp) hB3.all) ?_; clear ha a; intro a ha; obtain ⟨x9, hc10, hF⟩ := cal_some hF
  refine o_call ha rfl rfl Tryz.call26 (W_spec_GraphOk (ha0_0.ext hE8) hc10) ?_; clear ha a; rintro v11 w12 ⟨rfl, hx13⟩ a ha
  replace hB3 := hB3.ext hx13
  have hE14 := Ext.trans hE8 hx13
  refine op_g ha rfl (g_move rfl) ?_; clear ha a; intro a ha
  by_cases hp15 : x9 = true
  · replace hF := if_t hp15 hF
    rw [show (x9) = true from (Iff.rfl).2 hp15] at ha
    refine op_want (yields ha rfl rfl) ?_; refine op_g ha rfl (g_field0 st27_0 rfl) ?_; clear ha a; intro a ha; refine op_want (yields ha rfl rfl) ?_; refine op_g ha rfl (g_load Tryz.isAgg22 rfl (hB3.cell rfl)) ?_; clear ha a; intro a ha; refine op_want (yields ha rfl rfl) ?_; refine op_g ha rfl (g_lenR sl22.und ha0_0 rfl) ?_; clear ha a; intro a ha; refine op_want (yields ha rfl rfl) ?_; refine op_g ha rfl (g_leq rfl rfl) ?_; clear ha a; intro a ha; refine op_g ha rfl (g_pick rfl rfl) ?_; clear ha a; intro a ha; refine op_g ha rfl (g_assign rfl) ?_; clear ha a; intro a ha; refine wpList_nil ?_
    replace ha := ha.sub (σ' := [(2, (.bool (decide ((a0_0.length : Int) ≤ 8))))]) ⟨rfl, trivial⟩; refine e_then ?_; refine wp_ret ?_; obtain rfl := Option.some.inj hF
    exact f_ret1 ha rfl rfl ⟨rfl, hE14⟩
  replace hF := if_f hp15 hF
  rw [show (x9) = false from b_false (Iff.rfl) hp15] at ha
  (iterate 4 refine op_unwant ha rfl (yields ha rfl rfl) rfl ?_; clear ha a; intro a ha); refine op_g ha rfl (g_pick rfl rfl) ?_; clear ha a; intro a ha; refine op_g ha rfl (g_assign rfl) ?_; clear ha a; intro a ha; refine wpList_nil ?_; replace ha := ha.sub (σ' := [(2, (.bool false))]) ⟨rfl, trivial⟩; refine e_then ?_; refine wp_ret ?_; obtain rfl := Option.some.inj hF
  exact f_ret1 ha rfl rfl ⟨rfl, hE14⟩
set_option maxHeartbeats 2000000 in
theorem W_spec_l1Edges {W : World} {va0_0 : Value} {fa0_0 : List Nat} {a0_0 : (List (List Int))} (ha0_0 : Ro (Rp.sl 2 Rp.int) W fa0_0 va0_0 a0_0) {r : (List (List Int))} (hF : F_spec_l1Edges a0_0 = some r) :
    Calls Tryz.prog 27 [.agg #[va0_0]].toArray W (Ret fun u w' => ∃ (b_u : Int) (fs_u : List Nat), Ow (Rp.sl 2 Rp.int) 39 true w' fs_u b_u u r ∧ Zn W b_u ∧ (∀ k ∈ fs_u, W.heap.size ≤ k) ∧ (bl b_u ++ fs_u).Nodup ∧ Ext W w') := by
  refine f_enter Tryz.func27 rfl Tryz.ntmps27 rfl ?_
  intro a ha
  replace ha : Fr 47 [(0, (.agg #[va0_0]))] a := ha
  have hE : Chg [] W W := Chg.refl _ _
  unfold F_spec_l1Edges at hF
  refine wp_seq ?_; refine wp_region_lit ?_
  refine o_box ha rfl rfl rfl ?_; clear ha a; intro b1 w2 hB3 hx4 hlo5 a ha
  have q6 := Zn.one hlo5
  have q7 := Zn.upD q6 hE
  have hE8 := Ext.trans hE hx4
  refine op_g ha rfl (g_assign rfl) ?_; clear ha a; intro a ha; refine wpList_nil ?_; replace ha := ha.sub (σ' := [(1, (.pointer (some ⟨b1, 0, none⟩)))]) ⟨rfl, trivial⟩; refine e_then ?_; refine wp_seq ?_; refine wp_region_lit ?_
  refine o_lit0 (Rp.sl 2 Rp.int) ha rfl sl22 ?_; clear ha a; intro v9 w10 h11 hx12 a ha
  obtain ⟨b14, hb14⟩ : ∃ b : Int, b = w2.heap.size := ⟨_, rfl⟩; rw [← hb14] at h11
  have q15 := zn_of hb14
  have q16 := Nq.new hB3.fpb q15
  have q17 := Nq.madeO q15 hB3.bi
  have q18 := Zn.upD q15 hE8
  replace hB3 := hB3.ext hx12
  have hE19 := Ext.trans hE8 hx12
  refine op_g ha rfl (g_assign rfl) ?_; clear ha a; intro a ha; refine wpList_nil ?_; replace ha := ha.sub (σ' := [(1, (.pointer (some ⟨b1, 0, none⟩))), (3, v9)]) ⟨rfl, rfl, trivial⟩; refine e_then ?_; refine wp_seq ?_; refine wp_seq ?_; refine wp_region_lit ?_; refine op_g ha rfl (g_assign rfl) ?_; clear ha a; intro a ha; refine wpList_nil ?_; refine e_then ?_; obtain ⟨o981, ho982, hK983⟩ := bnd_some hF
  obtain ⟨n984, hn985⟩ := lp_some ho982; clear ho982
  refine c_loop (fun a w => ∃ (l978 : (List (List Int))) (fs975 : List Nat) (v979 : Value) (b980 : Int), Fr 47 [(3, v979)] a ∧ Chg [] W w ∧ Ow (Rp.sl 2 Rp.int) 39 true w fs975 b980 v979 l978 ∧ Zn W b980 ∧ (∀ k ∈ fs975, W.heap.size ≤ k) ∧ (bl b980 ++ fs975).Nodup ∧ o981 = .inl l978) (fun n a w => ∃ (l502 : (List (List Int))) (i505 : Int) (fs499 : List Nat) (v503 : Value) (b504 : Int), Fr 47 [(1, (.pointer (some ⟨b1, 0, none⟩))), (3, v503), (4, (.int .i64 i505))] a ∧ Chg [] W w ∧ InI i505 ∧ Bx w b1 [va0_0] 27 ∧ Zn W (b1 : Int) ∧ Ow (Rp.sl 2 Rp.int) 39 true w fs499 b504 v503 l502 ∧ Zn W b504 ∧ (∀ k ∈ fs499, W.heap.size ≤ k) ∧ (bl b504 ++ fs499).Nodup ∧ Nq ([b1]) b504 ∧ Nq (bl b504 ++ fs499) (b1 : Int) ∧ lpN (fun s => F_spec_l1Edges_l1 a0_0 s.1 s.2) n (l502, i505) = some o981) n984 ⟨([] : (List (List Int))), 0, [], v9, b14, ha.sub ⟨rfl, rfl, rfl, trivial⟩, hE19, (show InI 0 from by decide), hB3, q7, h11, q18, (zf_nil _), (bl_nodup b14), q16, q17, hn985⟩ ?_ ?_
  · rintro m989 a w493 ⟨l502, i505, fs499, v503, b504, ha, hE509, hI506, hB494, z495, h497, z498, zf500, nd501, q507, q508, hF⟩
    cases m989 with
    | zero => exact (lpN_zero hF).elim
    | succ m989 =>
      obtain ⟨z988, hF, hN987⟩ := lpN_succ hF
      have hF : F_spec_l1Edges_l1 a0_0 l502 i505 = some z988 := hF; unfold F_spec_l1Edges_l1 at hF
      refine wp_seq ?_; refine wp_seq ?_; refine wp_region_lit ?_; refine op_g ha rfl (g_move rfl) ?_; clear ha a; intro a ha; refine op_g ha rfl (g_loadA (cs := [va0_0]) Tryz.isAgg27 Tryz.sizeOf27 rfl (by simp) hB494.all) ?_; clear ha a; intro a ha; obtain ⟨x990, hc991, hF⟩ := cal_some hF
      refine o_call ha rfl rfl Tryz.call38 (W_spec_l1Size (ha0_0.ext hE509) hc991) ?_; clear ha a; rintro v992 w993 ⟨⟨rfl, hI995⟩, hx994⟩ a ha
      replace hB494 := hB494.ext hx994
      replace h497 := h497.ext hx994
      have hE996 := Ext.trans hE509 hx994
      refine op_g ha rfl (g_lss rfl rfl) ?_; clear ha a; intro a ha; refine wpList_nil ?_; replace ha := ha.sub (σ' := [(1, (.pointer (some ⟨b1, 0, none⟩))), (3, v503), (4, (.int .i64 i505)), (10, (.bool (decide (i505 < x990))))]) ⟨rfl, rfl, rfl, rfl, trivial⟩; refine e_then ?_; refine c_cond (i505 < x990) ha rfl (decide_eq_true_iff) (fun hp997 => ?_) (fun hp997 => ?_)
      · replace hF := if_t hp997 hF
        refine wp_skip ?_; refine e_then ?_; refine wp_seq ?_; refine wp_block ?_; refine wp_seq ?_; refine wp_region_lit ?_; refine op_g ha rfl (g_assign rfl) ?_; clear ha a; intro a ha; refine wpList_nil ?_; replace ha := ha.sub (σ' := [(1, (.pointer (some ⟨b1, 0, none⟩))), (3, v503), (4, (.int .i64 i505)), (5, (.int .i64 0))]) ⟨rfl, rfl, rfl, rfl, trivial⟩; refine e_then ?_; obtain ⟨o1307, ho1308, hK1309⟩ := bnd_some hF
        obtain ⟨n1310, hn1311⟩ := lp_some ho1308; clear ho1308
        refine c_loop (fun a w => ∃ (l1302 : (List (List Int))) (fs1299 : List Nat) (v1303 : Value) (b1304 : Int), Fr 47 [(1, (.pointer (some ⟨b1, 0, none⟩))), (3, v1303), (4, (.int .i64 i505))] a ∧ Chg [] W w ∧ Bx w b1 [va0_0] 27 ∧ Zn W (b1 : Int) ∧ Ow (Rp.sl 2 Rp.int) 39 true w fs1299 b1304 v1303 l1302 ∧ Zn W b1304 ∧ (∀ k ∈ fs1299, W.heap.size ≤ k) ∧ (bl b1304 ++ fs1299).Nodup ∧ Nq ([b1]) b1304 ∧ Nq (bl b1304 ++ fs1299) (b1 : Int) ∧ o1307 = .inl l1302) (fun n a w => ∃ (l1152 : (List (List Int))) (i1155 : Int) (fs1149 : List Nat) (v1153 : Value) (b1154 : Int), Fr 47 [(1, (.pointer (some ⟨b1, 0, none⟩))), (3, v1153), (4, (.int .i64 i505)), (5, (.int .i64 i1155))] a ∧ Chg [] W w ∧ InI i1155 ∧ Bx w b1 [va0_0] 27 ∧ Zn W (b1 : Int) ∧ Ow (Rp.sl 2 Rp.int) 39 true w fs1149 b1154 v1153 l1152 ∧ Zn W b1154 ∧ (∀ k ∈ fs1149, W.heap.size ≤ k) ∧ (bl b1154 ++ fs1149).Nodup ∧ Nq ([b1]) b1154 ∧ Nq (bl b1154 ++ fs1149) (b1 : Int) ∧ lpN (fun s => F_spec_l1Edges_l2 a0_0 i505 s.1 s.2) n (l1152, i1155) = some o1307) n1310 ⟨l502, 0, fs499, v503, b504, ha.sub ⟨rfl, rfl, rfl, rfl, trivial⟩, hE996, (show InI 0 from by decide), hB494, z495, h497, z498, zf500, nd501, q507, q508, hn1311⟩ ?_ ?_
        · rintro m1315 a w1143 ⟨l1152, i1155, fs1149, v1153, b1154, ha, hE1159, hI1156, hB1144, z1145, h1147, z1148, zf1150, nd1151, q1157, q1158, hF⟩
          cases m1315 with
          | zero => exact (lpN_zero hF).elim
          | succ m1315 =>
            obtain ⟨z1314, hF, hN1313⟩ := lpN_succ hF
            have hF : F_spec_l1Edges_l2 a0_0 i505 l1152 i1155 = some z1314 := hF; unfold F_spec_l1Edges_l2 at hF
            refine wp_seq ?_; refine wp_seq ?_; refine wp_region_lit ?_; refine op_g ha rfl (g_move rfl) ?_; clear ha a; intro a ha; refine op_g ha rfl (g_field0 st27_0 rfl) ?_; clear ha a; intro a ha; refine op_g ha rfl (g_load Tryz.isAgg22 rfl (hB1144.cell rfl)) ?_; clear ha a; intro a ha; refine op_g ha rfl (g_move rfl) ?_; clear ha a; intro a ha; obtain ⟨x1316, g1317, gx1318, hF⟩ := idx_some hF
            obtain ⟨p1319, cs1320, f1321, hf1322, hpb1323, hat1324, hr1325, hi1326⟩ := ha0_0.at g1317 gx1318
            obtain ⟨v1327, rfl, h1328⟩ := hr1325
            have h1328 : Ro Rp.int W f1321 v1327 x1316 := h1328
            refine op_g ha rfl (hi1326.gives sl22 rfl rfl) ?_; clear ha a; intro a ha; refine op_g ha rfl (g_load0 hE1159 Tryz.isAgg39 rfl hat1324.one) ?_; clear ha a; intro a ha; refine op_g ha rfl (g_lenR sl39.und h1328 rfl) ?_; clear ha a; intro a ha; refine op_g ha rfl (g_lss rfl rfl) ?_; clear ha a; intro a ha; refine wpList_nil ?_; replace ha := ha.sub (σ' := [(1, (.pointer (some ⟨b1, 0, none⟩))), (3, v1153), (4, (.int .i64 i505)), (5, (.int .i64 i1155)), (20, (.bool (decide (i1155 < (x1316.length : Int)))))]) ⟨rfl, rfl, rfl, rfl, rfl, trivial⟩; refine e_then ?_; refine c_cond (i1155 < (x1316.length : Int)) ha rfl (decide_eq_true_iff) (fun hp1330 => ?_) (fun hp1330 => ?_)
            · replace hF := if_t hp1330 hF
              refine wp_skip ?_; refine e_then ?_; refine wp_seq ?_; refine wp_block ?_; refine wp_seq ?_; refine wp_region_lit ?_; refine op_g ha rfl (g_field0 st27_0 rfl) ?_; clear ha a; intro a ha; refine op_g ha rfl (g_load Tryz.isAgg22 rfl (hB1144.cell rfl)) ?_; clear ha a; intro a ha; refine op_g ha rfl (g_move rfl) ?_; clear ha a; intro a ha; obtain ⟨x1331, g1332, gx1333, hF⟩ := idx_some hF
              obtain ⟨p1334, cs1335, f1336, hf1337, hpb1338, hat1339, hr1340, hi1341⟩ := ha0_0.at g1332 gx1333
              obtain ⟨v1342, rfl, h1343⟩ := hr1340
              have h1343 : Ro Rp.int W f1336 v1342 x1331 := h1343
              refine op_g ha rfl (hi1341.gives sl22 rfl rfl) ?_; clear ha a; intro a ha; refine op_g ha rfl (g_load0 hE1159 Tryz.isAgg39 rfl hat1339.one) ?_; clear ha a; intro a ha; refine op_g ha rfl (g_move rfl) ?_; clear ha a; intro a ha; obtain ⟨x1345, g1346, gx1347, hF⟩ := idx_some hF
              obtain ⟨p1348, cs1349, f1350, hf1351, hpb1352, hat1353, hr1354, hi1355⟩ := h1343.at g1346 gx1347
              obtain ⟨rfl, hI1356, rfl⟩ := hr1354
              refine op_g ha rfl (hi1355.gives sl39 rfl rfl) ?_; clear ha a; intro a ha; refine op_g ha rfl (g_load0 hE1159 Tryz.isAgg2 rfl hat1353.one) ?_; clear ha a; intro a ha; refine op_g ha rfl (g_move rfl) ?_; clear ha a; intro a ha; refine op_g ha rfl (g_gtr rfl rfl) ?_; clear ha a; intro a ha; refine wpList_nil ?_; replace ha := ha.sub (σ' := [(1, (.pointer (some ⟨b1, 0, none⟩))), (3, v1153), (4, (.int .i64 i505)), (5, (.int .i64 i1155)), (32, (.bool (decide (i505 < x1345))))]) ⟨rfl, rfl, rfl, rfl, rfl, trivial⟩; refine e_then ?_; refine c_cond (i505 < x1345) ha rfl (decide_eq_true_iff) (fun hp1357 => ?_) (fun hp1357 => ?_)
              · replace hF := if_t hp1357 hF
                refine wp_region_lit ?_; (iterate 2 refine op_g ha rfl (g_move rfl) ?_; clear ha a; intro a ha); refine op_g ha rfl (g_field0 st27_0 rfl) ?_; clear ha a; intro a ha; refine op_g ha rfl (g_load Tryz.isAgg22 rfl (hB1144.cell rfl)) ?_; clear ha a; intro a ha; refine op_g ha rfl (g_move rfl) ?_; clear ha a; intro a ha; obtain ⟨x1358, g1359, gx1360, hF⟩ := idx_some hF
                obtain ⟨p1361, cs1362, f1363, hf1364, hpb1365, hat1366, hr1367, hi1368⟩ := ha0_0.at g1359 gx1360
                obtain ⟨v1369, rfl, h1370⟩ := hr1367
                have h1370 : Ro Rp.int W f1363 v1369 x1358 := h1370
                refine op_g ha rfl (hi1368.gives sl22 rfl rfl) ?_; clear ha a; intro a ha; refine op_g ha rfl (g_load0 hE1159 Tryz.isAgg39 rfl hat1366.one) ?_; clear ha a; intro a ha; refine op_g ha rfl (g_move rfl) ?_; clear ha a; intro a ha; obtain ⟨x1372, g1373, gx1374, hF⟩ := idx_some hF
                obtain ⟨p1375, cs1376, f1377, hf1378, hpb1379, hat1380, hr1381, hi1382⟩ := h1370.at g1373 gx1374
                obtain ⟨rfl, hI1383, rfl⟩ := hr1381
                refine op_g ha rfl (hi1382.gives sl39 rfl rfl) ?_; clear ha a; intro a ha; refine op_g ha rfl (g_load0 hE1159 Tryz.isAgg2 rfl hat1380.one) ?_; clear ha a; intro a ha
                have hvob1388 : ∀ p ∈ ([((.int .i64 i505), [(.int .i64 i505)]), ((.int .i64 x1372), [(.int .i64 x1372)])] : List (Value × List Value)), p.1.cells = p.2.toArray ∧ p.2.length = 1 := by
                  intro p hp; simp only [List.mem_cons, List.not_mem_nil, or_false] at hp; rcases hp with hp | hp <;> subst hp <;> first | exact ⟨rfl, rfl⟩
                refine o_litM (o := true) (f := []) (ps := [((.int .i64 i505), [(.int .i64 i505)]), ((.int .i64 x1372), [(.int .i64 x1372)])]) (ys := [i505, x1372]) Rp.int ha rfl sl39 rfl rfl rfl rfl hvob1388 ⟨[], [], [(.int .i64 i505)], _, rfl, rfl, ⟨rfl, hI506, rfl⟩, ⟨[], [], [(.int .i64 x1372)], _, rfl, rfl, ⟨rfl, hI1383, rfl⟩, ⟨rfl, rfl⟩⟩⟩ ?_; clear ha a; intro v1384 w1385 h1386 hx1387 a ha
                obtain ⟨b1389, hb1389⟩ : ∃ b : Int, b = w1143.heap.size := ⟨_, rfl⟩; rw [← hb1389] at h1386
                have q1390 := zn_of hb1389
                have q1391 := Nq.new hB1144.fpb q1390
                have q1392 := Nq.madeO q1390 hB1144.bi
                have q1393 := Nq.new h1147.fpb q1390
                have q1394 := Nq.madeO q1390 h1147.blt
                have q1395 := Nf.old q1390 (zf_nil _) h1147.bnd
                have q1396 := Zn.upD q1390 hE1159
                replace hB1144 := hB1144.ext hx1387
                replace h1147 := h1147.ext hx1387
                have hE1397 := Ext.trans hE1159 hx1387
                refine o_lit1 (o := true) (y := [i505, x1372]) (Rp.sl 2 Rp.int) ha rfl sl22 rfl rfl h1386.cells (Rp.mkO h1386) ?_; clear ha a; intro v1398 w1399 h1400 hx1401 a ha
                obtain ⟨b1403, hb1403⟩ : ∃ b : Int, b = w1385.heap.size := ⟨_, rfl⟩; rw [← hb1403] at h1400
                have q1404 := zn_of hb1403
                have q1405 := zf_mv q1396 (zf_nil _)
                have q1406 := dj_of q1393
                have q1407 := Nq.new hB1144.fpb q1404
                have q1408 := Nq.append (Nq.madeL q1404 hB1144.bi) q1392
                have q1409 := Nq.new h1147.fpb q1404
                have q1410 := Nq.append (Nq.madeL q1404 h1147.blt) q1394
                have q1411 := Zn.upD q1404 hE1397
                have q1412 := nd_lit (bl_nodup b1389) h1386.fpb hb1403
                replace hB1144 := hB1144.ext hx1401
                replace h1147 := h1147.ext hx1401
                have hE1413 := Ext.trans hE1397 hx1401
                obtain ⟨hl1414, hF⟩ := app_some hF
                have q1415 := Nq.right q1410
                refine o_append ha rfl sl22 rfl rfl rfl h1147 h1400.src q1415 hl1414 ?_; clear ha a; intro v1416 w1417 b1418 h1419 hc1420 hb1421 a ha
                replace h1419 : Ow (Rp.sl 2 Rp.int) 39 true w1417 (fs1149 ++ (bl b1389 ++ [])) b1418 v1416 _ := h1419
                have q1423 := zf_app zf1150 q1405
                have q1424 := nd_app nd1151 (bl_nodup b1389) q1406 hb1421 h1147.fpb h1400.bnd
                have q1425 := Nq.appY q1157 hB1144.fpb hb1421
                have q1426 := Nq.appX q1158 (Nq.right q1408) hb1421 hB1144.bi
                have q1427 := Zn.appD z1148 hb1421 hE1413
                replace hB1144 := hB1144.nq hc1420 q1157
                have hE1428 := Ext.then hE1413 hc1420 (Zn.bl z1148)
                refine op_g ha rfl (g_assign rfl) ?_; clear ha a; intro a ha; refine wpList_nil ?_; replace ha := ha.sub (σ' := [(1, (.pointer (some ⟨b1, 0, none⟩))), (3, v1416), (4, (.int .i64 i505)), (5, (.int .i64 i1155))]) ⟨rfl, rfl, rfl, rfl, trivial⟩; refine e_blk ?_; refine e_then ?_; refine wp_region_lit ?_; refine op_g ha rfl (g_move rfl) ?_; clear ha a; intro a ha; obtain ⟨hI1429, hF⟩ := ck_some hF; refine op_g ha rfl (g_add rfl rfl hI1429) ?_; clear ha a; intro a ha; refine op_g ha rfl (g_assign rfl) ?_; clear ha a; intro a ha; refine wpList_nil ?_; replace ha := ha.sub (σ' := [(1, (.pointer (some ⟨b1, 0, none⟩))), (3, v1416), (4, (.int .i64 i505)), (5, (.int .i64 (i1155 + 1)))]) ⟨rfl, rfl, rfl, rfl, trivial⟩
                refine e_lq ?_; obtain rfl := Option.some.inj hF
                exact ⟨_, Nat.lt_succ_self _, (l1152 ++ ([[i505, x1372]])), i1155 + 1, (fs1149 ++ (bl b1389 ++ [])), v1416, b1418, ha.sub ⟨rfl, rfl, rfl, rfl, trivial⟩, hE1428, hI1429, hB1144, z1145, h1419, q1427, q1423, q1424, q1425, q1426, hN1313⟩
              replace hF := if_f hp1357 hF; refine wp_skip ?_; refine e_blk ?_; refine e_then ?_; refine wp_region_lit ?_; refine op_g ha rfl (g_move rfl) ?_; clear ha a; intro a ha; obtain ⟨hI1431, hF⟩ := ck_some hF; refine op_g ha rfl (g_add rfl rfl hI1431) ?_; clear ha a; intro a ha; refine op_g ha rfl (g_assign rfl) ?_; clear ha a; intro a ha; refine wpList_nil ?_; replace ha := ha.sub (σ' := [(1, (.pointer (some ⟨b1, 0, none⟩))), (3, v1153), (4, (.int .i64 i505)), (5, (.int .i64 (i1155 + 1)))]) ⟨rfl, rfl, rfl, rfl, trivial⟩; refine e_lq ?_; obtain rfl := Option.some.inj hF
              exact ⟨_, Nat.lt_succ_self _, l1152, i1155 + 1, fs1149, v1153, b1154, ha.sub ⟨rfl, rfl, rfl, rfl, trivial⟩, hE1159, hI1431, hB1144, z1145, h1147, z1148, zf1150, nd1151, q1157, q1158, hN1313⟩
            replace hF := if_f hp1330 hF; refine wp_exit ?_; refine e_then_exit ?_; refine e_lq_eq ?_; obtain rfl := Option.some.inj hF
            exact ⟨l1152, fs1149, v1153, b1154, ha.sub ⟨rfl, rfl, rfl, trivial⟩, hE1159, hB1144, z1145, h1147, z1148, zf1150, nd1151, q1157, q1158, (LK_inr hN1313).symm⟩
        rintro a w1293 ⟨l1302, fs1299, v1303, b1304, ha, hE1312, hB1294, z1295, h1297, z1298, zf1300, nd1301, q1305, q1306, rfl⟩
        have hF : F_spec_l1Edges_k3 i505 l1302 = some _ := hK1309; clear hK1309; unfold F_spec_l1Edges_k3 at hF
        refine e_blk ?_; refine e_then ?_; refine wp_region_lit ?_; refine op_g ha rfl (g_move rfl) ?_; clear ha a; intro a ha; obtain ⟨hI1433, hF⟩ := ck_some hF; refine op_g ha rfl (g_add rfl rfl hI1433) ?_; clear ha a; intro a ha; refine op_g ha rfl (g_assign rfl) ?_; clear ha a; intro a ha; refine wpList_nil ?_; replace ha := ha.sub (σ' := [(1, (.pointer (some ⟨b1, 0, none⟩))), (3, v1303), (4, (.int .i64 (i505 + 1)))]) ⟨rfl, rfl, rfl, trivial⟩; refine e_lq ?_; obtain rfl := Option.some.inj hF
        exact ⟨_, Nat.lt_succ_self _, l1302, i505 + 1, fs1299, v1303, b1304, ha.sub ⟨rfl, rfl, rfl, trivial⟩, hE1312, hI1433, hB1294, z1295, h1297, z1298, zf1300, nd1301, q1305, q1306, hN987⟩
      replace hF := if_f hp997 hF; refine wp_exit ?_; refine e_then_exit ?_; refine e_lq_eq ?_; obtain rfl := Option.some.inj hF
      exact ⟨l502, fs499, v503, b504, ha.sub ⟨rfl, trivial⟩, hE996, h497, z498, zf500, nd501, (LK_inr hN987).symm⟩
  rintro a w971 ⟨l978, fs975, v979, b980, ha, hE986, h973, z974, zf976, nd977, rfl⟩
  have hF : F_spec_l1Edges_k4 l978 = some _ := hK983; clear hK983; unfold F_spec_l1Edges_k4 at hF
  refine e_then ?_; refine wp_seq ?_; refine wp_region_lit ?_; refine op_g ha rfl (g_move rfl) ?_; clear ha a; intro a ha; refine op_g ha rfl (g_assign rfl) ?_; clear ha a; intro a ha; refine wpList_nil ?_; replace ha := ha.sub (σ' := [(2, v979)]) ⟨rfl, trivial⟩; refine e_then ?_; refine wp_ret ?_; obtain rfl := Option.some.inj hF
  exact f_ret1 ha rfl rfl ⟨_, _, h973, z974, zf976, nd977, hE986⟩
set_option maxHeartbeats 2000000 in
theorem W_spec_l25Mask {W : World} {va0 : Value} {fa0 : List Nat} {a0 : (List Int)} (ha0 : Ro Rp.int W fa0 va0 a0) {r : Int} (hF : F_spec_l25Mask a0 = some r) :
    Calls Tryz.prog 56 [va0].toArray W (Ret fun u w' => (u = .int .i64 r ∧ InI r) ∧ Ext W w') := by
  refine f_enter Tryz.func56 rfl Tryz.ntmps56 rfl ?_
  intro a ha
  replace ha : Fr 20 [(0, va0)] a := ha
  have hE : Chg [] W W := Chg.refl _ _
  unfold F_spec_l25Mask at hF
  refine wp_seq ?_; refine wp_region_lit ?_; refine op_g ha rfl (g_assign rfl) ?_; clear ha a; intro a ha; refine wpList_nil ?_; replace ha := ha.sub (σ' := [(0, va0)]) ⟨rfl, trivial⟩; refine e_then ?_; refine wp_seq ?_; refine wp_region_lit ?_; refine op_g ha rfl (g_assign rfl) ?_; clear ha a; intro a ha; refine wpList_nil ?_; refine e_then ?_; refine wp_seq ?_; refine wp_seq ?_; refine wp_region_lit ?_; refine op_g ha rfl (g_assign rfl) ?_; clear ha a; intro a ha; refine wpList_nil ?_; refine e_then ?_; obtain ⟨o58, ho59, hK60⟩ := bnd_some hF
  obtain ⟨n61, hn62⟩ := lp_some ho59; clear ho59
  refine c_loop (fun a w => ∃ (i56 : Int), Fr 20 [(3, (.int .i64 i56))] a ∧ Chg [] W w ∧ InI i56 ∧ o58 = .inl i56) (fun n a w => ∃ (i27 : Int) (i29 : Int), Fr 20 [(0, va0), (3, (.int .i64 i27)), (4, (.int .i64 i29))] a ∧ Chg [] W w ∧ InI i27 ∧ InI i29 ∧ lpN (fun s => F_spec_l25Mask_l1 a0 s.1 s.2) n (i27, i29) = some o58) n61 ⟨0, 0, ha.sub ⟨rfl, rfl, rfl, trivial⟩, hE, (show InI 0 from by decide), (show InI 0 from by decide), hn62⟩ ?_ ?_
  · rintro m66 a w26 ⟨i27, i29, ha, hE31, hI28, hI30, hF⟩
    cases m66 with
    | zero => exact (lpN_zero hF).elim
    | succ m66 =>
      obtain ⟨z65, hF, hN64⟩ := lpN_succ hF
      have hF : F_spec_l25Mask_l1 a0 i27 i29 = some z65 := hF; unfold F_spec_l25Mask_l1 at hF
      refine wp_seq ?_; refine wp_seq ?_; refine wp_region_lit ?_; (iterate 2 refine op_g ha rfl (g_move rfl) ?_; clear ha a; intro a ha); refine op_g ha rfl (g_lenR sl39.und ha0 rfl) ?_; clear ha a; intro a ha; refine op_g ha rfl (g_lss rfl rfl) ?_; clear ha a; intro a ha; refine wpList_nil ?_; replace ha := ha.sub (σ' := [(0, va0), (3, (.int .i64 i27)), (4, (.int .i64 i29)), (8, (.bool (decide (i29 < (a0.length : Int)))))]) ⟨rfl, rfl, rfl, rfl, trivial⟩; refine e_then ?_; refine c_cond (i29 < (a0.length : Int)) ha rfl (decide_eq_true_iff) (fun hp67 => ?_) (fun hp67 => ?_)
      · replace hF := if_t hp67 hF
        refine wp_skip ?_; refine e_then ?_; refine wp_seq ?_; refine wp_block ?_; refine wp_region_lit ?_; (iterate 3 refine op_g ha rfl (g_move rfl) ?_; clear ha a; intro a ha); obtain ⟨x68, g69, gx70, hF⟩ := idx_some hF
        obtain ⟨p71, cs72, f73, hf74, hpb75, hat76, hr77, hi78⟩ := ha0.at g69 gx70
        obtain ⟨rfl, hI79, rfl⟩ := hr77
        refine op_g ha rfl (hi78.gives sl39 rfl rfl) ?_; clear ha a; intro a ha; refine op_g ha rfl (g_load0 hE31 Tryz.isAgg2 rfl hat76.one) ?_; clear ha a; intro a ha; obtain ⟨h080, hF⟩ := grd_some hF; refine op_g ha rfl (g_conv6u un2 un90 rfl hI79 h080) ?_; clear ha a; intro a ha; obtain ⟨hI81, hF⟩ := ck_some hF; refine op_g ha rfl (g64_shl rfl rfl (inU_of hI79 h080).1 hI81) ?_; clear ha a; intro a ha; refine op_g ha rfl (g64_or rfl rfl) ?_; clear ha a; intro a ha; refine op_g ha rfl (g_assign rfl) ?_; clear ha a; intro a ha; refine wpList_nil ?_; replace ha := ha.sub (σ' := [(0, va0), (3, (.int .i64 (i64or i27 (1 * 2 ^ (x68 : Int).toNat)))), (4, (.int .i64 i29))]) ⟨rfl, rfl, rfl, trivial⟩
        refine e_blk ?_; refine e_then ?_; refine wp_region_lit ?_; refine op_g ha rfl (g_move rfl) ?_; clear ha a; intro a ha; obtain ⟨hI83, hF⟩ := ck_some hF; refine op_g ha rfl (g_add rfl rfl hI83) ?_; clear ha a; intro a ha; refine op_g ha rfl (g_assign rfl) ?_; clear ha a; intro a ha; refine wpList_nil ?_; replace ha := ha.sub (σ' := [(0, va0), (3, (.int .i64 (i64or i27 (1 * 2 ^ (x68 : Int).toNat)))), (4, (.int .i64 (i29 + 1)))]) ⟨rfl, rfl, rfl, trivial⟩; refine e_lq ?_; obtain rfl := Option.some.inj hF
        exact ⟨_, Nat.lt_succ_self _, i64or i27 (1 * 2 ^ (x68 : Int).toNat), i29 + 1, ha.sub ⟨rfl, rfl, rfl, trivial⟩, hE31, (in_i64or _ _), hI83, hN64⟩
      replace hF := if_f hp67 hF; refine wp_exit ?_; refine e_then_exit ?_; refine e_lq_eq ?_; obtain rfl := Option.some.inj hF
      exact ⟨i27, ha.sub ⟨rfl, trivial⟩, hE31, hI28, (LK_inr hN64).symm⟩
  rintro a w55 ⟨i56, ha, hE63, hI57, rfl⟩
  have hF : F_spec_l25Mask_k2 i56 = some _ := hK60; clear hK60; unfold F_spec_l25Mask_k2 at hF
  refine e_then ?_; refine wp_seq ?_; refine wp_region_lit ?_; refine op_g ha rfl (g_move rfl) ?_; clear ha a; intro a ha; refine op_g ha rfl (g_assign rfl) ?_; clear ha a; intro a ha; refine wpList_nil ?_; replace ha := ha.sub (σ' := [(2, (.int .i64 i56))]) ⟨rfl, trivial⟩; refine e_then ?_; refine wp_ret ?_; obtain rfl := Option.some.inj hF
  exact f_ret1 ha rfl rfl ⟨⟨rfl, hI57⟩, hE63⟩
set_option maxHeartbeats 2000000 in
theorem W_spec_l27Low {W : World} {a0 : Int} (ha0 : InI a0) {r : Int} (hF : F_spec_l27Low a0 = some r) :
    Calls Tryz.prog 58 [.int .i64 a0].toArray W (Ret fun u w' => (u = .int .i64 r ∧ InI r) ∧ Ext W w') := by
  refine f_enter Tryz.func58 rfl Tryz.ntmps58 rfl ?_
  intro a ha
  replace ha : Fr 13 [(0, (.int .i64 a0))] a := ha
  have hE : Chg [] W W := Chg.refl _ _
  unfold F_spec_l27Low at hF
  refine wp_seq ?_; refine wp_region_lit ?_; refine op_g ha rfl (g_assign rfl) ?_; clear ha a; intro a ha; refine wpList_nil ?_; replace ha := ha.sub (σ' := [(0, (.int .i64 a0))]) ⟨rfl, trivial⟩; refine e_then ?_; refine wp_seq ?_; refine wp_region_lit ?_; refine op_g ha rfl (g_assign rfl) ?_; clear ha a; intro a ha; refine wpList_nil ?_; refine e_then ?_; refine wp_seq ?_; obtain ⟨o24, ho25, hK26⟩ := bnd_some hF
  obtain ⟨n27, hn28⟩ := lp_some ho25; clear ho25
  refine c_loop (fun a w => ∃ (i22 : Int), Fr 13 [(3, (.int .i64 i22))] a ∧ Chg [] W w ∧ InI i22 ∧ o24 = .inl i22) (fun n a w => ∃ (i11 : Int), Fr 13 [(0, (.int .i64 a0)), (3, (.int .i64 i11))] a ∧ Chg [] W w ∧ InI i11 ∧ lpN (fun s => F_spec_l27Low_l1 a0 s) n i11 = some o24) n27 ⟨0, ha.sub ⟨rfl, rfl, trivial⟩, hE, (show InI 0 from by decide), hn28⟩ ?_ ?_
  · rintro m32 a w10 ⟨i11, ha, hE13, hI12, hF⟩
    cases m32 with
    | zero => exact (lpN_zero hF).elim
    | succ m32 =>
      obtain ⟨z31, hF, hN30⟩ := lpN_succ hF
      have hF : F_spec_l27Low_l1 a0 i11 = some z31 := hF; unfold F_spec_l27Low_l1 at hF
      refine wp_seq ?_; refine wp_seq ?_; refine wp_region_lit ?_; (iterate 2 refine op_g ha rfl (g_move rfl) ?_; clear ha a; intro a ha); obtain ⟨h033, hF⟩ := grd_some hF; refine op_g ha rfl (g_conv6u un2 un90 rfl hI12 h033) ?_; clear ha a; intro a ha; refine op_g ha rfl (g64_shr rfl rfl ha0 (inU_of hI12 h033).1) ?_; clear ha a; intro a ha; refine op_g ha rfl (g64_and rfl rfl) ?_; clear ha a; intro a ha; refine op_g ha rfl (g_eql rfl rfl) ?_; clear ha a; intro a ha; refine wpList_nil ?_; replace ha := ha.sub (σ' := [(0, (.int .i64 a0)), (3, (.int .i64 i11)), (9, (.bool (decide ((i64and (a0 / 2 ^ (i11 : Int).toNat) 1) = 0))))]) ⟨rfl, rfl, rfl, trivial⟩
      refine e_then ?_; refine c_cond ((i64and (a0 / 2 ^ (i11 : Int).toNat) 1) = 0) ha rfl (decide_eq_true_iff) (fun hp34 => ?_) (fun hp34 => ?_)
      · replace hF := if_t hp34 hF
        refine wp_skip ?_; refine e_then ?_; refine wp_block ?_; refine wp_region_lit ?_; refine op_g ha rfl (g_move rfl) ?_; clear ha a; intro a ha; obtain ⟨hI35, hF⟩ := ck_some hF; refine op_g ha rfl (g_add rfl rfl hI35) ?_; clear ha a; intro a ha; refine op_g ha rfl (g_assign rfl) ?_; clear ha a; intro a ha; refine wpList_nil ?_; replace ha := ha.sub (σ' := [(0, (.int .i64 a0)), (3, (.int .i64 (i11 + 1)))]) ⟨rfl, rfl, trivial⟩; refine e_blk ?_; refine e_lq ?_; obtain rfl := Option.some.inj hF
        exact ⟨_, Nat.lt_succ_self _, i11 + 1, ha.sub ⟨rfl, rfl, trivial⟩, hE13, hI35, hN30⟩
      replace hF := if_f hp34 hF; refine wp_exit ?_; refine e_then_exit ?_; refine e_lq_eq ?_; obtain rfl := Option.some.inj hF
      exact ⟨i11, ha.sub ⟨rfl, trivial⟩, hE13, hI12, (LK_inr hN30).symm⟩
  rintro a w21 ⟨i22, ha, hE29, hI23, rfl⟩
  have hF : F_spec_l27Low_k2 i22 = some _ := hK26; clear hK26; unfold F_spec_l27Low_k2 at hF
  refine e_then ?_; refine wp_seq ?_; refine wp_region_lit ?_; refine op_g ha rfl (g_move rfl) ?_; clear ha a; intro a ha; refine op_g ha rfl (g_assign rfl) ?_; clear ha a; intro a ha; refine wpList_nil ?_; replace ha := ha.sub (σ' := [(2, (.int .i64 i22))]) ⟨rfl, trivial⟩; refine e_then ?_; refine wp_ret ?_; obtain rfl := Option.some.inj hF
  exact f_ret1 ha rfl rfl ⟨⟨rfl, hI23⟩, hE29⟩
set_option maxHeartbeats 2000000 in
theorem W_spec_l27Part {W : World} {va0 : Value} {fa0 : List Nat} {a0 : (List Int)} (ha0 : Ro Rp.int W fa0 va0 a0) {a1 : Int} (ha1 : InI a1) {a2 : Int} (ha2 : InI a2) {r : Int} (hF : F_spec_l27Part a0 a1 a2 = some r) :
    Calls Tryz.prog 57 [va0, .int .i64 a1, .int .i64 a2].toArray W (Ret fun u w' => (u = .int .i64 r ∧ InI r) ∧ Ext W w') := by
  refine f_enter Tryz.func57 rfl Tryz.ntmps57 rfl ?_
  intro a ha
  replace ha : Fr 46 [(0, va0), (1, (.int .i64 a1)), (2, (.int .i64 a2))] a := ha
  have hE : Chg [] W W := Chg.refl _ _
  unfold F_spec_l27Part at hF
  refine wp_seq ?_; refine wp_region_lit ?_; refine op_g ha rfl (g_assign rfl) ?_; clear ha a; intro a ha; refine wpList_nil ?_; replace ha := ha.sub (σ' := [(0, va0), (1, (.int .i64 a1)), (2, (.int .i64 a2))]) ⟨rfl, rfl, rfl, trivial⟩; refine e_then ?_; refine wp_seq ?_; refine wp_region_lit ?_; refine op_g ha rfl (g_move rfl) ?_; clear ha a; intro a ha; obtain ⟨h01, hF⟩ := grd_some hF; refine op_g ha rfl (g_conv6u un2 un90 rfl ha1 h01) ?_; clear ha a; intro a ha; obtain ⟨hI2, hF⟩ := ck_some hF; refine op_g ha rfl (g64_shl rfl rfl (inU_of ha1 h01).1 hI2) ?_; clear ha a; intro a ha; refine op_g ha rfl (g_assign rfl) ?_; clear ha a; intro a ha
  refine wpList_nil ?_; replace ha := ha.sub (σ' := [(0, va0), (2, (.int .i64 a2)), (7, (.int .i64 (1 * 2 ^ (a1 : Int).toNat)))]) ⟨rfl, rfl, rfl, trivial⟩; refine e_then ?_; refine wp_seq ?_; refine wp_seq ?_; refine wp_region_lit ?_; refine op_g ha rfl (g_assign rfl) ?_; clear ha a; intro a ha; refine wpList_nil ?_; replace ha := ha.sub (σ' := [(0, va0), (2, (.int .i64 a2)), (7, (.int .i64 (1 * 2 ^ (a1 : Int).toNat))), (8, (.bool true))]) ⟨rfl, rfl, rfl, rfl, trivial⟩; refine e_then ?_; obtain ⟨o295, ho296, hK297⟩ := bnd_some hF
  obtain ⟨n298, hn299⟩ := lp_some ho296; clear ho296
  refine c_loop (fun a w => ∃ (i293 : Int), Fr 46 [(7, (.int .i64 i293))] a ∧ Chg [] W w ∧ InI i293 ∧ o295 = .inl i293) (fun n a w => ∃ (i147 : Int) (t149 : Bool), Fr 46 [(0, va0), (2, (.int .i64 a2)), (7, (.int .i64 i147)), (8, (.bool t149))] a ∧ Chg [] W w ∧ InI i147 ∧ lpN (fun s => F_spec_l27Part_l1 a0 a2 s.1 s.2) n (i147, t149) = some o295) n298 ⟨1 * 2 ^ (a1 : Int).toNat, true, ha.sub ⟨rfl, rfl, rfl, rfl, trivial⟩, hE, hI2, hn299⟩ ?_ ?_
  · rintro m303 a w146 ⟨i147, t149, ha, hE150, hI148, hF⟩
    cases m303 with
    | zero => exact (lpN_zero hF).elim
    | succ m303 =>
      obtain ⟨z302, hF, hN301⟩ := lpN_succ hF
      have hF : F_spec_l27Part_l1 a0 a2 i147 t149 = some z302 := hF; unfold F_spec_l27Part_l1 at hF
      refine wp_seq ?_; refine wp_seq ?_; refine wp_region_lit ?_; refine op_g ha rfl (g_move rfl) ?_; clear ha a; intro a ha; refine wpList_nil ?_; replace ha := ha.sub (σ' := [(0, va0), (2, (.int .i64 a2)), (7, (.int .i64 i147)), (13, (.bool t149))]) ⟨rfl, rfl, rfl, rfl, trivial⟩; refine e_then ?_; refine c_cond (t149 = true) ha rfl (Iff.rfl) (fun hp304 => ?_) (fun hp304 => ?_)
      · replace hF := if_t hp304 hF
        refine wp_skip ?_; refine e_then ?_; refine wp_block ?_; refine wp_seq ?_; refine wp_region_lit ?_; refine op_g ha rfl (g_assign rfl) ?_; clear ha a; intro a ha; refine wpList_nil ?_; replace ha := ha.sub (σ' := [(0, va0), (2, (.int .i64 a2)), (7, (.int .i64 i147)), (8, (.bool false))]) ⟨rfl, rfl, rfl, rfl, trivial⟩; refine e_then ?_; refine wp_seq ?_; refine wp_region_lit ?_; refine op_g ha rfl (g_assign rfl) ?_; clear ha a; intro a ha; refine wpList_nil ?_; replace ha := ha.sub (σ' := [(0, va0), (2, (.int .i64 a2)), (7, (.int .i64 i147)), (8, (.bool false)), (9, (.int .i64 0))]) ⟨rfl, rfl, rfl, rfl, rfl, trivial⟩
        refine e_then ?_; obtain ⟨o398, ho399, hK400⟩ := bnd_some hF
        obtain ⟨n401, hn402⟩ := lp_some ho399; clear ho399
        refine c_loop (fun a w => ∃ (i395 : Int) (t397 : Bool), Fr 46 [(0, va0), (2, (.int .i64 a2)), (7, (.int .i64 i395)), (8, (.bool t397))] a ∧ Chg [] W w ∧ InI i395 ∧ o398 = .inl (i395, t397)) (fun n a w => ∃ (i348 : Int) (t350 : Bool) (i351 : Int), Fr 46 [(0, va0), (2, (.int .i64 a2)), (7, (.int .i64 i348)), (8, (.bool t350)), (9, (.int .i64 i351))] a ∧ Chg [] W w ∧ InI i348 ∧ InI i351 ∧ lpN (fun s => F_spec_l27Part_l2 a0 a2 s.1 s.2.1 s.2.2) n (i348, t350, i351) = some o398) n401 ⟨i147, false, 0, ha.sub ⟨rfl, rfl, rfl, rfl, rfl, trivial⟩, hE150, hI148, (show InI 0 from by decide), hn402⟩ ?_ ?_
        · rintro m406 a w347 ⟨i348, t350, i351, ha, hE353, hI349, hI352, hF⟩
          cases m406 with
          | zero => exact (lpN_zero hF).elim
          | succ m406 =>
            obtain ⟨z405, hF, hN404⟩ := lpN_succ hF
            have hF : F_spec_l27Part_l2 a0 a2 i348 t350 i351 = some z405 := hF; unfold F_spec_l27Part_l2 at hF
            refine wp_seq ?_; refine wp_seq ?_; refine wp_region_lit ?_; (iterate 2 refine op_g ha rfl (g_move rfl) ?_; clear ha a; intro a ha); refine op_g ha rfl (g_lenR sl39.und ha0 rfl) ?_; clear ha a; intro a ha; refine op_g ha rfl (g_lss rfl rfl) ?_; clear ha a; intro a ha; refine wpList_nil ?_; replace ha := ha.sub (σ' := [(0, va0), (2, (.int .i64 a2)), (7, (.int .i64 i348)), (8, (.bool t350)), (9, (.int .i64 i351)), (17, (.bool (decide (i351 < (a0.length : Int)))))]) ⟨rfl, rfl, rfl, rfl, rfl, rfl, trivial⟩; refine e_then ?_; refine c_cond (i351 < (a0.length : Int)) ha rfl (decide_eq_true_iff) (fun hp407 => ?_) (fun hp407 => ?_)
            · replace hF := if_t hp407 hF
              refine wp_skip ?_; refine e_then ?_; refine wp_seq ?_; refine wp_block ?_; refine wp_seq ?_; refine wp_region_lit ?_; (iterate 2 refine op_g ha rfl (g_move rfl) ?_; clear ha a; intro a ha); obtain ⟨h0408, hF⟩ := grd_some hF; refine op_g ha rfl (g_conv6u un2 un90 rfl hI352 h0408) ?_; clear ha a; intro a ha; refine op_g ha rfl (g64_shr rfl rfl hI349 (inU_of hI352 h0408).1) ?_; clear ha a; intro a ha; refine op_g ha rfl (g64_and rfl rfl) ?_; clear ha a; intro a ha; refine op_g ha rfl (g_eql rfl rfl) ?_; clear ha a; intro a ha; refine op_g ha rfl (g_move rfl) ?_; clear ha a; intro a ha
              by_cases hp409 : (i64and (i348 / 2 ^ (i351 : Int).toNat) 1) = 1
              · replace hF := if_t hp409 hF
                rw [show (decide ((i64and (i348 / 2 ^ (i351 : Int).toNat) 1) = 1)) = true from (decide_eq_true_iff).2 hp409] at ha
                refine op_want (yields ha rfl rfl) ?_; refine op_g ha rfl (g_move rfl) ?_; clear ha a; intro a ha; refine op_want (yields ha rfl rfl) ?_; refine op_g ha rfl (g_move rfl) ?_; clear ha a; intro a ha; refine op_want (yields ha rfl rfl) ?_; obtain ⟨x410, g411, gx412, hF⟩ := idx_some hF
                obtain ⟨p413, cs414, f415, hf416, hpb417, hat418, hr419, hi420⟩ := ha0.at g411 gx412
                obtain ⟨rfl, hI421, rfl⟩ := hr419
                refine op_g ha rfl (hi420.gives sl39 rfl rfl) ?_; clear ha a; intro a ha; refine op_want (yields ha rfl rfl) ?_; refine op_g ha rfl (g_load0 hE353 Tryz.isAgg2 rfl hat418.one) ?_; clear ha a; intro a ha; refine op_want (yields ha rfl rfl) ?_; refine op_g ha rfl (g_move rfl) ?_; clear ha a; intro a ha; refine op_want (yields ha rfl rfl) ?_; refine op_g ha rfl (g64_and rfl rfl) ?_; clear ha a; intro a ha; refine op_want (yields ha rfl rfl) ?_; refine op_g ha rfl (g_move rfl) ?_; clear ha a; intro a ha; refine op_want (yields ha rfl rfl) ?_; refine op_g ha rfl (g64_andNot rfl rfl) ?_; clear ha a; intro a ha
                refine op_want (yields ha rfl rfl) ?_; refine op_g ha rfl (g_neq rfl rfl) ?_; clear ha a; intro a ha; refine op_g ha rfl (g_pick rfl rfl) ?_; clear ha a; intro a ha; refine wpList_nil ?_; replace ha := ha.sub (σ' := [(0, va0), (2, (.int .i64 a2)), (7, (.int .i64 i348)), (8, (.bool t350)), (9, (.int .i64 i351)), (27, va0), (28, (.int .i64 i351)), (29, (.pointer (some p413))), (30, (.int .i64 x410)), (31, (.int .i64 a2)), (32, (.int .i64 (i64and x410 a2))), (33, (.int .i64 i348)), (34, (.int .i64 (i64andn (i64and x410 a2) i348))), (35, (.bool (decide ((i64andn (i64and x410 a2) i348) ≠ 0)))), (36, (.bool (decide ((i64andn (i64and x410 a2) i348) ≠ 0))))]) ⟨rfl, rfl, rfl, rfl, rfl, rfl, rfl, rfl, rfl, rfl, rfl, rfl, rfl, rfl, rfl, trivial⟩
                refine e_then ?_; refine c_cond ((i64andn (i64and x410 a2) i348) ≠ 0) ha rfl (decide_eq_true_iff) (fun hp422 => ?_) (fun hp422 => ?_)
                · replace hF := if_t hp422 hF
                  refine wp_seq ?_; refine wp_region_lit ?_; (iterate 3 refine op_g ha rfl (g_move rfl) ?_; clear ha a; intro a ha); obtain ⟨x423, g424, gx425, hF⟩ := idx_some hF
                  obtain ⟨p426, cs427, f428, hf429, hpb430, hat431, hr432, hi433⟩ := ha0.at g424 gx425
                  obtain ⟨rfl, hI434, rfl⟩ := hr432
                  refine op_g ha rfl (hi433.gives sl39 rfl rfl) ?_; clear ha a; intro a ha; refine op_g ha rfl (g_load0 hE353 Tryz.isAgg2 rfl hat431.one) ?_; clear ha a; intro a ha; refine op_g ha rfl (g_move rfl) ?_; clear ha a; intro a ha; refine op_g ha rfl (g64_and rfl rfl) ?_; clear ha a; intro a ha; refine op_g ha rfl (g64_or rfl rfl) ?_; clear ha a; intro a ha; refine op_g ha rfl (g_assign rfl) ?_; clear ha a; intro a ha; refine wpList_nil ?_; replace ha := ha.sub (σ' := [(0, va0), (2, (.int .i64 a2)), (7, (.int .i64 (i64or i348 (i64and x423 a2)))), (9, (.int .i64 i351)), (27, va0), (28, (.int .i64 i351)), (29, (.pointer (some p413))), (30, (.int .i64 x410)), (31, (.int .i64 a2)), (32, (.int .i64 (i64and x410 a2))), (33, (.int .i64 i348)), (34, (.int .i64 (i64andn (i64and x410 a2) i348))), (35, (.bool (decide ((i64andn (i64and x410 a2) i348) ≠ 0))))]) ⟨rfl, rfl, rfl, rfl, rfl, rfl, rfl, rfl, rfl, rfl, rfl, rfl, rfl, trivial⟩
                  refine e_then ?_; refine wp_region_lit ?_; refine op_g ha rfl (g_assign rfl) ?_; clear ha a; intro a ha; refine wpList_nil ?_; replace ha := ha.sub (σ' := [(0, va0), (2, (.int .i64 a2)), (7, (.int .i64 (i64or i348 (i64and x423 a2)))), (8, (.bool true)), (9, (.int .i64 i351)), (27, va0), (28, (.int .i64 i351)), (29, (.pointer (some p413))), (30, (.int .i64 x410)), (31, (.int .i64 a2)), (32, (.int .i64 (i64and x410 a2))), (33, (.int .i64 i348)), (34, (.int .i64 (i64andn (i64and x410 a2) i348))), (35, (.bool (decide ((i64andn (i64and x410 a2) i348) ≠ 0))))]) ⟨rfl, rfl, rfl, rfl, rfl, rfl, rfl, rfl, rfl, rfl, rfl, rfl, rfl, rfl, trivial⟩
                  refine e_blk ?_; refine e_then ?_; refine wp_region_lit ?_; refine op_g ha rfl (g_move rfl) ?_; clear ha a; intro a ha; obtain ⟨hI435, hF⟩ := ck_some hF; refine op_g ha rfl (g_add rfl rfl hI435) ?_; clear ha a; intro a ha; refine op_g ha rfl (g_assign rfl) ?_; clear ha a; intro a ha; refine wpList_nil ?_; replace ha := ha.sub (σ' := [(0, va0), (2, (.int .i64 a2)), (7, (.int .i64 (i64or i348 (i64and x423 a2)))), (8, (.bool true)), (9, (.int .i64 (i351 + 1))), (27, va0), (28, (.int .i64 i351)), (29, (.pointer (some p413))), (30, (.int .i64 x410)), (31, (.int .i64 a2)), (32, (.int .i64 (i64and x410 a2))), (33, (.int .i64 i348)), (34, (.int .i64 (i64andn (i64and x410 a2) i348))), (35, (.bool (decide ((i64andn (i64and x410 a2) i348) ≠ 0))))]) ⟨rfl, rfl, rfl, rfl, rfl, rfl, rfl, rfl, rfl, rfl, rfl, rfl, rfl, rfl, trivial⟩
                  refine e_lq ?_; obtain rfl := Option.some.inj hF
                  exact ⟨_, Nat.lt_succ_self _, i64or i348 (i64and x423 a2), true, i351 + 1, ha.sub ⟨rfl, rfl, rfl, rfl, rfl, trivial⟩, hE353, (in_i64or _ _), hI435, hN404⟩
                replace hF := if_f hp422 hF; refine wp_skip ?_; refine e_blk ?_; refine e_then ?_; refine wp_region_lit ?_; refine op_g ha rfl (g_move rfl) ?_; clear ha a; intro a ha; obtain ⟨hI437, hF⟩ := ck_some hF; refine op_g ha rfl (g_add rfl rfl hI437) ?_; clear ha a; intro a ha; refine op_g ha rfl (g_assign rfl) ?_; clear ha a; intro a ha; refine wpList_nil ?_; replace ha := ha.sub (σ' := [(0, va0), (2, (.int .i64 a2)), (7, (.int .i64 i348)), (8, (.bool t350)), (9, (.int .i64 (i351 + 1))), (27, va0), (28, (.int .i64 i351)), (29, (.pointer (some p413))), (30, (.int .i64 x410)), (31, (.int .i64 a2)), (32, (.int .i64 (i64and x410 a2))), (33, (.int .i64 i348)), (34, (.int .i64 (i64andn (i64and x410 a2) i348))), (35, (.bool (decide ((i64andn (i64and x410 a2) i348) ≠ 0))))]) ⟨rfl, rfl, rfl, rfl, rfl, rfl, rfl, rfl, rfl, rfl, rfl, rfl, rfl, rfl, trivial⟩
                refine e_lq ?_; obtain rfl := Option.some.inj hF
                exact ⟨_, Nat.lt_succ_self _, i348, t350, i351 + 1, ha.sub ⟨rfl, rfl, rfl, rfl, rfl, trivial⟩, hE353, hI349, hI437, hN404⟩
              replace hF := if_f hp409 hF
              rw [show (decide ((i64and (i348 / 2 ^ (i351 : Int).toNat) 1) = 1)) = false from b_false (decide_eq_true_iff) hp409] at ha
              (iterate 9 refine op_unwant ha rfl (yields ha rfl rfl) rfl ?_; clear ha a; intro a ha); refine op_g ha rfl (g_pick rfl rfl) ?_; clear ha a; intro a ha; refine wpList_nil ?_; replace ha := ha.sub (σ' := [(0, va0), (2, (.int .i64 a2)), (7, (.int .i64 i348)), (8, (.bool t350)), (9, (.int .i64 i351)), (36, (.bool false))]) ⟨rfl, rfl, rfl, rfl, rfl, rfl, trivial⟩; refine e_then ?_; refine c_false ha rfl ?_; refine wp_skip ?_; refine e_blk ?_; refine e_then ?_; refine wp_region_lit ?_; refine op_g ha rfl (g_move rfl) ?_; clear ha a; intro a ha; obtain ⟨hI439, hF⟩ := ck_some hF; refine op_g ha rfl (g_add rfl rfl hI439) ?_; clear ha a; intro a ha
              refine op_g ha rfl (g_assign rfl) ?_; clear ha a; intro a ha; refine wpList_nil ?_; replace ha := ha.sub (σ' := [(0, va0), (2, (.int .i64 a2)), (7, (.int .i64 i348)), (8, (.bool t350)), (9, (.int .i64 (i351 + 1)))]) ⟨rfl, rfl, rfl, rfl, rfl, trivial⟩; refine e_lq ?_; obtain rfl := Option.some.inj hF
              exact ⟨_, Nat.lt_succ_self _, i348, t350, i351 + 1, ha.sub ⟨rfl, rfl, rfl, rfl, rfl, trivial⟩, hE353, hI349, hI439, hN404⟩
            replace hF := if_f hp407 hF; refine wp_exit ?_; refine e_then_exit ?_; refine e_lq_eq ?_; obtain rfl := Option.some.inj hF
            exact ⟨i348, t350, ha.sub ⟨rfl, rfl, rfl, rfl, trivial⟩, hE353, hI349, (LK_inr hN404).symm⟩
        rintro a w394 ⟨i395, t397, ha, hE403, hI396, rfl⟩
        have hF : F_spec_l27Part_k3 i395 t397 = some _ := hK400; clear hK400; unfold F_spec_l27Part_k3 at hF
        refine e_blk ?_; refine e_lq ?_; obtain rfl := Option.some.inj hF
        exact ⟨_, Nat.lt_succ_self _, i395, t397, ha.sub ⟨rfl, rfl, rfl, rfl, trivial⟩, hE403, hI396, hN301⟩
      replace hF := if_f hp304 hF; refine wp_exit ?_; refine e_then_exit ?_; refine e_lq_eq ?_; obtain rfl := Option.some.inj hF
      exact ⟨i147, ha.sub ⟨rfl, trivial⟩, hE150, hI148, (LK_inr hN301).symm⟩
  rintro a w292 ⟨i293, ha, hE300, hI294, rfl⟩
  have hF : F_spec_l27Part_k4 i293 = some _ := hK297; clear hK297; unfold F_spec_l27Part_k4 at hF
  refine e_then ?_; refine wp_seq ?_; refine wp_region_lit ?_; refine op_g ha rfl (g_move rfl) ?_; clear ha a; intro a ha; refine op_g ha rfl (g_assign rfl) ?_; clear ha a; intro a ha; refine wpList_nil ?_; replace ha := ha.sub (σ' := [(6, (.int .i64 i293))]) ⟨rfl, trivial⟩; refine e_then ?_; refine wp_ret ?_; obtain rfl := Option.some.inj hF
  exact f_ret1 ha rfl rfl ⟨⟨rfl, hI294⟩, hE300⟩
set_option maxHeartbeats 2000000 in
theorem W_spec_l25Many {W : World} {a0 : Int} (ha0 : InI a0) {r : Int} (hF : F_spec_l25Many a0 = some r) :
    Calls Tryz.prog 59 [.int .i64 a0].toArray W (Ret fun u w' => (u = .int .i64 r ∧ InI r) ∧ Ext W w') := by
  refine f_enter Tryz.func59 rfl Tryz.ntmps59 rfl ?_
  intro a ha
  replace ha : Fr 13 [(0, (.int .i64 a0))] a := ha
  have hE : Chg [] W W := Chg.refl _ _
  unfold F_spec_l25Many at hF
  refine wp_seq ?_; refine wp_region_lit ?_; refine op_g ha rfl (g_assign rfl) ?_; clear ha a; intro a ha; refine wpList_nil ?_; replace ha := ha.sub (σ' := [(0, (.int .i64 a0))]) ⟨rfl, trivial⟩; refine e_then ?_; refine wp_seq ?_; refine wp_region_lit ?_; refine op_g ha rfl (g_assign rfl) ?_; clear ha a; intro a ha; refine wpList_nil ?_; refine e_then ?_; refine wp_seq ?_; obtain ⟨o32, ho33, hK34⟩ := bnd_some hF
  obtain ⟨n35, hn36⟩ := lp_some ho33; clear ho33
  refine c_loop (fun a w => ∃ (i30 : Int), Fr 13 [(3, (.int .i64 i30))] a ∧ Chg [] W w ∧ InI i30 ∧ o32 = .inl i30) (fun n a w => ∃ (i14 : Int) (i16 : Int), Fr 13 [(0, (.int .i64 i14)), (3, (.int .i64 i16))] a ∧ Chg [] W w ∧ InI i14 ∧ InI i16 ∧ lpN (fun s => F_spec_l25Many_l1 s.1 s.2) n (i14, i16) = some o32) n35 ⟨a0, 0, ha.sub ⟨rfl, rfl, trivial⟩, hE, ha0, (show InI 0 from by decide), hn36⟩ ?_ ?_
  · rintro m40 a w13 ⟨i14, i16, ha, hE18, hI15, hI17, hF⟩
    cases m40 with
    | zero => exact (lpN_zero hF).elim
    | succ m40 =>
      obtain ⟨z39, hF, hN38⟩ := lpN_succ hF
      have hF : F_spec_l25Many_l1 i14 i16 = some z39 := hF; unfold F_spec_l25Many_l1 at hF
      refine wp_seq ?_; refine wp_seq ?_; refine wp_region_lit ?_; refine op_g ha rfl (g_move rfl) ?_; clear ha a; intro a ha; refine op_g ha rfl (g_gtr rfl rfl) ?_; clear ha a; intro a ha; refine wpList_nil ?_; replace ha := ha.sub (σ' := [(0, (.int .i64 i14)), (3, (.int .i64 i16)), (5, (.bool (decide (0 < i14))))]) ⟨rfl, rfl, rfl, trivial⟩; refine e_then ?_; refine c_cond (0 < i14) ha rfl (decide_eq_true_iff) (fun hp41 => ?_) (fun hp41 => ?_)
      · replace hF := if_t hp41 hF
        refine wp_skip ?_; refine e_then ?_; refine wp_seq ?_; refine wp_block ?_; refine wp_region_lit ?_; refine op_g ha rfl (g_move rfl) ?_; clear ha a; intro a ha; obtain ⟨hI42, hF⟩ := ck_some hF; refine op_g ha rfl (g_add rfl rfl hI42) ?_; clear ha a; intro a ha; refine op_g ha rfl (g_assign rfl) ?_; clear ha a; intro a ha; refine wpList_nil ?_; replace ha := ha.sub (σ' := [(0, (.int .i64 i14)), (3, (.int .i64 (i16 + 1)))]) ⟨rfl, rfl, trivial⟩; refine e_blk ?_; refine e_then ?_; refine wp_region_lit ?_; (iterate 2 refine op_g ha rfl (g_move rfl) ?_; clear ha a; intro a ha); obtain ⟨hI44, hF⟩ := ck_some hF
        refine op_g ha rfl (g_sub rfl rfl hI44) ?_; clear ha a; intro a ha; refine op_g ha rfl (g64_and rfl rfl) ?_; clear ha a; intro a ha; refine op_g ha rfl (g_assign rfl) ?_; clear ha a; intro a ha; refine wpList_nil ?_; replace ha := ha.sub (σ' := [(0, (.int .i64 (i64and i14 (i14 - 1)))), (3, (.int .i64 (i16 + 1)))]) ⟨rfl, rfl, trivial⟩; refine e_lq ?_; obtain rfl := Option.some.inj hF
        exact ⟨_, Nat.lt_succ_self _, i64and i14 (i14 - 1), i16 + 1, ha.sub ⟨rfl, rfl, trivial⟩, hE18, (in_i64and _ _), hI42, hN38⟩
      replace hF := if_f hp41 hF; refine wp_exit ?_; refine e_then_exit ?_; refine e_lq_eq ?_; obtain rfl := Option.some.inj hF
      exact ⟨i16, ha.sub ⟨rfl, trivial⟩, hE18, hI17, (LK_inr hN38).symm⟩
  rintro a w29 ⟨i30, ha, hE37, hI31, rfl⟩
  have hF : F_spec_l25Many_k2 i30 = some _ := hK34; clear hK34; unfold F_spec_l25Many_k2 at hF
  refine e_then ?_; refine wp_seq ?_; refine wp_region_lit ?_; refine op_g ha rfl (g_move rfl) ?_; clear ha a; intro a ha; refine op_g ha rfl (g_assign rfl) ?_; clear ha a; intro a ha; refine wpList_nil ?_; replace ha := ha.sub (σ' := [(2, (.int .i64 i30))]) ⟨rfl, trivial⟩; refine e_then ?_; refine wp_ret ?_; obtain rfl := Option.some.inj hF
  exact f_ret1 ha rfl rfl ⟨⟨rfl, hI31⟩, hE37⟩
set_option maxHeartbeats 2000000 in
theorem W_spec_l22Behind {W : World} {va0 : Value} {fa0 : List Nat} {a0 : (List Int)} (ha0 : Ro Rp.int W fa0 va0 a0) {a1 : Int} (ha1 : InI a1) {r : Int} (hF : F_spec_l22Behind a0 a1 = some r) :
    Calls Tryz.prog 73 [va0, .int .i64 a1].toArray W (Ret fun u w' => (u = .int .i64 r ∧ InI r) ∧ Ext W w') := by
  refine f_enter Tryz.func73 rfl Tryz.ntmps73 rfl ?_
  intro a ha
  replace ha : Fr 26 [(0, va0), (1, (.int .i64 a1))] a := ha
  have hE : Chg [] W W := Chg.refl _ _
  unfold F_spec_l22Behind at hF
  refine wp_seq ?_; refine wp_region_lit ?_; refine op_g ha rfl (g_assign rfl) ?_; clear ha a; intro a ha; refine wpList_nil ?_; replace ha := ha.sub (σ' := [(0, va0), (1, (.int .i64 a1))]) ⟨rfl, rfl, trivial⟩; refine e_then ?_; refine wp_seq ?_; refine wp_seq ?_; refine wp_region_lit ?_; refine op_g ha rfl (g_assign rfl) ?_; clear ha a; intro a ha; refine wpList_nil ?_; refine e_then ?_; obtain ⟨o78, ho79, hK80⟩ := bnd_some hF
  obtain ⟨n81, hn82⟩ := lp_some ho79; clear ho79
  refine c_loop (fun a w => Fr 26 [] a ∧ Chg [] W w ∧ o78 = .inl ()) (fun n a w => ∃ (i39 : Int), Fr 26 [(0, va0), (1, (.int .i64 a1)), (5, (.int .i64 i39))] a ∧ Chg [] W w ∧ InI i39 ∧ lpN (fun s => F_spec_l22Behind_l1 a0 a1 s) n i39 = some o78) n81 ⟨0, ha.sub ⟨rfl, rfl, rfl, trivial⟩, hE, (show InI 0 from by decide), hn82⟩ ?_ ?_
  · rintro m86 a w38 ⟨i39, ha, hE41, hI40, hF⟩
    cases m86 with
    | zero => exact (lpN_zero hF).elim
    | succ m86 =>
      obtain ⟨z85, hF, hN84⟩ := lpN_succ hF
      have hF : F_spec_l22Behind_l1 a0 a1 i39 = some z85 := hF; unfold F_spec_l22Behind_l1 at hF
      refine wp_seq ?_; refine wp_seq ?_; refine wp_region_lit ?_; (iterate 2 refine op_g ha rfl (g_move rfl) ?_; clear ha a; intro a ha); refine op_g ha rfl (g_lenR sl39.und ha0 rfl) ?_; clear ha a; intro a ha; refine op_g ha rfl (g_lss rfl rfl) ?_; clear ha a; intro a ha; refine wpList_nil ?_; replace ha := ha.sub (σ' := [(0, va0), (1, (.int .i64 a1)), (5, (.int .i64 i39)), (9, (.bool (decide (i39 < (a0.length : Int)))))]) ⟨rfl, rfl, rfl, rfl, trivial⟩; refine e_then ?_; refine c_cond (i39 < (a0.length : Int)) ha rfl (decide_eq_true_iff) (fun hp87 => ?_) (fun hp87 => ?_)
      · replace hF := if_t hp87 hF
        refine wp_skip ?_; refine e_then ?_; refine wp_seq ?_; refine wp_block ?_; refine wp_seq ?_; refine wp_region_lit ?_; (iterate 2 refine op_g ha rfl (g_move rfl) ?_; clear ha a; intro a ha); obtain ⟨x88, g89, gx90, hF⟩ := idx_some hF
        obtain ⟨p91, cs92, f93, hf94, hpb95, hat96, hr97, hi98⟩ := ha0.at g89 gx90
        obtain ⟨rfl, hI99, rfl⟩ := hr97
        refine op_g ha rfl (hi98.gives sl39 rfl rfl) ?_; clear ha a; intro a ha; refine op_g ha rfl (g_load0 hE41 Tryz.isAgg2 rfl hat96.one) ?_; clear ha a; intro a ha; refine op_g ha rfl (g_move rfl) ?_; clear ha a; intro a ha; refine op_g ha rfl (g_eql rfl rfl) ?_; clear ha a; intro a ha; refine wpList_nil ?_; replace ha := ha.sub (σ' := [(0, va0), (1, (.int .i64 a1)), (5, (.int .i64 i39)), (17, (.bool (decide (x88 = a1))))]) ⟨rfl, rfl, rfl, rfl, trivial⟩; refine e_then ?_; refine c_cond (x88 = a1) ha rfl (decide_eq_true_iff) (fun hp100 => ?_) (fun hp100 => ?_)
        · replace hF := if_t hp100 hF
          refine wp_seq ?_; refine wp_region_lit ?_; (iterate 2 refine op_g ha rfl (g_move rfl) ?_; clear ha a; intro a ha); obtain ⟨hI101, hF⟩ := ck_some hF; refine op_g ha rfl (g_add rfl rfl hI101) ?_; clear ha a; intro a ha; refine op_g ha rfl (g_move rfl) ?_; clear ha a; intro a ha; refine op_g ha rfl (g_lenR sl39.und ha0 rfl) ?_; clear ha a; intro a ha; obtain ⟨hq103, hF⟩ := grd_some hF
          have hI104 := in_rem hI101 hq103.1 hq103.2
          refine op_g ha rfl (g_rem rfl rfl hI101 hq103.1 hq103.2) ?_; clear ha a; intro a ha; obtain ⟨x105, g106, gx107, hF⟩ := idx_some hF
          obtain ⟨p108, cs109, f110, hf111, hpb112, hat113, hr114, hi115⟩ := ha0.at g106 gx107
          obtain ⟨rfl, hI116, rfl⟩ := hr114
          refine op_g ha rfl (hi115.gives sl39 rfl rfl) ?_; clear ha a; intro a ha; refine op_g ha rfl (g_load0 hE41 Tryz.isAgg2 rfl hat113.one) ?_; clear ha a; intro a ha; refine op_g ha rfl (g_assign rfl) ?_; clear ha a; intro a ha; refine wpList_nil ?_; replace ha := ha.sub (σ' := [(4, (.int .i64 x105))]) ⟨rfl, trivial⟩; refine e_then ?_; refine wp_ret ?_; refine e_blk_ret ?_; refine e_then_ret ?_; refine e_lq_ret ?_; refine e_then_ret ?_; obtain rfl := Option.some.inj hF
          have e117 := LK_inr hN84; subst e117
          have e118 := BK_inr hK80; subst e118
          exact f_ret1 ha rfl rfl ⟨⟨rfl, hI116⟩, hE41⟩
        replace hF := if_f hp100 hF; refine wp_skip ?_; refine e_blk ?_; refine e_then ?_; refine wp_region_lit ?_; refine op_g ha rfl (g_move rfl) ?_; clear ha a; intro a ha; obtain ⟨hI119, hF⟩ := ck_some hF; refine op_g ha rfl (g_add rfl rfl hI119) ?_; clear ha a; intro a ha; refine op_g ha rfl (g_assign rfl) ?_; clear ha a; intro a ha; refine wpList_nil ?_; replace ha := ha.sub (σ' := [(0, va0), (1, (.int .i64 a1)), (5, (.int .i64 (i39 + 1)))]) ⟨rfl, rfl, rfl, trivial⟩; refine e_lq ?_; obtain rfl := Option.some.inj hF
        exact ⟨_, Nat.lt_succ_self _, i39 + 1, ha.sub ⟨rfl, rfl, rfl, trivial⟩, hE41, hI119, hN84⟩
      replace hF := if_f hp87 hF; refine wp_exit ?_; refine e_then_exit ?_; refine e_lq_eq ?_; obtain rfl := Option.some.inj hF
      exact ⟨ha.sub trivial, hE41, (LK_inr hN84).symm⟩
  rintro a w77 ⟨ha, hE83, rfl⟩
  have hF : F_spec_l22Behind_k2 = some _ := hK80; clear hK80; unfold F_spec_l22Behind_k2 at hF
  refine e_then ?_; refine wp_seq ?_; refine wp_region_lit ?_; refine op_g ha rfl (g_assign rfl) ?_; clear ha a; intro a ha; refine wpList_nil ?_; refine e_then ?_; refine wp_ret ?_; obtain rfl := Option.some.inj hF
  exact f_ret1 ha rfl rfl ⟨⟨rfl, (show InI (-1) from by decide)⟩, hE83⟩
set_option maxHeartbeats 2000000 in
theorem W_spec_l22Faces {W : World} {va0 : Value} {fa0 : List Nat} {a0 : (List (List Int))} (ha0 : Ro (Rp.sl 2 Rp.int) W fa0 va0 a0) {r : (List (List Int))} (hF : F_spec_l22Faces a0 = some r) :
    Calls Tryz.prog 60 [va0].toArray W (Ret fun u w' => ∃ (b_u : Int) (fs_u : List Nat), Ow (Rp.sl 2 Rp.int) 39 true w' fs_u b_u u r ∧ Zn W b_u ∧ (∀ k ∈ fs_u, W.heap.size ≤ k) ∧ (bl b_u ++ fs_u).Nodup ∧ Ext W w') := by
  refine f_enter Tryz.func60 rfl Tryz.ntmps60 rfl ?_
  intro a ha
  replace ha : Fr 82 [(0, va0)] a := ha
  have hE : Chg [] W W := Chg.refl _ _
  unfold F_spec_l22Faces at hF
  refine wp_seq ?_; refine wp_region_lit ?_; refine op_g ha rfl (g_assign rfl) ?_; clear ha a; intro a ha; refine wpList_nil ?_; replace ha := ha.sub (σ' := [(0, va0)]) ⟨rfl, trivial⟩; refine e_then ?_; refine wp_seq ?_; refine wp_region_lit ?_; refine op_g ha rfl (g_move rfl) ?_; clear ha a; intro a ha; refine op_g ha rfl (g_lenR sl22.und ha0 rfl) ?_; clear ha a; intro a ha; refine op_g ha rfl (g_assign rfl) ?_; clear ha a; intro a ha; refine wpList_nil ?_; replace ha := ha.sub (σ' := [(0, va0), (3, (.int .i64 (a0.length : Int)))]) ⟨rfl, rfl, trivial⟩; refine e_then ?_; refine wp_seq ?_; refine wp_region_lit ?_
  (iterate 2 refine op_g ha rfl (g_move rfl) ?_; clear ha a; intro a ha); obtain ⟨hI1, hF⟩ := ck_some hF; refine op_g ha rfl (g_mul rfl rfl hI1) ?_; clear ha a; intro a ha; obtain ⟨g7, g7b, hF⟩ := mkS_some hF
  refine o_make (z0 := false) Rp.bool ha rfl sl102 rfl (fun w => ⟨rfl, rfl⟩) rfl g7 g7b ?_; clear ha a; intro v3 w4 h5 hx6 a ha
  obtain ⟨b10, hb10⟩ : ∃ b : Int, b = W.heap.size := ⟨_, rfl⟩; rw [← hb10] at h5
  have q11 := zn_of hb10
  have q12 := Zn.upD q11 hE
  have hE13 := Ext.trans hE hx6
  refine op_g ha rfl (g_assign rfl) ?_; clear ha a; intro a ha; refine wpList_nil ?_; replace ha := ha.sub (σ' := [(0, va0), (3, (.int .i64 (a0.length : Int))), (4, v3)]) ⟨rfl, rfl, rfl, trivial⟩; refine e_then ?_; refine wp_seq ?_; refine wp_region_lit ?_
  refine o_lit0 (Rp.sl 2 Rp.int) ha rfl sl22 ?_; clear ha a; intro v14 w15 h16 hx17 a ha
  obtain ⟨b19, hb19⟩ : ∃ b : Int, b = w4.heap.size := ⟨_, rfl⟩; rw [← hb19] at h16
  have q20 := zn_of hb19
  have q21 := Nq.new h5.fpb q20
  have q22 := Nq.madeO q20 h5.blt
  have q23 := Zn.upD q20 hE13
  replace h5 := h5.ext hx17
  have hE24 := Ext.trans hE13 hx17
  refine op_g ha rfl (g_assign rfl) ?_; clear ha a; intro a ha; refine wpList_nil ?_; replace ha := ha.sub (σ' := [(0, va0), (3, (.int .i64 (a0.length : Int))), (4, v3), (5, v14)]) ⟨rfl, rfl, rfl, rfl, trivial⟩; refine e_then ?_; refine wp_seq ?_; refine wp_seq ?_; refine wp_region_lit ?_; refine op_g ha rfl (g_assign rfl) ?_; clear ha a; intro a ha; refine wpList_nil ?_; replace ha := ha.sub (σ' := [(0, va0), (3, (.int .i64 (a0.length : Int))), (4, v3), (5, v14), (6, (.int .i64 0))]) ⟨rfl, rfl, rfl, rfl, rfl, trivial⟩; refine e_then ?_; obtain ⟨o3558, ho3559, hK3560⟩ := bnd_some hF
  obtain ⟨n3561, hn3562⟩ := lp_some ho3559; clear ho3559
  refine c_loop (fun a w => ∃ (l3555 : (List (List Int))) (fs3552 : List Nat) (v3556 : Value) (b3557 : Int), Fr 82 [(5, v3556)] a ∧ Chg [] W w ∧ Ow (Rp.sl 2 Rp.int) 39 true w fs3552 b3557 v3556 l3555 ∧ Zn W b3557 ∧ (∀ k ∈ fs3552, W.heap.size ≤ k) ∧ (bl b3557 ++ fs3552).Nodup ∧ o3558 = .inl l3555) (fun n a w => ∃ (l1862 : (List Bool)) (l1871 : (List (List Int))) (i1874 : Int) (v1863 : Value) (b1864 : Int) (fs1868 : List Nat) (v1872 : Value) (b1873 : Int), Fr 82 [(0, va0), (3, (.int .i64 (a0.length : Int))), (4, v1863), (5, v1872), (6, (.int .i64 i1874))] a ∧ Chg [] W w ∧ InI i1874 ∧ Ow Rp.bool 4 true w [] b1864 v1863 l1862 ∧ Zn W b1864 ∧ Ow (Rp.sl 2 Rp.int) 39 true w fs1868 b1873 v1872 l1871 ∧ Zn W b1873 ∧ (∀ k ∈ fs1868, W.heap.size ≤ k) ∧ (bl b1873 ++ fs1868).Nodup ∧ Nq (bl b1864 ++ []) b1873 ∧ Nq (bl b1873 ++ fs1868) b1864 ∧ lpN (fun s => F_spec_l22Faces_l1 a0 s.1 s.2.1 s.2.2) n (l1862, l1871, i1874) = some o3558) n3561 ⟨(List.replicate ((a0.length : Int) * (a0.length : Int) : Int).toNat false), ([] : (List (List Int))), 0, v3, b10, [], v14, b19, ha.sub ⟨rfl, rfl, rfl, rfl, rfl, trivial⟩, hE24, (show InI 0 from by decide), h5, q12, h16, q23, (zf_nil _), (bl_nodup b19), q21, q22, hn3562⟩ ?_ ?_
  · rintro m3566 a w1858 ⟨l1862, l1871, i1874, v1863, b1864, fs1868, v1872, b1873, ha, hE1878, hI1875, h1860, z1861, h1866, z1867, zf1869, nd1870, q1876, q1877, hF⟩
    cases m3566 with
    | zero => exact (lpN_zero hF).elim
    | succ m3566 =>
      obtain ⟨z3565, hF, hN3564⟩ := lpN_succ hF
      have hF : F_spec_l22Faces_l1 a0 l1862 l1871 i1874 = some z3565 := hF; unfold F_spec_l22Faces_l1 at hF
      refine wp_seq ?_; refine wp_seq ?_; refine wp_region_lit ?_; (iterate 2 refine op_g ha rfl (g_move rfl) ?_; clear ha a; intro a ha); refine op_g ha rfl (g_lss rfl rfl) ?_; clear ha a; intro a ha; refine wpList_nil ?_; replace ha := ha.sub (σ' := [(0, va0), (3, (.int .i64 (a0.length : Int))), (4, v1863), (5, v1872), (6, (.int .i64 i1874)), (21, (.bool (decide (i1874 < (a0.length : Int)))))]) ⟨rfl, rfl, rfl, rfl, rfl, rfl, trivial⟩; refine e_then ?_; refine c_cond (i1874 < (a0.length : Int)) ha rfl (decide_eq_true_iff) (fun hp3567 => ?_) (fun hp3567 => ?_)
      · replace hF := if_t hp3567 hF
        refine wp_skip ?_; refine e_then ?_; refine wp_seq ?_; refine wp_block ?_; refine wp_seq ?_; refine wp_region_lit ?_; refine op_g ha rfl (g_assign rfl) ?_; clear ha a; intro a ha; refine wpList_nil ?_; replace ha := ha.sub (σ' := [(0, va0), (3, (.int .i64 (a0.length : Int))), (4, v1863), (5, v1872), (6, (.int .i64 i1874)), (7, (.int .i64 0))]) ⟨rfl, rfl, rfl, rfl, rfl, rfl, trivial⟩; refine e_then ?_; obtain ⟨o4690, ho4691, hK4692⟩ := bnd_some hF
        obtain ⟨n4693, hn4694⟩ := lp_some ho4691; clear ho4691
        refine c_loop (fun a w => ∃ (l4676 : (List Bool)) (l4685 : (List (List Int))) (v4677 : Value) (b4678 : Int) (fs4682 : List Nat) (v4686 : Value) (b4687 : Int), Fr 82 [(0, va0), (3, (.int .i64 (a0.length : Int))), (4, v4677), (5, v4686), (6, (.int .i64 i1874))] a ∧ Chg [] W w ∧ Ow Rp.bool 4 true w [] b4678 v4677 l4676 ∧ Zn W b4678 ∧ Ow (Rp.sl 2 Rp.int) 39 true w fs4682 b4687 v4686 l4685 ∧ Zn W b4687 ∧ (∀ k ∈ fs4682, W.heap.size ≤ k) ∧ (bl b4687 ++ fs4682).Nodup ∧ Nq (bl b4678 ++ []) b4687 ∧ Nq (bl b4687 ++ fs4682) b4678 ∧ o4690 = .inl (l4676, l4685)) (fun n a w => ∃ (l4120 : (List Bool)) (l4129 : (List (List Int))) (i4132 : Int) (v4121 : Value) (b4122 : Int) (fs4126 : List Nat) (v4130 : Value) (b4131 : Int), Fr 82 [(0, va0), (3, (.int .i64 (a0.length : Int))), (4, v4121), (5, v4130), (6, (.int .i64 i1874)), (7, (.int .i64 i4132))] a ∧ Chg [] W w ∧ InI i4132 ∧ Ow Rp.bool 4 true w [] b4122 v4121 l4120 ∧ Zn W b4122 ∧ Ow (Rp.sl 2 Rp.int) 39 true w fs4126 b4131 v4130 l4129 ∧ Zn W b4131 ∧ (∀ k ∈ fs4126, W.heap.size ≤ k) ∧ (bl b4131 ++ fs4126).Nodup ∧ Nq (bl b4122 ++ []) b4131 ∧ Nq (bl b4131 ++ fs4126) b4122 ∧ lpN (fun s => F_spec_l22Faces_l2 a0 i1874 s.1 s.2.1 s.2.2) n (l4120, l4129, i4132) = some o4690) n4693 ⟨l1862, l1871, 0, v1863, b1864, fs1868, v1872, b1873, ha.sub ⟨rfl, rfl, rfl, rfl, rfl, rfl, trivial⟩, hE1878, (show InI 0 from by decide), h1860, z1861, h1866, z1867, zf1869, nd1870, q1876, q1877, hn4694⟩ ?_ ?_
        · rintro m4698 a w4116 ⟨l4120, l4129, i4132, v4121, b4122, fs4126, v4130, b4131, ha, hE4136, hI4133, h4118, z4119, h4124, z4125, zf4127, nd4128, q4134, q4135, hF⟩
          cases m4698 with
          | zero => exact (lpN_zero hF).elim
          | succ m4698 =>
            obtain ⟨z4697, hF, hN4696⟩ := lpN_succ hF
            have hF : F_spec_l22Faces_l2 a0 i1874 l4120 l4129 i4132 = some z4697 := hF; unfold F_spec_l22Faces_l2 at hF
            refine wp_seq ?_; refine wp_seq ?_; refine wp_region_lit ?_; (iterate 2 refine op_g ha rfl (g_move rfl) ?_; clear ha a; intro a ha); refine op_g ha rfl (g_lss rfl rfl) ?_; clear ha a; intro a ha; refine wpList_nil ?_; replace ha := ha.sub (σ' := [(0, va0), (3, (.int .i64 (a0.length : Int))), (4, v4121), (5, v4130), (6, (.int .i64 i1874)), (7, (.int .i64 i4132)), (26, (.bool (decide (i4132 < (a0.length : Int)))))]) ⟨rfl, rfl, rfl, rfl, rfl, rfl, rfl, trivial⟩; refine e_then ?_; refine c_cond (i4132 < (a0.length : Int)) ha rfl (decide_eq_true_iff) (fun hp4699 => ?_) (fun hp4699 => ?_)
            · replace hF := if_t hp4699 hF
              refine wp_skip ?_; refine e_then ?_; refine wp_seq ?_; refine wp_block ?_; refine wp_seq ?_; refine wp_seq ?_; refine wp_region_lit ?_; (iterate 2 refine op_g ha rfl (g_move rfl) ?_; clear ha a; intro a ha); obtain ⟨x4700, g4701, gx4702, hF⟩ := idx_some hF
              obtain ⟨p4703, cs4704, f4705, hf4706, hpb4707, hat4708, hr4709, hi4710⟩ := ha0.at g4701 gx4702
              obtain ⟨v4711, rfl, h4712⟩ := hr4709
              have h4712 : Ro Rp.int W f4705 v4711 x4700 := h4712
              refine op_g ha rfl (hi4710.gives sl22 rfl rfl) ?_; clear ha a; intro a ha; refine op_g ha rfl (g_load0 hE4136 Tryz.isAgg39 rfl hat4708.one) ?_; clear ha a; intro a ha; refine op_g ha rfl (g_move rfl) ?_; clear ha a; intro a ha; obtain ⟨x4714, hc4715, hF⟩ := cal_some hF
              refine o_call ha rfl rfl Tryz.call41 (W_spec_l1Has (h4712.ext hE4136) hI4133 hc4715) ?_; clear ha a; rintro v4716 w4717 ⟨rfl, hx4718⟩ a ha
              replace h4118 := h4118.ext hx4718
              replace h4124 := h4124.ext hx4718
              have hE4719 := Ext.trans hE4136 hx4718
              refine op_g ha rfl (g_not rfl) ?_; clear ha a; intro a ha; refine op_g ha rfl (g_move rfl) ?_; clear ha a; intro a ha
              by_cases hp4720 : ¬ (x4714 = true)
              · replace hF := if_t hp4720 hF
                rw [show (!x4714) = true from (n_iff (Iff.rfl)).2 hp4720] at ha
                (iterate 8 refine op_unwant ha rfl (yields ha rfl rfl) rfl ?_; clear ha a; intro a ha); refine op_g ha rfl (g_pick rfl rfl) ?_; clear ha a; intro a ha; refine wpList_nil ?_; replace ha := ha.sub (σ' := [(0, va0), (3, (.int .i64 (a0.length : Int))), (4, v4121), (5, v4130), (6, (.int .i64 i1874)), (7, (.int .i64 i4132)), (45, (.bool true))]) ⟨rfl, rfl, rfl, rfl, rfl, rfl, rfl, trivial⟩; refine e_then ?_; refine c_true ha rfl ?_; refine wp_exit ?_; refine e_then_exit ?_; refine e_blk_eq ?_; refine e_then ?_; refine wp_region_lit ?_; refine op_g ha rfl (g_move rfl) ?_; clear ha a; intro a ha
                obtain ⟨hI4721, hF⟩ := ck_some hF; refine op_g ha rfl (g_add rfl rfl hI4721) ?_; clear ha a; intro a ha; refine op_g ha rfl (g_assign rfl) ?_; clear ha a; intro a ha; refine wpList_nil ?_; replace ha := ha.sub (σ' := [(0, va0), (3, (.int .i64 (a0.length : Int))), (4, v4121), (5, v4130), (6, (.int .i64 i1874)), (7, (.int .i64 (i4132 + 1)))]) ⟨rfl, rfl, rfl, rfl, rfl, rfl, trivial⟩; refine e_lq ?_; obtain rfl := Option.some.inj hF
                exact ⟨_, Nat.lt_succ_self _, l4120, l4129, i4132 + 1, v4121, b4122, fs4126, v4130, b4131, ha.sub ⟨rfl, rfl, rfl, rfl, rfl, rfl, trivial⟩, hE4719, hI4721, h4118, z4119, h4124, z4125, zf4127, nd4128, q4134, q4135, hN4696⟩
              replace hF := if_f hp4720 hF
              rw [show (!x4714) = false from b_false (n_iff (Iff.rfl)) hp4720] at ha
              refine op_want (yields ha rfl rfl) ?_; refine op_g ha rfl (g_move rfl) ?_; clear ha a; intro a ha; refine op_want (yields ha rfl rfl) ?_; refine op_g ha rfl (g_move rfl) ?_; clear ha a; intro a ha; refine op_want (yields ha rfl rfl) ?_; refine op_g ha rfl (g_move rfl) ?_; clear ha a; intro a ha; refine op_want (yields ha rfl rfl) ?_; obtain ⟨hI4723, hF⟩ := ck_some hF; refine op_g ha rfl (g_mul rfl rfl hI4723) ?_; clear ha a; intro a ha; refine op_want (yields ha rfl rfl) ?_; refine op_g ha rfl (g_move rfl) ?_; clear ha a; intro a ha; refine op_want (yields ha rfl rfl) ?_; obtain ⟨hI4725, hF⟩ := ck_some hF
              refine op_g ha rfl (g_add rfl rfl hI4725) ?_; clear ha a; intro a ha; refine op_want (yields ha rfl rfl) ?_; obtain ⟨x4727, g4728, gx4729, hF⟩ := idx_some hF
              obtain ⟨p4730, cs4731, f4732, hf4733, hpb4734, hat4735, hr4736, hi4737⟩ := h4118.at g4728 gx4729
              obtain ⟨rfl, rfl⟩ := hr4736
              refine op_g ha rfl (hi4737.gives sl102 rfl rfl) ?_; clear ha a; intro a ha; refine op_want (yields ha rfl rfl) ?_; refine op_g ha rfl (g_load Tryz.isAgg4 rfl hat4735.one) ?_; clear ha a; intro a ha; refine op_g ha rfl (g_pick rfl rfl) ?_; clear ha a; intro a ha; refine wpList_nil ?_; replace ha := ha.sub (σ' := [(0, va0), (3, (.int .i64 (a0.length : Int))), (4, v4121), (5, v4130), (6, (.int .i64 i1874)), (7, (.int .i64 i4132)), (37, v4121), (38, (.int .i64 i1874)), (39, (.int .i64 (a0.length : Int))), (40, (.int .i64 (i1874 * (a0.length : Int)))), (41, (.int .i64 i4132)), (42, (.int .i64 ((i1874 * (a0.length : Int)) + i4132))), (43, (.pointer (some p4730))), (44, (.bool x4727)), (45, (.bool x4727))]) ⟨rfl, rfl, rfl, rfl, rfl, rfl, rfl, rfl, rfl, rfl, rfl, rfl, rfl, rfl, rfl, trivial⟩
              refine e_then ?_; refine c_cond (x4727 = true) ha rfl (Iff.rfl) (fun hp4738 => ?_) (fun hp4738 => ?_)
              · replace hF := if_t hp4738 hF
                refine wp_exit ?_; refine e_then_exit ?_; refine e_blk_eq ?_; refine e_then ?_; refine wp_region_lit ?_; refine op_g ha rfl (g_move rfl) ?_; clear ha a; intro a ha; obtain ⟨hI4739, hF⟩ := ck_some hF; refine op_g ha rfl (g_add rfl rfl hI4739) ?_; clear ha a; intro a ha; refine op_g ha rfl (g_assign rfl) ?_; clear ha a; intro a ha; refine wpList_nil ?_; replace ha := ha.sub (σ' := [(0, va0), (3, (.int .i64 (a0.length : Int))), (4, v4121), (5, v4130), (6, (.int .i64 i1874)), (7, (.int .i64 (i4132 + 1))), (37, v4121), (38, (.int .i64 i1874)), (39, (.int .i64 (a0.length : Int))), (40, (.int .i64 (i1874 * (a0.length : Int)))), (41, (.int .i64 i4132)), (42, (.int .i64 ((i1874 * (a0.length : Int)) + i4132))), (43, (.pointer (some p4730))), (44, (.bool x4727))]) ⟨rfl, rfl, rfl, rfl, rfl, rfl, rfl, rfl, rfl, rfl, rfl, rfl, rfl, rfl, trivial⟩
                refine e_lq ?_; obtain rfl := Option.some.inj hF
                exact ⟨_, Nat.lt_succ_self _, l4120, l4129, i4132 + 1, v4121, b4122, fs4126, v4130, b4131, ha.sub ⟨rfl, rfl, rfl, rfl, rfl, rfl, trivial⟩, hE4719, hI4739, h4118, z4119, h4124, z4125, zf4127, nd4128, q4134, q4135, hN4696⟩
              replace hF := if_f hp4738 hF; refine wp_skip ?_; refine e_then ?_; refine wp_seq ?_; refine wp_region_lit ?_
              refine o_lit0 Rp.int ha rfl sl39 ?_; clear ha a; intro v4741 w4742 h4743 hx4744 a ha
              obtain ⟨b4746, hb4746⟩ : ∃ b : Int, b = w4717.heap.size := ⟨_, rfl⟩; rw [← hb4746] at h4743
              have q4747 := zn_of hb4746
              have q4748 := Nq.new h4118.fpb q4747
              have q4749 := Nq.madeO q4747 h4118.blt
              have q4750 := Nq.new h4124.fpb q4747
              have q4751 := Nq.madeO q4747 h4124.blt
              have q4752 := Nf.old q4747 (zf_nil _) h4124.bnd
              have q4753 := Zn.upD q4747 hE4719
              replace h4118 := h4118.ext hx4744
              replace h4124 := h4124.ext hx4744
              have hE4754 := Ext.trans hE4719 hx4744
              refine op_g ha rfl (g_assign rfl) ?_; clear ha a; intro a ha; refine wpList_nil ?_; replace ha := ha.sub (σ' := [(0, va0), (3, (.int .i64 (a0.length : Int))), (4, v4121), (5, v4130), (6, (.int .i64 i1874)), (7, (.int .i64 i4132)), (8, v4741), (37, v4121), (38, (.int .i64 i1874)), (39, (.int .i64 (a0.length : Int))), (40, (.int .i64 (i1874 * (a0.length : Int)))), (41, (.int .i64 i4132)), (42, (.int .i64 ((i1874 * (a0.length : Int)) + i4132))), (43, (.pointer (some p4730))), (44, (.bool x4727))]) ⟨rfl, rfl, rfl, rfl, rfl, rfl, rfl, rfl, rfl, rfl, rfl, rfl, rfl, rfl, rfl, trivial⟩; refine e_then ?_
              refine wp_seq ?_; refine wp_region_lit ?_; refine op_g ha rfl (g_move rfl) ?_; clear ha a; intro a ha; refine op_g ha rfl (g_assign rfl) ?_; clear ha a; intro a ha; refine wpList_nil ?_; replace ha := ha.sub (σ' := [(0, va0), (3, (.int .i64 (a0.length : Int))), (4, v4121), (5, v4130), (6, (.int .i64 i1874)), (7, (.int .i64 i4132)), (8, v4741), (9, (.int .i64 i1874)), (37, v4121), (38, (.int .i64 i1874)), (39, (.int .i64 (a0.length : Int))), (40, (.int .i64 (i1874 * (a0.length : Int)))), (41, (.int .i64 i4132)), (42, (.int .i64 ((i1874 * (a0.length : Int)) + i4132))), (43, (.pointer (some p4730))), (44, (.bool x4727))]) ⟨rfl, rfl, rfl, rfl, rfl, rfl, rfl, rfl, rfl, rfl, rfl, rfl, rfl, rfl, rfl, rfl, trivial⟩
              refine e_then ?_; refine wp_seq ?_; refine wp_region_lit ?_; refine op_g ha rfl (g_move rfl) ?_; clear ha a; intro a ha; refine op_g ha rfl (g_assign rfl) ?_; clear ha a; intro a ha; refine wpList_nil ?_; replace ha := ha.sub (σ' := [(0, va0), (3, (.int .i64 (a0.length : Int))), (4, v4121), (5, v4130), (6, (.int .i64 i1874)), (7, (.int .i64 i4132)), (8, v4741), (9, (.int .i64 i1874)), (10, (.int .i64 i4132)), (37, v4121), (38, (.int .i64 i1874)), (39, (.int .i64 (a0.length : Int))), (40, (.int .i64 (i1874 * (a0.length : Int)))), (41, (.int .i64 i4132)), (42, (.int .i64 ((i1874 * (a0.length : Int)) + i4132))), (43, (.pointer (some p4730))), (44, (.bool x4727))]) ⟨rfl, rfl, rfl, rfl, rfl, rfl, rfl, rfl, rfl, rfl, rfl, rfl, rfl, rfl, rfl, rfl, rfl, trivial⟩
              refine e_then ?_; refine wp_seq ?_; obtain ⟨o5081, ho5082, hK5083⟩ := bnd_some hF
              obtain ⟨n5084, hn5085⟩ := lp_some ho5082; clear ho5082
              refine c_loop (fun a w => ∃ (l5057 : (List Bool)) (l5066 : (List (List Int))) (l5072 : (List Int)) (v5058 : Value) (b5059 : Int) (fs5063 : List Nat) (v5067 : Value) (b5068 : Int) (v5073 : Value) (b5074 : Int), Fr 82 [(0, va0), (3, (.int .i64 (a0.length : Int))), (4, v5058), (5, v5067), (6, (.int .i64 i1874)), (7, (.int .i64 i4132)), (8, v5073), (37, v5058), (38, (.int .i64 i1874)), (39, (.int .i64 (a0.length : Int))), (40, (.int .i64 (i1874 * (a0.length : Int)))), (41, (.int .i64 i4132)), (42, (.int .i64 ((i1874 * (a0.length : Int)) + i4132))), (44, (.bool x4727))] a ∧ Chg [] W w ∧ Ow Rp.bool 4 true w [] b5059 v5058 l5057 ∧ Zn W b5059 ∧ Ow (Rp.sl 2 Rp.int) 39 true w fs5063 b5068 v5067 l5066 ∧ Zn W b5068 ∧ (∀ k ∈ fs5063, W.heap.size ≤ k) ∧ (bl b5068 ++ fs5063).Nodup ∧ Ow Rp.int 2 true w [] b5074 v5073 l5072 ∧ Zn W b5074 ∧ Nq (bl b5059 ++ []) b5068 ∧ Nq (bl b5059 ++ []) b5074 ∧ Nq (bl b5068 ++ fs5063) b5059 ∧ Nq (bl b5068 ++ fs5063) b5074 ∧ Nq (bl b5074 ++ []) b5059 ∧ Nq (bl b5074 ++ []) b5068 ∧ o5081 = .inl (l5057, l5066, l5072)) (fun n a w => ∃ (l4902 : (List Bool)) (l4911 : (List (List Int))) (l4917 : (List Int)) (i4920 : Int) (i4922 : Int) (v4903 : Value) (b4904 : Int) (fs4908 : List Nat) (v4912 : Value) (b4913 : Int) (v4918 : Value) (b4919 : Int), Fr 82 [(0, va0), (3, (.int .i64 (a0.length : Int))), (4, v4903), (5, v4912), (6, (.int .i64 i1874)), (7, (.int .i64 i4132)), (8, v4918), (9, (.int .i64 i4920)), (10, (.int .i64 i4922)), (37, v4903), (38, (.int .i64 i1874)), (39, (.int .i64 (a0.length : Int))), (40, (.int .i64 (i1874 * (a0.length : Int)))), (41, (.int .i64 i4132)), (42, (.int .i64 ((i1874 * (a0.length : Int)) + i4132))), (44, (.bool x4727))] a ∧ Chg [] W w ∧ InI i4920 ∧ InI i4922 ∧ Ow Rp.bool 4 true w [] b4904 v4903 l4902 ∧ Zn W b4904 ∧ Ow (Rp.sl 2 Rp.int) 39 true w fs4908 b4913 v4912 l4911 ∧ Zn W b4913 ∧ (∀ k ∈ fs4908, W.heap.size ≤ k) ∧ (bl b4913 ++ fs4908).Nodup ∧ Ow Rp.int 2 true w [] b4919 v4918 l4917 ∧ Zn W b4919 ∧ Nq (bl b4904 ++ []) b4913 ∧ Nq (bl b4904 ++ []) b4919 ∧ Nq (bl b4913 ++ fs4908) b4904 ∧ Nq (bl b4913 ++ fs4908) b4919 ∧ Nq (bl b4919 ++ []) b4904 ∧ Nq (bl b4919 ++ []) b4913 ∧ lpN (fun s => F_spec_l22Faces_l3 a0 s.1 s.2.1 s.2.2.1 s.2.2.2.1 s.2.2.2.2) n (l4902, l4911, l4917, i4920, i4922) = some o5081) n5084 ⟨l4120, l4129, ([] : (List Int)), i1874, i4132, v4121, b4122, fs4126, v4130, b4131, v4741, b4746, ha.sub ⟨rfl, rfl, rfl, rfl, rfl, rfl, rfl, rfl, rfl, rfl, rfl, rfl, rfl, rfl, rfl, rfl, trivial⟩, hE4754, hI1875, hI4133, h4118, z4119, h4124, z4125, zf4127, nd4128, h4743, q4753, q4134, q4748, q4135, q4750, q4749, q4751, hn5085⟩ ?_ ?_
              · rintro m5089 a w4898 ⟨l4902, l4911, l4917, i4920, i4922, v4903, b4904, fs4908, v4912, b4913, v4918, b4919, ha, hE4930, hI4921, hI4923, h4900, z4901, h4906, z4907, zf4909, nd4910, h4915, z4916, q4924, q4925, q4926, q4927, q4928, q4929, hF⟩
                cases m5089 with
                | zero => exact (lpN_zero hF).elim
                | succ m5089 =>
                  obtain ⟨z5088, hF, hN5087⟩ := lpN_succ hF
                  have hF : F_spec_l22Faces_l3 a0 l4902 l4911 l4917 i4920 i4922 = some z5088 := hF; unfold F_spec_l22Faces_l3 at hF
                  refine wp_seq ?_; refine wp_seq ?_; refine wp_region_lit ?_; (iterate 3 refine op_g ha rfl (g_move rfl) ?_; clear ha a; intro a ha); obtain ⟨hI5090, hF⟩ := ck_some hF; refine op_g ha rfl (g_mul rfl rfl hI5090) ?_; clear ha a; intro a ha; refine op_g ha rfl (g_move rfl) ?_; clear ha a; intro a ha; obtain ⟨hI5092, hF⟩ := ck_some hF; refine op_g ha rfl (g_add rfl rfl hI5092) ?_; clear ha a; intro a ha; obtain ⟨x5094, g5095, gx5096, hF⟩ := idx_some hF
                  obtain ⟨p5097, cs5098, f5099, hf5100, hpb5101, hat5102, hr5103, hi5104⟩ := h4900.at g5095 gx5096
                  obtain ⟨rfl, rfl⟩ := hr5103
                  refine op_g ha rfl (hi5104.gives sl102 rfl rfl) ?_; clear ha a; intro a ha; refine op_g ha rfl (g_load Tryz.isAgg4 rfl hat5102.one) ?_; clear ha a; intro a ha; refine op_g ha rfl (g_not rfl) ?_; clear ha a; intro a ha; refine wpList_nil ?_; replace ha := ha.sub (σ' := [(0, va0), (3, (.int .i64 (a0.length : Int))), (4, v4903), (5, v4912), (6, (.int .i64 i1874)), (7, (.int .i64 i4132)), (8, v4918), (9, (.int .i64 i4920)), (10, (.int .i64 i4922)), (37, v4903), (38, (.int .i64 i1874)), (39, (.int .i64 (a0.length : Int))), (40, (.int .i64 (i1874 * (a0.length : Int)))), (41, (.int .i64 i4132)), (42, (.int .i64 ((i1874 * (a0.length : Int)) + i4132))), (44, (.bool x4727)), (57, (.bool (!x5094)))]) ⟨rfl, rfl, rfl, rfl, rfl, rfl, rfl, rfl, rfl, rfl, rfl, rfl, rfl, rfl, rfl, rfl, rfl, trivial⟩
                  refine e_then ?_; refine c_cond (¬ (x5094 = true)) ha rfl (n_iff (Iff.rfl)) (fun hp5105 => ?_) (fun hp5105 => ?_)
                  · replace hF := if_t hp5105 hF
                    refine wp_skip ?_; refine e_then ?_; refine wp_block ?_; refine wp_seq ?_; refine wp_region_lit ?_; (iterate 3 refine op_g ha rfl (g_move rfl) ?_; clear ha a; intro a ha); obtain ⟨hI5106, hF⟩ := ck_some hF; refine op_g ha rfl (g_mul rfl rfl hI5106) ?_; clear ha a; intro a ha; refine op_g ha rfl (g_move rfl) ?_; clear ha a; intro a ha; obtain ⟨hI5108, hF⟩ := ck_some hF; refine op_g ha rfl (g_add rfl rfl hI5108) ?_; clear ha a; intro a ha; obtain ⟨x5110, g5111, gx5112, hF⟩ := idx_some hF
                    obtain ⟨p5113, cs5114, f5115, hf5116, hpb5117, hat5118, hr5119, hi5120⟩ := h4900.at g5111 gx5112
                    obtain ⟨rfl, rfl⟩ := hr5119
                    refine op_g ha rfl (hi5120.gives sl102 rfl rfl) ?_; clear ha a; intro a ha
                    refine o_storeE (f := []) (q := true) ha Tryz.sizeOf4 rfl rfl rfl h4900 hi5120 ⟨rfl, rfl⟩ (Nq.nil _) ?_; intro w5121 fs5122 h5123 hc5124 hs5125
                    obtain rfl := Subst.nil hs5125
                    replace h4906 := h4906.nq hc5124 q4926
                    replace h4915 := h4915.nq hc5124 q4928
                    have hE5126 := Ext.then hE4930 hc5124 (Zn.bl z4901)
                    refine wpList_nil ?_; replace ha := ha.sub (σ' := [(0, va0), (3, (.int .i64 (a0.length : Int))), (4, v4903), (5, v4912), (6, (.int .i64 i1874)), (7, (.int .i64 i4132)), (8, v4918), (9, (.int .i64 i4920)), (10, (.int .i64 i4922)), (37, v4903), (38, (.int .i64 i1874)), (39, (.int .i64 (a0.length : Int))), (40, (.int .i64 (i1874 * (a0.length : Int)))), (41, (.int .i64 i4132)), (42, (.int .i64 ((i1874 * (a0.length : Int)) + i4132))), (44, (.bool x4727))]) ⟨rfl, rfl, rfl, rfl, rfl, rfl, rfl, rfl, rfl, rfl, rfl, rfl, rfl, rfl, rfl, rfl, trivial⟩; refine e_then ?_; refine wp_seq ?_
                    refine wp_region_lit ?_; (iterate 2 refine op_g ha rfl (g_move rfl) ?_; clear ha a; intro a ha)
                    refine o_lit1 (o := true) (y := i4920) Rp.int ha rfl sl39 rfl rfl rfl ⟨rfl, hI4921, rfl⟩ ?_; clear ha a; intro v5127 w5128 h5129 hx5130 a ha
                    obtain ⟨b5132, hb5132⟩ : ∃ b : Int, b = w5121.heap.size := ⟨_, rfl⟩; rw [← hb5132] at h5129
                    have q5133 := zn_of hb5132
                    have q5134 := Nq.new h5123.fpb q5133
                    have q5135 := Nq.madeO q5133 h5123.blt
                    have q5136 := Nq.new h4906.fpb q5133
                    have q5137 := Nq.madeO q5133 h4906.blt
                    have q5138 := Nq.new h4915.fpb q5133
                    have q5139 := Nq.madeO q5133 h4915.blt
                    have q5140 := Nf.old q5133 (zf_nil _) h4906.bnd
                    have q5141 := Zn.upD q5133 hE5126
                    replace h5123 := h5123.ext hx5130
                    replace h4906 := h4906.ext hx5130
                    replace h4915 := h4915.ext hx5130
                    have hE5142 := Ext.trans hE5126 hx5130
                    obtain ⟨hl5143, hF⟩ := app_some hF
                    refine o_append ha rfl sl39 rfl rfl rfl h4915 h5129.src (Nq.nil _) hl5143 ?_; clear ha a; intro v5144 w5145 b5146 h5147 hc5148 hb5149 a ha
                    replace h5147 : Ow Rp.int 2 true w5145 [] b5146 v5144 _ := h5147
                    have q5151 := Nq.appY q4925 h5123.fpb hb5149
                    have q5152 := Nq.appX q4928 (Nq.nil _) hb5149 h5123.blt
                    have q5153 := Nq.appY q4927 h4906.fpb hb5149
                    have q5154 := Nq.appX q4929 (Nq.nil _) hb5149 h4906.blt
                    have q5155 := Nq.appY q5139 h5129.fpb hb5149
                    have q5156 := Nq.appX q5138 (Nq.nil _) hb5149 h5129.blt
                    have q5157 := Zn.appD z4916 hb5149 hE5142
                    replace h5123 := h5123.nq hc5148 q4925
                    replace h4906 := h4906.nq hc5148 q4927
                    replace h5129 := h5129.nq hc5148 q5139
                    have hE5158 := Ext.then hE5142 hc5148 (Zn.bl z4916)
                    refine op_g ha rfl (g_assign rfl) ?_; clear ha a; intro a ha; refine wpList_nil ?_; replace ha := ha.sub (σ' := [(0, va0), (3, (.int .i64 (a0.length : Int))), (4, v4903), (5, v4912), (6, (.int .i64 i1874)), (7, (.int .i64 i4132)), (8, v5144), (9, (.int .i64 i4920)), (10, (.int .i64 i4922)), (37, v4903), (38, (.int .i64 i1874)), (39, (.int .i64 (a0.length : Int))), (40, (.int .i64 (i1874 * (a0.length : Int)))), (41, (.int .i64 i4132)), (42, (.int .i64 ((i1874 * (a0.length : Int)) + i4132))), (44, (.bool x4727))]) ⟨rfl, rfl, rfl, rfl, rfl, rfl, rfl, rfl, rfl, rfl, rfl, rfl, rfl, rfl, rfl, rfl, trivial⟩
                    refine e_then ?_; refine wp_seq ?_; refine wp_region_lit ?_; (iterate 2 refine op_g ha rfl (g_move rfl) ?_; clear ha a; intro a ha); obtain ⟨x5159, g5160, gx5161, hF⟩ := idx_some hF
                    obtain ⟨p5162, cs5163, f5164, hf5165, hpb5166, hat5167, hr5168, hi5169⟩ := ha0.at g5160 gx5161
                    obtain ⟨v5170, rfl, h5171⟩ := hr5168
                    have h5171 : Ro Rp.int W f5164 v5170 x5159 := h5171
                    refine op_g ha rfl (hi5169.gives sl22 rfl rfl) ?_; clear ha a; intro a ha; refine op_g ha rfl (g_load0 hE5158 Tryz.isAgg39 rfl hat5167.one) ?_; clear ha a; intro a ha; refine op_g ha rfl (g_move rfl) ?_; clear ha a; intro a ha; obtain ⟨x5173, hc5174, hF⟩ := cal_some hF
                    refine o_call ha rfl rfl Tryz.call73 (W_spec_l22Behind (h5171.ext hE5158) hI4921 hc5174) ?_; clear ha a; rintro v5175 w5176 ⟨⟨rfl, hI5178⟩, hx5177⟩ a ha
                    replace h5123 := h5123.ext hx5177
                    replace h4906 := h4906.ext hx5177
                    replace h5147 := h5147.ext hx5177
                    have hE5179 := Ext.trans hE5158 hx5177
                    refine op_g ha rfl (g_assign rfl) ?_; clear ha a; intro a ha; refine wpList_nil ?_; replace ha := ha.sub (σ' := [(0, va0), (3, (.int .i64 (a0.length : Int))), (4, v4903), (5, v4912), (6, (.int .i64 i1874)), (7, (.int .i64 i4132)), (8, v5144), (10, (.int .i64 i4922)), (11, (.int .i64 x5173)), (37, v4903), (38, (.int .i64 i1874)), (39, (.int .i64 (a0.length : Int))), (40, (.int .i64 (i1874 * (a0.length : Int)))), (41, (.int .i64 i4132)), (42, (.int .i64 ((i1874 * (a0.length : Int)) + i4132))), (44, (.bool x4727))]) ⟨rfl, rfl, rfl, rfl, rfl, rfl, rfl, rfl, rfl, rfl, rfl, rfl, rfl, rfl, rfl, rfl, trivial⟩
                    refine e_then ?_; refine wp_seq ?_; refine wp_region_lit ?_; refine op_g ha rfl (g_move rfl) ?_; clear ha a; intro a ha; refine op_g ha rfl (g_assign rfl) ?_; clear ha a; intro a ha; refine wpList_nil ?_; replace ha := ha.sub (σ' := [(0, va0), (3, (.int .i64 (a0.length : Int))), (4, v4903), (5, v4912), (6, (.int .i64 i1874)), (7, (.int .i64 i4132)), (8, v5144), (9, (.int .i64 i4922)), (11, (.int .i64 x5173)), (37, v4903), (38, (.int .i64 i1874)), (39, (.int .i64 (a0.length : Int))), (40, (.int .i64 (i1874 * (a0.length : Int)))), (41, (.int .i64 i4132)), (42, (.int .i64 ((i1874 * (a0.length : Int)) + i4132))), (44, (.bool x4727))]) ⟨rfl, rfl, rfl, rfl, rfl, rfl, rfl, rfl, rfl, rfl, rfl, rfl, rfl, rfl, rfl, rfl, trivial⟩
                    refine e_then ?_; refine wp_region_lit ?_; refine op_g ha rfl (g_move rfl) ?_; clear ha a; intro a ha; refine op_g ha rfl (g_assign rfl) ?_; clear ha a; intro a ha; refine wpList_nil ?_; replace ha := ha.sub (σ' := [(0, va0), (3, (.int .i64 (a0.length : Int))), (4, v4903), (5, v4912), (6, (.int .i64 i1874)), (7, (.int .i64 i4132)), (8, v5144), (9, (.int .i64 i4922)), (10, (.int .i64 x5173)), (37, v4903), (38, (.int .i64 i1874)), (39, (.int .i64 (a0.length : Int))), (40, (.int .i64 (i1874 * (a0.length : Int)))), (41, (.int .i64 i4132)), (42, (.int .i64 ((i1874 * (a0.length : Int)) + i4132))), (44, (.bool x4727))]) ⟨rfl, rfl, rfl, rfl, rfl, rfl, rfl, rfl, rfl, rfl, rfl, rfl, rfl, rfl, rfl, rfl, trivial⟩
                    refine e_blk ?_; refine e_lq ?_; obtain rfl := Option.some.inj hF
                    exact ⟨_, Nat.lt_succ_self _, (l4902.set (((i4920 * (a0.length : Int)) + i4922 : Int).toNat) true), l4911, (l4917 ++ ([i4920])), i4922, x5173, v4903, b4904, fs4908, v4912, b4913, v5144, b5146, ha.sub ⟨rfl, rfl, rfl, rfl, rfl, rfl, rfl, rfl, rfl, rfl, rfl, rfl, rfl, rfl, rfl, rfl, trivial⟩, hE5179, hI4923, hI5178, h5123, z4901, h4906, z4907, zf4909, nd4910, h5147, q5157, q4924, q5151, q4926, q5153, q5152, q5154, hN5087⟩
                  replace hF := if_f hp5105 hF; refine wp_exit ?_; refine e_then_exit ?_; refine e_lq_eq ?_; obtain rfl := Option.some.inj hF
                  exact ⟨l4902, l4911, l4917, v4903, b4904, fs4908, v4912, b4913, v4918, b4919, ha.sub ⟨rfl, rfl, rfl, rfl, rfl, rfl, rfl, rfl, rfl, rfl, rfl, rfl, rfl, rfl, trivial⟩, hE4930, h4900, z4901, h4906, z4907, zf4909, nd4910, h4915, z4916, q4924, q4925, q4926, q4927, q4928, q4929, (LK_inr hN5087).symm⟩
              rintro a w5053 ⟨l5057, l5066, l5072, v5058, b5059, fs5063, v5067, b5068, v5073, b5074, ha, hE5086, h5055, z5056, h5061, z5062, zf5064, nd5065, h5070, z5071, q5075, q5076, q5077, q5078, q5079, q5080, rfl⟩
              have hF : F_spec_l22Faces_k4 i4132 l5057 l5066 l5072 = some _ := hK5083; clear hK5083; unfold F_spec_l22Faces_k4 at hF
              refine e_then ?_; refine wp_region_lit ?_; (iterate 2 refine op_g ha rfl (g_move rfl) ?_; clear ha a; intro a ha)
              refine o_lit1 (o := true) (y := l5072) (Rp.sl 2 Rp.int) ha rfl sl22 rfl rfl h5070.cells (Rp.mkO h5070) ?_; clear ha a; intro v5180 w5181 h5182 hx5183 a ha
              obtain ⟨b5185, hb5185⟩ : ∃ b : Int, b = w5053.heap.size := ⟨_, rfl⟩; rw [← hb5185] at h5182
              have q5186 := zn_of hb5185
              have q5187 := zf_mv z5071 (zf_nil _)
              have q5188 := dj_of q5076
              have q5189 := dj_of q5078
              have q5190 := Nq.new h5055.fpb q5186
              have q5191 := Nq.append (Nq.madeL q5186 h5055.blt) q5079
              have q5192 := Nq.new h5061.fpb q5186
              have q5193 := Nq.append (Nq.madeL q5186 h5061.blt) q5080
              have q5194 := Zn.upD q5186 hE5086
              have q5195 := nd_lit (bl_nodup b5074) h5070.fpb hb5185
              replace h5055 := h5055.ext hx5183
              replace h5061 := h5061.ext hx5183
              have hE5196 := Ext.trans hE5086 hx5183
              obtain ⟨hl5197, hF⟩ := app_some hF
              have q5198 := Nq.right q5193
              refine o_append ha rfl sl22 rfl rfl rfl h5061 h5182.src q5198 hl5197 ?_; clear ha a; intro v5199 w5200 b5201 h5202 hc5203 hb5204 a ha
              replace h5202 : Ow (Rp.sl 2 Rp.int) 39 true w5200 (fs5063 ++ (bl b5074 ++ [])) b5201 v5199 _ := h5202
              have q5206 := zf_app zf5064 q5187
              have q5207 := nd_app nd5065 (bl_nodup b5074) q5189 hb5204 h5061.fpb h5182.bnd
              have q5208 := Nq.appY q5075 h5055.fpb hb5204
              have q5209 := Nq.appX q5077 (Nq.right q5191) hb5204 h5055.blt
              have q5210 := Zn.appD z5062 hb5204 hE5196
              replace h5055 := h5055.nq hc5203 q5075
              have hE5211 := Ext.then hE5196 hc5203 (Zn.bl z5062)
              refine op_g ha rfl (g_assign rfl) ?_; clear ha a; intro a ha; refine wpList_nil ?_; replace ha := ha.sub (σ' := [(0, va0), (3, (.int .i64 (a0.length : Int))), (4, v5058), (5, v5199), (6, (.int .i64 i1874)), (7, (.int .i64 i4132)), (37, v5058), (38, (.int .i64 i1874)), (39, (.int .i64 (a0.length : Int))), (40, (.int .i64 (i1874 * (a0.length : Int)))), (41, (.int .i64 i4132)), (42, (.int .i64 ((i1874 * (a0.length : Int)) + i4132))), (44, (.bool x4727))]) ⟨rfl, rfl, rfl, rfl, rfl, rfl, rfl, rfl, rfl, rfl, rfl, rfl, rfl, trivial⟩; refine e_blk ?_; refine e_then ?_; refine wp_region_lit ?_
              refine op_g ha rfl (g_move rfl) ?_; clear ha a; intro a ha; obtain ⟨hI5212, hF⟩ := ck_some hF; refine op_g ha rfl (g_add rfl rfl hI5212) ?_; clear ha a; intro a ha; refine op_g ha rfl (g_assign rfl) ?_; clear ha a; intro a ha; refine wpList_nil ?_; replace ha := ha.sub (σ' := [(0, va0), (3, (.int .i64 (a0.length : Int))), (4, v5058), (5, v5199), (6, (.int .i64 i1874)), (7, (.int .i64 (i4132 + 1))), (37, v5058), (38, (.int .i64 i1874)), (39, (.int .i64 (a0.length : Int))), (40, (.int .i64 (i1874 * (a0.length : Int)))), (41, (.int .i64 i4132)), (42, (.int .i64 ((i1874 * (a0.length : Int)) + i4132))), (44, (.bool x4727))]) ⟨rfl, rfl, rfl, rfl, rfl, rfl, rfl, rfl, rfl, rfl, rfl, rfl, rfl, trivial⟩
              refine e_lq ?_; obtain rfl := Option.some.inj hF
              exact ⟨_, Nat.lt_succ_self _, l5057, (l5066 ++ ([l5072])), i4132 + 1, v5058, b5059, (fs5063 ++ (bl b5074 ++ [])), v5199, b5201, ha.sub ⟨rfl, rfl, rfl, rfl, rfl, rfl, trivial⟩, hE5211, hI5212, h5055, z5056, h5202, q5210, q5206, q5207, q5208, q5209, hN4696⟩
            replace hF := if_f hp4699 hF; refine wp_exit ?_; refine e_then_exit ?_; refine e_lq_eq ?_; obtain rfl := Option.some.inj hF
            exact ⟨l4120, l4129, v4121, b4122, fs4126, v4130, b4131, ha.sub ⟨rfl, rfl, rfl, rfl, rfl, trivial⟩, hE4136, h4118, z4119, h4124, z4125, zf4127, nd4128, q4134, q4135, (LK_inr hN4696).symm⟩
        rintro a w4672 ⟨l4676, l4685, v4677, b4678, fs4682, v4686, b4687, ha, hE4695, h4674, z4675, h4680, z4681, zf4683, nd4684, q4688, q4689, rfl⟩
        have hF : F_spec_l22Faces_k5 i1874 l4676 l4685 = some _ := hK4692; clear hK4692; unfold F_spec_l22Faces_k5 at hF
        refine e_blk ?_; refine e_then ?_; refine wp_region_lit ?_; refine op_g ha rfl (g_move rfl) ?_; clear ha a; intro a ha; obtain ⟨hI5214, hF⟩ := ck_some hF; refine op_g ha rfl (g_add rfl rfl hI5214) ?_; clear ha a; intro a ha; refine op_g ha rfl (g_assign rfl) ?_; clear ha a; intro a ha; refine wpList_nil ?_; replace ha := ha.sub (σ' := [(0, va0), (3, (.int .i64 (a0.length : Int))), (4, v4677), (5, v4686), (6, (.int .i64 (i1874 + 1)))]) ⟨rfl, rfl, rfl, rfl, rfl, trivial⟩; refine e_lq ?_; obtain rfl := Option.some.inj hF
        exact ⟨_, Nat.lt_succ_self _, l4676, l4685, i1874 + 1, v4677, b4678, fs4682, v4686, b4687, ha.sub ⟨rfl, rfl, rfl, rfl, rfl, trivial⟩, hE4695, hI5214, h4674, z4675, h4680, z4681, zf4683, nd4684, q4688, q4689, hN3564⟩
      replace hF := if_f hp3567 hF; refine wp_exit ?_; refine e_then_exit ?_; refine e_lq_eq ?_; obtain rfl := Option.some.inj hF
      exact ⟨l1871, fs1868, v1872, b1873, ha.sub ⟨rfl, trivial⟩, hE1878, h1866, z1867, zf1869, nd1870, (LK_inr hN3564).symm⟩
  rintro a w3548 ⟨l3555, fs3552, v3556, b3557, ha, hE3563, h3550, z3551, zf3553, nd3554, rfl⟩
  have hF : F_spec_l22Faces_k6 l3555 = some _ := hK3560; clear hK3560; unfold F_spec_l22Faces_k6 at hF
  refine e_then ?_; refine wp_seq ?_; refine wp_region_lit ?_; refine op_g ha rfl (g_move rfl) ?_; clear ha a; intro a ha; refine op_g ha rfl (g_assign rfl) ?_; clear ha a; intro a ha; refine wpList_nil ?_; replace ha := ha.sub (σ' := [(2, v3556)]) ⟨rfl, trivial⟩; refine e_then ?_; refine wp_ret ?_; obtain rfl := Option.some.inj hF
  exact f_ret1 ha rfl rfl ⟨_, _, h3550, z3551, zf3553, nd3554, hE3563⟩
set_option maxHeartbeats 2000000 in
theorem W_spec_l22Twice {W : World} {va0 : Value} {fa0 : List Nat} {a0 : (List (List Int))} (ha0 : Ro (Rp.sl 2 Rp.int) W fa0 va0 a0) {r : Int} (hF : F_spec_l22Twice a0 = some r) :
    Calls Tryz.prog 42 [va0].toArray W (Ret fun u w' => (u = .int .i64 r ∧ InI r) ∧ Ext W w') := by
  refine f_enter Tryz.func42 rfl Tryz.ntmps42 rfl ?_
  intro a ha
  replace ha : Fr 67 [(0, va0)] a := ha
  have hE : Chg [] W W := Chg.refl _ _
  unfold F_spec_l22Twice at hF
  refine wp_seq ?_; refine wp_region_lit ?_; refine op_g ha rfl (g_assign rfl) ?_; clear ha a; intro a ha; refine wpList_nil ?_; replace ha := ha.sub (σ' := [(0, va0)]) ⟨rfl, trivial⟩; refine e_then ?_; refine wp_seq ?_; refine wp_region_lit ?_
  refine o_lit0 Rp.int ha rfl sl39 ?_; clear ha a; intro v1 w2 h3 hx4 a ha
  obtain ⟨b6, hb6⟩ : ∃ b : Int, b = W.heap.size := ⟨_, rfl⟩; rw [← hb6] at h3
  have q7 := zn_of hb6
  have q8 := Zn.upD q7 hE
  have hE9 := Ext.trans hE hx4
  refine op_g ha rfl (g_assign rfl) ?_; clear ha a; intro a ha; refine wpList_nil ?_; replace ha := ha.sub (σ' := [(0, va0), (3, v1)]) ⟨rfl, rfl, trivial⟩; refine e_then ?_; refine wp_seq ?_; refine wp_region_lit ?_; refine op_g ha rfl (g_assign rfl) ?_; clear ha a; intro a ha; refine wpList_nil ?_; refine e_then ?_; refine wp_seq ?_; refine wp_seq ?_; refine wp_region_lit ?_; refine op_g ha rfl (g_assign rfl) ?_; clear ha a; intro a ha; refine wpList_nil ?_; replace ha := ha.sub (σ' := [(0, va0), (3, v1), (4, (.int .i64 0)), (5, (.int .i64 0))]) ⟨rfl, rfl, rfl, rfl, trivial⟩; refine e_then ?_
  obtain ⟨o184, ho185, hK186⟩ := bnd_some hF
  obtain ⟨n187, hn188⟩ := lp_some ho185; clear ho185
  refine c_loop (fun a w => ∃ (l179 : (List Int)) (i182 : Int) (v180 : Value) (b181 : Int), Fr 67 [(0, va0), (3, v180), (4, (.int .i64 i182))] a ∧ Chg [] W w ∧ InI i182 ∧ Ow Rp.int 2 true w [] b181 v180 l179 ∧ Zn W b181 ∧ o184 = .inl (l179, i182)) (fun n a w => ∃ (l93 : (List Int)) (i96 : Int) (i98 : Int) (v94 : Value) (b95 : Int), Fr 67 [(0, va0), (3, v94), (4, (.int .i64 i96)), (5, (.int .i64 i98))] a ∧ Chg [] W w ∧ InI i96 ∧ InI i98 ∧ Ow Rp.int 2 true w [] b95 v94 l93 ∧ Zn W b95 ∧ lpN (fun s => F_spec_l22Twice_l1 a0 s.1 s.2.1 s.2.2) n (l93, i96, i98) = some o184) n187 ⟨([] : (List Int)), 0, 0, v1, b6, ha.sub ⟨rfl, rfl, rfl, rfl, trivial⟩, hE9, (show InI 0 from by decide), (show InI 0 from by decide), h3, q8, hn188⟩ ?_ ?_
  · rintro m192 a w89 ⟨l93, i96, i98, v94, b95, ha, hE100, hI97, hI99, h91, z92, hF⟩
    cases m192 with
    | zero => exact (lpN_zero hF).elim
    | succ m192 =>
      obtain ⟨z191, hF, hN190⟩ := lpN_succ hF
      have hF : F_spec_l22Twice_l1 a0 l93 i96 i98 = some z191 := hF; unfold F_spec_l22Twice_l1 at hF
      refine wp_seq ?_; refine wp_seq ?_; refine wp_region_lit ?_; (iterate 2 refine op_g ha rfl (g_move rfl) ?_; clear ha a; intro a ha); refine op_g ha rfl (g_lenR sl22.und ha0 rfl) ?_; clear ha a; intro a ha; refine op_g ha rfl (g_lss rfl rfl) ?_; clear ha a; intro a ha; refine wpList_nil ?_; replace ha := ha.sub (σ' := [(0, va0), (3, v94), (4, (.int .i64 i96)), (5, (.int .i64 i98)), (14, (.bool (decide (i98 < (a0.length : Int)))))]) ⟨rfl, rfl, rfl, rfl, rfl, trivial⟩; refine e_then ?_; refine c_cond (i98 < (a0.length : Int)) ha rfl (decide_eq_true_iff) (fun hp193 => ?_) (fun hp193 => ?_)
      · replace hF := if_t hp193 hF
        refine wp_skip ?_; refine e_then ?_; refine wp_seq ?_; refine wp_block ?_; refine wp_seq ?_; refine wp_region_lit ?_; (iterate 3 refine op_g ha rfl (g_move rfl) ?_; clear ha a; intro a ha); obtain ⟨x194, g195, gx196, hF⟩ := idx_some hF
        obtain ⟨p197, cs198, f199, hf200, hpb201, hat202, hr203, hi204⟩ := ha0.at g195 gx196
        obtain ⟨v205, rfl, h206⟩ := hr203
        have h206 : Ro Rp.int W f199 v205 x194 := h206
        refine op_g ha rfl (hi204.gives sl22 rfl rfl) ?_; clear ha a; intro a ha; refine op_g ha rfl (g_load0 hE100 Tryz.isAgg39 rfl hat202.one) ?_; clear ha a; intro a ha; obtain ⟨x208, hc209, hF⟩ := cal_some hF
        refine o_call ha rfl rfl Tryz.call56 (W_spec_l25Mask (h206.ext hE100) hc209) ?_; clear ha a; rintro v210 w211 ⟨⟨rfl, hI213⟩, hx212⟩ a ha
        replace h91 := h91.ext hx212
        have hE214 := Ext.trans hE100 hx212
        refine o_lit1 (o := true) (y := x208) Rp.int ha rfl sl39 rfl rfl rfl ⟨rfl, hI213, rfl⟩ ?_; clear ha a; intro v215 w216 h217 hx218 a ha
        obtain ⟨b220, hb220⟩ : ∃ b : Int, b = w211.heap.size := ⟨_, rfl⟩; rw [← hb220] at h217
        have q221 := zn_of hb220
        have q222 := Nq.new h91.fpb q221
        have q223 := Nq.madeO q221 h91.blt
        have q224 := Zn.upD q221 hE214
        replace h91 := h91.ext hx218
        have hE225 := Ext.trans hE214 hx218
        obtain ⟨hl226, hF⟩ := app_some hF
        refine o_append ha rfl sl39 rfl rfl rfl h91 h217.src (Nq.nil _) hl226 ?_; clear ha a; intro v227 w228 b229 h230 hc231 hb232 a ha
        replace h230 : Ow Rp.int 2 true w228 [] b229 v227 _ := h230
        have q234 := Nq.appY q223 h217.fpb hb232
        have q235 := Nq.appX q222 (Nq.nil _) hb232 h217.blt
        have q236 := Zn.appD z92 hb232 hE225
        replace h217 := h217.nq hc231 q223
        have hE237 := Ext.then hE225 hc231 (Zn.bl z92)
        refine op_g ha rfl (g_assign rfl) ?_; clear ha a; intro a ha; refine wpList_nil ?_; replace ha := ha.sub (σ' := [(0, va0), (3, v227), (4, (.int .i64 i96)), (5, (.int .i64 i98))]) ⟨rfl, rfl, rfl, rfl, trivial⟩; refine e_then ?_; refine wp_region_lit ?_; (iterate 3 refine op_g ha rfl (g_move rfl) ?_; clear ha a; intro a ha); obtain ⟨x238, g239, gx240, hF⟩ := idx_some hF
        obtain ⟨p241, cs242, f243, hf244, hpb245, hat246, hr247, hi248⟩ := ha0.at g239 gx240
        obtain ⟨v249, rfl, h250⟩ := hr247
        have h250 : Ro Rp.int W f243 v249 x238 := h250
        refine op_g ha rfl (hi248.gives sl22 rfl rfl) ?_; clear ha a; intro a ha; refine op_g ha rfl (g_load0 hE237 Tryz.isAgg39 rfl hat246.one) ?_; clear ha a; intro a ha; refine op_g ha rfl (g_lenR sl39.und h250 rfl) ?_; clear ha a; intro a ha; obtain ⟨hI252, hF⟩ := ck_some hF; refine op_g ha rfl (g_add rfl rfl hI252) ?_; clear ha a; intro a ha; refine op_g ha rfl (g_assign rfl) ?_; clear ha a; intro a ha; refine wpList_nil ?_; replace ha := ha.sub (σ' := [(0, va0), (3, v227), (4, (.int .i64 (i96 + (x238.length : Int)))), (5, (.int .i64 i98))]) ⟨rfl, rfl, rfl, rfl, trivial⟩; refine e_blk ?_; refine e_then ?_
        refine wp_region_lit ?_; refine op_g ha rfl (g_move rfl) ?_; clear ha a; intro a ha; obtain ⟨hI254, hF⟩ := ck_some hF; refine op_g ha rfl (g_add rfl rfl hI254) ?_; clear ha a; intro a ha; refine op_g ha rfl (g_assign rfl) ?_; clear ha a; intro a ha; refine wpList_nil ?_; replace ha := ha.sub (σ' := [(0, va0), (3, v227), (4, (.int .i64 (i96 + (x238.length : Int)))), (5, (.int .i64 (i98 + 1)))]) ⟨rfl, rfl, rfl, rfl, trivial⟩; refine e_lq ?_; obtain rfl := Option.some.inj hF
        exact ⟨_, Nat.lt_succ_self _, (l93 ++ ([x208])), i96 + (x238.length : Int), i98 + 1, v227, b229, ha.sub ⟨rfl, rfl, rfl, rfl, trivial⟩, hE237, hI252, hI254, h230, q236, hN190⟩
      replace hF := if_f hp193 hF; refine wp_exit ?_; refine e_then_exit ?_; refine e_lq_eq ?_; obtain rfl := Option.some.inj hF
      exact ⟨l93, i96, v94, b95, ha.sub ⟨rfl, rfl, rfl, trivial⟩, hE100, hI97, h91, z92, (LK_inr hN190).symm⟩
  rintro a w175 ⟨l179, i182, v180, b181, ha, hE189, hI183, h177, z178, rfl⟩
  have hF : F_spec_l22Twice_k2 a0 l179 i182 = some _ := hK186; clear hK186; unfold F_spec_l22Twice_k2 at hF
  refine e_then ?_; refine wp_seq ?_; refine wp_region_lit ?_; refine op_g ha rfl (g_assign rfl) ?_; clear ha a; intro a ha; refine wpList_nil ?_; replace ha := ha.sub (σ' := [(0, va0), (3, v180), (4, (.int .i64 i182)), (6, (.int .i64 0))]) ⟨rfl, rfl, rfl, rfl, trivial⟩; refine e_then ?_; refine wp_seq ?_; refine wp_region_lit ?_; refine op_g ha rfl (g_assign rfl) ?_; clear ha a; intro a ha; refine wpList_nil ?_; replace ha := ha.sub (σ' := [(0, va0), (3, v180), (4, (.int .i64 i182)), (6, (.int .i64 0)), (7, (.int .i64 0))]) ⟨rfl, rfl, rfl, rfl, rfl, trivial⟩; refine e_then ?_; refine wp_seq ?_
  refine wp_region_lit ?_; refine op_g ha rfl (g_move rfl) ?_; clear ha a; intro a ha; refine op_g ha rfl (g_lenR sl22.und ha0 rfl) ?_; clear ha a; intro a ha; obtain ⟨h0256, hF⟩ := grd_some hF; refine op_g ha rfl (g_conv6u un3 un90 rfl ha0.len h0256) ?_; clear ha a; intro a ha; obtain ⟨hI257, hF⟩ := ck_some hF; refine op_g ha rfl (g64_shl rfl rfl (inU_of ha0.len h0256).1 hI257) ?_; clear ha a; intro a ha; obtain ⟨hI259, hF⟩ := ck_some hF; refine op_g ha rfl (g_sub rfl rfl hI259) ?_; clear ha a; intro a ha; refine op_g ha rfl (g_assign rfl) ?_; clear ha a; intro a ha; refine wpList_nil ?_; replace ha := ha.sub (σ' := [(0, va0), (3, v180), (4, (.int .i64 i182)), (6, (.int .i64 0)), (7, (.int .i64 0)), (8, (.int .i64 ((1 * 2 ^ ((a0.length : Int) : Int).toNat) - 1)))]) ⟨rfl, rfl, rfl, rfl, rfl, rfl, trivial⟩
  refine e_then ?_; refine wp_seq ?_; obtain ⟨o376, ho377, hK378⟩ := bnd_some hF
  obtain ⟨n379, hn380⟩ := lp_some ho377; clear ho377
  refine c_loop (fun a w => ∃ (i372 : Int) (i374 : Int), Fr 67 [(0, va0), (4, (.int .i64 i182)), (6, (.int .i64 i372)), (7, (.int .i64 i374))] a ∧ Chg [] W w ∧ InI i372 ∧ InI i374 ∧ o376 = .inl (i372, i374)) (fun n a w => ∃ (i317 : Int) (i319 : Int) (i321 : Int), Fr 67 [(0, va0), (3, v180), (4, (.int .i64 i182)), (6, (.int .i64 i317)), (7, (.int .i64 i319)), (8, (.int .i64 i321))] a ∧ Chg [] W w ∧ InI i317 ∧ InI i319 ∧ InI i321 ∧ Ow Rp.int 2 true w [] b181 v180 l179 ∧ Zn W b181 ∧ lpN (fun s => F_spec_l22Twice_l3 l179 s.1 s.2.1 s.2.2) n (i317, i319, i321) = some o376) n379 ⟨0, 0, (1 * 2 ^ ((a0.length : Int) : Int).toNat) - 1, ha.sub ⟨rfl, rfl, rfl, rfl, rfl, rfl, trivial⟩, hE189, (show InI 0 from by decide), (show InI 0 from by decide), hI259, h177, z178, hn380⟩ ?_ ?_
  · rintro m384 a w313 ⟨i317, i319, i321, ha, hE323, hI318, hI320, hI322, h315, z316, hF⟩
    cases m384 with
    | zero => exact (lpN_zero hF).elim
    | succ m384 =>
      obtain ⟨z383, hF, hN382⟩ := lpN_succ hF
      have hF : F_spec_l22Twice_l3 l179 i317 i319 i321 = some z383 := hF; unfold F_spec_l22Twice_l3 at hF
      refine wp_seq ?_; refine wp_seq ?_; refine wp_region_lit ?_; refine op_g ha rfl (g_move rfl) ?_; clear ha a; intro a ha; refine op_g ha rfl (g_gtr rfl rfl) ?_; clear ha a; intro a ha; refine wpList_nil ?_; replace ha := ha.sub (σ' := [(0, va0), (3, v180), (4, (.int .i64 i182)), (6, (.int .i64 i317)), (7, (.int .i64 i319)), (8, (.int .i64 i321)), (38, (.bool (decide (0 < i321))))]) ⟨rfl, rfl, rfl, rfl, rfl, rfl, rfl, trivial⟩; refine e_then ?_; refine c_cond (0 < i321) ha rfl (decide_eq_true_iff) (fun hp385 => ?_) (fun hp385 => ?_)
      · replace hF := if_t hp385 hF
        refine wp_skip ?_; refine e_then ?_; refine wp_block ?_; refine wp_seq ?_; refine wp_region_lit ?_; (iterate 2 refine op_g ha rfl (g_move rfl) ?_; clear ha a; intro a ha); obtain ⟨x386, hc387, hF⟩ := cal_some hF
        refine o_call ha rfl rfl Tryz.call58 (W_spec_l27Low hI322 hc387) ?_; clear ha a; rintro v388 w389 ⟨⟨rfl, hI391⟩, hx390⟩ a ha
        replace h315 := h315.ext hx390
        have hE392 := Ext.trans hE323 hx390
        refine op_g ha rfl (g_move rfl) ?_; clear ha a; intro a ha
        obtain ⟨fp393, hro394, hs395⟩ := h315.roF
        obtain ⟨x396, hc397, hF⟩ := cal_some hF
        refine o_call ha rfl rfl Tryz.call57 (W_spec_l27Part hro394 hI391 hI322 hc397) ?_; clear ha a; rintro v398 w399 ⟨⟨rfl, hI401⟩, hx400⟩ a ha
        replace h315 := h315.ext hx400
        have hE402 := Ext.trans hE392 hx400
        refine op_g ha rfl (g_assign rfl) ?_; clear ha a; intro a ha; refine wpList_nil ?_; replace ha := ha.sub (σ' := [(0, va0), (3, v180), (4, (.int .i64 i182)), (6, (.int .i64 i317)), (7, (.int .i64 i319)), (8, (.int .i64 i321)), (9, (.int .i64 x396))]) ⟨rfl, rfl, rfl, rfl, rfl, rfl, rfl, trivial⟩; refine e_then ?_; refine wp_seq ?_; refine wp_region_lit ?_; (iterate 2 refine op_g ha rfl (g_move rfl) ?_; clear ha a; intro a ha); refine op_g ha rfl (g64_andNot rfl rfl) ?_; clear ha a; intro a ha; refine op_g ha rfl (g_assign rfl) ?_; clear ha a; intro a ha; refine wpList_nil ?_; replace ha := ha.sub (σ' := [(0, va0), (3, v180), (4, (.int .i64 i182)), (6, (.int .i64 i317)), (7, (.int .i64 i319)), (8, (.int .i64 (i64andn i321 x396))), (9, (.int .i64 x396))]) ⟨rfl, rfl, rfl, rfl, rfl, rfl, rfl, trivial⟩
        refine e_then ?_; refine wp_seq ?_; refine wp_region_lit ?_; refine op_g ha rfl (g_move rfl) ?_; clear ha a; intro a ha; obtain ⟨x403, hc404, hF⟩ := cal_some hF
        refine o_call ha rfl rfl Tryz.call59 (W_spec_l25Many hI401 hc404) ?_; clear ha a; rintro v405 w406 ⟨⟨rfl, hI408⟩, hx407⟩ a ha
        replace h315 := h315.ext hx407
        have hE409 := Ext.trans hE402 hx407
        refine op_g ha rfl (g_gtr rfl rfl) ?_; clear ha a; intro a ha; refine wpList_nil ?_; replace ha := ha.sub (σ' := [(0, va0), (3, v180), (4, (.int .i64 i182)), (6, (.int .i64 i317)), (7, (.int .i64 i319)), (8, (.int .i64 (i64andn i321 x396))), (9, (.int .i64 x396)), (49, (.bool (decide (1 < x403))))]) ⟨rfl, rfl, rfl, rfl, rfl, rfl, rfl, rfl, trivial⟩; refine e_then ?_; refine c_cond (1 < x403) ha rfl (decide_eq_true_iff) (fun hp410 => ?_) (fun hp410 => ?_)
        · replace hF := if_t hp410 hF
          refine wp_seq ?_; refine wp_region_lit ?_; refine op_g ha rfl (g_move rfl) ?_; clear ha a; intro a ha; obtain ⟨hI411, hF⟩ := ck_some hF; refine op_g ha rfl (g_add rfl rfl hI411) ?_; clear ha a; intro a ha; refine op_g ha rfl (g_assign rfl) ?_; clear ha a; intro a ha; refine wpList_nil ?_; replace ha := ha.sub (σ' := [(0, va0), (3, v180), (4, (.int .i64 i182)), (6, (.int .i64 i317)), (7, (.int .i64 (i319 + 1))), (8, (.int .i64 (i64andn i321 x396))), (9, (.int .i64 x396))]) ⟨rfl, rfl, rfl, rfl, rfl, rfl, rfl, trivial⟩; refine e_then ?_; refine wp_region_lit ?_; (iterate 2 refine op_g ha rfl (g_move rfl) ?_; clear ha a; intro a ha)
          obtain ⟨x413, hc414, hF⟩ := cal_some hF
          refine o_call ha rfl rfl Tryz.call59 (W_spec_l25Many hI401 hc414) ?_; clear ha a; rintro v415 w416 ⟨⟨rfl, hI418⟩, hx417⟩ a ha
          replace h315 := h315.ext hx417
          have hE419 := Ext.trans hE409 hx417
          obtain ⟨hI420, hF⟩ := ck_some hF; refine op_g ha rfl (g_add rfl rfl hI420) ?_; clear ha a; intro a ha; refine op_g ha rfl (g_assign rfl) ?_; clear ha a; intro a ha; refine wpList_nil ?_; replace ha := ha.sub (σ' := [(0, va0), (3, v180), (4, (.int .i64 i182)), (6, (.int .i64 (i317 + x413))), (7, (.int .i64 (i319 + 1))), (8, (.int .i64 (i64andn i321 x396)))]) ⟨rfl, rfl, rfl, rfl, rfl, rfl, trivial⟩; refine e_blk ?_; refine e_lq ?_; obtain rfl := Option.some.inj hF
          exact ⟨_, Nat.lt_succ_self _, i317 + x413, i319 + 1, i64andn i321 x396, ha.sub ⟨rfl, rfl, rfl, rfl, rfl, rfl, trivial⟩, hE419, hI420, hI411, (in_i64andn _ _), h315, z316, hN382⟩
        replace hF := if_f hp410 hF; refine wp_skip ?_; refine e_blk ?_; refine e_lq ?_; obtain rfl := Option.some.inj hF
        exact ⟨_, Nat.lt_succ_self _, i317, i319, i64andn i321 x396, ha.sub ⟨rfl, rfl, rfl, rfl, rfl, rfl, trivial⟩, hE409, hI318, hI320, (in_i64andn _ _), h315, z316, hN382⟩
      replace hF := if_f hp385 hF; refine wp_exit ?_; refine e_then_exit ?_; refine e_lq_eq ?_; obtain rfl := Option.some.inj hF
      exact ⟨i317, i319, ha.sub ⟨rfl, rfl, rfl, rfl, trivial⟩, hE323, hI318, hI320, (LK_inr hN382).symm⟩
  rintro a w371 ⟨i372, i374, ha, hE381, hI373, hI375, rfl⟩
  have hF : F_spec_l22Twice_k4 a0 i182 i372 i374 = some _ := hK378; clear hK378; unfold F_spec_l22Twice_k4 at hF
  refine e_then ?_; refine wp_seq ?_; refine wp_region_lit ?_; refine op_g ha rfl (g_move rfl) ?_; clear ha a; intro a ha; obtain ⟨hI422, hF⟩ := ck_some hF; refine op_g ha rfl (g_mul rfl rfl hI422) ?_; clear ha a; intro a ha; refine op_g ha rfl (g_move rfl) ?_; clear ha a; intro a ha; obtain ⟨hq424, hF⟩ := grd_some hF
  have hI425 := in_quo hI183 hq424.1 hq424.2
  refine op_g ha rfl (g_quo rfl rfl hI183 hq424.1 hq424.2) ?_; clear ha a; intro a ha; obtain ⟨hI426, hF⟩ := ck_some hF; refine op_g ha rfl (g_add rfl rfl hI426) ?_; clear ha a; intro a ha; refine op_g ha rfl (g_move rfl) ?_; clear ha a; intro a ha; obtain ⟨hI428, hF⟩ := ck_some hF; refine op_g ha rfl (g_sub rfl rfl hI428) ?_; clear ha a; intro a ha; refine op_g ha rfl (g_move rfl) ?_; clear ha a; intro a ha; obtain ⟨x430, hc431, hF⟩ := cal_some hF
  refine o_call ha rfl rfl Tryz.call60 (W_spec_l22Faces (ha0.ext hE381) hc431) ?_; clear ha a; rintro v432 w433 ⟨b435, fs439, h436, z437, zf440, nd441, hx434⟩ a ha
  have hE442 := Ext.trans hE381 hx434
  have q443 := Zn.upD z437 hE381
  have q444 := zf_up zf440 hE381
  refine op_g ha rfl (g_lenO sl22.und h436 rfl) ?_; clear ha a; intro a ha; obtain ⟨hI445, hF⟩ := ck_some hF; refine op_g ha rfl (g_sub rfl rfl hI445) ?_; clear ha a; intro a ha; refine op_g ha rfl (g_assign rfl) ?_; clear ha a; intro a ha; refine wpList_nil ?_; replace ha := ha.sub (σ' := [(2, (.int .i64 ((((2 * i374) + (i182 / 2)) - i372) - (x430.length : Int))))]) ⟨rfl, trivial⟩; refine e_then ?_; refine wp_ret ?_; obtain rfl := Option.some.inj hF
  exact f_ret1 ha rfl rfl ⟨⟨rfl, hI445⟩, hE442⟩
set_option maxHeartbeats 2000000 in
theorem W_spec_l1Copy {W : World} {va0 : Value} {fa0 : List Nat} {a0 : (List Int)} (ha0 : Ro Rp.int W fa0 va0 a0) {r : (List Int)} (hF : F_spec_l1Copy a0 = some r) :
    Calls Tryz.prog 61 [va0].toArray W (Ret fun u w' => ∃ (b_u : Int), Ow Rp.int 2 true w' [] b_u u r ∧ Zn W b_u ∧ Ext W w') := by
  refine f_enter Tryz.func61 rfl Tryz.ntmps61 rfl ?_
  intro a ha
  replace ha : Fr 6 [(0, va0)] a := ha
  have hE : Chg [] W W := Chg.refl _ _
  unfold F_spec_l1Copy at hF
  refine wp_seq ?_; refine wp_region_lit ?_; refine op_g ha rfl (g_assign rfl) ?_; clear ha a; intro a ha; refine wpList_nil ?_; replace ha := ha.sub (σ' := [(0, va0)]) ⟨rfl, trivial⟩; refine e_then ?_; refine wp_seq ?_; refine wp_region_lit ?_
  refine o_lit0 Rp.int ha rfl sl39 ?_; clear ha a; intro v1 w2 h3 hx4 a ha
  obtain ⟨b6, hb6⟩ : ∃ b : Int, b = W.heap.size := ⟨_, rfl⟩; rw [← hb6] at h3
  have q7 := zn_of hb6
  have q8 := Zn.upD q7 hE
  have hE9 := Ext.trans hE hx4
  refine op_g ha rfl (g_move rfl) ?_; clear ha a; intro a ha; obtain ⟨hl10, hF⟩ := app_some hF
  obtain ⟨_, hs11, _⟩ := (ha0.ext hE9).src
  refine o_append ha rfl sl39 rfl rfl rfl h3 (hs11.up scal_int) (Nq.nil _) hl10 ?_; clear ha a; intro v12 w13 b14 h15 hc16 hb17 a ha
  replace h15 : Ow Rp.int 2 true w13 [] b14 v12 _ := h15
  have q19 := Zn.appD q8 hb17 hE9
  have hE20 := Ext.then hE9 hc16 (Zn.bl q8)
  refine op_g ha rfl (g_assign rfl) ?_; clear ha a; intro a ha; refine wpList_nil ?_; replace ha := ha.sub (σ' := [(2, v12)]) ⟨rfl, trivial⟩; refine e_then ?_; refine wp_ret ?_; obtain rfl := Option.some.inj hF
  exact f_ret1 ha rfl rfl ⟨_, h15, q19, hE20⟩
set_option maxHeartbeats 2000000 in
theorem W_spec_l22First {W : World} {va0 : Value} {fa0 : List Nat} {a0 : (List Int)} (ha0 : Ro Rp.int W fa0 va0 a0) {r : (List Int)} (hF : F_spec_l22First a0 = some r) :
    Calls Tryz.prog 43 [va0].toArray W (Ret fun u w' => ∃ (b_u : Int), Ow Rp.int 2 true w' [] b_u u r ∧ Zn W b_u ∧ Ext W w') := by
  refine f_enter Tryz.func43 rfl Tryz.ntmps43 rfl ?_
  intro a ha
  replace ha : Fr 29 [(0, va0)] a := ha
  have hE : Chg [] W W := Chg.refl _ _
  unfold F_spec_l22First at hF
  refine wp_seq ?_; refine wp_region_lit ?_; refine op_g ha rfl (g_assign rfl) ?_; clear ha a; intro a ha; refine wpList_nil ?_; replace ha := ha.sub (σ' := [(0, va0)]) ⟨rfl, trivial⟩; refine e_then ?_; refine wp_seq ?_; refine wp_region_lit ?_; refine op_g ha rfl (g_assign rfl) ?_; clear ha a; intro a ha; refine wpList_nil ?_; refine e_then ?_; refine wp_seq ?_; refine wp_seq ?_; refine wp_region_lit ?_; refine op_g ha rfl (g_assign rfl) ?_; clear ha a; intro a ha; refine wpList_nil ?_; refine e_then ?_; obtain ⟨o128, ho129, hK130⟩ := bnd_some hF
  obtain ⟨n131, hn132⟩ := lp_some ho129; clear ho129
  refine c_loop (fun a w => ∃ (i126 : Int), Fr 29 [(0, va0), (3, (.int .i64 i126))] a ∧ Chg [] W w ∧ InI i126 ∧ o128 = .inl i126) (fun n a w => ∃ (i82 : Int) (i84 : Int), Fr 29 [(0, va0), (3, (.int .i64 i82)), (4, (.int .i64 i84))] a ∧ Chg [] W w ∧ InI i82 ∧ InI i84 ∧ lpN (fun s => F_spec_l22First_l1 a0 s.1 s.2) n (i82, i84) = some o128) n131 ⟨0, 0, ha.sub ⟨rfl, rfl, rfl, trivial⟩, hE, (show InI 0 from by decide), (show InI 0 from by decide), hn132⟩ ?_ ?_
  · rintro m136 a w81 ⟨i82, i84, ha, hE86, hI83, hI85, hF⟩
    cases m136 with
    | zero => exact (lpN_zero hF).elim
    | succ m136 =>
      obtain ⟨z135, hF, hN134⟩ := lpN_succ hF
      have hF : F_spec_l22First_l1 a0 i82 i84 = some z135 := hF; unfold F_spec_l22First_l1 at hF
      refine wp_seq ?_; refine wp_seq ?_; refine wp_region_lit ?_; (iterate 2 refine op_g ha rfl (g_move rfl) ?_; clear ha a; intro a ha); refine op_g ha rfl (g_lenR sl39.und ha0 rfl) ?_; clear ha a; intro a ha; refine op_g ha rfl (g_lss rfl rfl) ?_; clear ha a; intro a ha; refine wpList_nil ?_; replace ha := ha.sub (σ' := [(0, va0), (3, (.int .i64 i82)), (4, (.int .i64 i84)), (8, (.bool (decide (i84 < (a0.length : Int)))))]) ⟨rfl, rfl, rfl, rfl, trivial⟩; refine e_then ?_; refine c_cond (i84 < (a0.length : Int)) ha rfl (decide_eq_true_iff) (fun hp137 => ?_) (fun hp137 => ?_)
      · replace hF := if_t hp137 hF
        refine wp_skip ?_; refine e_then ?_; refine wp_seq ?_; refine wp_block ?_; refine wp_seq ?_; refine d_quiet hmix (by kernel_rfl) ?_; (iterate 2 refine q_g ha rfl (g_move rfl) ?_; clear ha a; intro a ha); obtain ⟨x138, g139, gx140, hF⟩ := idx_some hF
        obtain ⟨p141, cs142, f143, hf144, hpb145, hat146, hr147, hi148⟩ := ha0.at g139 gx140
        obtain ⟨rfl, hI149, rfl⟩ := hr147
        refine q_g ha rfl (hi148.gives sl39 rfl rfl) ?_; clear ha a; intro a ha; refine q_g ha rfl (g_load0 hE86 Tryz.isAgg2 rfl hat146.one) ?_; clear ha a; intro a ha; (iterate 2 refine q_g ha rfl (g_move rfl) ?_; clear ha a; intro a ha); obtain ⟨x150, g151, gx152, hF⟩ := idx_some hF
        obtain ⟨p153, cs154, f155, hf156, hpb157, hat158, hr159, hi160⟩ := ha0.at g151 gx152
        obtain ⟨rfl, hI161, rfl⟩ := hr159
        refine q_g ha rfl (hi160.gives sl39 rfl rfl) ?_; clear ha a; intro a ha; refine q_g ha rfl (g_load0 hE86 Tryz.isAgg2 rfl hat158.one) ?_; clear ha a; intro a ha; refine q_g ha rfl (g_lss rfl rfl) ?_; clear ha a; intro a ha
        refine q_nil ?_; intro w162 hx163
        have hE164 := Ext.trans hE86 hx163
        replace ha := ha.sub (σ' := [(0, va0), (3, (.int .i64 i82)), (4, (.int .i64 i84)), (19, (.bool (decide (x138 < x150))))]) ⟨rfl, rfl, rfl, rfl, trivial⟩; refine e_then ?_; refine c_cond (x138 < x150) ha rfl (decide_eq_true_iff) (fun hp165 => ?_) (fun hp165 => ?_)
        · replace hF := if_t hp165 hF
          refine wp_region_lit ?_; refine op_g ha rfl (g_move rfl) ?_; clear ha a; intro a ha; refine op_g ha rfl (g_assign rfl) ?_; clear ha a; intro a ha; refine wpList_nil ?_; replace ha := ha.sub (σ' := [(0, va0), (3, (.int .i64 i84)), (4, (.int .i64 i84))]) ⟨rfl, rfl, rfl, trivial⟩; refine e_blk ?_; refine e_then ?_; refine wp_region_lit ?_; refine op_g ha rfl (g_move rfl) ?_; clear ha a; intro a ha; obtain ⟨hI166, hF⟩ := ck_some hF; refine op_g ha rfl (g_add rfl rfl hI166) ?_; clear ha a; intro a ha; refine op_g ha rfl (g_assign rfl) ?_; clear ha a; intro a ha; refine wpList_nil ?_; replace ha := ha.sub (σ' := [(0, va0), (3, (.int .i64 i84)), (4, (.int .i64 (i84 + 1)))]) ⟨rfl, rfl, rfl, trivial⟩
          refine e_lq ?_; obtain rfl := Option.some.inj hF
          exact ⟨_, Nat.lt_succ_self _, i84, i84 + 1, ha.sub ⟨rfl, rfl, rfl, trivial⟩, hE164, hI85, hI166, hN134⟩
        replace hF := if_f hp165 hF; refine wp_skip ?_; refine e_blk ?_; refine e_then ?_; refine wp_region_lit ?_; refine op_g ha rfl (g_move rfl) ?_; clear ha a; intro a ha; obtain ⟨hI168, hF⟩ := ck_some hF; refine op_g ha rfl (g_add rfl rfl hI168) ?_; clear ha a; intro a ha; refine op_g ha rfl (g_assign rfl) ?_; clear ha a; intro a ha; refine wpList_nil ?_; replace ha := ha.sub (σ' := [(0, va0), (3, (.int .i64 i82)), (4, (.int .i64 (i84 + 1)))]) ⟨rfl, rfl, rfl, trivial⟩; refine e_lq ?_; obtain rfl := Option.some.inj hF
        exact ⟨_, Nat.lt_succ_self _, i82, i84 + 1, ha.sub ⟨rfl, rfl, rfl, trivial⟩, hE164, hI83, hI168, hN134⟩
      replace hF := if_f hp137 hF; refine wp_exit ?_; refine e_then_exit ?_; refine e_lq_eq ?_; obtain rfl := Option.some.inj hF
      exact ⟨i82, ha.sub ⟨rfl, rfl, trivial⟩, hE86, hI83, (LK_inr hN134).symm⟩
  rintro a w125 ⟨i126, ha, hE133, hI127, rfl⟩
  have hF : F_spec_l22First_k2 a0 i126 = some _ := hK130; clear hK130; unfold F_spec_l22First_k2 at hF
  refine e_then ?_; refine wp_seq ?_; refine d_region [0, 1, 2, 3, 4, 5, 6] hmix ?_; refine u_g 0 rfl (by kernel_rfl) (want0 _) ha rfl (g_move rfl) ?_; clear ha a; intro a ha; refine u_g 1 rfl (by kernel_rfl) (want0 _) ha rfl (g_move rfl) ?_; clear ha a; intro a ha; obtain ⟨hb170a, hb170b, hb170c, hF⟩ := slc_some hF
  obtain ⟨v171, fp172, hrun173, hro174, hsub175⟩ := ha0.slice (lo := (some (.int .i64 i126))) (hi := none) (i := i126) (j := (a0.length : Int)) sl39 (.inr ⟨_, rfl⟩) (.inl ⟨rfl, rfl⟩) ⟨hb170a, hb170b, hb170c⟩
  refine u_g 2 rfl (by kernel_rfl) (want0 _) ha rfl (g_slice sl39.und rfl rfl rfl hrun173) ?_; clear ha a; intro a ha; refine u_g 4 rfl (by kernel_rfl) (want0 _) ha rfl (g_move rfl) ?_; clear ha a; intro a ha; refine u_g 5 rfl (by kernel_rfl) (want0 _) ha rfl (g_move rfl) ?_; clear ha a; intro a ha; obtain ⟨hb177a, hb177b, hb177c, hF⟩ := slc_some hF
  obtain ⟨v178, fp179, hrun180, hro181, hsub182⟩ := ha0.slice (lo := none) (hi := (some (.int .i64 i126))) (i := 0) (j := i126) sl39 (.inl ⟨rfl, rfl⟩) (.inr ⟨_, rfl⟩) ⟨hb177a, hb177b, hb177c⟩
  refine u_g 6 rfl (by kernel_rfl) (want0 _) ha rfl (g_slice sl39.und rfl rfl rfl hrun180) ?_; clear ha a; intro a ha
  refine u_only 3 rfl (by kernel_rfl) ?_; intro w184 hx185
  have hE186 := Ext.trans hE133 hx185
  obtain ⟨x187, hc188, hF⟩ := cal_some hF
  refine o_call ha rfl rfl Tryz.call61 (W_spec_l1Copy (hro174.ext hE186) hc188) ?_; clear ha a; rintro v189 w190 ⟨b192, h193, z194, hx191⟩ a ha
  have hE196 := Ext.trans hE186 hx191
  have q197 := Zn.upD z194 hE186
  refine wpList_nil (e_sq ?_)
  refine ⟨fun _ => hx191, ?_⟩
  refine u_only 7 rfl (by kernel_rfl) ?_; intro w198 hx199
  replace h193 := h193.ext hx199
  have hE200 := Ext.trans hE196 hx199
  obtain ⟨hl201, hF⟩ := app_some hF
  obtain ⟨_, hs202, _⟩ := (hro181.ext hE200).src
  refine o_append ha rfl sl39 rfl rfl rfl h193 (hs202.up scal_int) (Nq.nil _) hl201 ?_; clear ha a; intro v203 w204 b205 h206 hc207 hb208 a ha
  replace h206 : Ow Rp.int 2 true w204 [] b205 v203 _ := h206
  have q210 := Zn.appD q197 hb208 hE200
  have hE211 := Ext.then hE200 hc207 (Zn.bl q197)
  refine wpList_nil (e_sq ?_)
  refine ⟨fun h => absurd h (by decide), ?_⟩
  refine u_only 8 rfl (by kernel_rfl) ?_; intro w212 hx213
  replace h206 := h206.ext hx213
  have hE214 := Ext.trans hE211 hx213
  refine op_g ha rfl (g_assign rfl) ?_; clear ha a; intro a ha; refine wpList_nil (e_sq ?_)
  refine ⟨fun h => absurd h (by decide), ?_⟩
  refine u_done (by kernel_rfl) ?_; intro w215 hx216
  replace h206 := h206.ext hx216
  have hE217 := Ext.trans hE214 hx216
  replace ha := ha.sub (σ' := [(2, v203)]) ⟨rfl, trivial⟩; refine e_then ?_; refine wp_ret ?_; obtain rfl := Option.some.inj hF
  exact f_ret1 ha rfl rfl ⟨_, h206, q210, hE217⟩
set_option maxHeartbeats 2000000 in
theorem W_spec_l1Same {W : World} {va0 : Value} {fa0 : List Nat} {a0 : (List Int)} (ha0 : Ro Rp.int W fa0 va0 a0) {va1 : Value} {fa1 : List Nat} {a1 : (List Int)} (ha1 : Ro Rp.int W fa1 va1 a1) {r : Bool} (hF : F_spec_l1Same a0 a1 = some r) :
    Calls Tryz.prog 62 [va0, va1].toArray W (Ret fun u w' => u = .bool r ∧ Ext W w') := by
  refine f_enter Tryz.func62 rfl Tryz.ntmps62 rfl ?_
  intro a ha
  replace ha : Fr 26 [(0, va0), (1, va1)] a := ha
  have hE : Chg [] W W := Chg.refl _ _
  unfold F_spec_l1Same at hF
  refine wp_seq ?_; refine wp_region_lit ?_; refine op_g ha rfl (g_assign rfl) ?_; clear ha a; intro a ha; refine wpList_nil ?_; replace ha := ha.sub (σ' := [(0, va0), (1, va1)]) ⟨rfl, rfl, trivial⟩; refine e_then ?_; refine wp_seq ?_; refine wp_seq ?_; refine wp_region_lit ?_; refine op_g ha rfl (g_move rfl) ?_; clear ha a; intro a ha; refine op_g ha rfl (g_lenR sl39.und ha0 rfl) ?_; clear ha a; intro a ha; refine op_g ha rfl (g_move rfl) ?_; clear ha a; intro a ha; refine op_g ha rfl (g_lenR sl39.und ha1 rfl) ?_; clear ha a; intro a ha; refine op_g ha rfl (g_neq rfl rfl) ?_; clear ha a; intro a ha
  refine wpList_nil ?_; replace ha := ha.sub (σ' := [(0, va0), (1, va1), (10, (.bool (decide ((a0.length : Int) ≠ (a1.length : Int)))))]) ⟨rfl, rfl, rfl, trivial⟩; refine e_then ?_; refine c_cond ((a0.length : Int) ≠ (a1.length : Int)) ha rfl (decide_eq_true_iff) (fun hp1 => ?_) (fun hp1 => ?_)
  · replace hF := if_t hp1 hF
    refine wp_seq ?_; refine wp_region_lit ?_; refine op_g ha rfl (g_assign rfl) ?_; clear ha a; intro a ha; refine wpList_nil ?_; replace ha := ha.sub (σ' := [(4, (.bool false))]) ⟨rfl, trivial⟩; refine e_then ?_; refine wp_ret ?_; refine e_then_ret ?_; obtain rfl := Option.some.inj hF
    exact f_ret1 ha rfl rfl ⟨rfl, hE⟩
  replace hF := if_f hp1 hF; refine wp_skip ?_; refine e_then ?_; refine wp_seq ?_; refine wp_seq ?_; refine wp_region_lit ?_; refine op_g ha rfl (g_assign rfl) ?_; clear ha a; intro a ha; refine wpList_nil ?_; replace ha := ha.sub (σ' := [(0, va0), (1, va1), (5, (.int .i64 0))]) ⟨rfl, rfl, rfl, trivial⟩; refine e_then ?_; obtain ⟨o77, ho78, hK79⟩ := bnd_some hF
  obtain ⟨n80, hn81⟩ := lp_some ho78; clear ho78
  refine c_loop (fun a w => Fr 26 [] a ∧ Chg [] W w ∧ o77 = .inl ()) (fun n a w => ∃ (i39 : Int), Fr 26 [(0, va0), (1, va1), (5, (.int .i64 i39))] a ∧ Chg [] W w ∧ InI i39 ∧ lpN (fun s => F_spec_l1Same_l1 a0 a1 s) n i39 = some o77) n80 ⟨0, ha.sub ⟨rfl, rfl, rfl, trivial⟩, hE, (show InI 0 from by decide), hn81⟩ ?_ ?_
  · rintro m85 a w38 ⟨i39, ha, hE41, hI40, hF⟩
    cases m85 with
    | zero => exact (lpN_zero hF).elim
    | succ m85 =>
      obtain ⟨z84, hF, hN83⟩ := lpN_succ hF
      have hF : F_spec_l1Same_l1 a0 a1 i39 = some z84 := hF; unfold F_spec_l1Same_l1 at hF
      refine wp_seq ?_; refine wp_seq ?_; refine wp_region_lit ?_; (iterate 2 refine op_g ha rfl (g_move rfl) ?_; clear ha a; intro a ha); refine op_g ha rfl (g_lenR sl39.und ha0 rfl) ?_; clear ha a; intro a ha; refine op_g ha rfl (g_lss rfl rfl) ?_; clear ha a; intro a ha; refine wpList_nil ?_; replace ha := ha.sub (σ' := [(0, va0), (1, va1), (5, (.int .i64 i39)), (14, (.bool (decide (i39 < (a0.length : Int)))))]) ⟨rfl, rfl, rfl, rfl, trivial⟩; refine e_then ?_; refine c_cond (i39 < (a0.length : Int)) ha rfl (decide_eq_true_iff) (fun hp86 => ?_) (fun hp86 => ?_)
      · replace hF := if_t hp86 hF
        refine wp_skip ?_; refine e_then ?_; refine wp_seq ?_; refine wp_block ?_; refine wp_seq ?_; refine d_quiet hmix (by kernel_rfl) ?_; (iterate 2 refine q_g ha rfl (g_move rfl) ?_; clear ha a; intro a ha); obtain ⟨x87, g88, gx89, hF⟩ := idx_some hF
        obtain ⟨p90, cs91, f92, hf93, hpb94, hat95, hr96, hi97⟩ := ha0.at g88 gx89
        obtain ⟨rfl, hI98, rfl⟩ := hr96
        refine q_g ha rfl (hi97.gives sl39 rfl rfl) ?_; clear ha a; intro a ha; refine q_g ha rfl (g_load0 hE41 Tryz.isAgg2 rfl hat95.one) ?_; clear ha a; intro a ha; (iterate 2 refine q_g ha rfl (g_move rfl) ?_; clear ha a; intro a ha); obtain ⟨x99, g100, gx101, hF⟩ := idx_some hF
        obtain ⟨p102, cs103, f104, hf105, hpb106, hat107, hr108, hi109⟩ := ha1.at g100 gx101
        obtain ⟨rfl, hI110, rfl⟩ := hr108
        refine q_g ha rfl (hi109.gives sl39 rfl rfl) ?_; clear ha a; intro a ha; refine q_g ha rfl (g_load0 hE41 Tryz.isAgg2 rfl hat107.one) ?_; clear ha a; intro a ha; refine q_g ha rfl (g_neq rfl rfl) ?_; clear ha a; intro a ha
        refine q_nil ?_; intro w111 hx112
        have hE113 := Ext.trans hE41 hx112
        replace ha := ha.sub (σ' := [(0, va0), (1, va1), (5, (.int .i64 i39)), (25, (.bool (decide (x87 ≠ x99))))]) ⟨rfl, rfl, rfl, rfl, trivial⟩; refine e_then ?_; refine c_cond (x87 ≠ x99) ha rfl (decide_eq_true_iff) (fun hp114 => ?_) (fun hp114 => ?_)
        · replace hF := if_t hp114 hF
          refine wp_seq ?_; refine wp_region_lit ?_; refine op_g ha rfl (g_assign rfl) ?_; clear ha a; intro a ha; refine wpList_nil ?_; replace ha := ha.sub (σ' := [(4, (.bool false))]) ⟨rfl, trivial⟩; refine e_then ?_; refine wp_ret ?_; refine e_blk_ret ?_; refine e_then_ret ?_; refine e_lq_ret ?_; refine e_then_ret ?_; obtain rfl := Option.some.inj hF
          have e115 := LK_inr hN83; subst e115
          have e116 := BK_inr hK79; subst e116
          exact f_ret1 ha rfl rfl ⟨rfl, hE113⟩
        replace hF := if_f hp114 hF; refine wp_skip ?_; refine e_blk ?_; refine e_then ?_; refine wp_region_lit ?_; refine op_g ha rfl (g_move rfl) ?_; clear ha a; intro a ha; obtain ⟨hI117, hF⟩ := ck_some hF; refine op_g ha rfl (g_add rfl rfl hI117) ?_; clear ha a; intro a ha; refine op_g ha rfl (g_assign rfl) ?_; clear ha a; intro a ha; refine wpList_nil ?_; replace ha := ha.sub (σ' := [(0, va0), (1, va1), (5, (.int .i64 (i39 + 1)))]) ⟨rfl, rfl, rfl, trivial⟩; refine e_lq ?_; obtain rfl := Option.some.inj hF
        exact ⟨_, Nat.lt_succ_self _, i39 + 1, ha.sub ⟨rfl, rfl, rfl, trivial⟩, hE113, hI117, hN83⟩
      replace hF := if_f hp86 hF; refine wp_exit ?_; refine e_then_exit ?_; refine e_lq_eq ?_; obtain rfl := Option.some.inj hF
      exact ⟨ha.sub trivial, hE41, (LK_inr hN83).symm⟩
  rintro a w76 ⟨ha, hE82, rfl⟩
  have hF : F_spec_l1Same_k2 = some _ := hK79; clear hK79; unfold F_spec_l1Same_k2 at hF
  refine e_then ?_; refine wp_seq ?_; refine wp_region_lit ?_; refine op_g ha rfl (g_assign rfl) ?_; clear ha a; intro a ha; refine wpList_nil ?_; refine e_then ?_; refine wp_ret ?_; obtain rfl := Option.some.inj hF
  exact f_ret1 ha rfl rfl ⟨rfl, hE82⟩
set_option maxHeartbeats 2000000 in
theorem W_spec_l1Less {W : World} {va0 : Value} {fa0 : List Nat} {a0 : (List Int)} (ha0 : Ro Rp.int W fa0 va0 a0) {va1 : Value} {fa1 : List Nat} {a1 : (List Int)} (ha1 : Ro Rp.int W fa1 va1 a1) {r : Bool} (hF : F_spec_l1Less a0 a1 = some r) :
    Calls Tryz.prog 63 [va0, va1].toArray W (Ret fun u w' => u = .bool r ∧ Ext W w') := by
  refine f_enter Tryz.func63 rfl Tryz.ntmps63 rfl ?_
  intro a ha
  replace ha : Fr 40 [(0, va0), (1, va1)] a := ha
  have hE : Chg [] W W := Chg.refl _ _
  unfold F_spec_l1Less at hF
  refine wp_seq ?_; refine wp_region_lit ?_; refine op_g ha rfl (g_assign rfl) ?_; clear ha a; intro a ha; refine wpList_nil ?_; replace ha := ha.sub (σ' := [(0, va0), (1, va1)]) ⟨rfl, rfl, trivial⟩; refine e_then ?_; refine wp_seq ?_; refine wp_seq ?_; refine wp_region_lit ?_; refine op_g ha rfl (g_move rfl) ?_; clear ha a; intro a ha; refine op_g ha rfl (g_lenR sl39.und ha0 rfl) ?_; clear ha a; intro a ha; refine op_g ha rfl (g_move rfl) ?_; clear ha a; intro a ha; refine op_g ha rfl (g_lenR sl39.und ha1 rfl) ?_; clear ha a; intro a ha; refine op_g ha rfl (g_neq rfl rfl) ?_; clear ha a; intro a ha
  refine wpList_nil ?_; replace ha := ha.sub (σ' := [(0, va0), (1, va1), (10, (.bool (decide ((a0.length : Int) ≠ (a1.length : Int)))))]) ⟨rfl, rfl, rfl, trivial⟩; refine e_then ?_; refine c_cond ((a0.length : Int) ≠ (a1.length : Int)) ha rfl (decide_eq_true_iff) (fun hp1 => ?_) (fun hp1 => ?_)
  · replace hF := if_t hp1 hF
    refine wp_seq ?_; refine wp_region_lit ?_; refine op_g ha rfl (g_move rfl) ?_; clear ha a; intro a ha; refine op_g ha rfl (g_lenR sl39.und ha0 rfl) ?_; clear ha a; intro a ha; refine op_g ha rfl (g_move rfl) ?_; clear ha a; intro a ha; refine op_g ha rfl (g_lenR sl39.und ha1 rfl) ?_; clear ha a; intro a ha; refine op_g ha rfl (g_lss rfl rfl) ?_; clear ha a; intro a ha; refine op_g ha rfl (g_assign rfl) ?_; clear ha a; intro a ha; refine wpList_nil ?_; replace ha := ha.sub (σ' := [(4, (.bool (decide ((a0.length : Int) < (a1.length : Int)))))]) ⟨rfl, trivial⟩; refine e_then ?_; refine wp_ret ?_
    refine e_then_ret ?_; obtain rfl := Option.some.inj hF
    exact f_ret1 ha rfl rfl ⟨rfl, hE⟩
  replace hF := if_f hp1 hF; refine wp_skip ?_; refine e_then ?_; refine wp_seq ?_; refine wp_seq ?_; refine wp_region_lit ?_; refine op_g ha rfl (g_assign rfl) ?_; clear ha a; intro a ha; refine wpList_nil ?_; replace ha := ha.sub (σ' := [(0, va0), (1, va1), (5, (.int .i64 0))]) ⟨rfl, rfl, rfl, trivial⟩; refine e_then ?_; obtain ⟨o131, ho132, hK133⟩ := bnd_some hF
  obtain ⟨n134, hn135⟩ := lp_some ho132; clear ho132
  refine c_loop (fun a w => Fr 40 [] a ∧ Chg [] W w ∧ o131 = .inl ()) (fun n a w => ∃ (i66 : Int), Fr 40 [(0, va0), (1, va1), (5, (.int .i64 i66))] a ∧ Chg [] W w ∧ InI i66 ∧ lpN (fun s => F_spec_l1Less_l1 a0 a1 s) n i66 = some o131) n134 ⟨0, ha.sub ⟨rfl, rfl, rfl, trivial⟩, hE, (show InI 0 from by decide), hn135⟩ ?_ ?_
  · rintro m139 a w65 ⟨i66, ha, hE68, hI67, hF⟩
    cases m139 with
    | zero => exact (lpN_zero hF).elim
    | succ m139 =>
      obtain ⟨z138, hF, hN137⟩ := lpN_succ hF
      have hF : F_spec_l1Less_l1 a0 a1 i66 = some z138 := hF; unfold F_spec_l1Less_l1 at hF
      refine wp_seq ?_; refine wp_seq ?_; refine wp_region_lit ?_; (iterate 2 refine op_g ha rfl (g_move rfl) ?_; clear ha a; intro a ha); refine op_g ha rfl (g_lenR sl39.und ha0 rfl) ?_; clear ha a; intro a ha; refine op_g ha rfl (g_lss rfl rfl) ?_; clear ha a; intro a ha; refine wpList_nil ?_; replace ha := ha.sub (σ' := [(0, va0), (1, va1), (5, (.int .i64 i66)), (19, (.bool (decide (i66 < (a0.length : Int)))))]) ⟨rfl, rfl, rfl, rfl, trivial⟩; refine e_then ?_; refine c_cond (i66 < (a0.length : Int)) ha rfl (decide_eq_true_iff) (fun hp140 => ?_) (fun hp140 => ?_)
      · replace hF := if_t hp140 hF
        refine wp_skip ?_; refine e_then ?_; refine wp_seq ?_; refine wp_block ?_; refine wp_seq ?_; refine d_quiet hmix (by kernel_rfl) ?_; (iterate 2 refine q_g ha rfl (g_move rfl) ?_; clear ha a; intro a ha); obtain ⟨x141, g142, gx143, hF⟩ := idx_some hF
        obtain ⟨p144, cs145, f146, hf147, hpb148, hat149, hr150, hi151⟩ := ha0.at g142 gx143
        obtain ⟨rfl, hI152, rfl⟩ := hr150
        refine q_g ha rfl (hi151.gives sl39 rfl rfl) ?_; clear ha a; intro a ha; refine q_g ha rfl (g_load0 hE68 Tryz.isAgg2 rfl hat149.one) ?_; clear ha a; intro a ha; (iterate 2 refine q_g ha rfl (g_move rfl) ?_; clear ha a; intro a ha); obtain ⟨x153, g154, gx155, hF⟩ := idx_some hF
        obtain ⟨p156, cs157, f158, hf159, hpb160, hat161, hr162, hi163⟩ := ha1.at g154 gx155
        obtain ⟨rfl, hI164, rfl⟩ := hr162
        refine q_g ha rfl (hi163.gives sl39 rfl rfl) ?_; clear ha a; intro a ha; refine q_g ha rfl (g_load0 hE68 Tryz.isAgg2 rfl hat161.one) ?_; clear ha a; intro a ha; refine q_g ha rfl (g_neq rfl rfl) ?_; clear ha a; intro a ha
        refine q_nil ?_; intro w165 hx166
        have hE167 := Ext.trans hE68 hx166
        replace ha := ha.sub (σ' := [(0, va0), (1, va1), (5, (.int .i64 i66)), (30, (.bool (decide (x141 ≠ x153))))]) ⟨rfl, rfl, rfl, rfl, trivial⟩; refine e_then ?_; refine c_cond (x141 ≠ x153) ha rfl (decide_eq_true_iff) (fun hp168 => ?_) (fun hp168 => ?_)
        · replace hF := if_t hp168 hF
          refine wp_seq ?_; refine d_quiet hmix (by kernel_rfl) ?_; (iterate 2 refine q_g ha rfl (g_move rfl) ?_; clear ha a; intro a ha); obtain ⟨x169, g170, gx171, hF⟩ := idx_some hF
          obtain ⟨p172, cs173, f174, hf175, hpb176, hat177, hr178, hi179⟩ := ha0.at g170 gx171
          obtain ⟨rfl, hI180, rfl⟩ := hr178
          refine q_g ha rfl (hi179.gives sl39 rfl rfl) ?_; clear ha a; intro a ha; refine q_g ha rfl (g_load0 hE167 Tryz.isAgg2 rfl hat177.one) ?_; clear ha a; intro a ha; (iterate 2 refine q_g ha rfl (g_move rfl) ?_; clear ha a; intro a ha); obtain ⟨x181, g182, gx183, hF⟩ := idx_some hF
          obtain ⟨p184, cs185, f186, hf187, hpb188, hat189, hr190, hi191⟩ := ha1.at g182 gx183
          obtain ⟨rfl, hI192, rfl⟩ := hr190
          refine q_g ha rfl (hi191.gives sl39 rfl rfl) ?_; clear ha a; intro a ha; refine q_g ha rfl (g_load0 hE167 Tryz.isAgg2 rfl hat189.one) ?_; clear ha a; intro a ha; refine q_g ha rfl (g_lss rfl rfl) ?_; clear ha a; intro a ha; refine q_g ha rfl (g_assign rfl) ?_; clear ha a; intro a ha
          refine q_nil ?_; intro w193 hx194
          have hE195 := Ext.trans hE167 hx194
          replace ha := ha.sub (σ' := [(4, (.bool (decide (x169 < x181))))]) ⟨rfl, trivial⟩; refine e_then ?_; refine wp_ret ?_; refine e_blk_ret ?_; refine e_then_ret ?_; refine e_lq_ret ?_; refine e_then_ret ?_; obtain rfl := Option.some.inj hF
          have e196 := LK_inr hN137; subst e196
          have e197 := BK_inr hK133; subst e197
          exact f_ret1 ha rfl rfl ⟨rfl, hE195⟩
        replace hF := if_f hp168 hF; refine wp_skip ?_; refine e_blk ?_; refine e_then ?_; refine wp_region_lit ?_; refine op_g ha rfl (g_move rfl) ?_; clear ha a; intro a ha; obtain ⟨hI198, hF⟩ := ck_some hF; refine op_g ha rfl (g_add rfl rfl hI198) ?_; clear ha a; intro a ha; refine op_g ha rfl (g_assign rfl) ?_; clear ha a; intro a ha; refine wpList_nil ?_; replace ha := ha.sub (σ' := [(0, va0), (1, va1), (5, (.int .i64 (i66 + 1)))]) ⟨rfl, rfl, rfl, trivial⟩; refine e_lq ?_; obtain rfl := Option.some.inj hF
        exact ⟨_, Nat.lt_succ_self _, i66 + 1, ha.sub ⟨rfl, rfl, rfl, trivial⟩, hE167, hI198, hN137⟩
      replace hF := if_f hp140 hF; refine wp_exit ?_; refine e_then_exit ?_; refine e_lq_eq ?_; obtain rfl := Option.some.inj hF
      exact ⟨ha.sub trivial, hE68, (LK_inr hN137).symm⟩
  rintro a w130 ⟨ha, hE136, rfl⟩
  have hF : F_spec_l1Less_k2 = some _ := hK133; clear hK133; unfold F_spec_l1Less_k2 at hF
  refine e_then ?_; refine wp_seq ?_; refine wp_region_lit ?_; refine op_g ha rfl (g_assign rfl) ?_; clear ha a; intro a ha; refine wpList_nil ?_; refine e_then ?_; refine wp_ret ?_; obtain rfl := Option.some.inj hF
  exact f_ret1 ha rfl rfl ⟨rfl, hE136⟩
set_option maxHeartbeats 2000000 in
theorem W_spec_l22Less {W : World} {va0 : Value} {fa0 : List Nat} {a0 : (List (List Int))} (ha0 : Ro (Rp.sl 2 Rp.int) W fa0 va0 a0) {va1 : Value} {fa1 : List Nat} {a1 : (List (List Int))} (ha1 : Ro (Rp.sl 2 Rp.int) W fa1 va1 a1) {r : Bool} (hF : F_spec_l22Less a0 a1 = some r) :
    Calls Tryz.prog 44 [va0, va1].toArray W (Ret fun u w' => u = .bool r ∧ Ext W w') := by
  refine f_enter Tryz.func44 rfl Tryz.ntmps44 rfl ?_
  intro a ha
  replace ha : Fr 31 [(0, va0), (1, va1)] a := ha
  have hE : Chg [] W W := Chg.refl _ _
  unfold F_spec_l22Less at hF
  refine wp_seq ?_; refine wp_region_lit ?_; refine op_g ha rfl (g_assign rfl) ?_; clear ha a; intro a ha; refine wpList_nil ?_; replace ha := ha.sub (σ' := [(0, va0), (1, va1)]) ⟨rfl, rfl, trivial⟩; refine e_then ?_; refine wp_seq ?_; refine wp_seq ?_; refine wp_region_lit ?_; refine op_g ha rfl (g_assign rfl) ?_; clear ha a; intro a ha; refine wpList_nil ?_; refine e_then ?_; obtain ⟨o162, ho163, hK164⟩ := bnd_some hF
  obtain ⟨n165, hn166⟩ := lp_some ho163; clear ho163
  refine c_loop (fun a w => Fr 31 [] a ∧ Chg [] W w ∧ o162 = .inl ()) (fun n a w => ∃ (i81 : Int), Fr 31 [(0, va0), (1, va1), (5, (.int .i64 i81))] a ∧ Chg [] W w ∧ InI i81 ∧ lpN (fun s => F_spec_l22Less_l1 a0 a1 s) n i81 = some o162) n165 ⟨0, ha.sub ⟨rfl, rfl, rfl, trivial⟩, hE, (show InI 0 from by decide), hn166⟩ ?_ ?_
  · rintro m170 a w80 ⟨i81, ha, hE83, hI82, hF⟩
    cases m170 with
    | zero => exact (lpN_zero hF).elim
    | succ m170 =>
      obtain ⟨z169, hF, hN168⟩ := lpN_succ hF
      have hF : F_spec_l22Less_l1 a0 a1 i81 = some z169 := hF; unfold F_spec_l22Less_l1 at hF
      refine wp_seq ?_; refine wp_seq ?_; refine wp_region_lit ?_; (iterate 2 refine op_g ha rfl (g_move rfl) ?_; clear ha a; intro a ha); refine op_g ha rfl (g_lenR sl22.und ha0 rfl) ?_; clear ha a; intro a ha; refine op_g ha rfl (g_lss rfl rfl) ?_; clear ha a; intro a ha; refine wpList_nil ?_; replace ha := ha.sub (σ' := [(0, va0), (1, va1), (5, (.int .i64 i81)), (9, (.bool (decide (i81 < (a0.length : Int)))))]) ⟨rfl, rfl, rfl, rfl, trivial⟩; refine e_then ?_; refine c_cond (i81 < (a0.length : Int)) ha rfl (decide_eq_true_iff) (fun hp171 => ?_) (fun hp171 => ?_)
      · replace hF := if_t hp171 hF
        refine wp_skip ?_; refine e_then ?_; refine wp_seq ?_; refine wp_block ?_; refine wp_seq ?_; refine d_quiet hmix (by kernel_rfl) ?_; (iterate 2 refine q_g ha rfl (g_move rfl) ?_; clear ha a; intro a ha); obtain ⟨x172, g173, gx174, hF⟩ := idx_some hF
        obtain ⟨p175, cs176, f177, hf178, hpb179, hat180, hr181, hi182⟩ := ha0.at g173 gx174
        obtain ⟨v183, rfl, h184⟩ := hr181
        have h184 : Ro Rp.int W f177 v183 x172 := h184
        refine q_g ha rfl (hi182.gives sl22 rfl rfl) ?_; clear ha a; intro a ha; refine q_g ha rfl (g_load0 hE83 Tryz.isAgg39 rfl hat180.one) ?_; clear ha a; intro a ha; (iterate 2 refine q_g ha rfl (g_move rfl) ?_; clear ha a; intro a ha); obtain ⟨x186, g187, gx188, hF⟩ := idx_some hF
        obtain ⟨p189, cs190, f191, hf192, hpb193, hat194, hr195, hi196⟩ := ha1.at g187 gx188
        obtain ⟨v197, rfl, h198⟩ := hr195
        have h198 : Ro Rp.int W f191 v197 x186 := h198
        refine q_g ha rfl (hi196.gives sl22 rfl rfl) ?_; clear ha a; intro a ha; refine q_g ha rfl (g_load0 hE83 Tryz.isAgg39 rfl hat194.one) ?_; clear ha a; intro a ha; obtain ⟨x202, hc203, hF⟩ := cal_some hF; refine q_call (.bool x202) ha rfl rfl Tryz.call62 (fun w201 hx200 => W_spec_l1Same (h184.ext (Ext.trans hE83 hx200)) (h198.ext (Ext.trans hE83 hx200)) hc203) (fun _ _ _ h => ⟨h.1, h.2⟩) ?_; clear ha a; intro a ha; refine q_g ha rfl (g_not rfl) ?_; clear ha a; intro a ha
        refine q_nil ?_; intro w204 hx205
        have hE206 := Ext.trans hE83 hx205
        replace ha := ha.sub (σ' := [(0, va0), (1, va1), (5, (.int .i64 i81)), (21, (.bool (!x202)))]) ⟨rfl, rfl, rfl, rfl, trivial⟩; refine e_then ?_; refine c_cond (¬ (x202 = true)) ha rfl (n_iff (Iff.rfl)) (fun hp207 => ?_) (fun hp207 => ?_)
        · replace hF := if_t hp207 hF
          refine wp_seq ?_; refine d_quiet hmix (by kernel_rfl) ?_; (iterate 2 refine q_g ha rfl (g_move rfl) ?_; clear ha a; intro a ha); obtain ⟨x208, g209, gx210, hF⟩ := idx_some hF
          obtain ⟨p211, cs212, f213, hf214, hpb215, hat216, hr217, hi218⟩ := ha0.at g209 gx210
          obtain ⟨v219, rfl, h220⟩ := hr217
          have h220 : Ro Rp.int W f213 v219 x208 := h220
          refine q_g ha rfl (hi218.gives sl22 rfl rfl) ?_; clear ha a; intro a ha; refine q_g ha rfl (g_load0 hE206 Tryz.isAgg39 rfl hat216.one) ?_; clear ha a; intro a ha; (iterate 2 refine q_g ha rfl (g_move rfl) ?_; clear ha a; intro a ha); obtain ⟨x222, g223, gx224, hF⟩ := idx_some hF
          obtain ⟨p225, cs226, f227, hf228, hpb229, hat230, hr231, hi232⟩ := ha1.at g223 gx224
          obtain ⟨v233, rfl, h234⟩ := hr231
          have h234 : Ro Rp.int W f227 v233 x222 := h234
          refine q_g ha rfl (hi232.gives sl22 rfl rfl) ?_; clear ha a; intro a ha; refine q_g ha rfl (g_load0 hE206 Tryz.isAgg39 rfl hat230.one) ?_; clear ha a; intro a ha; obtain ⟨x238, hc239, hF⟩ := cal_some hF; refine q_call (.bool x238) ha rfl rfl Tryz.call63 (fun w237 hx236 => W_spec_l1Less (h220.ext (Ext.trans hE206 hx236)) (h234.ext (Ext.trans hE206 hx236)) hc239) (fun _ _ _ h => ⟨h.1, h.2⟩) ?_; clear ha a; intro a ha; refine q_g ha rfl (g_assign rfl) ?_; clear ha a; intro a ha
          refine q_nil ?_; intro w240 hx241
          have hE242 := Ext.trans hE206 hx241
          replace ha := ha.sub (σ' := [(4, (.bool x238))]) ⟨rfl, trivial⟩; refine e_then ?_; refine wp_ret ?_; refine e_blk_ret ?_; refine e_then_ret ?_; refine e_lq_ret ?_; refine e_then_ret ?_; obtain rfl := Option.some.inj hF
          have e243 := LK_inr hN168; subst e243
          have e244 := BK_inr hK164; subst e244
          exact f_ret1 ha rfl rfl ⟨rfl, hE242⟩
        replace hF := if_f hp207 hF; refine wp_skip ?_; refine e_blk ?_; refine e_then ?_; refine wp_region_lit ?_; refine op_g ha rfl (g_move rfl) ?_; clear ha a; intro a ha; obtain ⟨hI245, hF⟩ := ck_some hF; refine op_g ha rfl (g_add rfl rfl hI245) ?_; clear ha a; intro a ha; refine op_g ha rfl (g_assign rfl) ?_; clear ha a; intro a ha; refine wpList_nil ?_; replace ha := ha.sub (σ' := [(0, va0), (1, va1), (5, (.int .i64 (i81 + 1)))]) ⟨rfl, rfl, rfl, trivial⟩; refine e_lq ?_; obtain rfl := Option.some.inj hF
        exact ⟨_, Nat.lt_succ_self _, i81 + 1, ha.sub ⟨rfl, rfl, rfl, trivial⟩, hE206, hI245, hN168⟩
      replace hF := if_f hp171 hF; refine wp_exit ?_; refine e_then_exit ?_; refine e_lq_eq ?_; obtain rfl := Option.some.inj hF
      exact ⟨ha.sub trivial, hE83, (LK_inr hN168).symm⟩
  rintro a w161 ⟨ha, hE167, rfl⟩
  have hF : F_spec_l22Less_k2 = some _ := hK164; clear hK164; unfold F_spec_l22Less_k2 at hF
  refine e_then ?_; refine wp_seq ?_; refine wp_region_lit ?_; refine op_g ha rfl (g_assign rfl) ?_; clear ha a; intro a ha; refine wpList_nil ?_; refine e_then ?_; refine wp_ret ?_; obtain rfl := Option.some.inj hF
  exact f_ret1 ha rfl rfl ⟨rfl, hE167⟩
end Go.Proofs.YtmaaloijdjnblaaGreatDoor
