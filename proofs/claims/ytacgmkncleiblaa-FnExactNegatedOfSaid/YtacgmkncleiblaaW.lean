/- Walks, printed by gen.py. -/
import Derived.Test.YtacgmkncleiblaaF
import Derived.Test.YtacgmkncleiblaaSlc
import Derived.Test.YtacgmkncleiblaaProg
import Derived.KernelRfl
set_option maxRecDepth 100000
namespace Go.Proofs.Ytacgmkncleiblaa
open Go Go.RowKit

theorem hmix : Try.prog.follows .mixedOrders = true := by kernel_rfl
theorem st42_0 : stF Try.prog 42 0 = some 0 := by kernel_rfl
theorem sl40 : SlT Try.prog 40 77 3 24 (.agg #[(.int .i64 0), (.int .i64 0), (.int .i64 0)]) := ⟨by kernel_rfl, by kernel_rfl, by rfl⟩
theorem sl27 : SlT Try.prog 27 60 3 24 (.agg #[(.int .i64 0), (.int .i64 0), (.int .i64 0)]) := ⟨by kernel_rfl, by kernel_rfl, by rfl⟩
theorem st77_0 : stF Try.prog 77 0 = some 0 := by kernel_rfl
theorem st60_0 : stF Try.prog 60 0 = some 0 := by kernel_rfl
theorem st77_1 : stF Try.prog 77 1 = some 1 := by kernel_rfl
theorem st60_1 : stF Try.prog 60 1 = some 1 := by kernel_rfl
theorem st77_2 : stF Try.prog 77 2 = some 2 := by kernel_rfl
theorem st60_2 : stF Try.prog 60 2 = some 2 := by kernel_rfl
theorem st29_0 : stF Try.prog 29 0 = some 0 := by kernel_rfl
theorem un4 : Try.prog.underlying 4 = some .bool := by kernel_rfl
set_option maxHeartbeats 2000000 in
theorem W_laws_szFactS {W : World} {va0 : Value} {fa0 : List Nat} {a0 : (List (Int × (Int × Int)))} (ha0 : Ro (Rp.prod Rp.int (Rp.prod Rp.int Rp.int)) W fa0 va0 a0) {a1 : Int} (ha1 : InI a1) {r : Int} (hF : F_laws_szFactS a0 a1 = some r) :
    Calls Try.prog 46 [va0, .int .i64 a1].toArray W (Ret fun u w' => (u = .int .i64 r ∧ InI r) ∧ Ext W w') := by
  refine f_enter Try.func46 rfl Try.ntmps46 rfl ?_
  intro a ha
  replace ha : Fr 12 [(0, va0), (1, (.int .i64 a1))] a := ha
  have hE : Chg [] W W := Chg.refl _ _
  unfold F_laws_szFactS at hF
  refine wp_seq ?_
  refine wp_region_lit ?_
  refine op_g ha rfl (g_assign rfl) ?_; clear ha a; intro a ha
  refine wpList_nil ?_
  replace ha := ha.sub (σ' := [(0, va0), (1, (.int .i64 a1))]) ⟨rfl, rfl, trivial⟩
  refine e_then ?_
  refine wp_seq ?_
  refine wp_region_lit ?_
  refine op_g ha rfl (g_move rfl) ?_; clear ha a; intro a ha
  refine op_g ha rfl (g_move rfl) ?_; clear ha a; intro a ha
  refine op_g ha rfl (g_lenR sl40.und ha0 rfl) ?_; clear ha a; intro a ha
  obtain ⟨hI1, hF⟩ := ck_some hF
  refine op_g ha rfl (g_sub rfl rfl hI1) ?_; clear ha a; intro a ha
  refine op_g ha rfl (g_assign rfl) ?_; clear ha a; intro a ha
  refine wpList_nil ?_
  replace ha := ha.sub (σ' := [(1, (.int .i64 (a1 - (a0.length : Int))))]) ⟨rfl, trivial⟩
  refine e_then ?_
  refine wp_seq ?_
  refine wp_seq ?_
  refine wp_region_lit ?_
  refine op_g ha rfl (g_move rfl) ?_; clear ha a; intro a ha
  refine op_g ha rfl (g_lss rfl rfl) ?_; clear ha a; intro a ha
  refine wpList_nil ?_
  replace ha := ha.sub (σ' := [(1, (.int .i64 (a1 - (a0.length : Int)))), (10, (.bool (decide ((a1 - (a0.length : Int)) < 0))))]) ⟨rfl, rfl, trivial⟩
  refine e_then ?_
  refine c_cond ((a1 - (a0.length : Int)) < 0) ha rfl (decide_eq_true_iff) (fun hp3 => ?_) (fun hp3 => ?_)
  · replace hF := if_t hp3 hF
    refine wp_seq ?_
    refine wp_region_lit ?_
    refine op_g ha rfl (g_assign rfl) ?_; clear ha a; intro a ha
    refine wpList_nil ?_
    replace ha := ha.sub (σ' := [(4, (.int .i64 (-1)))]) ⟨rfl, trivial⟩
    refine e_then ?_
    refine wp_ret ?_
    refine e_then_ret ?_
    obtain rfl := Option.some.inj hF
    exact f_ret1 ha rfl rfl ⟨⟨rfl, (show InI (-1) from by decide)⟩, hE⟩
  · replace hF := if_f hp3 hF
    refine wp_skip ?_
    refine e_then ?_
    refine wp_seq ?_
    refine wp_region_lit ?_
    refine op_g ha rfl (g_move rfl) ?_; clear ha a; intro a ha
    refine op_g ha rfl (g_assign rfl) ?_; clear ha a; intro a ha
    refine wpList_nil ?_
    replace ha := ha.sub (σ' := [(4, (.int .i64 (a1 - (a0.length : Int))))]) ⟨rfl, trivial⟩
    refine e_then ?_
    refine wp_ret ?_
    obtain rfl := Option.some.inj hF
    exact f_ret1 ha rfl rfl ⟨⟨rfl, hI1⟩, hE⟩
set_option maxHeartbeats 2000000 in
theorem W_laws_szFormula {W : World} {va0_0 : Value} {fa0_0 : List Nat} {a0_0 : (List (Int × (Int × Int)))} (ha0_0 : Ro (Rp.prod Rp.int (Rp.prod Rp.int Rp.int)) W fa0_0 va0_0 a0_0) {a1 : Int} (ha1 : InI a1) {r : Int} (hF : F_laws_szFormula a0_0 a1 = some r) :
    Calls Try.prog 25 [.agg #[va0_0], .int .i64 a1].toArray W (Ret fun u w' => (u = .int .i64 r ∧ InI r) ∧ Ext W w') := by
  refine f_enter Try.func25 rfl Try.ntmps25 rfl ?_
  intro a ha
  replace ha : Fr 12 [(0, (.agg #[va0_0])), (1, (.int .i64 a1))] a := ha
  have hE : Chg [] W W := Chg.refl _ _
  unfold F_laws_szFormula at hF
  refine wp_seq ?_
  refine wp_region_lit ?_
  refine o_box ha rfl rfl rfl ?_; clear ha a; intro b1 w2 hB3 hx4 hlo5 a ha
  have q6 := Zn.one hlo5
  have q7 := Zn.upD q6 hE
  have hE8 := Ext.trans hE hx4
  refine op_g ha rfl (g_assign rfl) ?_; clear ha a; intro a ha
  refine wpList_nil ?_
  replace ha := ha.sub (σ' := [(1, (.int .i64 a1)), (2, (.pointer (some ⟨b1, 0, none⟩)))]) ⟨rfl, rfl, trivial⟩
  refine e_then ?_
  refine wp_seq ?_
  refine wp_region_lit ?_
  refine op_g ha rfl (g_field0 st42_0 rfl) ?_; clear ha a; intro a ha
  refine op_g ha rfl (g_load Try.isAgg40 rfl (hB3.cell rfl)) ?_; clear ha a; intro a ha
  refine op_g ha rfl (g_move rfl) ?_; clear ha a; intro a ha
  obtain ⟨x9, hc10, hF⟩ := cal_some hF
  refine o_call ha rfl rfl Try.call46 (W_laws_szFactS (ha0_0.ext hE8) ha1 hc10) ?_; clear ha a; rintro v11 w12 ⟨⟨rfl, hI14⟩, hx13⟩ a ha
  replace hB3 := hB3.ext hx13
  have hE15 := Ext.trans hE8 hx13
  refine op_g ha rfl (g_assign rfl) ?_; clear ha a; intro a ha
  refine wpList_nil ?_
  replace ha := ha.sub (σ' := [(1, (.int .i64 x9))]) ⟨rfl, trivial⟩
  refine e_then ?_
  refine wp_seq ?_
  refine wp_seq ?_
  refine wp_region_lit ?_
  refine op_g ha rfl (g_move rfl) ?_; clear ha a; intro a ha
  refine op_g ha rfl (g_lss rfl rfl) ?_; clear ha a; intro a ha
  refine wpList_nil ?_
  replace ha := ha.sub (σ' := [(1, (.int .i64 x9)), (10, (.bool (decide (x9 < 0))))]) ⟨rfl, rfl, trivial⟩
  refine e_then ?_
  refine c_cond (x9 < 0) ha rfl (decide_eq_true_iff) (fun hp16 => ?_) (fun hp16 => ?_)
  · replace hF := if_t hp16 hF
    refine wp_seq ?_
    refine wp_region_lit ?_
    refine op_g ha rfl (g_assign rfl) ?_; clear ha a; intro a ha
    refine wpList_nil ?_
    replace ha := ha.sub (σ' := [(4, (.int .i64 (-1)))]) ⟨rfl, trivial⟩
    refine e_then ?_
    refine wp_ret ?_
    refine e_then_ret ?_
    obtain rfl := Option.some.inj hF
    exact f_ret1 ha rfl rfl ⟨⟨rfl, (show InI (-1) from by decide)⟩, hE15⟩
  · replace hF := if_f hp16 hF
    refine wp_skip ?_
    refine e_then ?_
    refine wp_seq ?_
    refine wp_region_lit ?_
    refine op_g ha rfl (g_move rfl) ?_; clear ha a; intro a ha
    refine op_g ha rfl (g_assign rfl) ?_; clear ha a; intro a ha
    refine wpList_nil ?_
    replace ha := ha.sub (σ' := [(4, (.int .i64 x9))]) ⟨rfl, trivial⟩
    refine e_then ?_
    refine wp_ret ?_
    obtain rfl := Option.some.inj hF
    exact f_ret1 ha rfl rfl ⟨⟨rfl, hI14⟩, hE15⟩
set_option maxHeartbeats 2000000 in
theorem W_laws_toFact {W : World} {a0_0 : Int} (ha0_0 : InI a0_0) {a0_1 : Int} (ha0_1 : InI a0_1) {a0_2 : Int} (ha0_2 : InI a0_2) {r : (Int × (Int × Int))} (hF : F_laws_toFact a0_0 a0_1 a0_2 = some r) :
    Calls Try.prog 61 [.agg #[.int .i64 a0_0, .int .i64 a0_1, .int .i64 a0_2]].toArray W (Ret fun u w' => ∃ (u_0 : Value) (u_1 : Value) (u_2 : Value), u = .agg #[u_0, u_1, u_2] ∧ (u_0 = .int .i64 r.1 ∧ InI r.1) ∧ (u_1 = .int .i64 r.2.1 ∧ InI r.2.1) ∧ (u_2 = .int .i64 r.2.2 ∧ InI r.2.2) ∧ Ext W w') := by
  refine f_enter Try.func61 rfl Try.ntmps61 rfl ?_
  intro a ha
  replace ha : Fr 14 [(0, (.agg #[(.int .i64 a0_0), (.int .i64 a0_1), (.int .i64 a0_2)]))] a := ha
  have hE : Chg [] W W := Chg.refl _ _
  unfold F_laws_toFact at hF
  refine wp_seq ?_
  refine wp_region_lit ?_
  refine o_box ha rfl rfl rfl ?_; clear ha a; intro b1 w2 hB3 hx4 hlo5 a ha
  have q6 := Zn.one hlo5
  have q7 := Zn.upD q6 hE
  have hE8 := Ext.trans hE hx4
  refine o_alloc (cs := [(.int .i64 0), (.int .i64 0), (.int .i64 0)]) ha rfl Try.zeroValue60 rfl ?_; clear ha a; intro b9 w10 hB11 hx12 hlo13 a ha
  have q14 := Zn.one hlo13
  have q15 := Nq.new hB3.fpb q14
  have q16 := Nq.made1 hlo13 hB3.bi
  have q17 := Zn.upD q14 hE8
  replace hB3 := hB3.ext hx12
  have hE18 := Ext.trans hE8 hx12
  refine wpList_nil ?_
  replace ha := ha.sub (σ' := [(1, (.pointer (some ⟨b1, 0, none⟩))), (2, (.pointer (some ⟨b9, 0, none⟩)))]) ⟨rfl, rfl, trivial⟩
  refine e_then ?_
  refine wp_seq ?_
  refine wp_region_lit ?_
  refine o_alloc (cs := [(.int .i64 0), (.int .i64 0), (.int .i64 0)]) ha rfl Try.zeroValue60 rfl ?_; clear ha a; intro b19 w20 hB21 hx22 hlo23 a ha
  have q24 := Zn.one hlo23
  have q25 := Nq.new hB3.fpb q24
  have q26 := Nq.made1 hlo23 hB3.bi
  have q27 := Nq.new hB11.fpb q24
  have q28 := Nq.made1 hlo23 hB11.bi
  have q29 := Zn.upD q24 hE18
  replace hB3 := hB3.ext hx22
  replace hB11 := hB11.ext hx22
  have hE30 := Ext.trans hE18 hx22
  refine wpList_nil ?_
  refine e_then ?_
  refine wp_seq ?_
  refine wp_region_lit ?_
  refine op_g ha rfl (g_field0 st77_0 rfl) ?_; clear ha a; intro a ha
  refine op_g ha rfl (g_load Try.isAgg2 rfl (hB3.cell rfl)) ?_; clear ha a; intro a ha
  refine op_g ha rfl (g_field0 st60_0 rfl) ?_; clear ha a; intro a ha
  refine o_storeB ha hB21 Try.sizeOf2 rfl rfl rfl rfl (Nat.le_of_ble_eq_true rfl) ?_; intro w31 hB32 hc33
  replace hc33 := hc33.bl
  replace hB32 : Bx w31 b19 [(.int .i64 a0_0), (.int .i64 0), (.int .i64 0)] 60 := hB32
  replace hB3 := hB3.nq hc33 q25
  replace hB11 := hB11.nq hc33 q27
  have hE34 := Ext.then hE30 hc33 (Zn.bl q29)
  refine wpList_nil ?_
  replace ha := ha.sub (σ' := [(1, (.pointer (some ⟨b1, 0, none⟩))), (2, (.pointer (some ⟨b9, 0, none⟩))), (3, (.pointer (some ⟨b19, 0, none⟩)))]) ⟨rfl, rfl, rfl, trivial⟩
  refine e_then ?_
  refine wp_seq ?_
  refine wp_region_lit ?_
  refine op_g ha rfl (g_field0 st77_1 rfl) ?_; clear ha a; intro a ha
  refine op_g ha rfl (g_load Try.isAgg2 rfl (hB3.cell rfl)) ?_; clear ha a; intro a ha
  refine op_g ha rfl (g_field0 st60_1 rfl) ?_; clear ha a; intro a ha
  refine o_storeB ha hB32 Try.sizeOf2 rfl rfl rfl rfl (Nat.le_of_ble_eq_true rfl) ?_; intro w35 hB36 hc37
  replace hc37 := hc37.bl
  replace hB36 : Bx w35 b19 [(.int .i64 a0_0), (.int .i64 a0_1), (.int .i64 0)] 60 := hB36
  replace hB3 := hB3.nq hc37 q25
  replace hB11 := hB11.nq hc37 q27
  have hE38 := Ext.then hE34 hc37 (Zn.bl q29)
  refine wpList_nil ?_
  replace ha := ha.sub (σ' := [(1, (.pointer (some ⟨b1, 0, none⟩))), (2, (.pointer (some ⟨b9, 0, none⟩))), (3, (.pointer (some ⟨b19, 0, none⟩)))]) ⟨rfl, rfl, rfl, trivial⟩
  refine e_then ?_
  refine wp_seq ?_
  refine wp_region_lit ?_
  refine op_g ha rfl (g_field0 st77_2 rfl) ?_; clear ha a; intro a ha
  refine op_g ha rfl (g_load Try.isAgg2 rfl (hB3.cell rfl)) ?_; clear ha a; intro a ha
  refine op_g ha rfl (g_field0 st60_2 rfl) ?_; clear ha a; intro a ha
  refine o_storeB ha hB36 Try.sizeOf2 rfl rfl rfl rfl (Nat.le_of_ble_eq_true rfl) ?_; intro w39 hB40 hc41
  replace hc41 := hc41.bl
  replace hB40 : Bx w39 b19 [(.int .i64 a0_0), (.int .i64 a0_1), (.int .i64 a0_2)] 60 := hB40
  replace hB3 := hB3.nq hc41 q25
  replace hB11 := hB11.nq hc41 q27
  have hE42 := Ext.then hE38 hc41 (Zn.bl q29)
  refine wpList_nil ?_
  replace ha := ha.sub (σ' := [(2, (.pointer (some ⟨b9, 0, none⟩))), (3, (.pointer (some ⟨b19, 0, none⟩)))]) ⟨rfl, rfl, trivial⟩
  refine e_then ?_
  refine wp_seq ?_
  refine wp_region_lit ?_
  refine op_g ha rfl (g_loadA (cs := [(.int .i64 a0_0), (.int .i64 a0_1), (.int .i64 a0_2)]) Try.isAgg60 Try.sizeOf60 rfl (by simp) hB40.all) ?_; clear ha a; intro a ha
  refine o_storeA (vs := [(.int .i64 a0_0), (.int .i64 a0_1), (.int .i64 a0_2)]) ha hB11 Try.sizeOf60 rfl rfl (by intro c hc; simp only [List.mem_cons, List.not_mem_nil, or_false] at hc; rcases hc with hc | hc | hc <;> subst hc <;> first | rfl | exact rfl | exact rfl | exact rfl) rfl ?_; intro w43 hB44 hc45
  replace hc45 := hc45.bl
  replace hB44 : Bx w43 b9 [(.int .i64 a0_0), (.int .i64 a0_1), (.int .i64 a0_2)] 60 := hB44
  replace hB40 := hB40.nq hc45 q28
  have hE46 := Ext.then hE42 hc45 (Zn.bl q17)
  refine wpList_nil ?_
  replace ha := ha.sub (σ' := [(2, (.pointer (some ⟨b9, 0, none⟩)))]) ⟨rfl, trivial⟩
  refine e_then ?_
  refine wp_ret ?_
  obtain rfl := Option.some.inj hF
  exact f_retC (cs := [(.int .i64 a0_0), (.int .i64 a0_1), (.int .i64 a0_2)]) ha rfl rfl Try.isAgg60 Try.sizeOf60 hB44 ⟨_, _, _, rfl, ⟨rfl, ha0_0⟩, ⟨rfl, ha0_1⟩, ⟨rfl, ha0_2⟩, hE46⟩
set_option maxHeartbeats 2000000 in
theorem W_laws_toFactS {W : World} {va0 : Value} {fa0 : List Nat} {a0 : (List (Int × (Int × Int)))} (ha0 : Ro (Rp.prod Rp.int (Rp.prod Rp.int Rp.int)) W fa0 va0 a0) {r : (List (Int × (Int × Int)))} (hF : F_laws_toFactS a0 = some r) :
    Calls Try.prog 48 [va0].toArray W (Ret fun u w' => ∃ (b_u : Int), Ow (Rp.prod Rp.int (Rp.prod Rp.int Rp.int)) 60 true w' [] b_u u r ∧ Zn W b_u ∧ Ext W w') := by
  refine f_enter Try.func48 rfl Try.ntmps48 rfl ?_
  intro a ha
  replace ha : Fr 23 [(0, va0)] a := ha
  have hE : Chg [] W W := Chg.refl _ _
  unfold F_laws_toFactS at hF
  refine wp_seq ?_
  refine wp_region_lit ?_
  refine op_g ha rfl (g_assign rfl) ?_; clear ha a; intro a ha
  refine wpList_nil ?_
  replace ha := ha.sub (σ' := [(0, va0)]) ⟨rfl, trivial⟩
  refine e_then ?_
  refine wp_seq ?_
  refine wp_region_lit ?_
  refine op_g ha rfl (g_move rfl) ?_; clear ha a; intro a ha
  refine op_g ha rfl (g_lenR sl40.und ha0 rfl) ?_; clear ha a; intro a ha
  obtain ⟨g5, g5b, hF⟩ := mkS_some hF
  refine o_make (z0 := ((0 : Int), (0 : Int), (0 : Int))) (Rp.prod Rp.int (Rp.prod Rp.int Rp.int)) ha rfl sl27 rfl (fun w => ⟨[], [], [_], _, rfl, rfl, ⟨rfl, by decide, rfl⟩, ⟨[], [], [_], _, rfl, rfl, ⟨rfl, by decide, rfl⟩, ⟨rfl, by decide, rfl⟩⟩⟩) rfl g5 g5b ?_; clear ha a; intro v1 w2 h3 hx4 a ha
  obtain ⟨b8, hb8⟩ : ∃ b : Int, b = W.heap.size := ⟨_, rfl⟩; rw [← hb8] at h3
  have q9 := zn_of hb8
  have q10 := Zn.upD q9 hE
  have hE11 := Ext.trans hE hx4
  refine op_g ha rfl (g_assign rfl) ?_; clear ha a; intro a ha
  refine wpList_nil ?_
  replace ha := ha.sub (σ' := [(0, va0), (3, v1)]) ⟨rfl, rfl, trivial⟩
  refine e_then ?_
  refine wp_seq ?_
  refine wp_seq ?_
  refine wp_region_lit ?_
  refine op_g ha rfl (g_assign rfl) ?_; clear ha a; intro a ha
  refine wpList_nil ?_
  refine e_then ?_
  obtain ⟨o214, ho215, hK216⟩ := bnd_some hF
  obtain ⟨n217, hn218⟩ := lp_some ho215; clear ho215
  refine c_loop (fun a w => ∃ (l211 : (List (Int × (Int × Int)))) (v212 : Value) (b213 : Int), Fr 23 [(3, v212)] a ∧ Chg [] W w ∧ Ow (Rp.prod Rp.int (Rp.prod Rp.int Rp.int)) 60 true w [] b213 v212 l211 ∧ Zn W b213 ∧ o214 = .inl l211) (fun n a w => ∃ (l111 : (List (Int × (Int × Int)))) (i114 : Int) (v112 : Value) (b113 : Int), Fr 23 [(0, va0), (3, v112), (4, (.int .i64 i114))] a ∧ Chg [] W w ∧ InI i114 ∧ Ow (Rp.prod Rp.int (Rp.prod Rp.int Rp.int)) 60 true w [] b113 v112 l111 ∧ Zn W b113 ∧ lpN (fun s => F_laws_toFactS_l1 a0 s.1 s.2) n (l111, i114) = some o214) n217 ⟨(List.replicate ((a0.length : Int)).toNat ((0 : Int), (0 : Int), (0 : Int))), 0, v1, b8, ha.sub ⟨rfl, rfl, rfl, trivial⟩, hE11, (show InI 0 from by decide), h3, q10, hn218⟩ ?_ ?_
  · rintro m222 a w107 ⟨l111, i114, v112, b113, ha, hE116, hI115, h109, z110, hF⟩
    cases m222 with
    | zero => exact (lpN_zero hF).elim
    | succ m222 =>
      obtain ⟨z221, hF, hN220⟩ := lpN_succ hF
      have hF : F_laws_toFactS_l1 a0 l111 i114 = some z221 := hF; unfold F_laws_toFactS_l1 at hF
      refine wp_seq ?_
      refine wp_seq ?_
      refine wp_region_lit ?_
      refine op_g ha rfl (g_move rfl) ?_; clear ha a; intro a ha
      refine op_g ha rfl (g_move rfl) ?_; clear ha a; intro a ha
      refine op_g ha rfl (g_lenR sl40.und ha0 rfl) ?_; clear ha a; intro a ha
      refine op_g ha rfl (g_lss rfl rfl) ?_; clear ha a; intro a ha
      refine wpList_nil ?_
      replace ha := ha.sub (σ' := [(0, va0), (3, v112), (4, (.int .i64 i114)), (11, (.bool (decide (i114 < (a0.length : Int)))))]) ⟨rfl, rfl, rfl, rfl, trivial⟩
      refine e_then ?_
      refine c_cond (i114 < (a0.length : Int)) ha rfl (decide_eq_true_iff) (fun hp223 => ?_) (fun hp223 => ?_)
      · replace hF := if_t hp223 hF
        refine wp_skip ?_
        refine e_then ?_
        refine wp_seq ?_
        refine wp_block ?_
        refine wp_region_lit ?_
        refine op_g ha rfl (g_move rfl) ?_; clear ha a; intro a ha
        refine op_g ha rfl (g_move rfl) ?_; clear ha a; intro a ha
        refine op_g ha rfl (g_move rfl) ?_; clear ha a; intro a ha
        refine op_g ha rfl (g_move rfl) ?_; clear ha a; intro a ha
        obtain ⟨x224, g225, gx226, hF⟩ := idx_some hF
        obtain ⟨p227, cs228, f229, hf230, hpb231, hat232, hr233, hi234⟩ := ha0.at g225 gx226
        obtain ⟨f235, f236, c237, c238, rfl, rfl, h239, h240⟩ := hr233
        obtain ⟨rfl, hI243, rfl⟩ := h239
        obtain ⟨f244, f245, c246, c247, rfl, rfl, h248, h249⟩ := h240
        obtain ⟨rfl, hI252, rfl⟩ := h248
        obtain ⟨rfl, hI253, rfl⟩ := h249
        refine op_g ha rfl (hi234.gives sl40 rfl rfl) ?_; clear ha a; intro a ha
        refine op_g ha rfl (g_loadA0 (cs := [(.int .i64 x224.1), (.int .i64 x224.2.1), (.int .i64 x224.2.2)]) hE116 Try.isAgg77 Try.sizeOf77 rfl (by simp) hat232) ?_; clear ha a; intro a ha
        obtain ⟨x254, hc255, hF⟩ := cal_some hF
        refine o_call ha rfl rfl Try.call61 (W_laws_toFact hI243 hI252 hI253 hc255) ?_; clear ha a; rintro v256 w257 ⟨u259, u260, u261, rfl, ⟨rfl, hI262⟩, ⟨rfl, hI263⟩, ⟨rfl, hI264⟩, hx258⟩ a ha
        replace h109 := h109.ext hx258
        have hE265 := Ext.trans hE116 hx258
        obtain ⟨x266, g267, gx268, hF⟩ := idx_some hF
        obtain ⟨p269, cs270, f271, hf272, hpb273, hat274, hr275, hi276⟩ := h109.at g267 gx268
        obtain ⟨f277, f278, c279, c280, rfl, rfl, h281, h282⟩ := hr275
        obtain ⟨rfl, hI285, rfl⟩ := h281
        obtain ⟨f286, f287, c288, c289, rfl, rfl, h290, h291⟩ := h282
        obtain ⟨rfl, hI294, rfl⟩ := h290
        obtain ⟨rfl, hI295, rfl⟩ := h291
        refine op_g ha rfl (hi276.gives sl27 rfl rfl) ?_; clear ha a; intro a ha
        refine o_storeE (f := []) (q := (x254.1, x254.2.1, x254.2.2)) ha Try.sizeOf60 rfl rfl rfl h109 hi276 ⟨[], [], [_], _, rfl, rfl, ⟨rfl, hI262, rfl⟩, ⟨[], [], [_], _, rfl, rfl, ⟨rfl, hI263, rfl⟩, ⟨rfl, hI264, rfl⟩⟩⟩ (Nq.nil _) ?_; intro w296 fs297 h298 hc299 hs300
        obtain rfl := Subst.nil hs300
        have hE301 := Ext.then hE265 hc299 (Zn.bl z110)
        refine wpList_nil ?_
        replace ha := ha.sub (σ' := [(0, va0), (3, v112), (4, (.int .i64 i114))]) ⟨rfl, rfl, rfl, trivial⟩
        refine e_blk ?_
        refine e_then ?_
        refine wp_region_lit ?_
        refine op_g ha rfl (g_move rfl) ?_; clear ha a; intro a ha
        obtain ⟨hI302, hF⟩ := ck_some hF
        refine op_g ha rfl (g_add rfl rfl hI302) ?_; clear ha a; intro a ha
        refine op_g ha rfl (g_assign rfl) ?_; clear ha a; intro a ha
        refine wpList_nil ?_
        replace ha := ha.sub (σ' := [(0, va0), (3, v112), (4, (.int .i64 (i114 + 1)))]) ⟨rfl, rfl, rfl, trivial⟩
        refine e_lq ?_
        obtain rfl := Option.some.inj hF
        exact ⟨_, Nat.lt_succ_self _, (l111.set ((i114).toNat) (x254.1, x254.2.1, x254.2.2)), i114 + 1, v112, b113, ha.sub ⟨rfl, rfl, rfl, trivial⟩, hE301, hI302, h298, z110, hN220⟩
      · replace hF := if_f hp223 hF
        refine wp_exit ?_
        refine e_then_exit ?_
        refine e_lq_eq ?_
        obtain rfl := Option.some.inj hF
        exact ⟨l111, v112, b113, ha.sub ⟨rfl, trivial⟩, hE116, h109, z110, (LK_inr hN220).symm⟩
  · rintro a w207 ⟨l211, v212, b213, ha, hE219, h209, z210, rfl⟩
    have hF : F_laws_toFactS_k2 l211 = some _ := hK216; clear hK216; unfold F_laws_toFactS_k2 at hF
    refine e_then ?_
    refine wp_seq ?_
    refine wp_region_lit ?_
    refine op_g ha rfl (g_move rfl) ?_; clear ha a; intro a ha
    refine op_g ha rfl (g_assign rfl) ?_; clear ha a; intro a ha
    refine wpList_nil ?_
    replace ha := ha.sub (σ' := [(2, v212)]) ⟨rfl, trivial⟩
    refine e_then ?_
    refine wp_ret ?_
    obtain rfl := Option.some.inj hF
    exact f_ret1 ha rfl rfl ⟨_, h209, z210, hE219⟩
set_option maxHeartbeats 2000000 in
theorem W_laws_toFormula {W : World} {va0_0 : Value} {fa0_0 : List Nat} {a0_0 : (List (Int × (Int × Int)))} (ha0_0 : Ro (Rp.prod Rp.int (Rp.prod Rp.int Rp.int)) W fa0_0 va0_0 a0_0) {r : (List (Int × (Int × Int)))} (hF : F_laws_toFormula a0_0 = some r) :
    Calls Try.prog 27 [.agg #[va0_0]].toArray W (Ret fun u w' => ∃ (u_0 : Value) (b_u_0 : Int), u = .agg #[u_0] ∧ Ow (Rp.prod Rp.int (Rp.prod Rp.int Rp.int)) 60 true w' [] b_u_0 u_0 r ∧ Zn W b_u_0 ∧ Ext W w') := by
  refine f_enter Try.func27 rfl Try.ntmps27 rfl ?_
  intro a ha
  replace ha : Fr 9 [(0, (.agg #[va0_0]))] a := ha
  have hE : Chg [] W W := Chg.refl _ _
  unfold F_laws_toFormula at hF
  refine wp_seq ?_
  refine wp_region_lit ?_
  refine o_box ha rfl rfl rfl ?_; clear ha a; intro b1 w2 hB3 hx4 hlo5 a ha
  have q6 := Zn.one hlo5
  have q7 := Zn.upD q6 hE
  have hE8 := Ext.trans hE hx4
  refine o_alloc (cs := [(.slice none 0 0)]) ha rfl Try.zeroValue29 rfl ?_; clear ha a; intro b9 w10 hB11 hx12 hlo13 a ha
  have q14 := Zn.one hlo13
  have q15 := Nq.new hB3.fpb q14
  have q16 := Nq.made1 hlo13 hB3.bi
  have q17 := Zn.upD q14 hE8
  replace hB3 := hB3.ext hx12
  have hE18 := Ext.trans hE8 hx12
  refine wpList_nil ?_
  replace ha := ha.sub (σ' := [(1, (.pointer (some ⟨b1, 0, none⟩))), (2, (.pointer (some ⟨b9, 0, none⟩)))]) ⟨rfl, rfl, trivial⟩
  refine e_then ?_
  refine wp_seq ?_
  refine wp_region_lit ?_
  refine o_alloc (cs := [(.slice none 0 0)]) ha rfl Try.zeroValue29 rfl ?_; clear ha a; intro b19 w20 hB21 hx22 hlo23 a ha
  have q24 := Zn.one hlo23
  have q25 := Nq.new hB3.fpb q24
  have q26 := Nq.made1 hlo23 hB3.bi
  have q27 := Nq.new hB11.fpb q24
  have q28 := Nq.made1 hlo23 hB11.bi
  have q29 := Zn.upD q24 hE18
  replace hB3 := hB3.ext hx22
  replace hB11 := hB11.ext hx22
  have hE30 := Ext.trans hE18 hx22
  refine wpList_nil ?_
  refine e_then ?_
  refine wp_seq ?_
  refine wp_region_lit ?_
  refine op_g ha rfl (g_field0 st42_0 rfl) ?_; clear ha a; intro a ha
  refine op_g ha rfl (g_load Try.isAgg40 rfl (hB3.cell rfl)) ?_; clear ha a; intro a ha
  obtain ⟨x31, hc32, hF⟩ := cal_some hF
  refine o_call ha rfl rfl Try.call48 (W_laws_toFactS (ha0_0.ext hE30) hc32) ?_; clear ha a; rintro v33 w34 ⟨b36, h37, z38, hx35⟩ a ha
  have q40 := Nq.new hB3.fpb z38
  have q41 := Nq.madeO z38 hB3.bi
  have q42 := Nq.new hB11.fpb z38
  have q43 := Nq.madeO z38 hB11.bi
  have q44 := Nq.new hB21.fpb z38
  have q45 := Nq.madeO z38 hB21.bi
  replace hB3 := hB3.ext hx35
  replace hB11 := hB11.ext hx35
  replace hB21 := hB21.ext hx35
  have hE46 := Ext.trans hE30 hx35
  have q47 := Zn.upD z38 hE30
  refine op_g ha rfl (g_field0 st29_0 rfl) ?_; clear ha a; intro a ha
  refine o_storeB ha hB21 Try.sizeOf27 rfl rfl h37.cells h37.oneC (Nat.le_of_ble_eq_true rfl) ?_; intro w48 hB49 hc50
  replace hc50 := hc50.bl
  replace hB49 : Bx w48 b19 [v33] 29 := hB49
  replace hB3 := hB3.nq hc50 q25
  replace hB11 := hB11.nq hc50 q27
  replace h37 := h37.nq hc50 q45
  have hE51 := Ext.then hE46 hc50 (Zn.bl q29)
  refine wpList_nil ?_
  replace ha := ha.sub (σ' := [(2, (.pointer (some ⟨b9, 0, none⟩))), (3, (.pointer (some ⟨b19, 0, none⟩)))]) ⟨rfl, rfl, trivial⟩
  refine e_then ?_
  refine wp_seq ?_
  refine wp_region_lit ?_
  refine op_g ha rfl (g_loadA (cs := [v33]) Try.isAgg29 Try.sizeOf29 rfl (by simp) hB49.all) ?_; clear ha a; intro a ha
  refine o_storeA (vs := [v33]) ha hB11 Try.sizeOf29 rfl rfl (by intro c hc; simp only [List.mem_cons, List.not_mem_nil, or_false] at hc; rcases hc with hc <;> subst hc <;> first | rfl | exact h37.oneC) rfl ?_; intro w52 hB53 hc54
  replace hc54 := hc54.bl
  replace hB53 : Bx w52 b9 [v33] 29 := hB53
  replace hB49 := hB49.nq hc54 q28
  replace h37 := h37.nq hc54 q43
  have hE55 := Ext.then hE51 hc54 (Zn.bl q17)
  refine wpList_nil ?_
  replace ha := ha.sub (σ' := [(2, (.pointer (some ⟨b9, 0, none⟩)))]) ⟨rfl, trivial⟩
  refine e_then ?_
  refine wp_ret ?_
  obtain rfl := Option.some.inj hF
  exact f_retC (cs := [v33]) ha rfl rfl Try.isAgg29 Try.sizeOf29 hB53 ⟨_, _, rfl, h37, q47, hE55⟩
set_option maxHeartbeats 2000000 in
theorem W_spec_l1In {W : World} {a0 : Int} (ha0 : InI a0) {a1 : Int} (ha1 : InI a1) {a2 : Int} (ha2 : InI a2) {r : Bool} (hF : F_spec_l1In a0 a1 a2 = some r) :
    Calls Try.prog 38 [.int .i64 a0, .int .i64 a1, .int .i64 a2].toArray W (Ret fun u w' => u = .bool r ∧ Ext W w') := by
  refine f_enter Try.func38 rfl Try.ntmps38 rfl ?_
  intro a ha
  replace ha : Fr 15 [(0, (.int .i64 a0)), (1, (.int .i64 a1)), (2, (.int .i64 a2))] a := ha
  have hE : Chg [] W W := Chg.refl _ _
  unfold F_spec_l1In at hF
  refine wp_seq ?_
  refine wp_region_lit ?_
  refine op_g ha rfl (g_assign rfl) ?_; clear ha a; intro a ha
  refine wpList_nil ?_
  replace ha := ha.sub (σ' := [(0, (.int .i64 a0)), (1, (.int .i64 a1)), (2, (.int .i64 a2))]) ⟨rfl, rfl, rfl, trivial⟩
  refine e_then ?_
  refine wp_seq ?_
  refine wp_region_lit ?_
  refine op_g ha rfl (g_move rfl) ?_; clear ha a; intro a ha
  refine op_g ha rfl (g_move rfl) ?_; clear ha a; intro a ha
  refine op_g ha rfl (g_geq rfl rfl) ?_; clear ha a; intro a ha
  refine op_g ha rfl (g_move rfl) ?_; clear ha a; intro a ha
  by_cases hp1 : a1 ≤ a0
  · replace hF := if_t hp1 hF
    rw [show (decide (a1 ≤ a0)) = true from (decide_eq_true_iff).2 hp1] at ha
    refine op_want (yields ha rfl rfl) ?_
    refine op_g ha rfl (g_move rfl) ?_; clear ha a; intro a ha
    refine op_want (yields ha rfl rfl) ?_
    refine op_g ha rfl (g_move rfl) ?_; clear ha a; intro a ha
    refine op_want (yields ha rfl rfl) ?_
    refine op_g ha rfl (g_leq rfl rfl) ?_; clear ha a; intro a ha
    refine op_g ha rfl (g_pick rfl rfl) ?_; clear ha a; intro a ha
    refine op_g ha rfl (g_assign rfl) ?_; clear ha a; intro a ha
    refine wpList_nil ?_
    replace ha := ha.sub (σ' := [(6, (.bool (decide (a0 ≤ a2))))]) ⟨rfl, trivial⟩
    refine e_then ?_
    refine wp_ret ?_
    obtain rfl := Option.some.inj hF
    exact f_ret1 ha rfl rfl ⟨rfl, hE⟩
  · replace hF := if_f hp1 hF
    rw [show (decide (a1 ≤ a0)) = false from b_false (decide_eq_true_iff) hp1] at ha
    refine op_unwant ha rfl (yields ha rfl rfl) rfl ?_; clear ha a; intro a ha
    refine op_unwant ha rfl (yields ha rfl rfl) rfl ?_; clear ha a; intro a ha
    refine op_unwant ha rfl (yields ha rfl rfl) rfl ?_; clear ha a; intro a ha
    refine op_g ha rfl (g_pick rfl rfl) ?_; clear ha a; intro a ha
    refine op_g ha rfl (g_assign rfl) ?_; clear ha a; intro a ha
    refine wpList_nil ?_
    replace ha := ha.sub (σ' := [(6, (.bool false))]) ⟨rfl, trivial⟩
    refine e_then ?_
    refine wp_ret ?_
    obtain rfl := Option.some.inj hF
    exact f_ret1 ha rfl rfl ⟨rfl, hE⟩
set_option maxHeartbeats 2000000 in
theorem W_spec_l30Name {W : World} {a0 : Int} (ha0 : InI a0) {r : Bool} (hF : F_spec_l30Name a0 = some r) :
    Calls Try.prog 59 [.int .i64 a0].toArray W (Ret fun u w' => u = .bool r ∧ Ext W w') := by
  refine f_enter Try.func59 rfl Try.ntmps59 rfl ?_
  intro a ha
  replace ha : Fr 5 [(0, (.int .i64 a0))] a := ha
  have hE : Chg [] W W := Chg.refl _ _
  unfold F_spec_l30Name at hF
  refine wp_seq ?_
  refine wp_region_lit ?_
  refine op_g ha rfl (g_assign rfl) ?_; clear ha a; intro a ha
  refine wpList_nil ?_
  replace ha := ha.sub (σ' := [(0, (.int .i64 a0))]) ⟨rfl, trivial⟩
  refine e_then ?_
  refine wp_seq ?_
  refine wp_region_lit ?_
  refine op_g ha rfl (g_move rfl) ?_; clear ha a; intro a ha
  obtain ⟨x1, hc2, hF⟩ := cal_some hF
  refine o_call ha rfl rfl Try.call38 (W_spec_l1In ha0 (show InI 0 from by decide) (show InI 2 from by decide) hc2) ?_; clear ha a; rintro v3 w4 ⟨rfl, hx5⟩ a ha
  have hE6 := Ext.trans hE hx5
  refine op_g ha rfl (g_assign rfl) ?_; clear ha a; intro a ha
  refine wpList_nil ?_
  replace ha := ha.sub (σ' := [(2, (.bool x1))]) ⟨rfl, trivial⟩
  refine e_then ?_
  refine wp_ret ?_
  obtain rfl := Option.some.inj hF
  exact f_ret1 ha rfl rfl ⟨rfl, hE6⟩
set_option maxHeartbeats 2000000 in
theorem W_spec_l30SetName {W : World} {a0 : Int} (ha0 : InI a0) {r : Bool} (hF : F_spec_l30SetName a0 = some r) :
    Calls Try.prog 60 [.int .i64 a0].toArray W (Ret fun u w' => u = .bool r ∧ Ext W w') := by
  refine f_enter Try.func60 rfl Try.ntmps60 rfl ?_
  intro a ha
  replace ha : Fr 5 [(0, (.int .i64 a0))] a := ha
  have hE : Chg [] W W := Chg.refl _ _
  unfold F_spec_l30SetName at hF
  refine wp_seq ?_
  refine wp_region_lit ?_
  refine op_g ha rfl (g_assign rfl) ?_; clear ha a; intro a ha
  refine wpList_nil ?_
  replace ha := ha.sub (σ' := [(0, (.int .i64 a0))]) ⟨rfl, trivial⟩
  refine e_then ?_
  refine wp_seq ?_
  refine wp_region_lit ?_
  refine op_g ha rfl (g_move rfl) ?_; clear ha a; intro a ha
  obtain ⟨x1, hc2, hF⟩ := cal_some hF
  refine o_call ha rfl rfl Try.call38 (W_spec_l1In ha0 (show InI 0 from by decide) (show InI 1 from by decide) hc2) ?_; clear ha a; rintro v3 w4 ⟨rfl, hx5⟩ a ha
  have hE6 := Ext.trans hE hx5
  refine op_g ha rfl (g_assign rfl) ?_; clear ha a; intro a ha
  refine wpList_nil ?_
  replace ha := ha.sub (σ' := [(2, (.bool x1))]) ⟨rfl, trivial⟩
  refine e_then ?_
  refine wp_ret ?_
  obtain rfl := Option.some.inj hF
  exact f_ret1 ha rfl rfl ⟨rfl, hE6⟩
set_option maxHeartbeats 2000000 in
theorem W_spec_l30Fact {W : World} {a0_0 : Int} (ha0_0 : InI a0_0) {a0_1 : Int} (ha0_1 : InI a0_1) {a0_2 : Int} (ha0_2 : InI a0_2) {a1 : Int} (ha1 : InI a1) {r : Bool} (hF : F_spec_l30Fact a0_0 a0_1 a0_2 a1 = some r) :
    Calls Try.prog 47 [.agg #[.int .i64 a0_0, .int .i64 a0_1, .int .i64 a0_2], .int .i64 a1].toArray W (Ret fun u w' => u = .bool r ∧ Ext W w') := by
  refine f_enter Try.func47 rfl Try.ntmps47 rfl ?_
  intro a ha
  replace ha : Fr 71 [(0, (.agg #[(.int .i64 a0_0), (.int .i64 a0_1), (.int .i64 a0_2)])), (1, (.int .i64 a1))] a := ha
  have hE : Chg [] W W := Chg.refl _ _
  unfold F_spec_l30Fact at hF
  refine wp_seq ?_
  refine wp_region_lit ?_
  refine o_box ha rfl rfl rfl ?_; clear ha a; intro b1 w2 hB3 hx4 hlo5 a ha
  have q6 := Zn.one hlo5
  have q7 := Zn.upD q6 hE
  have hE8 := Ext.trans hE hx4
  refine op_g ha rfl (g_assign rfl) ?_; clear ha a; intro a ha
  refine wpList_nil ?_
  replace ha := ha.sub (σ' := [(1, (.int .i64 a1)), (2, (.pointer (some ⟨b1, 0, none⟩)))]) ⟨rfl, rfl, trivial⟩
  refine e_then ?_
  refine wp_seq ?_
  refine wp_region_lit ?_
  refine op_g ha rfl (g_field0 st60_1 rfl) ?_; clear ha a; intro a ha
  refine op_g ha rfl (g_load Try.isAgg2 rfl (hB3.cell rfl)) ?_; clear ha a; intro a ha
  refine op_g ha rfl (g_move rfl) ?_; clear ha a; intro a ha
  obtain ⟨hI9, hF⟩ := ck_some hF
  refine op_g ha rfl (g_sub rfl rfl hI9) ?_; clear ha a; intro a ha
  obtain ⟨x11, hc12, hF⟩ := cal_some hF
  refine o_call ha rfl rfl Try.call38 (W_spec_l1In ha0_1 (show InI 0 from by decide) hI9 hc12) ?_; clear ha a; rintro v13 w14 ⟨rfl, hx15⟩ a ha
  replace hB3 := hB3.ext hx15
  have hE16 := Ext.trans hE8 hx15
  refine op_g ha rfl (g_assign rfl) ?_; clear ha a; intro a ha
  refine wpList_nil ?_
  replace ha := ha.sub (σ' := [(1, (.int .i64 a1)), (2, (.pointer (some ⟨b1, 0, none⟩))), (5, (.bool x11))]) ⟨rfl, rfl, rfl, trivial⟩
  refine e_then ?_
  refine wp_seq ?_
  refine wp_region_lit ?_
  refine op_g ha rfl (g_field0 st60_2 rfl) ?_; clear ha a; intro a ha
  refine op_g ha rfl (g_load Try.isAgg2 rfl (hB3.cell rfl)) ?_; clear ha a; intro a ha
  refine op_g ha rfl (g_move rfl) ?_; clear ha a; intro a ha
  obtain ⟨hI17, hF⟩ := ck_some hF
  refine op_g ha rfl (g_sub rfl rfl hI17) ?_; clear ha a; intro a ha
  obtain ⟨x19, hc20, hF⟩ := cal_some hF
  refine o_call ha rfl rfl Try.call38 (W_spec_l1In ha0_2 (show InI 0 from by decide) hI17 hc20) ?_; clear ha a; rintro v21 w22 ⟨rfl, hx23⟩ a ha
  replace hB3 := hB3.ext hx23
  have hE24 := Ext.trans hE16 hx23
  refine op_g ha rfl (g_assign rfl) ?_; clear ha a; intro a ha
  refine wpList_nil ?_
  replace ha := ha.sub (σ' := [(2, (.pointer (some ⟨b1, 0, none⟩))), (5, (.bool x11)), (6, (.bool x19))]) ⟨rfl, rfl, rfl, trivial⟩
  refine e_then ?_
  refine wp_seq ?_
  refine wp_seq ?_
  refine wp_region_lit ?_
  refine op_g ha rfl (g_field0 st60_0 rfl) ?_; clear ha a; intro a ha
  refine op_g ha rfl (g_load Try.isAgg2 rfl (hB3.cell rfl)) ?_; clear ha a; intro a ha
  refine wpList_nil ?_
  replace ha := ha.sub (σ' := [(2, (.pointer (some ⟨b1, 0, none⟩))), (5, (.bool x11)), (6, (.bool x19)), (18, (.int .i64 a0_0))]) ⟨rfl, rfl, rfl, rfl, trivial⟩
  refine e_then ?_
  refine wp_block ?_
  obtain ⟨o26, ho27, hK28⟩ := bnd_some hF
  have hF := ho27; clear ho27
  refine s_cut (fun a w => ∃ (t32 : Bool), Fr 71 [(2, (.pointer (some ⟨b1, 0, none⟩))), (5, (.bool x11)), (6, (.bool x19)), (18, (.int .i64 a0_0)), (19, (.bool t32))] a ∧ Chg [] W w ∧ Bx w b1 [(.int .i64 a0_0), (.int .i64 a0_1), (.int .i64 a0_2)] 60 ∧ Zn W (b1 : Int) ∧ o26 = .inl t32) ?_ ?_
  · skip
    refine wp_seq ?_
    refine wp_region_lit ?_
    refine op_g ha rfl (g_eql rfl rfl) ?_; clear ha a; intro a ha
    refine op_g ha rfl (g_assign rfl) ?_; clear ha a; intro a ha
    refine wpList_nil ?_
    replace ha := ha.sub (σ' := [(2, (.pointer (some ⟨b1, 0, none⟩))), (5, (.bool x11)), (6, (.bool x19)), (18, (.int .i64 a0_0)), (19, (.bool (decide (a0_0 = 1))))]) ⟨rfl, rfl, rfl, rfl, rfl, trivial⟩
    refine e_then ?_
    refine c_cond (a0_0 = 1) ha rfl (decide_eq_true_iff) (fun hp34 => ?_) (fun hp34 => ?_)
    · replace hF := if_t hp34 hF
      refine wp_skip ?_
      refine e_sq ?_
      obtain rfl := Option.some.inj hF
      exact ⟨decide (a0_0 = 1), ha.sub ⟨rfl, rfl, rfl, rfl, rfl, trivial⟩, hE24, hB3, q7, rfl⟩
    · replace hF := if_f hp34 hF
      refine wp_region_lit ?_
      refine op_g ha rfl (g_eql rfl rfl) ?_; clear ha a; intro a ha
      refine op_g ha rfl (g_assign rfl) ?_; clear ha a; intro a ha
      refine wpList_nil ?_
      replace ha := ha.sub (σ' := [(2, (.pointer (some ⟨b1, 0, none⟩))), (5, (.bool x11)), (6, (.bool x19)), (18, (.int .i64 a0_0)), (19, (.bool (decide (a0_0 = 2))))]) ⟨rfl, rfl, rfl, rfl, rfl, trivial⟩
      refine e_sq ?_
      obtain rfl := Option.some.inj hF
      exact ⟨decide (a0_0 = 2), ha.sub ⟨rfl, rfl, rfl, rfl, rfl, trivial⟩, hE24, hB3, q7, rfl⟩
  · rintro a w29 ⟨t32, ha, hE33, hB30, z31, rfl⟩
    have hF : F_spec_l30Fact_k1 a0_0 a0_1 a0_2 x11 x19 t32 = some _ := hK28; clear hK28; unfold F_spec_l30Fact_k1 at hF
    refine c_cond (t32 = true) ha rfl (Iff.rfl) (fun hp35 => ?_) (fun hp35 => ?_)
    · replace hF := if_t hp35 hF
      refine wp_seq ?_
      refine wp_region_lit ?_
      refine op_g ha rfl (g_field0 st60_1 rfl) ?_; clear ha a; intro a ha
      refine op_g ha rfl (g_load Try.isAgg2 rfl (hB30.cell rfl)) ?_; clear ha a; intro a ha
      obtain ⟨x36, hc37, hF⟩ := cal_some hF
      refine o_call ha rfl rfl Try.call59 (W_spec_l30Name ha0_1 hc37) ?_; clear ha a; rintro v38 w39 ⟨rfl, hx40⟩ a ha
      replace hB30 := hB30.ext hx40
      have hE41 := Ext.trans hE33 hx40
      refine op_g ha rfl (g_move rfl) ?_; clear ha a; intro a ha
      by_cases hp42 : x36 = true
      · replace hF := if_t hp42 hF
        rw [show (x36) = true from (Iff.rfl).2 hp42] at ha
        refine op_want (yields ha rfl rfl) ?_
        refine op_g ha rfl (g_field0 st60_2 rfl) ?_; clear ha a; intro a ha
        refine op_want (yields ha rfl rfl) ?_
        refine op_g ha rfl (g_load Try.isAgg2 rfl (hB30.cell rfl)) ?_; clear ha a; intro a ha
        refine op_want (yields ha rfl rfl) ?_
        obtain ⟨x43, hc44, hF⟩ := cal_some hF
        refine o_call ha rfl rfl Try.call59 (W_spec_l30Name ha0_2 hc44) ?_; clear ha a; rintro v45 w46 ⟨rfl, hx47⟩ a ha
        replace hB30 := hB30.ext hx47
        have hE48 := Ext.trans hE41 hx47
        refine op_g ha rfl (g_pick rfl rfl) ?_; clear ha a; intro a ha
        refine op_g ha rfl (g_assign rfl) ?_; clear ha a; intro a ha
        refine wpList_nil ?_
        replace ha := ha.sub (σ' := [(4, (.bool x43))]) ⟨rfl, trivial⟩
        refine e_then ?_
        refine wp_ret ?_
        refine e_blk_ret ?_
        refine e_then_ret ?_
        obtain rfl := Option.some.inj hF
        exact f_ret1 ha rfl rfl ⟨rfl, hE48⟩
      · replace hF := if_f hp42 hF
        rw [show (x36) = false from b_false (Iff.rfl) hp42] at ha
        refine op_unwant ha rfl (yields ha rfl rfl) rfl ?_; clear ha a; intro a ha
        refine op_unwant ha rfl (yields ha rfl rfl) rfl ?_; clear ha a; intro a ha
        refine op_unwant ha rfl (yields ha rfl rfl) rfl ?_; clear ha a; intro a ha
        refine op_g ha rfl (g_pick rfl rfl) ?_; clear ha a; intro a ha
        refine op_g ha rfl (g_assign rfl) ?_; clear ha a; intro a ha
        refine wpList_nil ?_
        replace ha := ha.sub (σ' := [(4, (.bool false))]) ⟨rfl, trivial⟩
        refine e_then ?_
        refine wp_ret ?_
        refine e_blk_ret ?_
        refine e_then_ret ?_
        obtain rfl := Option.some.inj hF
        exact f_ret1 ha rfl rfl ⟨rfl, hE41⟩
    · replace hF := if_f hp35 hF
      refine wp_seq ?_
      refine wp_region_lit ?_
      refine op_g ha rfl (g_eql rfl rfl) ?_; clear ha a; intro a ha
      refine op_g ha rfl (g_assign rfl) ?_; clear ha a; intro a ha
      refine wpList_nil ?_
      replace ha := ha.sub (σ' := [(2, (.pointer (some ⟨b1, 0, none⟩))), (5, (.bool x11)), (6, (.bool x19)), (18, (.int .i64 a0_0)), (30, (.bool (decide (a0_0 = 3))))]) ⟨rfl, rfl, rfl, rfl, rfl, trivial⟩
      refine e_then ?_
      refine c_cond (a0_0 = 3) ha rfl (decide_eq_true_iff) (fun hp49 => ?_) (fun hp49 => ?_)
      · replace hF := if_t hp49 hF
        refine wp_seq ?_
        refine wp_region_lit ?_
        refine op_g ha rfl (g_field0 st60_1 rfl) ?_; clear ha a; intro a ha
        refine op_g ha rfl (g_load Try.isAgg2 rfl (hB30.cell rfl)) ?_; clear ha a; intro a ha
        obtain ⟨x50, hc51, hF⟩ := cal_some hF
        refine o_call ha rfl rfl Try.call59 (W_spec_l30Name ha0_1 hc51) ?_; clear ha a; rintro v52 w53 ⟨rfl, hx54⟩ a ha
        replace hB30 := hB30.ext hx54
        have hE55 := Ext.trans hE33 hx54
        refine op_g ha rfl (g_move rfl) ?_; clear ha a; intro a ha
        by_cases hp56 : x50 = true
        · replace hF := if_t hp56 hF
          rw [show (x50) = true from (Iff.rfl).2 hp56] at ha
          refine op_want (yields ha rfl rfl) ?_
          refine op_g ha rfl (g_field0 st60_2 rfl) ?_; clear ha a; intro a ha
          refine op_want (yields ha rfl rfl) ?_
          refine op_g ha rfl (g_load Try.isAgg2 rfl (hB30.cell rfl)) ?_; clear ha a; intro a ha
          refine op_want (yields ha rfl rfl) ?_
          obtain ⟨x57, hc58, hF⟩ := cal_some hF
          refine o_call ha rfl rfl Try.call60 (W_spec_l30SetName ha0_2 hc58) ?_; clear ha a; rintro v59 w60 ⟨rfl, hx61⟩ a ha
          replace hB30 := hB30.ext hx61
          have hE62 := Ext.trans hE55 hx61
          refine op_g ha rfl (g_pick rfl rfl) ?_; clear ha a; intro a ha
          refine op_g ha rfl (g_assign rfl) ?_; clear ha a; intro a ha
          refine wpList_nil ?_
          replace ha := ha.sub (σ' := [(4, (.bool x57))]) ⟨rfl, trivial⟩
          refine e_then ?_
          refine wp_ret ?_
          refine e_blk_ret ?_
          refine e_then_ret ?_
          obtain rfl := Option.some.inj hF
          exact f_ret1 ha rfl rfl ⟨rfl, hE62⟩
        · replace hF := if_f hp56 hF
          rw [show (x50) = false from b_false (Iff.rfl) hp56] at ha
          refine op_unwant ha rfl (yields ha rfl rfl) rfl ?_; clear ha a; intro a ha
          refine op_unwant ha rfl (yields ha rfl rfl) rfl ?_; clear ha a; intro a ha
          refine op_unwant ha rfl (yields ha rfl rfl) rfl ?_; clear ha a; intro a ha
          refine op_g ha rfl (g_pick rfl rfl) ?_; clear ha a; intro a ha
          refine op_g ha rfl (g_assign rfl) ?_; clear ha a; intro a ha
          refine wpList_nil ?_
          replace ha := ha.sub (σ' := [(4, (.bool false))]) ⟨rfl, trivial⟩
          refine e_then ?_
          refine wp_ret ?_
          refine e_blk_ret ?_
          refine e_then_ret ?_
          obtain rfl := Option.some.inj hF
          exact f_ret1 ha rfl rfl ⟨rfl, hE55⟩
      · replace hF := if_f hp49 hF
        refine wp_seq ?_
        refine wp_region_lit ?_
        refine op_g ha rfl (g_eql rfl rfl) ?_; clear ha a; intro a ha
        refine op_g ha rfl (g_assign rfl) ?_; clear ha a; intro a ha
        refine wpList_nil ?_
        replace ha := ha.sub (σ' := [(2, (.pointer (some ⟨b1, 0, none⟩))), (5, (.bool x11)), (6, (.bool x19)), (18, (.int .i64 a0_0)), (40, (.bool (decide (a0_0 = 4))))]) ⟨rfl, rfl, rfl, rfl, rfl, trivial⟩
        refine e_then ?_
        refine c_cond (a0_0 = 4) ha rfl (decide_eq_true_iff) (fun hp63 => ?_) (fun hp63 => ?_)
        · replace hF := if_t hp63 hF
          refine wp_seq ?_
          refine wp_region_lit ?_
          refine op_g ha rfl (g_move rfl) ?_; clear ha a; intro a ha
          refine op_g ha rfl (g_move rfl) ?_; clear ha a; intro a ha
          by_cases hp64 : x11 = true
          · replace hF := if_t hp64 hF
            rw [show (x11) = true from (Iff.rfl).2 hp64] at ha
            refine op_want (yields ha rfl rfl) ?_
            refine op_g ha rfl (g_field0 st60_2 rfl) ?_; clear ha a; intro a ha
            refine op_want (yields ha rfl rfl) ?_
            refine op_g ha rfl (g_load Try.isAgg2 rfl (hB30.cell rfl)) ?_; clear ha a; intro a ha
            refine op_want (yields ha rfl rfl) ?_
            refine op_g ha rfl (g_eql rfl rfl) ?_; clear ha a; intro a ha
            refine op_g ha rfl (g_pick rfl rfl) ?_; clear ha a; intro a ha
            refine op_g ha rfl (g_assign rfl) ?_; clear ha a; intro a ha
            refine wpList_nil ?_
            replace ha := ha.sub (σ' := [(4, (.bool (decide (a0_2 = 0))))]) ⟨rfl, trivial⟩
            refine e_then ?_
            refine wp_ret ?_
            refine e_blk_ret ?_
            refine e_then_ret ?_
            obtain rfl := Option.some.inj hF
            exact f_ret1 ha rfl rfl ⟨rfl, hE33⟩
          · replace hF := if_f hp64 hF
            rw [show (x11) = false from b_false (Iff.rfl) hp64] at ha
            refine op_unwant ha rfl (yields ha rfl rfl) rfl ?_; clear ha a; intro a ha
            refine op_unwant ha rfl (yields ha rfl rfl) rfl ?_; clear ha a; intro a ha
            refine op_unwant ha rfl (yields ha rfl rfl) rfl ?_; clear ha a; intro a ha
            refine op_g ha rfl (g_pick rfl rfl) ?_; clear ha a; intro a ha
            refine op_g ha rfl (g_assign rfl) ?_; clear ha a; intro a ha
            refine wpList_nil ?_
            replace ha := ha.sub (σ' := [(4, (.bool false))]) ⟨rfl, trivial⟩
            refine e_then ?_
            refine wp_ret ?_
            refine e_blk_ret ?_
            refine e_then_ret ?_
            obtain rfl := Option.some.inj hF
            exact f_ret1 ha rfl rfl ⟨rfl, hE33⟩
        · replace hF := if_f hp63 hF
          obtain ⟨o66, ho67, hK68⟩ := bnd_some hF
          have hF := ho67; clear ho67
          refine s_cut (fun a w => ∃ (t72 : Bool), Fr 71 [(2, (.pointer (some ⟨b1, 0, none⟩))), (5, (.bool x11)), (6, (.bool x19)), (18, (.int .i64 a0_0)), (48, (.bool t72))] a ∧ Chg [] W w ∧ Bx w b1 [(.int .i64 a0_0), (.int .i64 a0_1), (.int .i64 a0_2)] 60 ∧ Zn W (b1 : Int) ∧ o66 = .inl t72) ?_ ?_
          · skip
            refine wp_seq ?_
            refine wp_region_lit ?_
            refine op_g ha rfl (g_eql rfl rfl) ?_; clear ha a; intro a ha
            refine op_g ha rfl (g_assign rfl) ?_; clear ha a; intro a ha
            refine wpList_nil ?_
            replace ha := ha.sub (σ' := [(2, (.pointer (some ⟨b1, 0, none⟩))), (5, (.bool x11)), (6, (.bool x19)), (18, (.int .i64 a0_0)), (48, (.bool (decide (a0_0 = 5))))]) ⟨rfl, rfl, rfl, rfl, rfl, trivial⟩
            refine e_then ?_
            refine c_cond (a0_0 = 5) ha rfl (decide_eq_true_iff) (fun hp74 => ?_) (fun hp74 => ?_)
            · replace hF := if_t hp74 hF
              refine wp_skip ?_
              refine e_sq ?_
              obtain rfl := Option.some.inj hF
              exact ⟨decide (a0_0 = 5), ha.sub ⟨rfl, rfl, rfl, rfl, rfl, trivial⟩, hE33, hB30, z31, rfl⟩
            · replace hF := if_f hp74 hF
              refine wp_region_lit ?_
              refine op_g ha rfl (g_eql rfl rfl) ?_; clear ha a; intro a ha
              refine op_g ha rfl (g_assign rfl) ?_; clear ha a; intro a ha
              refine wpList_nil ?_
              replace ha := ha.sub (σ' := [(2, (.pointer (some ⟨b1, 0, none⟩))), (5, (.bool x11)), (6, (.bool x19)), (18, (.int .i64 a0_0)), (48, (.bool (decide (a0_0 = 6))))]) ⟨rfl, rfl, rfl, rfl, rfl, trivial⟩
              refine e_sq ?_
              obtain rfl := Option.some.inj hF
              exact ⟨decide (a0_0 = 6), ha.sub ⟨rfl, rfl, rfl, rfl, rfl, trivial⟩, hE33, hB30, z31, rfl⟩
          · rintro a w69 ⟨t72, ha, hE73, hB70, z71, rfl⟩
            have hF : F_spec_l30Fact_k2 a0_0 a0_1 x11 x19 t72 = some _ := hK68; clear hK68; unfold F_spec_l30Fact_k2 at hF
            refine c_cond (t72 = true) ha rfl (Iff.rfl) (fun hp75 => ?_) (fun hp75 => ?_)
            · replace hF := if_t hp75 hF
              refine wp_seq ?_
              refine wp_region_lit ?_
              refine op_g ha rfl (g_move rfl) ?_; clear ha a; intro a ha
              refine op_g ha rfl (g_move rfl) ?_; clear ha a; intro a ha
              by_cases hp76 : x11 = true
              · replace hF := if_t hp76 hF
                rw [show (x11) = true from (Iff.rfl).2 hp76] at ha
                refine op_want (yields ha rfl rfl) ?_
                refine op_g ha rfl (g_move rfl) ?_; clear ha a; intro a ha
                refine op_g ha rfl (g_pick rfl rfl) ?_; clear ha a; intro a ha
                refine op_g ha rfl (g_assign rfl) ?_; clear ha a; intro a ha
                refine wpList_nil ?_
                replace ha := ha.sub (σ' := [(4, (.bool x19))]) ⟨rfl, trivial⟩
                refine e_then ?_
                refine wp_ret ?_
                refine e_blk_ret ?_
                refine e_then_ret ?_
                obtain rfl := Option.some.inj hF
                exact f_ret1 ha rfl rfl ⟨rfl, hE73⟩
              · replace hF := if_f hp76 hF
                rw [show (x11) = false from b_false (Iff.rfl) hp76] at ha
                refine op_unwant ha rfl (yields ha rfl rfl) rfl ?_; clear ha a; intro a ha
                refine op_g ha rfl (g_pick rfl rfl) ?_; clear ha a; intro a ha
                refine op_g ha rfl (g_assign rfl) ?_; clear ha a; intro a ha
                refine wpList_nil ?_
                replace ha := ha.sub (σ' := [(4, (.bool false))]) ⟨rfl, trivial⟩
                refine e_then ?_
                refine wp_ret ?_
                refine e_blk_ret ?_
                refine e_then_ret ?_
                obtain rfl := Option.some.inj hF
                exact f_ret1 ha rfl rfl ⟨rfl, hE73⟩
            · replace hF := if_f hp75 hF
              refine wp_seq ?_
              refine wp_region_lit ?_
              refine op_g ha rfl (g_eql rfl rfl) ?_; clear ha a; intro a ha
              refine op_g ha rfl (g_assign rfl) ?_; clear ha a; intro a ha
              refine wpList_nil ?_
              replace ha := ha.sub (σ' := [(2, (.pointer (some ⟨b1, 0, none⟩))), (6, (.bool x19)), (18, (.int .i64 a0_0)), (55, (.bool (decide (a0_0 = 7))))]) ⟨rfl, rfl, rfl, rfl, trivial⟩
              refine e_then ?_
              refine c_cond (a0_0 = 7) ha rfl (decide_eq_true_iff) (fun hp77 => ?_) (fun hp77 => ?_)
              · replace hF := if_t hp77 hF
                refine wp_seq ?_
                refine wp_region_lit ?_
                refine op_g ha rfl (g_field0 st60_1 rfl) ?_; clear ha a; intro a ha
                refine op_g ha rfl (g_load Try.isAgg2 rfl (hB70.cell rfl)) ?_; clear ha a; intro a ha
                obtain ⟨x78, hc79, hF⟩ := cal_some hF
                refine o_call ha rfl rfl Try.call59 (W_spec_l30Name ha0_1 hc79) ?_; clear ha a; rintro v80 w81 ⟨rfl, hx82⟩ a ha
                replace hB70 := hB70.ext hx82
                have hE83 := Ext.trans hE73 hx82
                refine op_g ha rfl (g_move rfl) ?_; clear ha a; intro a ha
                by_cases hp84 : x78 = true
                · replace hF := if_t hp84 hF
                  rw [show (x78) = true from (Iff.rfl).2 hp84] at ha
                  refine op_want (yields ha rfl rfl) ?_
                  refine op_g ha rfl (g_move rfl) ?_; clear ha a; intro a ha
                  refine op_g ha rfl (g_pick rfl rfl) ?_; clear ha a; intro a ha
                  refine op_g ha rfl (g_assign rfl) ?_; clear ha a; intro a ha
                  refine wpList_nil ?_
                  replace ha := ha.sub (σ' := [(4, (.bool x19))]) ⟨rfl, trivial⟩
                  refine e_then ?_
                  refine wp_ret ?_
                  refine e_blk_ret ?_
                  refine e_then_ret ?_
                  obtain rfl := Option.some.inj hF
                  exact f_ret1 ha rfl rfl ⟨rfl, hE83⟩
                · replace hF := if_f hp84 hF
                  rw [show (x78) = false from b_false (Iff.rfl) hp84] at ha
                  refine op_unwant ha rfl (yields ha rfl rfl) rfl ?_; clear ha a; intro a ha
                  refine op_g ha rfl (g_pick rfl rfl) ?_; clear ha a; intro a ha
                  refine op_g ha rfl (g_assign rfl) ?_; clear ha a; intro a ha
                  refine wpList_nil ?_
                  replace ha := ha.sub (σ' := [(4, (.bool false))]) ⟨rfl, trivial⟩
                  refine e_then ?_
                  refine wp_ret ?_
                  refine e_blk_ret ?_
                  refine e_then_ret ?_
                  obtain rfl := Option.some.inj hF
                  exact f_ret1 ha rfl rfl ⟨rfl, hE83⟩
              · replace hF := if_f hp77 hF
                refine wp_seq ?_
                refine wp_region_lit ?_
                refine op_g ha rfl (g_eql rfl rfl) ?_; clear ha a; intro a ha
                refine op_g ha rfl (g_assign rfl) ?_; clear ha a; intro a ha
                refine wpList_nil ?_
                replace ha := ha.sub (σ' := [(2, (.pointer (some ⟨b1, 0, none⟩))), (6, (.bool x19)), (63, (.bool (decide (a0_0 = 8))))]) ⟨rfl, rfl, rfl, trivial⟩
                refine e_then ?_
                refine c_cond (a0_0 = 8) ha rfl (decide_eq_true_iff) (fun hp85 => ?_) (fun hp85 => ?_)
                · replace hF := if_t hp85 hF
                  refine wp_seq ?_
                  refine wp_region_lit ?_
                  refine op_g ha rfl (g_field0 st60_1 rfl) ?_; clear ha a; intro a ha
                  refine op_g ha rfl (g_load Try.isAgg2 rfl (hB70.cell rfl)) ?_; clear ha a; intro a ha
                  obtain ⟨x86, hc87, hF⟩ := cal_some hF
                  refine o_call ha rfl rfl Try.call60 (W_spec_l30SetName ha0_1 hc87) ?_; clear ha a; rintro v88 w89 ⟨rfl, hx90⟩ a ha
                  replace hB70 := hB70.ext hx90
                  have hE91 := Ext.trans hE73 hx90
                  refine op_g ha rfl (g_move rfl) ?_; clear ha a; intro a ha
                  by_cases hp92 : x86 = true
                  · replace hF := if_t hp92 hF
                    rw [show (x86) = true from (Iff.rfl).2 hp92] at ha
                    refine op_want (yields ha rfl rfl) ?_
                    refine op_g ha rfl (g_move rfl) ?_; clear ha a; intro a ha
                    refine op_g ha rfl (g_pick rfl rfl) ?_; clear ha a; intro a ha
                    refine op_g ha rfl (g_assign rfl) ?_; clear ha a; intro a ha
                    refine wpList_nil ?_
                    replace ha := ha.sub (σ' := [(4, (.bool x19))]) ⟨rfl, trivial⟩
                    refine e_then ?_
                    refine wp_ret ?_
                    refine e_blk_ret ?_
                    refine e_then_ret ?_
                    obtain rfl := Option.some.inj hF
                    exact f_ret1 ha rfl rfl ⟨rfl, hE91⟩
                  · replace hF := if_f hp92 hF
                    rw [show (x86) = false from b_false (Iff.rfl) hp92] at ha
                    refine op_unwant ha rfl (yields ha rfl rfl) rfl ?_; clear ha a; intro a ha
                    refine op_g ha rfl (g_pick rfl rfl) ?_; clear ha a; intro a ha
                    refine op_g ha rfl (g_assign rfl) ?_; clear ha a; intro a ha
                    refine wpList_nil ?_
                    replace ha := ha.sub (σ' := [(4, (.bool false))]) ⟨rfl, trivial⟩
                    refine e_then ?_
                    refine wp_ret ?_
                    refine e_blk_ret ?_
                    refine e_then_ret ?_
                    obtain rfl := Option.some.inj hF
                    exact f_ret1 ha rfl rfl ⟨rfl, hE91⟩
                · replace hF := if_f hp85 hF
                  refine wp_skip ?_
                  refine e_blk ?_
                  refine e_then ?_
                  refine wp_seq ?_
                  refine wp_region_lit ?_
                  refine op_g ha rfl (g_assign rfl) ?_; clear ha a; intro a ha
                  refine wpList_nil ?_
                  replace ha := ha.sub (σ' := [(4, (.bool false))]) ⟨rfl, trivial⟩
                  refine e_then ?_
                  refine wp_ret ?_
                  obtain rfl := Option.some.inj hF
                  exact f_ret1 ha rfl rfl ⟨rfl, hE73⟩
set_option maxHeartbeats 2000000 in
theorem W_spec_FormulaOk {W : World} {va0_0 : Value} {fa0_0 : List Nat} {a0_0 : (List (Int × (Int × Int)))} (ha0_0 : Ro (Rp.prod Rp.int (Rp.prod Rp.int Rp.int)) W fa0_0 va0_0 a0_0) {r : Bool} (hF : F_spec_FormulaOk a0_0 = some r) :
    Calls Try.prog 26 [.agg #[va0_0]].toArray W (Ret fun u w' => u = .bool r ∧ Ext W w') := by
  refine f_enter Try.func26 rfl Try.ntmps26 rfl ?_
  intro a ha
  replace ha : Fr 24 [(0, (.agg #[va0_0]))] a := ha
  have hE : Chg [] W W := Chg.refl _ _
  unfold F_spec_FormulaOk at hF
  refine wp_seq ?_
  refine wp_region_lit ?_
  refine o_box ha rfl rfl rfl ?_; clear ha a; intro b1 w2 hB3 hx4 hlo5 a ha
  have q6 := Zn.one hlo5
  have q7 := Zn.upD q6 hE
  have hE8 := Ext.trans hE hx4
  refine op_g ha rfl (g_assign rfl) ?_; clear ha a; intro a ha
  refine wpList_nil ?_
  replace ha := ha.sub (σ' := [(1, (.pointer (some ⟨b1, 0, none⟩)))]) ⟨rfl, trivial⟩
  refine e_then ?_
  refine wp_seq ?_
  refine wp_seq ?_
  refine wp_region_lit ?_
  refine op_g ha rfl (g_field0 st29_0 rfl) ?_; clear ha a; intro a ha
  refine op_g ha rfl (g_load Try.isAgg27 rfl (hB3.cell rfl)) ?_; clear ha a; intro a ha
  refine op_g ha rfl (g_lenR sl27.und ha0_0 rfl) ?_; clear ha a; intro a ha
  obtain ⟨x9, hc10, hF⟩ := cal_some hF
  refine o_call ha rfl rfl Try.call38 (W_spec_l1In ha0_0.len (show InI 1 from by decide) (show InI 40 from by decide) hc10) ?_; clear ha a; rintro v11 w12 ⟨rfl, hx13⟩ a ha
  replace hB3 := hB3.ext hx13
  have hE14 := Ext.trans hE8 hx13
  refine op_g ha rfl (g_not rfl) ?_; clear ha a; intro a ha
  refine wpList_nil ?_
  replace ha := ha.sub (σ' := [(1, (.pointer (some ⟨b1, 0, none⟩))), (8, (.bool (!x9)))]) ⟨rfl, rfl, trivial⟩
  refine e_then ?_
  refine c_cond (¬ (x9 = true)) ha rfl (n_iff (Iff.rfl)) (fun hp15 => ?_) (fun hp15 => ?_)
  · replace hF := if_t hp15 hF
    refine wp_seq ?_
    refine wp_region_lit ?_
    refine op_g ha rfl (g_assign rfl) ?_; clear ha a; intro a ha
    refine wpList_nil ?_
    replace ha := ha.sub (σ' := [(2, (.bool false))]) ⟨rfl, trivial⟩
    refine e_then ?_
    refine wp_ret ?_
    refine e_then_ret ?_
    obtain rfl := Option.some.inj hF
    exact f_ret1 ha rfl rfl ⟨rfl, hE14⟩
  · replace hF := if_f hp15 hF
    refine wp_skip ?_
    refine e_then ?_
    refine wp_seq ?_
    refine wp_seq ?_
    refine wp_region_lit ?_
    refine op_g ha rfl (g_assign rfl) ?_; clear ha a; intro a ha
    refine wpList_nil ?_
    replace ha := ha.sub (σ' := [(1, (.pointer (some ⟨b1, 0, none⟩))), (3, (.int .i64 0))]) ⟨rfl, rfl, trivial⟩
    refine e_then ?_
    obtain ⟨o117, ho118, hK119⟩ := bnd_some hF
    obtain ⟨n120, hn121⟩ := lp_some ho118; clear ho118
    refine c_loop (fun a w => Fr 24 [] a ∧ Chg [] W w ∧ o117 = .inl ()) (fun n a w => ∃ (i68 : Int), Fr 24 [(1, (.pointer (some ⟨b1, 0, none⟩))), (3, (.int .i64 i68))] a ∧ Chg [] W w ∧ InI i68 ∧ Bx w b1 [va0_0] 29 ∧ Zn W (b1 : Int) ∧ lpN (fun s => F_spec_FormulaOk_l1 a0_0 s) n i68 = some o117) n120 ⟨0, ha.sub ⟨rfl, rfl, trivial⟩, hE14, (show InI 0 from by decide), hB3, q7, hn121⟩ ?_ ?_
    · rintro m125 a w65 ⟨i68, ha, hE70, hI69, hB66, z67, hF⟩
      cases m125 with
      | zero => exact (lpN_zero hF).elim
      | succ m125 =>
        obtain ⟨z124, hF, hN123⟩ := lpN_succ hF
        have hF : F_spec_FormulaOk_l1 a0_0 i68 = some z124 := hF; unfold F_spec_FormulaOk_l1 at hF
        refine wp_seq ?_
        refine wp_seq ?_
        refine wp_region_lit ?_
        refine op_g ha rfl (g_move rfl) ?_; clear ha a; intro a ha
        refine op_g ha rfl (g_field0 st29_0 rfl) ?_; clear ha a; intro a ha
        refine op_g ha rfl (g_load Try.isAgg27 rfl (hB66.cell rfl)) ?_; clear ha a; intro a ha
        refine op_g ha rfl (g_lenR sl27.und ha0_0 rfl) ?_; clear ha a; intro a ha
        refine op_g ha rfl (g_lss rfl rfl) ?_; clear ha a; intro a ha
        refine wpList_nil ?_
        replace ha := ha.sub (σ' := [(1, (.pointer (some ⟨b1, 0, none⟩))), (3, (.int .i64 i68)), (13, (.bool (decide (i68 < (a0_0.length : Int)))))]) ⟨rfl, rfl, rfl, trivial⟩
        refine e_then ?_
        refine c_cond (i68 < (a0_0.length : Int)) ha rfl (decide_eq_true_iff) (fun hp126 => ?_) (fun hp126 => ?_)
        · replace hF := if_t hp126 hF
          refine wp_skip ?_
          refine e_then ?_
          refine wp_seq ?_
          refine wp_block ?_
          refine wp_seq ?_
          refine wp_region_lit ?_
          refine op_g ha rfl (g_field0 st29_0 rfl) ?_; clear ha a; intro a ha
          refine op_g ha rfl (g_load Try.isAgg27 rfl (hB66.cell rfl)) ?_; clear ha a; intro a ha
          refine op_g ha rfl (g_move rfl) ?_; clear ha a; intro a ha
          obtain ⟨x127, g128, gx129, hF⟩ := idx_some hF
          obtain ⟨p130, cs131, f132, hf133, hpb134, hat135, hr136, hi137⟩ := ha0_0.at g128 gx129
          obtain ⟨f138, f139, c140, c141, rfl, rfl, h142, h143⟩ := hr136
          obtain ⟨rfl, hI146, rfl⟩ := h142
          obtain ⟨f147, f148, c149, c150, rfl, rfl, h151, h152⟩ := h143
          obtain ⟨rfl, hI155, rfl⟩ := h151
          obtain ⟨rfl, hI156, rfl⟩ := h152
          refine op_g ha rfl (hi137.gives sl27 rfl rfl) ?_; clear ha a; intro a ha
          refine op_g ha rfl (g_loadA0 (cs := [(.int .i64 x127.1), (.int .i64 x127.2.1), (.int .i64 x127.2.2)]) hE70 Try.isAgg60 Try.sizeOf60 rfl (by simp) hat135) ?_; clear ha a; intro a ha
          refine op_g ha rfl (g_move rfl) ?_; clear ha a; intro a ha
          obtain ⟨x157, hc158, hF⟩ := cal_some hF
          refine o_call ha rfl rfl Try.call47 (W_spec_l30Fact hI146 hI155 hI156 hI69 hc158) ?_; clear ha a; rintro v159 w160 ⟨rfl, hx161⟩ a ha
          replace hB66 := hB66.ext hx161
          have hE162 := Ext.trans hE70 hx161
          refine op_g ha rfl (g_not rfl) ?_; clear ha a; intro a ha
          refine wpList_nil ?_
          replace ha := ha.sub (σ' := [(1, (.pointer (some ⟨b1, 0, none⟩))), (3, (.int .i64 i68)), (23, (.bool (!x157)))]) ⟨rfl, rfl, rfl, trivial⟩
          refine e_then ?_
          refine c_cond (¬ (x157 = true)) ha rfl (n_iff (Iff.rfl)) (fun hp163 => ?_) (fun hp163 => ?_)
          · replace hF := if_t hp163 hF
            refine wp_seq ?_
            refine wp_region_lit ?_
            refine op_g ha rfl (g_assign rfl) ?_; clear ha a; intro a ha
            refine wpList_nil ?_
            replace ha := ha.sub (σ' := [(2, (.bool false))]) ⟨rfl, trivial⟩
            refine e_then ?_
            refine wp_ret ?_
            refine e_blk_ret ?_
            refine e_then_ret ?_
            refine e_lq_ret ?_
            refine e_then_ret ?_
            obtain rfl := Option.some.inj hF
            have e164 := LK_inr hN123; subst e164
            have e165 := BK_inr hK119; subst e165
            exact f_ret1 ha rfl rfl ⟨rfl, hE162⟩
          · replace hF := if_f hp163 hF
            refine wp_skip ?_
            refine e_blk ?_
            refine e_then ?_
            refine wp_region_lit ?_
            refine op_g ha rfl (g_move rfl) ?_; clear ha a; intro a ha
            obtain ⟨hI166, hF⟩ := ck_some hF
            refine op_g ha rfl (g_add rfl rfl hI166) ?_; clear ha a; intro a ha
            refine op_g ha rfl (g_assign rfl) ?_; clear ha a; intro a ha
            refine wpList_nil ?_
            replace ha := ha.sub (σ' := [(1, (.pointer (some ⟨b1, 0, none⟩))), (3, (.int .i64 (i68 + 1)))]) ⟨rfl, rfl, trivial⟩
            refine e_lq ?_
            obtain rfl := Option.some.inj hF
            exact ⟨_, Nat.lt_succ_self _, i68 + 1, ha.sub ⟨rfl, rfl, trivial⟩, hE162, hI166, hB66, z67, hN123⟩
        · replace hF := if_f hp126 hF
          refine wp_exit ?_
          refine e_then_exit ?_
          refine e_lq_eq ?_
          obtain rfl := Option.some.inj hF
          exact ⟨ha.sub trivial, hE70, (LK_inr hN123).symm⟩
    · rintro a w116 ⟨ha, hE122, rfl⟩
      have hF : F_spec_FormulaOk_k2 = some _ := hK119; clear hK119; unfold F_spec_FormulaOk_k2 at hF
      refine e_then ?_
      refine wp_seq ?_
      refine wp_region_lit ?_
      refine op_g ha rfl (g_assign rfl) ?_; clear ha a; intro a ha
      refine wpList_nil ?_
      refine e_then ?_
      refine wp_ret ?_
      obtain rfl := Option.some.inj hF
      exact f_ret1 ha rfl rfl ⟨rfl, hE122⟩
set_option maxHeartbeats 2000000 in
theorem W_spec_NegatedOf {W : World} {va0_0 : Value} {fa0_0 : List Nat} {a0_0 : (List (Int × (Int × Int)))} (ha0_0 : Ro (Rp.prod Rp.int (Rp.prod Rp.int Rp.int)) W fa0_0 va0_0 a0_0) {r : ((List (Int × (Int × Int))) × Bool)} (hF : F_spec_NegatedOf a0_0 = some r) :
    Calls Try.prog 34 [.agg #[va0_0]].toArray W (Ret fun u w' => ∃ (u0 : Value) (u1 : Value) (u0_0 : Value) (b_u0_0 : Int), u = .tuple #[u0, u1] ∧ u0 = .agg #[u0_0] ∧ Ow (Rp.prod Rp.int (Rp.prod Rp.int Rp.int)) 60 true w' [] b_u0_0 u0_0 r.1 ∧ Zn W b_u0_0 ∧ u1 = .bool r.2 ∧ Ext W w') := by
  refine f_enter Try.func34 rfl Try.ntmps34 rfl ?_
  intro a ha
  replace ha : Fr 26 [(0, (.agg #[va0_0]))] a := ha
  have hE : Chg [] W W := Chg.refl _ _
  unfold F_spec_NegatedOf at hF
  refine wp_seq ?_
  refine wp_region_lit ?_
  refine o_box ha rfl rfl rfl ?_; clear ha a; intro b1 w2 hB3 hx4 hlo5 a ha
  have q6 := Zn.one hlo5
  have q7 := Zn.upD q6 hE
  have hE8 := Ext.trans hE hx4
  refine o_alloc (cs := [(.slice none 0 0)]) ha rfl Try.zeroValue29 rfl ?_; clear ha a; intro b9 w10 hB11 hx12 hlo13 a ha
  have q14 := Zn.one hlo13
  have q15 := Nq.new hB3.fpb q14
  have q16 := Nq.made1 hlo13 hB3.bi
  have q17 := Zn.upD q14 hE8
  replace hB3 := hB3.ext hx12
  have hE18 := Ext.trans hE8 hx12
  refine op_g ha rfl (g_assign rfl) ?_; clear ha a; intro a ha
  refine wpList_nil ?_
  replace ha := ha.sub (σ' := [(1, (.pointer (some ⟨b1, 0, none⟩))), (2, (.pointer (some ⟨b9, 0, none⟩)))]) ⟨rfl, rfl, trivial⟩
  refine e_then ?_
  refine wp_seq ?_
  refine wp_region_lit ?_
  refine op_g ha rfl (g_field0 st29_0 rfl) ?_; clear ha a; intro a ha
  refine op_g ha rfl (g_load Try.isAgg27 rfl (hB3.cell rfl)) ?_; clear ha a; intro a ha
  refine op_g ha rfl (g_lenR sl27.und ha0_0 rfl) ?_; clear ha a; intro a ha
  refine op_g ha rfl (g_assign rfl) ?_; clear ha a; intro a ha
  refine wpList_nil ?_
  replace ha := ha.sub (σ' := [(1, (.pointer (some ⟨b1, 0, none⟩))), (2, (.pointer (some ⟨b9, 0, none⟩))), (4, (.int .i64 (a0_0.length : Int)))]) ⟨rfl, rfl, rfl, trivial⟩
  refine e_then ?_
  refine wp_seq ?_
  refine wp_seq ?_
  refine wp_region_lit ?_
  refine op_g ha rfl (g_loadA (cs := [va0_0]) Try.isAgg29 Try.sizeOf29 rfl (by simp) hB3.all) ?_; clear ha a; intro a ha
  obtain ⟨x19, hc20, hF⟩ := cal_some hF
  refine o_call ha rfl rfl Try.call26 (W_spec_FormulaOk (ha0_0.ext hE18) hc20) ?_; clear ha a; rintro v21 w22 ⟨rfl, hx23⟩ a ha
  replace hB3 := hB3.ext hx23
  replace hB11 := hB11.ext hx23
  have hE24 := Ext.trans hE18 hx23
  refine op_g ha rfl (g_not rfl) ?_; clear ha a; intro a ha
  refine op_g ha rfl (g_move rfl) ?_; clear ha a; intro a ha
  by_cases hp25 : ¬ (x19 = true)
  · replace hF := if_t hp25 hF
    rw [show (!x19) = true from (n_iff (Iff.rfl)).2 hp25] at ha
    refine op_unwant ha rfl (yields ha rfl rfl) rfl ?_; clear ha a; intro a ha
    refine op_unwant ha rfl (yields ha rfl rfl) rfl ?_; clear ha a; intro a ha
    refine op_g ha rfl (g_pick rfl rfl) ?_; clear ha a; intro a ha
    refine wpList_nil ?_
    replace ha := ha.sub (σ' := [(1, (.pointer (some ⟨b1, 0, none⟩))), (2, (.pointer (some ⟨b9, 0, none⟩))), (4, (.int .i64 (a0_0.length : Int))), (14, (.bool true))]) ⟨rfl, rfl, rfl, rfl, trivial⟩
    refine e_then ?_
    refine c_true ha rfl ?_
    refine wp_seq ?_
    refine wp_region_lit ?_
    refine op_g ha rfl (g_build (vs := []) (cells := #[(.slice none 0 0)]) rfl (by rfl)) ?_; clear ha a; intro a ha
    refine o_storeA (vs := [(.slice none 0 0)]) ha hB11 Try.sizeOf29 rfl rfl (by intro c hc; simp only [List.mem_cons, List.not_mem_nil, or_false] at hc; rcases hc with hc <;> subst hc <;> first | rfl | exact rfl) rfl ?_; intro w26 hB27 hc28
    replace hc28 := hc28.bl
    replace hB27 : Bx w26 b9 [(.slice none 0 0)] 29 := hB27
    replace hB3 := hB3.nq hc28 q15
    have hE29 := Ext.then hE24 hc28 (Zn.bl q17)
    refine op_g ha rfl (g_assign rfl) ?_; clear ha a; intro a ha
    refine wpList_nil ?_
    replace ha := ha.sub (σ' := [(2, (.pointer (some ⟨b9, 0, none⟩))), (3, (.bool false))]) ⟨rfl, rfl, trivial⟩
    refine e_then ?_
    refine wp_ret ?_
    refine e_then_ret ?_
    obtain rfl := Option.some.inj hF
    exact f_retC2 (cs := [(.slice none 0 0)]) ha rfl rfl Try.isAgg29 Try.sizeOf29 hB27 rfl ⟨_, _, _, -1, rfl, rfl, (Ow.nil (by decide)), (.inl (by decide)), rfl, hE29⟩
  · replace hF := if_f hp25 hF
    rw [show (!x19) = false from b_false (n_iff (Iff.rfl)) hp25] at ha
    refine op_want (yields ha rfl rfl) ?_
    refine op_g ha rfl (g_move rfl) ?_; clear ha a; intro a ha
    refine op_want (yields ha rfl rfl) ?_
    refine op_g ha rfl (g_geq rfl rfl) ?_; clear ha a; intro a ha
    refine op_g ha rfl (g_pick rfl rfl) ?_; clear ha a; intro a ha
    refine wpList_nil ?_
    replace ha := ha.sub (σ' := [(1, (.pointer (some ⟨b1, 0, none⟩))), (2, (.pointer (some ⟨b9, 0, none⟩))), (4, (.int .i64 (a0_0.length : Int))), (14, (.bool (decide (40 ≤ (a0_0.length : Int)))))]) ⟨rfl, rfl, rfl, rfl, trivial⟩
    refine e_then ?_
    refine c_cond (40 ≤ (a0_0.length : Int)) ha rfl (decide_eq_true_iff) (fun hp30 => ?_) (fun hp30 => ?_)
    · replace hF := if_t hp30 hF
      refine wp_seq ?_
      refine wp_region_lit ?_
      refine op_g ha rfl (g_build (vs := []) (cells := #[(.slice none 0 0)]) rfl (by rfl)) ?_; clear ha a; intro a ha
      refine o_storeA (vs := [(.slice none 0 0)]) ha hB11 Try.sizeOf29 rfl rfl (by intro c hc; simp only [List.mem_cons, List.not_mem_nil, or_false] at hc; rcases hc with hc <;> subst hc <;> first | rfl | exact rfl) rfl ?_; intro w31 hB32 hc33
      replace hc33 := hc33.bl
      replace hB32 : Bx w31 b9 [(.slice none 0 0)] 29 := hB32
      replace hB3 := hB3.nq hc33 q15
      have hE34 := Ext.then hE24 hc33 (Zn.bl q17)
      refine op_g ha rfl (g_assign rfl) ?_; clear ha a; intro a ha
      refine wpList_nil ?_
      replace ha := ha.sub (σ' := [(2, (.pointer (some ⟨b9, 0, none⟩))), (3, (.bool false))]) ⟨rfl, rfl, trivial⟩
      refine e_then ?_
      refine wp_ret ?_
      refine e_then_ret ?_
      obtain rfl := Option.some.inj hF
      exact f_retC2 (cs := [(.slice none 0 0)]) ha rfl rfl Try.isAgg29 Try.sizeOf29 hB32 rfl ⟨_, _, _, -1, rfl, rfl, (Ow.nil (by decide)), (.inl (by decide)), rfl, hE34⟩
    · replace hF := if_f hp30 hF
      refine wp_skip ?_
      refine e_then ?_
      refine wp_seq ?_
      refine wp_region_lit ?_
      refine o_lit0 (Rp.prod Rp.int (Rp.prod Rp.int Rp.int)) ha rfl sl27 ?_; clear ha a; intro v35 w36 h37 hx38 a ha
      obtain ⟨b40, hb40⟩ : ∃ b : Int, b = w22.heap.size := ⟨_, rfl⟩; rw [← hb40] at h37
      have q41 := zn_of hb40
      have q42 := Nq.new hB3.fpb q41
      have q43 := Nq.madeO q41 hB3.bi
      have q44 := Nq.new hB11.fpb q41
      have q45 := Nq.madeO q41 hB11.bi
      have q46 := Zn.upD q41 hE24
      replace hB3 := hB3.ext hx38
      replace hB11 := hB11.ext hx38
      have hE47 := Ext.trans hE24 hx38
      refine op_g ha rfl (g_field0 st29_0 rfl) ?_; clear ha a; intro a ha
      refine op_g ha rfl (g_load Try.isAgg27 rfl (hB3.cell rfl)) ?_; clear ha a; intro a ha
      obtain ⟨hl48, hF⟩ := app_some hF
      obtain ⟨_, hs49, _⟩ := (ha0_0.ext hE47).src
      refine o_append ha rfl sl27 rfl rfl rfl h37 (hs49.up (scal_prod scal_int (scal_prod scal_int scal_int))) (Nq.nil _) hl48 ?_; clear ha a; intro v50 w51 b52 h53 hc54 hb55 a ha
      replace h53 : Ow (Rp.prod Rp.int (Rp.prod Rp.int Rp.int)) 60 true w51 [] b52 v50 _ := h53
      have q57 := Nq.appY q42 hB3.fpb hb55
      have q58 := Nq.appX q43 (Nq.nil _) hb55 hB3.bi
      have q59 := Nq.appY q44 hB11.fpb hb55
      have q60 := Nq.appX q45 (Nq.nil _) hb55 hB11.bi
      have q61 := Zn.appD q46 hb55 hE47
      replace hB3 := hB3.nq hc54 q42
      replace hB11 := hB11.nq hc54 q44
      have hE62 := Ext.then hE47 hc54 (Zn.bl q46)
      refine op_g ha rfl (g_move rfl) ?_; clear ha a; intro a ha
      obtain ⟨hI63, hF⟩ := ck_some hF
      refine op_g ha rfl (g_sub rfl rfl hI63) ?_; clear ha a; intro a ha
      refine op_g ha rfl (g_build (vs := [(0, (.int .i64 4)), (1, (.int .i64 ((a0_0.length : Int) - 1)))]) (cells := #[(.int .i64 4), (.int .i64 ((a0_0.length : Int) - 1)), (.int .i64 0)]) rfl (by rfl)) ?_; clear ha a; intro a ha
      refine o_lit1 (o := true) (y := (4, (a0_0.length : Int) - 1, 0)) (Rp.prod Rp.int (Rp.prod Rp.int Rp.int)) ha rfl sl27 rfl rfl rfl ⟨[], [], [_], _, rfl, rfl, ⟨rfl, (show InI 4 from by decide), rfl⟩, ⟨[], [], [_], _, rfl, rfl, ⟨rfl, hI63, rfl⟩, ⟨rfl, (show InI 0 from by decide), rfl⟩⟩⟩ ?_; clear ha a; intro v65 w66 h67 hx68 a ha
      obtain ⟨b70, hb70⟩ : ∃ b : Int, b = w51.heap.size := ⟨_, rfl⟩; rw [← hb70] at h67
      have q71 := zn_of hb70
      have q72 := Nq.new hB3.fpb q71
      have q73 := Nq.madeO q71 hB3.bi
      have q74 := Nq.new hB11.fpb q71
      have q75 := Nq.madeO q71 hB11.bi
      have q76 := Nq.new h53.fpb q71
      have q77 := Nq.madeO q71 h53.blt
      have q78 := Zn.upD q71 hE62
      replace hB3 := hB3.ext hx68
      replace hB11 := hB11.ext hx68
      replace h53 := h53.ext hx68
      have hE79 := Ext.trans hE62 hx68
      obtain ⟨hl80, hF⟩ := app_some hF
      refine o_append ha rfl sl27 rfl rfl rfl h53 h67.src (Nq.nil _) hl80 ?_; clear ha a; intro v81 w82 b83 h84 hc85 hb86 a ha
      replace h84 : Ow (Rp.prod Rp.int (Rp.prod Rp.int Rp.int)) 60 true w82 [] b83 v81 _ := h84
      have q88 := Nq.appY q57 hB3.fpb hb86
      have q89 := Nq.appX q58 (Nq.nil _) hb86 hB3.bi
      have q90 := Nq.appY q59 hB11.fpb hb86
      have q91 := Nq.appX q60 (Nq.nil _) hb86 hB11.bi
      have q92 := Nq.appY q77 h67.fpb hb86
      have q93 := Nq.appX q76 (Nq.nil _) hb86 h67.blt
      have q94 := Zn.appD q61 hb86 hE79
      replace hB3 := hB3.nq hc85 q57
      replace hB11 := hB11.nq hc85 q59
      replace h67 := h67.nq hc85 q77
      have hE95 := Ext.then hE79 hc85 (Zn.bl q61)
      refine op_g ha rfl (g_build (vs := [(0, v81)]) (cells := #[v81]) rfl (by obtain ⟨_, _, rfl⟩ := h84.shape ; rfl)) ?_; clear ha a; intro a ha
      refine o_storeA (vs := [v81]) ha hB11 Try.sizeOf29 rfl rfl (by intro c hc; simp only [List.mem_cons, List.not_mem_nil, or_false] at hc; rcases hc with hc <;> subst hc <;> first | rfl | exact h84.oneC) rfl ?_; intro w96 hB97 hc98
      replace hc98 := hc98.bl
      replace hB97 : Bx w96 b9 [v81] 29 := hB97
      replace hB3 := hB3.nq hc98 q15
      replace h67 := h67.nq hc98 q75
      replace h84 := h84.nq hc98 q91
      have hE99 := Ext.then hE95 hc98 (Zn.bl q17)
      refine op_g ha rfl (g_assign rfl) ?_; clear ha a; intro a ha
      refine wpList_nil ?_
      replace ha := ha.sub (σ' := [(2, (.pointer (some ⟨b9, 0, none⟩))), (3, (.bool true))]) ⟨rfl, rfl, trivial⟩
      refine e_then ?_
      refine wp_ret ?_
      obtain rfl := Option.some.inj hF
      exact f_retC2 (cs := [v81]) ha rfl rfl Try.isAgg29 Try.sizeOf29 hB97 rfl ⟨_, _, _, _, rfl, rfl, h84, q94, rfl, hE99⟩
set_option maxHeartbeats 2000000 in
theorem W_impl_inRange {W : World} {a0 : Int} (ha0 : InI a0) {a1 : Int} (ha1 : InI a1) {a2 : Int} (ha2 : InI a2) {r : Bool} (hF : F_impl_inRange a0 a1 a2 = some r) :
    Calls Try.prog 43 [.int .i64 a0, .int .i64 a1, .int .i64 a2].toArray W (Ret fun u w' => u = .bool r ∧ Ext W w') := by
  refine f_enter Try.func43 rfl Try.ntmps43 rfl ?_
  intro a ha
  replace ha : Fr 15 [(0, (.int .i64 a0)), (1, (.int .i64 a1)), (2, (.int .i64 a2))] a := ha
  have hE : Chg [] W W := Chg.refl _ _
  unfold F_impl_inRange at hF
  refine wp_seq ?_
  refine wp_region_lit ?_
  refine op_g ha rfl (g_assign rfl) ?_; clear ha a; intro a ha
  refine wpList_nil ?_
  replace ha := ha.sub (σ' := [(0, (.int .i64 a0)), (1, (.int .i64 a1)), (2, (.int .i64 a2))]) ⟨rfl, rfl, rfl, trivial⟩
  refine e_then ?_
  refine wp_seq ?_
  refine wp_region_lit ?_
  refine op_g ha rfl (g_move rfl) ?_; clear ha a; intro a ha
  refine op_g ha rfl (g_move rfl) ?_; clear ha a; intro a ha
  refine op_g ha rfl (g_leq rfl rfl) ?_; clear ha a; intro a ha
  refine op_g ha rfl (g_move rfl) ?_; clear ha a; intro a ha
  by_cases hp1 : a1 ≤ a0
  · replace hF := if_t hp1 hF
    rw [show (decide (a1 ≤ a0)) = true from (decide_eq_true_iff).2 hp1] at ha
    refine op_want (yields ha rfl rfl) ?_
    refine op_g ha rfl (g_move rfl) ?_; clear ha a; intro a ha
    refine op_want (yields ha rfl rfl) ?_
    refine op_g ha rfl (g_move rfl) ?_; clear ha a; intro a ha
    refine op_want (yields ha rfl rfl) ?_
    refine op_g ha rfl (g_leq rfl rfl) ?_; clear ha a; intro a ha
    refine op_g ha rfl (g_pick rfl rfl) ?_; clear ha a; intro a ha
    refine op_g ha rfl (g_assign rfl) ?_; clear ha a; intro a ha
    refine wpList_nil ?_
    replace ha := ha.sub (σ' := [(6, (.bool (decide (a0 ≤ a2))))]) ⟨rfl, trivial⟩
    refine e_then ?_
    refine wp_ret ?_
    obtain rfl := Option.some.inj hF
    exact f_ret1 ha rfl rfl ⟨rfl, hE⟩
  · replace hF := if_f hp1 hF
    rw [show (decide (a1 ≤ a0)) = false from b_false (decide_eq_true_iff) hp1] at ha
    refine op_unwant ha rfl (yields ha rfl rfl) rfl ?_; clear ha a; intro a ha
    refine op_unwant ha rfl (yields ha rfl rfl) rfl ?_; clear ha a; intro a ha
    refine op_unwant ha rfl (yields ha rfl rfl) rfl ?_; clear ha a; intro a ha
    refine op_g ha rfl (g_pick rfl rfl) ?_; clear ha a; intro a ha
    refine op_g ha rfl (g_assign rfl) ?_; clear ha a; intro a ha
    refine wpList_nil ?_
    replace ha := ha.sub (σ' := [(6, (.bool false))]) ⟨rfl, trivial⟩
    refine e_then ?_
    refine wp_ret ?_
    obtain rfl := Option.some.inj hF
    exact f_ret1 ha rfl rfl ⟨rfl, hE⟩
set_option maxHeartbeats 2000000 in
theorem W_impl_goodFact_1 {W : World} {a0 : Int} (ha0 : InI a0) {r : Bool} (hF : F_impl_goodFact_1 a0 = some r) :
    Calls Try.prog 62 [.int .i64 a0].toArray W (Ret fun u w' => u = .bool r ∧ Ext W w') := by
  refine f_enter Try.func62 rfl Try.ntmps62 rfl ?_
  intro a ha
  replace ha : Fr 5 [(0, (.int .i64 a0))] a := ha
  have hE : Chg [] W W := Chg.refl _ _
  unfold F_impl_goodFact_1 at hF
  refine wp_seq ?_
  refine wp_region_lit ?_
  refine op_g ha rfl (g_assign rfl) ?_; clear ha a; intro a ha
  refine wpList_nil ?_
  replace ha := ha.sub (σ' := [(0, (.int .i64 a0))]) ⟨rfl, trivial⟩
  refine e_then ?_
  refine wp_seq ?_
  refine wp_region_lit ?_
  refine op_g ha rfl (g_move rfl) ?_; clear ha a; intro a ha
  obtain ⟨x1, hc2, hF⟩ := cal_some hF
  refine o_call ha rfl rfl Try.call43 (W_impl_inRange ha0 (show InI 0 from by decide) (show InI 2 from by decide) hc2) ?_; clear ha a; rintro v3 w4 ⟨rfl, hx5⟩ a ha
  have hE6 := Ext.trans hE hx5
  refine op_g ha rfl (g_assign rfl) ?_; clear ha a; intro a ha
  refine wpList_nil ?_
  replace ha := ha.sub (σ' := [(2, (.bool x1))]) ⟨rfl, trivial⟩
  refine e_then ?_
  refine wp_ret ?_
  obtain rfl := Option.some.inj hF
  exact f_ret1 ha rfl rfl ⟨rfl, hE6⟩
set_option maxHeartbeats 2000000 in
theorem W_impl_goodFact_2 {W : World} {a0 : Int} (ha0 : InI a0) {r : Bool} (hF : F_impl_goodFact_2 a0 = some r) :
    Calls Try.prog 63 [.int .i64 a0].toArray W (Ret fun u w' => u = .bool r ∧ Ext W w') := by
  refine f_enter Try.func63 rfl Try.ntmps63 rfl ?_
  intro a ha
  replace ha : Fr 5 [(0, (.int .i64 a0))] a := ha
  have hE : Chg [] W W := Chg.refl _ _
  unfold F_impl_goodFact_2 at hF
  refine wp_seq ?_
  refine wp_region_lit ?_
  refine op_g ha rfl (g_assign rfl) ?_; clear ha a; intro a ha
  refine wpList_nil ?_
  replace ha := ha.sub (σ' := [(0, (.int .i64 a0))]) ⟨rfl, trivial⟩
  refine e_then ?_
  refine wp_seq ?_
  refine wp_region_lit ?_
  refine op_g ha rfl (g_move rfl) ?_; clear ha a; intro a ha
  obtain ⟨x1, hc2, hF⟩ := cal_some hF
  refine o_call ha rfl rfl Try.call43 (W_impl_inRange ha0 (show InI 0 from by decide) (show InI 1 from by decide) hc2) ?_; clear ha a; rintro v3 w4 ⟨rfl, hx5⟩ a ha
  have hE6 := Ext.trans hE hx5
  refine op_g ha rfl (g_assign rfl) ?_; clear ha a; intro a ha
  refine wpList_nil ?_
  replace ha := ha.sub (σ' := [(2, (.bool x1))]) ⟨rfl, trivial⟩
  refine e_then ?_
  refine wp_ret ?_
  obtain rfl := Option.some.inj hF
  exact f_ret1 ha rfl rfl ⟨rfl, hE6⟩
set_option maxHeartbeats 2000000 in
theorem W_impl_goodFact_3 {W : World} {a0 : Int} (ha0 : InI a0) {y0 : Int} (hy0 : InI y0) {bc0 : Nat} (hbc0 : Bx W bc0 [.int .i64 y0] 3) {r : Bool} (hF : F_impl_goodFact_3 a0 y0 = some r) :
    Calls Try.prog 64 [.int .i64 a0, .pointer (some ⟨bc0, 0, none⟩)].toArray W (Ret fun u w' => u = .bool r ∧ Ext W w') := by
  refine f_enter Try.func64 rfl Try.ntmps64 rfl ?_
  intro a ha
  replace ha : Fr 8 [(0, (.int .i64 a0)), (1, (.pointer (some ⟨bc0, 0, none⟩)))] a := ha
  have hE : Chg [] W W := Chg.refl _ _
  unfold F_impl_goodFact_3 at hF
  refine wp_seq ?_
  refine wp_region_lit ?_
  refine op_g ha rfl (g_assign rfl) ?_; clear ha a; intro a ha
  refine wpList_nil ?_
  replace ha := ha.sub (σ' := [(0, (.int .i64 a0)), (1, (.pointer (some ⟨bc0, 0, none⟩)))]) ⟨rfl, rfl, trivial⟩
  refine e_then ?_
  refine wp_seq ?_
  refine wp_region_lit ?_
  refine op_g ha rfl (g_move rfl) ?_; clear ha a; intro a ha
  refine op_g ha rfl (g_load Try.isAgg3 rfl ((hbc0.ext hE).cell rfl)) ?_; clear ha a; intro a ha
  obtain ⟨hI1, hF⟩ := ck_some hF
  refine op_g ha rfl (g_sub rfl rfl hI1) ?_; clear ha a; intro a ha
  obtain ⟨x3, hc4, hF⟩ := cal_some hF
  refine o_call ha rfl rfl Try.call43 (W_impl_inRange ha0 (show InI 0 from by decide) hI1 hc4) ?_; clear ha a; rintro v5 w6 ⟨rfl, hx7⟩ a ha
  have hE8 := Ext.trans hE hx7
  refine op_g ha rfl (g_assign rfl) ?_; clear ha a; intro a ha
  refine wpList_nil ?_
  replace ha := ha.sub (σ' := [(3, (.bool x3))]) ⟨rfl, trivial⟩
  refine e_then ?_
  refine wp_ret ?_
  obtain rfl := Option.some.inj hF
  exact f_ret1 ha rfl rfl ⟨rfl, hE8⟩
set_option maxHeartbeats 2000000 in
theorem W_impl_goodFact {W : World} {a0_0 : Int} (ha0_0 : InI a0_0) {a0_1 : Int} (ha0_1 : InI a0_1) {a0_2 : Int} (ha0_2 : InI a0_2) {a1 : Int} (ha1 : InI a1) {r : Bool} (hF : F_impl_goodFact a0_0 a0_1 a0_2 a1 = some r) :
    Calls Try.prog 49 [.agg #[.int .i64 a0_0, .int .i64 a0_1, .int .i64 a0_2], .int .i64 a1].toArray W (Ret fun u w' => u = .bool r ∧ Ext W w') := by
  refine f_enter Try.func49 rfl Try.ntmps49 rfl ?_
  intro a ha
  replace ha : Fr 84 [(0, (.agg #[(.int .i64 a0_0), (.int .i64 a0_1), (.int .i64 a0_2)])), (1, (.int .i64 a1))] a := ha
  have hE : Chg [] W W := Chg.refl _ _
  unfold F_impl_goodFact at hF
  refine wp_seq ?_
  refine wp_region_lit ?_
  refine o_box ha rfl rfl rfl ?_; clear ha a; intro b1 w2 hB3 hx4 hlo5 a ha
  have q6 := Zn.one hlo5
  have q7 := Zn.upD q6 hE
  have hE8 := Ext.trans hE hx4
  refine o_box ha rfl rfl rfl ?_; clear ha a; intro b9 w10 hB11 hx12 hlo13 a ha
  have q14 := Zn.one hlo13
  have q15 := Nq.new hB3.fpb q14
  have q16 := Nq.made1 hlo13 hB3.bi
  have q17 := Zn.upD q14 hE8
  replace hB3 := hB3.ext hx12
  have hE18 := Ext.trans hE8 hx12
  refine op_g ha rfl (g_assign rfl) ?_; clear ha a; intro a ha
  refine wpList_nil ?_
  replace ha := ha.sub (σ' := [(2, (.pointer (some ⟨b1, 0, none⟩))), (3, (.pointer (some ⟨b9, 0, none⟩)))]) ⟨rfl, rfl, trivial⟩
  refine e_then ?_
  refine wp_seq ?_
  refine wp_region_lit ?_
  refine op_g ha rfl (g_assign rfl) ?_; clear ha a; intro a ha
  refine wpList_nil ?_
  refine e_then ?_
  refine wp_seq ?_
  refine wp_region_lit ?_
  refine op_g ha rfl (g_assign rfl) ?_; clear ha a; intro a ha
  refine wpList_nil ?_
  replace ha := ha.sub (σ' := [(2, (.pointer (some ⟨b1, 0, none⟩))), (3, (.pointer (some ⟨b9, 0, none⟩))), (5, (.func (.func 62) #[] #[])), (6, (.func (.func 63) #[] #[]))]) ⟨rfl, rfl, rfl, rfl, trivial⟩
  refine e_then ?_
  refine wp_seq ?_
  refine wp_region_lit ?_
  refine op_g ha rfl (g_func rfl rfl) ?_; clear ha a; intro a ha
  refine op_g ha rfl (g_assign rfl) ?_; clear ha a; intro a ha
  refine wpList_nil ?_
  replace ha := ha.sub (σ' := [(2, (.pointer (some ⟨b1, 0, none⟩))), (5, (.func (.func 62) #[] #[])), (6, (.func (.func 63) #[] #[])), (7, (.func (.func 64) #[] #[(.pointer (some ⟨b9, 0, none⟩))]))]) ⟨rfl, rfl, rfl, rfl, trivial⟩
  refine e_then ?_
  refine wp_seq ?_
  refine wp_seq ?_
  refine wp_region_lit ?_
  refine op_g ha rfl (g_field0 st60_0 rfl) ?_; clear ha a; intro a ha
  refine op_g ha rfl (g_load Try.isAgg2 rfl (hB3.cell rfl)) ?_; clear ha a; intro a ha
  refine wpList_nil ?_
  replace ha := ha.sub (σ' := [(2, (.pointer (some ⟨b1, 0, none⟩))), (5, (.func (.func 62) #[] #[])), (6, (.func (.func 63) #[] #[])), (7, (.func (.func 64) #[] #[(.pointer (some ⟨b9, 0, none⟩))])), (10, (.int .i64 a0_0))]) ⟨rfl, rfl, rfl, rfl, rfl, trivial⟩
  refine e_then ?_
  refine wp_block ?_
  obtain ⟨o20, ho21, hK22⟩ := bnd_some hF
  have hF := ho21; clear ho21
  refine s_cut (fun a w => ∃ (t28 : Bool), Fr 84 [(2, (.pointer (some ⟨b1, 0, none⟩))), (5, (.func (.func 62) #[] #[])), (6, (.func (.func 63) #[] #[])), (7, (.func (.func 64) #[] #[(.pointer (some ⟨b9, 0, none⟩))])), (10, (.int .i64 a0_0)), (11, (.bool t28))] a ∧ Chg [] W w ∧ Bx w b1 [(.int .i64 a0_0), (.int .i64 a0_1), (.int .i64 a0_2)] 60 ∧ Zn W (b1 : Int) ∧ Bx w b9 [(.int .i64 a1)] 3 ∧ Zn W (b9 : Int) ∧ Nq ([b1]) (b9 : Int) ∧ Nq ([b9]) (b1 : Int) ∧ o20 = .inl t28) ?_ ?_
  · skip
    refine wp_seq ?_
    refine wp_region_lit ?_
    refine op_g ha rfl (g_eql rfl rfl) ?_; clear ha a; intro a ha
    refine op_g ha rfl (g_assign rfl) ?_; clear ha a; intro a ha
    refine wpList_nil ?_
    replace ha := ha.sub (σ' := [(2, (.pointer (some ⟨b1, 0, none⟩))), (5, (.func (.func 62) #[] #[])), (6, (.func (.func 63) #[] #[])), (7, (.func (.func 64) #[] #[(.pointer (some ⟨b9, 0, none⟩))])), (10, (.int .i64 a0_0)), (11, (.bool (decide (a0_0 = 1))))]) ⟨rfl, rfl, rfl, rfl, rfl, rfl, trivial⟩
    refine e_then ?_
    refine c_cond (a0_0 = 1) ha rfl (decide_eq_true_iff) (fun hp32 => ?_) (fun hp32 => ?_)
    · replace hF := if_t hp32 hF
      refine wp_skip ?_
      refine e_sq ?_
      obtain rfl := Option.some.inj hF
      exact ⟨decide (a0_0 = 1), ha.sub ⟨rfl, rfl, rfl, rfl, rfl, rfl, trivial⟩, hE18, hB3, q7, hB11, q17, q15, q16, rfl⟩
    · replace hF := if_f hp32 hF
      refine wp_region_lit ?_
      refine op_g ha rfl (g_eql rfl rfl) ?_; clear ha a; intro a ha
      refine op_g ha rfl (g_assign rfl) ?_; clear ha a; intro a ha
      refine wpList_nil ?_
      replace ha := ha.sub (σ' := [(2, (.pointer (some ⟨b1, 0, none⟩))), (5, (.func (.func 62) #[] #[])), (6, (.func (.func 63) #[] #[])), (7, (.func (.func 64) #[] #[(.pointer (some ⟨b9, 0, none⟩))])), (10, (.int .i64 a0_0)), (11, (.bool (decide (a0_0 = 2))))]) ⟨rfl, rfl, rfl, rfl, rfl, rfl, trivial⟩
      refine e_sq ?_
      obtain rfl := Option.some.inj hF
      exact ⟨decide (a0_0 = 2), ha.sub ⟨rfl, rfl, rfl, rfl, rfl, rfl, trivial⟩, hE18, hB3, q7, hB11, q17, q15, q16, rfl⟩
  · rintro a w23 ⟨t28, ha, hE31, hB24, z25, hB26, z27, q29, q30, rfl⟩
    have hF : F_impl_goodFact_k1 a0_0 a0_1 a0_2 a1 t28 = some _ := hK22; clear hK22; unfold F_impl_goodFact_k1 at hF
    refine c_cond (t28 = true) ha rfl (Iff.rfl) (fun hp33 => ?_) (fun hp33 => ?_)
    · replace hF := if_t hp33 hF
      refine wp_seq ?_
      refine wp_region_lit ?_
      refine op_g ha rfl (g_move rfl) ?_; clear ha a; intro a ha
      refine op_g ha rfl (g_field0 st60_1 rfl) ?_; clear ha a; intro a ha
      refine op_g ha rfl (g_load Try.isAgg2 rfl (hB24.cell rfl)) ?_; clear ha a; intro a ha
      obtain ⟨x34, hc35, hF⟩ := cal_some hF
      refine o_callv ha rfl rfl rfl Try.call62 (W_impl_goodFact_1 ha0_1 hc35) ?_; clear ha a; rintro v36 w37 ⟨rfl, hx38⟩ a ha
      replace hB24 := hB24.ext hx38
      replace hB26 := hB26.ext hx38
      have hE39 := Ext.trans hE31 hx38
      refine op_g ha rfl (g_move rfl) ?_; clear ha a; intro a ha
      by_cases hp40 : x34 = true
      · replace hF := if_t hp40 hF
        rw [show (x34) = true from (Iff.rfl).2 hp40] at ha
        refine op_want (yields ha rfl rfl) ?_
        refine op_g ha rfl (g_move rfl) ?_; clear ha a; intro a ha
        refine op_want (yields ha rfl rfl) ?_
        refine op_g ha rfl (g_field0 st60_2 rfl) ?_; clear ha a; intro a ha
        refine op_want (yields ha rfl rfl) ?_
        refine op_g ha rfl (g_load Try.isAgg2 rfl (hB24.cell rfl)) ?_; clear ha a; intro a ha
        refine op_want (yields ha rfl rfl) ?_
        obtain ⟨x41, hc42, hF⟩ := cal_some hF
        refine o_callv ha rfl rfl rfl Try.call62 (W_impl_goodFact_1 ha0_2 hc42) ?_; clear ha a; rintro v43 w44 ⟨rfl, hx45⟩ a ha
        replace hB24 := hB24.ext hx45
        replace hB26 := hB26.ext hx45
        have hE46 := Ext.trans hE39 hx45
        refine op_g ha rfl (g_pick rfl rfl) ?_; clear ha a; intro a ha
        refine op_g ha rfl (g_assign rfl) ?_; clear ha a; intro a ha
        refine wpList_nil ?_
        replace ha := ha.sub (σ' := [(4, (.bool x41))]) ⟨rfl, trivial⟩
        refine e_then ?_
        refine wp_ret ?_
        refine e_blk_ret ?_
        refine e_then_ret ?_
        obtain rfl := Option.some.inj hF
        exact f_ret1 ha rfl rfl ⟨rfl, hE46⟩
      · replace hF := if_f hp40 hF
        rw [show (x34) = false from b_false (Iff.rfl) hp40] at ha
        refine op_unwant ha rfl (yields ha rfl rfl) rfl ?_; clear ha a; intro a ha
        refine op_unwant ha rfl (yields ha rfl rfl) rfl ?_; clear ha a; intro a ha
        refine op_unwant ha rfl (yields ha rfl rfl) rfl ?_; clear ha a; intro a ha
        refine op_unwant ha rfl (yields ha rfl rfl) rfl ?_; clear ha a; intro a ha
        refine op_g ha rfl (g_pick rfl rfl) ?_; clear ha a; intro a ha
        refine op_g ha rfl (g_assign rfl) ?_; clear ha a; intro a ha
        refine wpList_nil ?_
        replace ha := ha.sub (σ' := [(4, (.bool false))]) ⟨rfl, trivial⟩
        refine e_then ?_
        refine wp_ret ?_
        refine e_blk_ret ?_
        refine e_then_ret ?_
        obtain rfl := Option.some.inj hF
        exact f_ret1 ha rfl rfl ⟨rfl, hE39⟩
    · replace hF := if_f hp33 hF
      refine wp_seq ?_
      refine wp_region_lit ?_
      refine op_g ha rfl (g_eql rfl rfl) ?_; clear ha a; intro a ha
      refine op_g ha rfl (g_assign rfl) ?_; clear ha a; intro a ha
      refine wpList_nil ?_
      replace ha := ha.sub (σ' := [(2, (.pointer (some ⟨b1, 0, none⟩))), (5, (.func (.func 62) #[] #[])), (6, (.func (.func 63) #[] #[])), (7, (.func (.func 64) #[] #[(.pointer (some ⟨b9, 0, none⟩))])), (10, (.int .i64 a0_0)), (24, (.bool (decide (a0_0 = 3))))]) ⟨rfl, rfl, rfl, rfl, rfl, rfl, trivial⟩
      refine e_then ?_
      refine c_cond (a0_0 = 3) ha rfl (decide_eq_true_iff) (fun hp47 => ?_) (fun hp47 => ?_)
      · replace hF := if_t hp47 hF
        refine wp_seq ?_
        refine wp_region_lit ?_
        refine op_g ha rfl (g_move rfl) ?_; clear ha a; intro a ha
        refine op_g ha rfl (g_field0 st60_1 rfl) ?_; clear ha a; intro a ha
        refine op_g ha rfl (g_load Try.isAgg2 rfl (hB24.cell rfl)) ?_; clear ha a; intro a ha
        obtain ⟨x48, hc49, hF⟩ := cal_some hF
        refine o_callv ha rfl rfl rfl Try.call62 (W_impl_goodFact_1 ha0_1 hc49) ?_; clear ha a; rintro v50 w51 ⟨rfl, hx52⟩ a ha
        replace hB24 := hB24.ext hx52
        replace hB26 := hB26.ext hx52
        have hE53 := Ext.trans hE31 hx52
        refine op_g ha rfl (g_move rfl) ?_; clear ha a; intro a ha
        by_cases hp54 : x48 = true
        · replace hF := if_t hp54 hF
          rw [show (x48) = true from (Iff.rfl).2 hp54] at ha
          refine op_want (yields ha rfl rfl) ?_
          refine op_g ha rfl (g_move rfl) ?_; clear ha a; intro a ha
          refine op_want (yields ha rfl rfl) ?_
          refine op_g ha rfl (g_field0 st60_2 rfl) ?_; clear ha a; intro a ha
          refine op_want (yields ha rfl rfl) ?_
          refine op_g ha rfl (g_load Try.isAgg2 rfl (hB24.cell rfl)) ?_; clear ha a; intro a ha
          refine op_want (yields ha rfl rfl) ?_
          obtain ⟨x55, hc56, hF⟩ := cal_some hF
          refine o_callv ha rfl rfl rfl Try.call63 (W_impl_goodFact_2 ha0_2 hc56) ?_; clear ha a; rintro v57 w58 ⟨rfl, hx59⟩ a ha
          replace hB24 := hB24.ext hx59
          replace hB26 := hB26.ext hx59
          have hE60 := Ext.trans hE53 hx59
          refine op_g ha rfl (g_pick rfl rfl) ?_; clear ha a; intro a ha
          refine op_g ha rfl (g_assign rfl) ?_; clear ha a; intro a ha
          refine wpList_nil ?_
          replace ha := ha.sub (σ' := [(4, (.bool x55))]) ⟨rfl, trivial⟩
          refine e_then ?_
          refine wp_ret ?_
          refine e_blk_ret ?_
          refine e_then_ret ?_
          obtain rfl := Option.some.inj hF
          exact f_ret1 ha rfl rfl ⟨rfl, hE60⟩
        · replace hF := if_f hp54 hF
          rw [show (x48) = false from b_false (Iff.rfl) hp54] at ha
          refine op_unwant ha rfl (yields ha rfl rfl) rfl ?_; clear ha a; intro a ha
          refine op_unwant ha rfl (yields ha rfl rfl) rfl ?_; clear ha a; intro a ha
          refine op_unwant ha rfl (yields ha rfl rfl) rfl ?_; clear ha a; intro a ha
          refine op_unwant ha rfl (yields ha rfl rfl) rfl ?_; clear ha a; intro a ha
          refine op_g ha rfl (g_pick rfl rfl) ?_; clear ha a; intro a ha
          refine op_g ha rfl (g_assign rfl) ?_; clear ha a; intro a ha
          refine wpList_nil ?_
          replace ha := ha.sub (σ' := [(4, (.bool false))]) ⟨rfl, trivial⟩
          refine e_then ?_
          refine wp_ret ?_
          refine e_blk_ret ?_
          refine e_then_ret ?_
          obtain rfl := Option.some.inj hF
          exact f_ret1 ha rfl rfl ⟨rfl, hE53⟩
      · replace hF := if_f hp47 hF
        refine wp_seq ?_
        refine wp_region_lit ?_
        refine op_g ha rfl (g_eql rfl rfl) ?_; clear ha a; intro a ha
        refine op_g ha rfl (g_assign rfl) ?_; clear ha a; intro a ha
        refine wpList_nil ?_
        replace ha := ha.sub (σ' := [(2, (.pointer (some ⟨b1, 0, none⟩))), (5, (.func (.func 62) #[] #[])), (6, (.func (.func 63) #[] #[])), (7, (.func (.func 64) #[] #[(.pointer (some ⟨b9, 0, none⟩))])), (10, (.int .i64 a0_0)), (36, (.bool (decide (a0_0 = 4))))]) ⟨rfl, rfl, rfl, rfl, rfl, rfl, trivial⟩
        refine e_then ?_
        refine c_cond (a0_0 = 4) ha rfl (decide_eq_true_iff) (fun hp61 => ?_) (fun hp61 => ?_)
        · replace hF := if_t hp61 hF
          refine wp_seq ?_
          refine wp_region_lit ?_
          refine op_g ha rfl (g_move rfl) ?_; clear ha a; intro a ha
          refine op_g ha rfl (g_field0 st60_1 rfl) ?_; clear ha a; intro a ha
          refine op_g ha rfl (g_load Try.isAgg2 rfl (hB24.cell rfl)) ?_; clear ha a; intro a ha
          obtain ⟨x62, hc63, hF⟩ := cal_some hF
          refine o_callv ha rfl rfl rfl Try.call64 (W_impl_goodFact_3 ha0_1 ha1 hB26 hc63) ?_; clear ha a; rintro v64 w65 ⟨rfl, hx66⟩ a ha
          replace hB24 := hB24.ext hx66
          replace hB26 := hB26.ext hx66
          have hE67 := Ext.trans hE31 hx66
          refine op_g ha rfl (g_move rfl) ?_; clear ha a; intro a ha
          by_cases hp68 : x62 = true
          · replace hF := if_t hp68 hF
            rw [show (x62) = true from (Iff.rfl).2 hp68] at ha
            refine op_want (yields ha rfl rfl) ?_
            refine op_g ha rfl (g_field0 st60_2 rfl) ?_; clear ha a; intro a ha
            refine op_want (yields ha rfl rfl) ?_
            refine op_g ha rfl (g_load Try.isAgg2 rfl (hB24.cell rfl)) ?_; clear ha a; intro a ha
            refine op_want (yields ha rfl rfl) ?_
            refine op_g ha rfl (g_eql rfl rfl) ?_; clear ha a; intro a ha
            refine op_g ha rfl (g_pick rfl rfl) ?_; clear ha a; intro a ha
            refine op_g ha rfl (g_assign rfl) ?_; clear ha a; intro a ha
            refine wpList_nil ?_
            replace ha := ha.sub (σ' := [(4, (.bool (decide (a0_2 = 0))))]) ⟨rfl, trivial⟩
            refine e_then ?_
            refine wp_ret ?_
            refine e_blk_ret ?_
            refine e_then_ret ?_
            obtain rfl := Option.some.inj hF
            exact f_ret1 ha rfl rfl ⟨rfl, hE67⟩
          · replace hF := if_f hp68 hF
            rw [show (x62) = false from b_false (Iff.rfl) hp68] at ha
            refine op_unwant ha rfl (yields ha rfl rfl) rfl ?_; clear ha a; intro a ha
            refine op_unwant ha rfl (yields ha rfl rfl) rfl ?_; clear ha a; intro a ha
            refine op_unwant ha rfl (yields ha rfl rfl) rfl ?_; clear ha a; intro a ha
            refine op_g ha rfl (g_pick rfl rfl) ?_; clear ha a; intro a ha
            refine op_g ha rfl (g_assign rfl) ?_; clear ha a; intro a ha
            refine wpList_nil ?_
            replace ha := ha.sub (σ' := [(4, (.bool false))]) ⟨rfl, trivial⟩
            refine e_then ?_
            refine wp_ret ?_
            refine e_blk_ret ?_
            refine e_then_ret ?_
            obtain rfl := Option.some.inj hF
            exact f_ret1 ha rfl rfl ⟨rfl, hE67⟩
        · replace hF := if_f hp61 hF
          obtain ⟨o70, ho71, hK72⟩ := bnd_some hF
          have hF := ho71; clear ho71
          refine s_cut (fun a w => ∃ (t78 : Bool), Fr 84 [(2, (.pointer (some ⟨b1, 0, none⟩))), (5, (.func (.func 62) #[] #[])), (6, (.func (.func 63) #[] #[])), (7, (.func (.func 64) #[] #[(.pointer (some ⟨b9, 0, none⟩))])), (10, (.int .i64 a0_0)), (47, (.bool t78))] a ∧ Chg [] W w ∧ Bx w b1 [(.int .i64 a0_0), (.int .i64 a0_1), (.int .i64 a0_2)] 60 ∧ Zn W (b1 : Int) ∧ Bx w b9 [(.int .i64 a1)] 3 ∧ Zn W (b9 : Int) ∧ Nq ([b1]) (b9 : Int) ∧ Nq ([b9]) (b1 : Int) ∧ o70 = .inl t78) ?_ ?_
          · skip
            refine wp_seq ?_
            refine wp_region_lit ?_
            refine op_g ha rfl (g_eql rfl rfl) ?_; clear ha a; intro a ha
            refine op_g ha rfl (g_assign rfl) ?_; clear ha a; intro a ha
            refine wpList_nil ?_
            replace ha := ha.sub (σ' := [(2, (.pointer (some ⟨b1, 0, none⟩))), (5, (.func (.func 62) #[] #[])), (6, (.func (.func 63) #[] #[])), (7, (.func (.func 64) #[] #[(.pointer (some ⟨b9, 0, none⟩))])), (10, (.int .i64 a0_0)), (47, (.bool (decide (a0_0 = 5))))]) ⟨rfl, rfl, rfl, rfl, rfl, rfl, trivial⟩
            refine e_then ?_
            refine c_cond (a0_0 = 5) ha rfl (decide_eq_true_iff) (fun hp82 => ?_) (fun hp82 => ?_)
            · replace hF := if_t hp82 hF
              refine wp_skip ?_
              refine e_sq ?_
              obtain rfl := Option.some.inj hF
              exact ⟨decide (a0_0 = 5), ha.sub ⟨rfl, rfl, rfl, rfl, rfl, rfl, trivial⟩, hE31, hB24, z25, hB26, z27, q29, q30, rfl⟩
            · replace hF := if_f hp82 hF
              refine wp_region_lit ?_
              refine op_g ha rfl (g_eql rfl rfl) ?_; clear ha a; intro a ha
              refine op_g ha rfl (g_assign rfl) ?_; clear ha a; intro a ha
              refine wpList_nil ?_
              replace ha := ha.sub (σ' := [(2, (.pointer (some ⟨b1, 0, none⟩))), (5, (.func (.func 62) #[] #[])), (6, (.func (.func 63) #[] #[])), (7, (.func (.func 64) #[] #[(.pointer (some ⟨b9, 0, none⟩))])), (10, (.int .i64 a0_0)), (47, (.bool (decide (a0_0 = 6))))]) ⟨rfl, rfl, rfl, rfl, rfl, rfl, trivial⟩
              refine e_sq ?_
              obtain rfl := Option.some.inj hF
              exact ⟨decide (a0_0 = 6), ha.sub ⟨rfl, rfl, rfl, rfl, rfl, rfl, trivial⟩, hE31, hB24, z25, hB26, z27, q29, q30, rfl⟩
          · rintro a w73 ⟨t78, ha, hE81, hB74, z75, hB76, z77, q79, q80, rfl⟩
            have hF : F_impl_goodFact_k2 a0_0 a0_1 a0_2 a1 t78 = some _ := hK72; clear hK72; unfold F_impl_goodFact_k2 at hF
            refine c_cond (t78 = true) ha rfl (Iff.rfl) (fun hp83 => ?_) (fun hp83 => ?_)
            · replace hF := if_t hp83 hF
              refine wp_seq ?_
              refine wp_region_lit ?_
              refine op_g ha rfl (g_move rfl) ?_; clear ha a; intro a ha
              refine op_g ha rfl (g_field0 st60_1 rfl) ?_; clear ha a; intro a ha
              refine op_g ha rfl (g_load Try.isAgg2 rfl (hB74.cell rfl)) ?_; clear ha a; intro a ha
              obtain ⟨x84, hc85, hF⟩ := cal_some hF
              refine o_callv ha rfl rfl rfl Try.call64 (W_impl_goodFact_3 ha0_1 ha1 hB76 hc85) ?_; clear ha a; rintro v86 w87 ⟨rfl, hx88⟩ a ha
              replace hB74 := hB74.ext hx88
              replace hB76 := hB76.ext hx88
              have hE89 := Ext.trans hE81 hx88
              refine op_g ha rfl (g_move rfl) ?_; clear ha a; intro a ha
              by_cases hp90 : x84 = true
              · replace hF := if_t hp90 hF
                rw [show (x84) = true from (Iff.rfl).2 hp90] at ha
                refine op_want (yields ha rfl rfl) ?_
                refine op_g ha rfl (g_move rfl) ?_; clear ha a; intro a ha
                refine op_want (yields ha rfl rfl) ?_
                refine op_g ha rfl (g_field0 st60_2 rfl) ?_; clear ha a; intro a ha
                refine op_want (yields ha rfl rfl) ?_
                refine op_g ha rfl (g_load Try.isAgg2 rfl (hB74.cell rfl)) ?_; clear ha a; intro a ha
                refine op_want (yields ha rfl rfl) ?_
                obtain ⟨x91, hc92, hF⟩ := cal_some hF
                refine o_callv ha rfl rfl rfl Try.call64 (W_impl_goodFact_3 ha0_2 ha1 hB76 hc92) ?_; clear ha a; rintro v93 w94 ⟨rfl, hx95⟩ a ha
                replace hB74 := hB74.ext hx95
                replace hB76 := hB76.ext hx95
                have hE96 := Ext.trans hE89 hx95
                refine op_g ha rfl (g_pick rfl rfl) ?_; clear ha a; intro a ha
                refine op_g ha rfl (g_assign rfl) ?_; clear ha a; intro a ha
                refine wpList_nil ?_
                replace ha := ha.sub (σ' := [(4, (.bool x91))]) ⟨rfl, trivial⟩
                refine e_then ?_
                refine wp_ret ?_
                refine e_blk_ret ?_
                refine e_then_ret ?_
                obtain rfl := Option.some.inj hF
                exact f_ret1 ha rfl rfl ⟨rfl, hE96⟩
              · replace hF := if_f hp90 hF
                rw [show (x84) = false from b_false (Iff.rfl) hp90] at ha
                refine op_unwant ha rfl (yields ha rfl rfl) rfl ?_; clear ha a; intro a ha
                refine op_unwant ha rfl (yields ha rfl rfl) rfl ?_; clear ha a; intro a ha
                refine op_unwant ha rfl (yields ha rfl rfl) rfl ?_; clear ha a; intro a ha
                refine op_unwant ha rfl (yields ha rfl rfl) rfl ?_; clear ha a; intro a ha
                refine op_g ha rfl (g_pick rfl rfl) ?_; clear ha a; intro a ha
                refine op_g ha rfl (g_assign rfl) ?_; clear ha a; intro a ha
                refine wpList_nil ?_
                replace ha := ha.sub (σ' := [(4, (.bool false))]) ⟨rfl, trivial⟩
                refine e_then ?_
                refine wp_ret ?_
                refine e_blk_ret ?_
                refine e_then_ret ?_
                obtain rfl := Option.some.inj hF
                exact f_ret1 ha rfl rfl ⟨rfl, hE89⟩
            · replace hF := if_f hp83 hF
              refine wp_seq ?_
              refine wp_region_lit ?_
              refine op_g ha rfl (g_eql rfl rfl) ?_; clear ha a; intro a ha
              refine op_g ha rfl (g_assign rfl) ?_; clear ha a; intro a ha
              refine wpList_nil ?_
              replace ha := ha.sub (σ' := [(2, (.pointer (some ⟨b1, 0, none⟩))), (5, (.func (.func 62) #[] #[])), (6, (.func (.func 63) #[] #[])), (7, (.func (.func 64) #[] #[(.pointer (some ⟨b9, 0, none⟩))])), (10, (.int .i64 a0_0)), (60, (.bool (decide (a0_0 = 7))))]) ⟨rfl, rfl, rfl, rfl, rfl, rfl, trivial⟩
              refine e_then ?_
              refine c_cond (a0_0 = 7) ha rfl (decide_eq_true_iff) (fun hp97 => ?_) (fun hp97 => ?_)
              · replace hF := if_t hp97 hF
                refine wp_seq ?_
                refine wp_region_lit ?_
                refine op_g ha rfl (g_move rfl) ?_; clear ha a; intro a ha
                refine op_g ha rfl (g_field0 st60_1 rfl) ?_; clear ha a; intro a ha
                refine op_g ha rfl (g_load Try.isAgg2 rfl (hB74.cell rfl)) ?_; clear ha a; intro a ha
                obtain ⟨x98, hc99, hF⟩ := cal_some hF
                refine o_callv ha rfl rfl rfl Try.call62 (W_impl_goodFact_1 ha0_1 hc99) ?_; clear ha a; rintro v100 w101 ⟨rfl, hx102⟩ a ha
                replace hB74 := hB74.ext hx102
                replace hB76 := hB76.ext hx102
                have hE103 := Ext.trans hE81 hx102
                refine op_g ha rfl (g_move rfl) ?_; clear ha a; intro a ha
                by_cases hp104 : x98 = true
                · replace hF := if_t hp104 hF
                  rw [show (x98) = true from (Iff.rfl).2 hp104] at ha
                  refine op_want (yields ha rfl rfl) ?_
                  refine op_g ha rfl (g_move rfl) ?_; clear ha a; intro a ha
                  refine op_want (yields ha rfl rfl) ?_
                  refine op_g ha rfl (g_field0 st60_2 rfl) ?_; clear ha a; intro a ha
                  refine op_want (yields ha rfl rfl) ?_
                  refine op_g ha rfl (g_load Try.isAgg2 rfl (hB74.cell rfl)) ?_; clear ha a; intro a ha
                  refine op_want (yields ha rfl rfl) ?_
                  obtain ⟨x105, hc106, hF⟩ := cal_some hF
                  refine o_callv ha rfl rfl rfl Try.call64 (W_impl_goodFact_3 ha0_2 ha1 hB76 hc106) ?_; clear ha a; rintro v107 w108 ⟨rfl, hx109⟩ a ha
                  replace hB74 := hB74.ext hx109
                  replace hB76 := hB76.ext hx109
                  have hE110 := Ext.trans hE103 hx109
                  refine op_g ha rfl (g_pick rfl rfl) ?_; clear ha a; intro a ha
                  refine op_g ha rfl (g_assign rfl) ?_; clear ha a; intro a ha
                  refine wpList_nil ?_
                  replace ha := ha.sub (σ' := [(4, (.bool x105))]) ⟨rfl, trivial⟩
                  refine e_then ?_
                  refine wp_ret ?_
                  refine e_blk_ret ?_
                  refine e_then_ret ?_
                  obtain rfl := Option.some.inj hF
                  exact f_ret1 ha rfl rfl ⟨rfl, hE110⟩
                · replace hF := if_f hp104 hF
                  rw [show (x98) = false from b_false (Iff.rfl) hp104] at ha
                  refine op_unwant ha rfl (yields ha rfl rfl) rfl ?_; clear ha a; intro a ha
                  refine op_unwant ha rfl (yields ha rfl rfl) rfl ?_; clear ha a; intro a ha
                  refine op_unwant ha rfl (yields ha rfl rfl) rfl ?_; clear ha a; intro a ha
                  refine op_unwant ha rfl (yields ha rfl rfl) rfl ?_; clear ha a; intro a ha
                  refine op_g ha rfl (g_pick rfl rfl) ?_; clear ha a; intro a ha
                  refine op_g ha rfl (g_assign rfl) ?_; clear ha a; intro a ha
                  refine wpList_nil ?_
                  replace ha := ha.sub (σ' := [(4, (.bool false))]) ⟨rfl, trivial⟩
                  refine e_then ?_
                  refine wp_ret ?_
                  refine e_blk_ret ?_
                  refine e_then_ret ?_
                  obtain rfl := Option.some.inj hF
                  exact f_ret1 ha rfl rfl ⟨rfl, hE103⟩
              · replace hF := if_f hp97 hF
                refine wp_seq ?_
                refine wp_region_lit ?_
                refine op_g ha rfl (g_eql rfl rfl) ?_; clear ha a; intro a ha
                refine op_g ha rfl (g_assign rfl) ?_; clear ha a; intro a ha
                refine wpList_nil ?_
                replace ha := ha.sub (σ' := [(2, (.pointer (some ⟨b1, 0, none⟩))), (6, (.func (.func 63) #[] #[])), (7, (.func (.func 64) #[] #[(.pointer (some ⟨b9, 0, none⟩))])), (72, (.bool (decide (a0_0 = 8))))]) ⟨rfl, rfl, rfl, rfl, trivial⟩
                refine e_then ?_
                refine c_cond (a0_0 = 8) ha rfl (decide_eq_true_iff) (fun hp111 => ?_) (fun hp111 => ?_)
                · replace hF := if_t hp111 hF
                  refine wp_seq ?_
                  refine wp_region_lit ?_
                  refine op_g ha rfl (g_move rfl) ?_; clear ha a; intro a ha
                  refine op_g ha rfl (g_field0 st60_1 rfl) ?_; clear ha a; intro a ha
                  refine op_g ha rfl (g_load Try.isAgg2 rfl (hB74.cell rfl)) ?_; clear ha a; intro a ha
                  obtain ⟨x112, hc113, hF⟩ := cal_some hF
                  refine o_callv ha rfl rfl rfl Try.call63 (W_impl_goodFact_2 ha0_1 hc113) ?_; clear ha a; rintro v114 w115 ⟨rfl, hx116⟩ a ha
                  replace hB74 := hB74.ext hx116
                  replace hB76 := hB76.ext hx116
                  have hE117 := Ext.trans hE81 hx116
                  refine op_g ha rfl (g_move rfl) ?_; clear ha a; intro a ha
                  by_cases hp118 : x112 = true
                  · replace hF := if_t hp118 hF
                    rw [show (x112) = true from (Iff.rfl).2 hp118] at ha
                    refine op_want (yields ha rfl rfl) ?_
                    refine op_g ha rfl (g_move rfl) ?_; clear ha a; intro a ha
                    refine op_want (yields ha rfl rfl) ?_
                    refine op_g ha rfl (g_field0 st60_2 rfl) ?_; clear ha a; intro a ha
                    refine op_want (yields ha rfl rfl) ?_
                    refine op_g ha rfl (g_load Try.isAgg2 rfl (hB74.cell rfl)) ?_; clear ha a; intro a ha
                    refine op_want (yields ha rfl rfl) ?_
                    obtain ⟨x119, hc120, hF⟩ := cal_some hF
                    refine o_callv ha rfl rfl rfl Try.call64 (W_impl_goodFact_3 ha0_2 ha1 hB76 hc120) ?_; clear ha a; rintro v121 w122 ⟨rfl, hx123⟩ a ha
                    replace hB74 := hB74.ext hx123
                    replace hB76 := hB76.ext hx123
                    have hE124 := Ext.trans hE117 hx123
                    refine op_g ha rfl (g_pick rfl rfl) ?_; clear ha a; intro a ha
                    refine op_g ha rfl (g_assign rfl) ?_; clear ha a; intro a ha
                    refine wpList_nil ?_
                    replace ha := ha.sub (σ' := [(4, (.bool x119))]) ⟨rfl, trivial⟩
                    refine e_then ?_
                    refine wp_ret ?_
                    refine e_blk_ret ?_
                    refine e_then_ret ?_
                    obtain rfl := Option.some.inj hF
                    exact f_ret1 ha rfl rfl ⟨rfl, hE124⟩
                  · replace hF := if_f hp118 hF
                    rw [show (x112) = false from b_false (Iff.rfl) hp118] at ha
                    refine op_unwant ha rfl (yields ha rfl rfl) rfl ?_; clear ha a; intro a ha
                    refine op_unwant ha rfl (yields ha rfl rfl) rfl ?_; clear ha a; intro a ha
                    refine op_unwant ha rfl (yields ha rfl rfl) rfl ?_; clear ha a; intro a ha
                    refine op_unwant ha rfl (yields ha rfl rfl) rfl ?_; clear ha a; intro a ha
                    refine op_g ha rfl (g_pick rfl rfl) ?_; clear ha a; intro a ha
                    refine op_g ha rfl (g_assign rfl) ?_; clear ha a; intro a ha
                    refine wpList_nil ?_
                    replace ha := ha.sub (σ' := [(4, (.bool false))]) ⟨rfl, trivial⟩
                    refine e_then ?_
                    refine wp_ret ?_
                    refine e_blk_ret ?_
                    refine e_then_ret ?_
                    obtain rfl := Option.some.inj hF
                    exact f_ret1 ha rfl rfl ⟨rfl, hE117⟩
                · replace hF := if_f hp111 hF
                  refine wp_skip ?_
                  refine e_blk ?_
                  refine e_then ?_
                  refine wp_seq ?_
                  refine wp_region_lit ?_
                  refine op_g ha rfl (g_assign rfl) ?_; clear ha a; intro a ha
                  refine wpList_nil ?_
                  replace ha := ha.sub (σ' := [(4, (.bool false))]) ⟨rfl, trivial⟩
                  refine e_then ?_
                  refine wp_ret ?_
                  obtain rfl := Option.some.inj hF
                  exact f_ret1 ha rfl rfl ⟨rfl, hE81⟩
set_option maxHeartbeats 2000000 in
theorem W_impl_FormulaOk {W : World} {va0_0 : Value} {fa0_0 : List Nat} {a0_0 : (List (Int × (Int × Int)))} (ha0_0 : Ro (Rp.prod Rp.int (Rp.prod Rp.int Rp.int)) W fa0_0 va0_0 a0_0) {r : Bool} (hF : F_impl_FormulaOk a0_0 = some r) :
    Calls Try.prog 28 [.agg #[va0_0]].toArray W (Ret fun u w' => u = .bool r ∧ Ext W w') := by
  refine f_enter Try.func28 rfl Try.ntmps28 rfl ?_
  intro a ha
  replace ha : Fr 28 [(0, (.agg #[va0_0]))] a := ha
  have hE : Chg [] W W := Chg.refl _ _
  unfold F_impl_FormulaOk at hF
  refine wp_seq ?_
  refine wp_region_lit ?_
  refine o_box ha rfl rfl rfl ?_; clear ha a; intro b1 w2 hB3 hx4 hlo5 a ha
  have q6 := Zn.one hlo5
  have q7 := Zn.upD q6 hE
  have hE8 := Ext.trans hE hx4
  refine op_g ha rfl (g_assign rfl) ?_; clear ha a; intro a ha
  refine wpList_nil ?_
  replace ha := ha.sub (σ' := [(1, (.pointer (some ⟨b1, 0, none⟩)))]) ⟨rfl, trivial⟩
  refine e_then ?_
  refine wp_seq ?_
  refine wp_seq ?_
  refine wp_region_lit ?_
  refine op_g ha rfl (g_field0 st29_0 rfl) ?_; clear ha a; intro a ha
  refine op_g ha rfl (g_load Try.isAgg27 rfl (hB3.cell rfl)) ?_; clear ha a; intro a ha
  refine op_g ha rfl (g_lenR sl27.und ha0_0 rfl) ?_; clear ha a; intro a ha
  refine op_g ha rfl (g_lss rfl rfl) ?_; clear ha a; intro a ha
  refine op_g ha rfl (g_move rfl) ?_; clear ha a; intro a ha
  by_cases hp11 : (a0_0.length : Int) < 1
  · replace hF := if_t hp11 hF
    rw [show (decide ((a0_0.length : Int) < 1)) = true from (decide_eq_true_iff).2 hp11] at ha
    refine op_unwant ha rfl (yields ha rfl rfl) rfl ?_; clear ha a; intro a ha
    refine op_unwant ha rfl (yields ha rfl rfl) rfl ?_; clear ha a; intro a ha
    refine op_unwant ha rfl (yields ha rfl rfl) rfl ?_; clear ha a; intro a ha
    refine op_unwant ha rfl (yields ha rfl rfl) rfl ?_; clear ha a; intro a ha
    refine op_g ha rfl (g_pick rfl rfl) ?_; clear ha a; intro a ha
    refine wpList_nil ?_
    replace ha := ha.sub (σ' := [(1, (.pointer (some ⟨b1, 0, none⟩))), (14, (.bool true))]) ⟨rfl, rfl, trivial⟩
    refine e_then ?_
    refine c_true ha rfl ?_
    refine wp_seq ?_
    refine wp_region_lit ?_
    refine op_g ha rfl (g_assign rfl) ?_; clear ha a; intro a ha
    refine wpList_nil ?_
    replace ha := ha.sub (σ' := [(2, (.bool false))]) ⟨rfl, trivial⟩
    refine e_then ?_
    refine wp_ret ?_
    refine e_then_ret ?_
    obtain rfl := Option.some.inj hF
    exact f_ret1 ha rfl rfl ⟨rfl, hE8⟩
  · replace hF := if_f hp11 hF
    rw [show (decide ((a0_0.length : Int) < 1)) = false from b_false (decide_eq_true_iff) hp11] at ha
    refine op_want (yields ha rfl rfl) ?_
    refine op_g ha rfl (g_field0 st29_0 rfl) ?_; clear ha a; intro a ha
    refine op_want (yields ha rfl rfl) ?_
    refine op_g ha rfl (g_load Try.isAgg27 rfl (hB3.cell rfl)) ?_; clear ha a; intro a ha
    refine op_want (yields ha rfl rfl) ?_
    refine op_g ha rfl (g_lenR sl27.und ha0_0 rfl) ?_; clear ha a; intro a ha
    refine op_want (yields ha rfl rfl) ?_
    refine op_g ha rfl (g_gtr rfl rfl) ?_; clear ha a; intro a ha
    refine op_g ha rfl (g_pick rfl rfl) ?_; clear ha a; intro a ha
    refine wpList_nil ?_
    replace ha := ha.sub (σ' := [(1, (.pointer (some ⟨b1, 0, none⟩))), (14, (.bool (decide (40 < (a0_0.length : Int)))))]) ⟨rfl, rfl, trivial⟩
    refine e_then ?_
    refine c_cond (40 < (a0_0.length : Int)) ha rfl (decide_eq_true_iff) (fun hp12 => ?_) (fun hp12 => ?_)
    · replace hF := if_t hp12 hF
      refine wp_seq ?_
      refine wp_region_lit ?_
      refine op_g ha rfl (g_assign rfl) ?_; clear ha a; intro a ha
      refine wpList_nil ?_
      replace ha := ha.sub (σ' := [(2, (.bool false))]) ⟨rfl, trivial⟩
      refine e_then ?_
      refine wp_ret ?_
      refine e_then_ret ?_
      obtain rfl := Option.some.inj hF
      exact f_ret1 ha rfl rfl ⟨rfl, hE8⟩
    · replace hF := if_f hp12 hF
      refine wp_skip ?_
      refine e_then ?_
      refine wp_seq ?_
      refine wp_seq ?_
      refine wp_region_lit ?_
      refine op_g ha rfl (g_field0 st29_0 rfl) ?_; clear ha a; intro a ha
      refine op_g ha rfl (g_load Try.isAgg27 rfl (hB3.cell rfl)) ?_; clear ha a; intro a ha
      refine op_g ha rfl (g_lenR sl27.und ha0_0 rfl) ?_; clear ha a; intro a ha
      refine op_g ha rfl (g_move rfl) ?_; clear ha a; intro a ha
      refine wpList_nil ?_
      replace ha := ha.sub (σ' := [(16, va0_0), (17, (.int .i64 (a0_0.length : Int))), (18, (.int .i64 0))]) ⟨rfl, rfl, rfl, trivial⟩
      refine e_then ?_
      obtain ⟨o130, ho131, hK132⟩ := bnd_some hF
      obtain ⟨n133, hn134⟩ := lp_some ho131; clear ho131
      refine c_loop (fun a w => Fr 28 [] a ∧ Chg [] W w ∧ o130 = .inl ()) (fun n a w => ∃ (i71 : Int), Fr 28 [(16, va0_0), (17, (.int .i64 (a0_0.length : Int))), (18, (.int .i64 i71))] a ∧ Chg [] W w ∧ InI i71 ∧ lpN (fun s => F_impl_FormulaOk_l1 a0_0 s) n i71 = some o130) n133 ⟨0, ha.sub ⟨rfl, rfl, rfl, trivial⟩, hE8, (show InI 0 from by decide), hn134⟩ ?_ ?_
      · rintro m138 a w70 ⟨i71, ha, hE73, hI72, hF⟩
        cases m138 with
        | zero => exact (lpN_zero hF).elim
        | succ m138 =>
          obtain ⟨z137, hF, hN136⟩ := lpN_succ hF
          have hF : F_impl_FormulaOk_l1 a0_0 i71 = some z137 := hF; unfold F_impl_FormulaOk_l1 at hF
          refine wp_seq ?_
          refine wp_region_lit ?_
          refine op_g ha rfl (g_lss rfl rfl) ?_; clear ha a; intro a ha
          refine wpList_nil ?_
          replace ha := ha.sub (σ' := [(16, va0_0), (17, (.int .i64 (a0_0.length : Int))), (18, (.int .i64 i71)), (19, (.bool (decide (i71 < (a0_0.length : Int)))))]) ⟨rfl, rfl, rfl, rfl, trivial⟩
          refine e_then ?_
          refine wp_seq ?_
          refine c_cond (i71 < (a0_0.length : Int)) ha rfl (decide_eq_true_iff) (fun hp139 => ?_) (fun hp139 => ?_)
          · replace hF := if_t hp139 hF
            refine wp_skip ?_
            refine e_then ?_
            refine wp_seq ?_
            refine wp_block ?_
            refine wp_seq ?_
            refine wp_region_lit ?_
            refine op_g ha rfl (g_move rfl) ?_; clear ha a; intro a ha
            obtain ⟨x140, g141, gx142, hF⟩ := idx_some hF
            obtain ⟨p143, cs144, f145, hf146, hpb147, hat148, hr149, hi150⟩ := ha0_0.at g141 gx142
            obtain ⟨f151, f152, c153, c154, rfl, rfl, h155, h156⟩ := hr149
            obtain ⟨rfl, hI159, rfl⟩ := h155
            obtain ⟨f160, f161, c162, c163, rfl, rfl, h164, h165⟩ := h156
            obtain ⟨rfl, hI168, rfl⟩ := h164
            obtain ⟨rfl, hI169, rfl⟩ := h165
            refine op_g ha rfl (hi150.gives sl27 rfl rfl) ?_; clear ha a; intro a ha
            refine op_g ha rfl (g_loadA0 (cs := [(.int .i64 x140.1), (.int .i64 x140.2.1), (.int .i64 x140.2.2)]) hE73 Try.isAgg60 Try.sizeOf60 rfl (by simp) hat148) ?_; clear ha a; intro a ha
            refine o_alloc (cs := [(.int .i64 0), (.int .i64 0), (.int .i64 0)]) ha rfl Try.zeroValue60 rfl ?_; clear ha a; intro b170 w171 hB172 hx173 hlo174 a ha
            have q175 := Zn.one hlo174
            have q176 := Zn.upD q175 hE73
            have hE177 := Ext.trans hE73 hx173
            refine op_g ha rfl (g_assign rfl) ?_; clear ha a; intro a ha
            refine o_storeA (vs := [(.int .i64 x140.1), (.int .i64 x140.2.1), (.int .i64 x140.2.2)]) ha hB172 Try.sizeOf60 rfl rfl (by intro c hc; simp only [List.mem_cons, List.not_mem_nil, or_false] at hc; rcases hc with hc | hc | hc <;> subst hc <;> first | rfl | exact rfl | exact rfl | exact rfl) rfl ?_; intro w178 hB179 hc180
            replace hc180 := hc180.bl
            replace hB179 : Bx w178 b170 [(.int .i64 x140.1), (.int .i64 x140.2.1), (.int .i64 x140.2.2)] 60 := hB179
            have hE181 := Ext.then hE177 hc180 (Zn.bl q176)
            refine wpList_nil ?_
            replace ha := ha.sub (σ' := [(3, (.int .i64 i71)), (4, (.pointer (some ⟨b170, 0, none⟩))), (16, va0_0), (17, (.int .i64 (a0_0.length : Int))), (18, (.int .i64 i71))]) ⟨rfl, rfl, rfl, rfl, rfl, trivial⟩
            refine e_then ?_
            refine wp_seq ?_
            refine wp_region_lit ?_
            refine op_g ha rfl (g_loadA (cs := [(.int .i64 x140.1), (.int .i64 x140.2.1), (.int .i64 x140.2.2)]) Try.isAgg60 Try.sizeOf60 rfl (by simp) hB179.all) ?_; clear ha a; intro a ha
            refine op_g ha rfl (g_move rfl) ?_; clear ha a; intro a ha
            obtain ⟨x182, hc183, hF⟩ := cal_some hF
            refine o_call ha rfl rfl Try.call49 (W_impl_goodFact hI159 hI168 hI169 hI72 hc183) ?_; clear ha a; rintro v184 w185 ⟨rfl, hx186⟩ a ha
            replace hB179 := hB179.ext hx186
            have hE187 := Ext.trans hE181 hx186
            refine op_g ha rfl (g_not rfl) ?_; clear ha a; intro a ha
            refine wpList_nil ?_
            replace ha := ha.sub (σ' := [(16, va0_0), (17, (.int .i64 (a0_0.length : Int))), (18, (.int .i64 i71)), (26, (.bool (!x182)))]) ⟨rfl, rfl, rfl, rfl, trivial⟩
            refine e_then ?_
            refine c_cond (¬ (x182 = true)) ha rfl (n_iff (Iff.rfl)) (fun hp188 => ?_) (fun hp188 => ?_)
            · replace hF := if_t hp188 hF
              refine wp_seq ?_
              refine wp_region_lit ?_
              refine op_g ha rfl (g_assign rfl) ?_; clear ha a; intro a ha
              refine wpList_nil ?_
              replace ha := ha.sub (σ' := [(2, (.bool false))]) ⟨rfl, trivial⟩
              refine e_then ?_
              refine wp_ret ?_
              refine e_blk_ret ?_
              refine e_then_ret ?_
              refine e_lq_ret ?_
              refine e_then_ret ?_
              obtain rfl := Option.some.inj hF
              have e189 := LK_inr hN136; subst e189
              have e190 := BK_inr hK132; subst e190
              exact f_ret1 ha rfl rfl ⟨rfl, hE187⟩
            · replace hF := if_f hp188 hF
              refine wp_skip ?_
              refine e_blk ?_
              refine e_then ?_
              refine wp_region_lit ?_
              obtain ⟨hI191, hF⟩ := ck_some hF
              refine op_g ha rfl (g_add rfl rfl hI191) ?_; clear ha a; intro a ha
              refine op_g ha rfl (g_move rfl) ?_; clear ha a; intro a ha
              refine wpList_nil ?_
              replace ha := ha.sub (σ' := [(16, va0_0), (17, (.int .i64 (a0_0.length : Int))), (18, (.int .i64 (i71 + 1)))]) ⟨rfl, rfl, rfl, trivial⟩
              refine e_lq ?_
              obtain rfl := Option.some.inj hF
              exact ⟨_, Nat.lt_succ_self _, i71 + 1, ha.sub ⟨rfl, rfl, rfl, trivial⟩, hE187, hI191, hN136⟩
          · replace hF := if_f hp139 hF
            refine wp_exit ?_
            refine e_then_exit ?_
            refine e_lq_eq ?_
            obtain rfl := Option.some.inj hF
            exact ⟨ha.sub trivial, hE73, (LK_inr hN136).symm⟩
      · rintro a w129 ⟨ha, hE135, rfl⟩
        have hF : F_impl_FormulaOk_k2 = some _ := hK132; clear hK132; unfold F_impl_FormulaOk_k2 at hF
        refine e_then ?_
        refine wp_seq ?_
        refine wp_region_lit ?_
        refine op_g ha rfl (g_assign rfl) ?_; clear ha a; intro a ha
        refine wpList_nil ?_
        refine e_then ?_
        refine wp_ret ?_
        obtain rfl := Option.some.inj hF
        exact f_ret1 ha rfl rfl ⟨rfl, hE135⟩
set_option maxHeartbeats 2000000 in
theorem W_slices_Clone_implFact {W : World} {va0 : Value} {fa0 : List Nat} {a0 : (List (Int × (Int × Int)))} (ha0 : Ro (Rp.prod Rp.int (Rp.prod Rp.int Rp.int)) W fa0 va0 a0) {r : (List (Int × (Int × Int)))} (hF : F_slices_Clone_implFact a0 = some r) :
    Calls Try.prog 57 [va0].toArray W (Ret fun u w' => ∃ (b_u : Int), Ow (Rp.prod Rp.int (Rp.prod Rp.int Rp.int)) 60 true w' [] b_u u r ∧ Zn W b_u ∧ Ext W w') := by
  refine f_enter Try.func57 rfl Try.ntmps57 rfl ?_
  intro a ha
  replace ha : Fr 8 [(0, va0)] a := ha
  have hE : Chg [] W W := Chg.refl _ _
  unfold F_slices_Clone_implFact at hF
  refine wp_seq ?_
  refine wp_region_lit ?_
  refine op_g ha rfl (g_assign rfl) ?_; clear ha a; intro a ha
  refine wpList_nil ?_
  replace ha := ha.sub (σ' := [(0, va0)]) ⟨rfl, trivial⟩
  refine e_then ?_
  refine wp_seq ?_
  refine wp_seq ?_
  refine wp_region_lit ?_
  refine op_g ha rfl (g_move rfl) ?_; clear ha a; intro a ha
  refine op_g ha rfl (g_nil sl27.und rfl ha0.shape) ?_; clear ha a; intro a ha
  refine wpList_nil ?_
  replace ha := ha.sub (σ' := [(0, va0), (4, (.bool (nilB va0)))]) ⟨rfl, rfl, trivial⟩
  refine e_then ?_
  refine c_cond (nilB va0 = true) ha rfl (Iff.rfl) (fun hp1 => ?_) (fun hp1 => ?_)
  · replace hF := clone_nil hF (ha0.nilE hp1)
    refine wp_seq ?_
    refine wp_region_lit ?_
    refine op_g ha rfl (g_assign rfl) ?_; clear ha a; intro a ha
    refine wpList_nil ?_
    replace ha := ha.sub (σ' := [(2, (.slice none 0 0))]) ⟨rfl, trivial⟩
    refine e_then ?_
    refine wp_ret ?_
    refine e_then_ret ?_
    obtain rfl := Option.some.inj hF
    exact f_ret1 ha rfl rfl ⟨-1, (Ow.nil (by decide)), (.inl (by decide)), hE⟩
  · skip
    refine wp_skip ?_
    refine e_then ?_
    refine wp_seq ?_
    refine wp_region_lit ?_
    refine o_lit0 (Rp.prod Rp.int (Rp.prod Rp.int Rp.int)) ha rfl sl27 ?_; clear ha a; intro v2 w3 h4 hx5 a ha
    obtain ⟨b7, hb7⟩ : ∃ b : Int, b = W.heap.size := ⟨_, rfl⟩; rw [← hb7] at h4
    have q8 := zn_of hb7
    have q9 := Zn.upD q8 hE
    have hE10 := Ext.trans hE hx5
    refine op_g ha rfl (g_move rfl) ?_; clear ha a; intro a ha
    obtain ⟨hl11, hF⟩ := app_some hF
    obtain ⟨_, hs12, _⟩ := (ha0.ext hE10).src
    refine o_append ha rfl sl27 rfl rfl rfl h4 (hs12.up (scal_prod scal_int (scal_prod scal_int scal_int))) (Nq.nil _) hl11 ?_; clear ha a; intro v13 w14 b15 h16 hc17 hb18 a ha
    replace h16 : Ow (Rp.prod Rp.int (Rp.prod Rp.int Rp.int)) 60 true w14 [] b15 v13 _ := h16
    have q20 := Zn.appD q9 hb18 hE10
    have hE21 := Ext.then hE10 hc17 (Zn.bl q9)
    refine op_g ha rfl (g_assign rfl) ?_; clear ha a; intro a ha
    refine wpList_nil ?_
    replace ha := ha.sub (σ' := [(2, v13)]) ⟨rfl, trivial⟩
    refine e_then ?_
    refine wp_ret ?_
    obtain rfl := Option.some.inj hF
    exact f_ret1 ha rfl rfl ⟨_, h16, q20, hE21⟩
set_option maxHeartbeats 2000000 in
theorem W_impl_NegatedOf {W : World} {va0_0 : Value} {fa0_0 : List Nat} {a0_0 : (List (Int × (Int × Int)))} (ha0_0 : Ro (Rp.prod Rp.int (Rp.prod Rp.int Rp.int)) W fa0_0 va0_0 a0_0) {r : ((List (Int × (Int × Int))) × Bool)} (hF : F_impl_NegatedOf a0_0 = some r) :
    Calls Try.prog 35 [.agg #[va0_0]].toArray W (Ret fun u w' => ∃ (u0 : Value) (u1 : Value) (u0_0 : Value) (b_u0_0 : Int), u = .tuple #[u0, u1] ∧ u0 = .agg #[u0_0] ∧ Ow (Rp.prod Rp.int (Rp.prod Rp.int Rp.int)) 60 true w' [] b_u0_0 u0_0 r.1 ∧ Zn W b_u0_0 ∧ u1 = .bool r.2 ∧ Ext W w') := by
  refine f_enter Try.func35 rfl Try.ntmps35 rfl ?_
  intro a ha
  replace ha : Fr 25 [(0, (.agg #[va0_0]))] a := ha
  have hE : Chg [] W W := Chg.refl _ _
  unfold F_impl_NegatedOf at hF
  refine wp_seq ?_
  refine wp_region_lit ?_
  refine o_box ha rfl rfl rfl ?_; clear ha a; intro b1 w2 hB3 hx4 hlo5 a ha
  have q6 := Zn.one hlo5
  have q7 := Zn.upD q6 hE
  have hE8 := Ext.trans hE hx4
  refine o_alloc (cs := [(.slice none 0 0)]) ha rfl Try.zeroValue29 rfl ?_; clear ha a; intro b9 w10 hB11 hx12 hlo13 a ha
  have q14 := Zn.one hlo13
  have q15 := Nq.new hB3.fpb q14
  have q16 := Nq.made1 hlo13 hB3.bi
  have q17 := Zn.upD q14 hE8
  replace hB3 := hB3.ext hx12
  have hE18 := Ext.trans hE8 hx12
  refine op_g ha rfl (g_assign rfl) ?_; clear ha a; intro a ha
  refine wpList_nil ?_
  replace ha := ha.sub (σ' := [(1, (.pointer (some ⟨b1, 0, none⟩))), (2, (.pointer (some ⟨b9, 0, none⟩)))]) ⟨rfl, rfl, trivial⟩
  refine e_then ?_
  refine wp_seq ?_
  refine wp_region_lit ?_
  refine op_g ha rfl (g_field0 st29_0 rfl) ?_; clear ha a; intro a ha
  refine op_g ha rfl (g_load Try.isAgg27 rfl (hB3.cell rfl)) ?_; clear ha a; intro a ha
  refine op_g ha rfl (g_lenR sl27.und ha0_0 rfl) ?_; clear ha a; intro a ha
  refine op_g ha rfl (g_assign rfl) ?_; clear ha a; intro a ha
  refine wpList_nil ?_
  replace ha := ha.sub (σ' := [(1, (.pointer (some ⟨b1, 0, none⟩))), (2, (.pointer (some ⟨b9, 0, none⟩))), (4, (.int .i64 (a0_0.length : Int)))]) ⟨rfl, rfl, rfl, trivial⟩
  refine e_then ?_
  refine wp_seq ?_
  refine wp_seq ?_
  refine wp_region_lit ?_
  refine op_g ha rfl (g_loadA (cs := [va0_0]) Try.isAgg29 Try.sizeOf29 rfl (by simp) hB3.all) ?_; clear ha a; intro a ha
  obtain ⟨x19, hc20, hF⟩ := cal_some hF
  refine o_call ha rfl rfl Try.call28 (W_impl_FormulaOk (ha0_0.ext hE18) hc20) ?_; clear ha a; rintro v21 w22 ⟨rfl, hx23⟩ a ha
  replace hB3 := hB3.ext hx23
  replace hB11 := hB11.ext hx23
  have hE24 := Ext.trans hE18 hx23
  refine op_g ha rfl (g_not rfl) ?_; clear ha a; intro a ha
  refine op_g ha rfl (g_move rfl) ?_; clear ha a; intro a ha
  by_cases hp25 : ¬ (x19 = true)
  · replace hF := if_t hp25 hF
    rw [show (!x19) = true from (n_iff (Iff.rfl)).2 hp25] at ha
    refine op_unwant ha rfl (yields ha rfl rfl) rfl ?_; clear ha a; intro a ha
    refine op_unwant ha rfl (yields ha rfl rfl) rfl ?_; clear ha a; intro a ha
    refine op_g ha rfl (g_pick rfl rfl) ?_; clear ha a; intro a ha
    refine wpList_nil ?_
    replace ha := ha.sub (σ' := [(1, (.pointer (some ⟨b1, 0, none⟩))), (2, (.pointer (some ⟨b9, 0, none⟩))), (4, (.int .i64 (a0_0.length : Int))), (14, (.bool true))]) ⟨rfl, rfl, rfl, rfl, trivial⟩
    refine e_then ?_
    refine c_true ha rfl ?_
    refine wp_seq ?_
    refine wp_region_lit ?_
    refine op_g ha rfl (g_build (vs := []) (cells := #[(.slice none 0 0)]) rfl (by rfl)) ?_; clear ha a; intro a ha
    refine o_storeA (vs := [(.slice none 0 0)]) ha hB11 Try.sizeOf29 rfl rfl (by intro c hc; simp only [List.mem_cons, List.not_mem_nil, or_false] at hc; rcases hc with hc <;> subst hc <;> first | rfl | exact rfl) rfl ?_; intro w26 hB27 hc28
    replace hc28 := hc28.bl
    replace hB27 : Bx w26 b9 [(.slice none 0 0)] 29 := hB27
    replace hB3 := hB3.nq hc28 q15
    have hE29 := Ext.then hE24 hc28 (Zn.bl q17)
    refine op_g ha rfl (g_assign rfl) ?_; clear ha a; intro a ha
    refine wpList_nil ?_
    replace ha := ha.sub (σ' := [(2, (.pointer (some ⟨b9, 0, none⟩))), (3, (.bool false))]) ⟨rfl, rfl, trivial⟩
    refine e_then ?_
    refine wp_ret ?_
    refine e_then_ret ?_
    obtain rfl := Option.some.inj hF
    exact f_retC2 (cs := [(.slice none 0 0)]) ha rfl rfl Try.isAgg29 Try.sizeOf29 hB27 rfl ⟨_, _, _, -1, rfl, rfl, (Ow.nil (by decide)), (.inl (by decide)), rfl, hE29⟩
  · replace hF := if_f hp25 hF
    rw [show (!x19) = false from b_false (n_iff (Iff.rfl)) hp25] at ha
    refine op_want (yields ha rfl rfl) ?_
    refine op_g ha rfl (g_move rfl) ?_; clear ha a; intro a ha
    refine op_want (yields ha rfl rfl) ?_
    refine op_g ha rfl (g_eql rfl rfl) ?_; clear ha a; intro a ha
    refine op_g ha rfl (g_pick rfl rfl) ?_; clear ha a; intro a ha
    refine wpList_nil ?_
    replace ha := ha.sub (σ' := [(1, (.pointer (some ⟨b1, 0, none⟩))), (2, (.pointer (some ⟨b9, 0, none⟩))), (4, (.int .i64 (a0_0.length : Int))), (14, (.bool (decide ((a0_0.length : Int) = 40))))]) ⟨rfl, rfl, rfl, rfl, trivial⟩
    refine e_then ?_
    refine c_cond ((a0_0.length : Int) = 40) ha rfl (decide_eq_true_iff) (fun hp30 => ?_) (fun hp30 => ?_)
    · replace hF := if_t hp30 hF
      refine wp_seq ?_
      refine wp_region_lit ?_
      refine op_g ha rfl (g_build (vs := []) (cells := #[(.slice none 0 0)]) rfl (by rfl)) ?_; clear ha a; intro a ha
      refine o_storeA (vs := [(.slice none 0 0)]) ha hB11 Try.sizeOf29 rfl rfl (by intro c hc; simp only [List.mem_cons, List.not_mem_nil, or_false] at hc; rcases hc with hc <;> subst hc <;> first | rfl | exact rfl) rfl ?_; intro w31 hB32 hc33
      replace hc33 := hc33.bl
      replace hB32 : Bx w31 b9 [(.slice none 0 0)] 29 := hB32
      replace hB3 := hB3.nq hc33 q15
      have hE34 := Ext.then hE24 hc33 (Zn.bl q17)
      refine op_g ha rfl (g_assign rfl) ?_; clear ha a; intro a ha
      refine wpList_nil ?_
      replace ha := ha.sub (σ' := [(2, (.pointer (some ⟨b9, 0, none⟩))), (3, (.bool false))]) ⟨rfl, rfl, trivial⟩
      refine e_then ?_
      refine wp_ret ?_
      refine e_then_ret ?_
      obtain rfl := Option.some.inj hF
      exact f_retC2 (cs := [(.slice none 0 0)]) ha rfl rfl Try.isAgg29 Try.sizeOf29 hB32 rfl ⟨_, _, _, -1, rfl, rfl, (Ow.nil (by decide)), (.inl (by decide)), rfl, hE34⟩
    · replace hF := if_f hp30 hF
      refine wp_skip ?_
      refine e_then ?_
      refine wp_seq ?_
      refine wp_region_lit ?_
      refine op_g ha rfl (g_field0 st29_0 rfl) ?_; clear ha a; intro a ha
      refine op_g ha rfl (g_load Try.isAgg27 rfl (hB3.cell rfl)) ?_; clear ha a; intro a ha
      obtain ⟨x35, hc36, hF⟩ := cal_some hF
      refine o_call ha rfl rfl Try.call57 (W_slices_Clone_implFact (ha0_0.ext hE24) hc36) ?_; clear ha a; rintro v37 w38 ⟨b40, h41, z42, hx39⟩ a ha
      have q44 := Nq.new hB3.fpb z42
      have q45 := Nq.madeO z42 hB3.bi
      have q46 := Nq.new hB11.fpb z42
      have q47 := Nq.madeO z42 hB11.bi
      replace hB3 := hB3.ext hx39
      replace hB11 := hB11.ext hx39
      have hE48 := Ext.trans hE24 hx39
      have q49 := Zn.upD z42 hE24
      refine op_g ha rfl (g_move rfl) ?_; clear ha a; intro a ha
      obtain ⟨hI50, hF⟩ := ck_some hF
      refine op_g ha rfl (g_sub rfl rfl hI50) ?_; clear ha a; intro a ha
      refine op_g ha rfl (g_build (vs := [(0, (.int .i64 4)), (1, (.int .i64 ((a0_0.length : Int) - 1)))]) (cells := #[(.int .i64 4), (.int .i64 ((a0_0.length : Int) - 1)), (.int .i64 0)]) rfl (by rfl)) ?_; clear ha a; intro a ha
      refine o_lit1 (o := true) (y := (4, (a0_0.length : Int) - 1, 0)) (Rp.prod Rp.int (Rp.prod Rp.int Rp.int)) ha rfl sl27 rfl rfl rfl ⟨[], [], [_], _, rfl, rfl, ⟨rfl, (show InI 4 from by decide), rfl⟩, ⟨[], [], [_], _, rfl, rfl, ⟨rfl, hI50, rfl⟩, ⟨rfl, (show InI 0 from by decide), rfl⟩⟩⟩ ?_; clear ha a; intro v52 w53 h54 hx55 a ha
      obtain ⟨b57, hb57⟩ : ∃ b : Int, b = w38.heap.size := ⟨_, rfl⟩; rw [← hb57] at h54
      have q58 := zn_of hb57
      have q59 := Nq.new hB3.fpb q58
      have q60 := Nq.madeO q58 hB3.bi
      have q61 := Nq.new hB11.fpb q58
      have q62 := Nq.madeO q58 hB11.bi
      have q63 := Nq.new h41.fpb q58
      have q64 := Nq.madeO q58 h41.blt
      have q65 := Zn.upD q58 hE48
      replace hB3 := hB3.ext hx55
      replace hB11 := hB11.ext hx55
      replace h41 := h41.ext hx55
      have hE66 := Ext.trans hE48 hx55
      obtain ⟨hl67, hF⟩ := app_some hF
      refine o_append ha rfl sl27 rfl rfl rfl h41 h54.src (Nq.nil _) hl67 ?_; clear ha a; intro v68 w69 b70 h71 hc72 hb73 a ha
      replace h71 : Ow (Rp.prod Rp.int (Rp.prod Rp.int Rp.int)) 60 true w69 [] b70 v68 _ := h71
      have q75 := Nq.appY q44 hB3.fpb hb73
      have q76 := Nq.appX q45 (Nq.nil _) hb73 hB3.bi
      have q77 := Nq.appY q46 hB11.fpb hb73
      have q78 := Nq.appX q47 (Nq.nil _) hb73 hB11.bi
      have q79 := Nq.appY q64 h54.fpb hb73
      have q80 := Nq.appX q63 (Nq.nil _) hb73 h54.blt
      have q81 := Zn.appD q49 hb73 hE66
      replace hB3 := hB3.nq hc72 q44
      replace hB11 := hB11.nq hc72 q46
      replace h54 := h54.nq hc72 q64
      have hE82 := Ext.then hE66 hc72 (Zn.bl q49)
      refine op_g ha rfl (g_build (vs := [(0, v68)]) (cells := #[v68]) rfl (by obtain ⟨_, _, rfl⟩ := h71.shape ; rfl)) ?_; clear ha a; intro a ha
      refine o_storeA (vs := [v68]) ha hB11 Try.sizeOf29 rfl rfl (by intro c hc; simp only [List.mem_cons, List.not_mem_nil, or_false] at hc; rcases hc with hc <;> subst hc <;> first | rfl | exact h71.oneC) rfl ?_; intro w83 hB84 hc85
      replace hc85 := hc85.bl
      replace hB84 : Bx w83 b9 [v68] 29 := hB84
      replace hB3 := hB3.nq hc85 q15
      replace h54 := h54.nq hc85 q62
      replace h71 := h71.nq hc85 q78
      have hE86 := Ext.then hE82 hc85 (Zn.bl q17)
      refine op_g ha rfl (g_assign rfl) ?_; clear ha a; intro a ha
      refine wpList_nil ?_
      replace ha := ha.sub (σ' := [(2, (.pointer (some ⟨b9, 0, none⟩))), (3, (.bool true))]) ⟨rfl, rfl, trivial⟩
      refine e_then ?_
      refine wp_ret ?_
      obtain rfl := Option.some.inj hF
      exact f_retC2 (cs := [v68]) ha rfl rfl Try.isAgg29 Try.sizeOf29 hB84 rfl ⟨_, _, _, _, rfl, rfl, h71, q81, rfl, hE86⟩
set_option maxHeartbeats 2000000 in
theorem W_laws_eqFact {W : World} {a0_0 : Int} (ha0_0 : InI a0_0) {a0_1 : Int} (ha0_1 : InI a0_1) {a0_2 : Int} (ha0_2 : InI a0_2) {a1_0 : Int} (ha1_0 : InI a1_0) {a1_1 : Int} (ha1_1 : InI a1_1) {a1_2 : Int} (ha1_2 : InI a1_2) {r : Bool} (hF : F_laws_eqFact a0_0 a0_1 a0_2 a1_0 a1_1 a1_2 = some r) :
    Calls Try.prog 58 [.agg #[.int .i64 a0_0, .int .i64 a0_1, .int .i64 a0_2], .agg #[.int .i64 a1_0, .int .i64 a1_1, .int .i64 a1_2]].toArray W (Ret fun u w' => u = .bool r ∧ Ext W w') := by
  refine f_enter Try.func58 rfl Try.ntmps58 rfl ?_
  intro a ha
  replace ha : Fr 20 [(0, (.agg #[(.int .i64 a0_0), (.int .i64 a0_1), (.int .i64 a0_2)])), (1, (.agg #[(.int .i64 a1_0), (.int .i64 a1_1), (.int .i64 a1_2)]))] a := ha
  have hE : Chg [] W W := Chg.refl _ _
  unfold F_laws_eqFact at hF
  refine wp_seq ?_
  refine wp_region_lit ?_
  refine o_box ha rfl rfl rfl ?_; clear ha a; intro b1 w2 hB3 hx4 hlo5 a ha
  have q6 := Zn.one hlo5
  have q7 := Zn.upD q6 hE
  have hE8 := Ext.trans hE hx4
  refine o_box ha rfl rfl rfl ?_; clear ha a; intro b9 w10 hB11 hx12 hlo13 a ha
  have q14 := Zn.one hlo13
  have q15 := Nq.new hB3.fpb q14
  have q16 := Nq.made1 hlo13 hB3.bi
  have q17 := Zn.upD q14 hE8
  replace hB3 := hB3.ext hx12
  have hE18 := Ext.trans hE8 hx12
  refine op_g ha rfl (g_assign rfl) ?_; clear ha a; intro a ha
  refine wpList_nil ?_
  replace ha := ha.sub (σ' := [(2, (.pointer (some ⟨b1, 0, none⟩))), (3, (.pointer (some ⟨b9, 0, none⟩)))]) ⟨rfl, rfl, trivial⟩
  refine e_then ?_
  refine wp_seq ?_
  refine wp_seq ?_
  refine wp_region_lit ?_
  refine op_g ha rfl (g_field0 st60_0 rfl) ?_; clear ha a; intro a ha
  refine op_g ha rfl (g_load Try.isAgg2 rfl (hB3.cell rfl)) ?_; clear ha a; intro a ha
  refine op_g ha rfl (g_field0 st60_0 rfl) ?_; clear ha a; intro a ha
  refine op_g ha rfl (g_load Try.isAgg2 rfl (hB11.cell rfl)) ?_; clear ha a; intro a ha
  refine op_g ha rfl (g_neq rfl rfl) ?_; clear ha a; intro a ha
  refine wpList_nil ?_
  replace ha := ha.sub (σ' := [(2, (.pointer (some ⟨b1, 0, none⟩))), (3, (.pointer (some ⟨b9, 0, none⟩))), (9, (.bool (decide (a0_0 ≠ a1_0))))]) ⟨rfl, rfl, rfl, trivial⟩
  refine e_then ?_
  refine c_cond (a0_0 ≠ a1_0) ha rfl (decide_eq_true_iff) (fun hp19 => ?_) (fun hp19 => ?_)
  · replace hF := if_t hp19 hF
    refine wp_seq ?_
    refine wp_region_lit ?_
    refine op_g ha rfl (g_assign rfl) ?_; clear ha a; intro a ha
    refine wpList_nil ?_
    replace ha := ha.sub (σ' := [(4, (.bool false))]) ⟨rfl, trivial⟩
    refine e_then ?_
    refine wp_ret ?_
    refine e_then_ret ?_
    obtain rfl := Option.some.inj hF
    exact f_ret1 ha rfl rfl ⟨rfl, hE18⟩
  · replace hF := if_f hp19 hF
    refine wp_skip ?_
    refine e_then ?_
    refine wp_seq ?_
    refine wp_seq ?_
    refine wp_region_lit ?_
    refine op_g ha rfl (g_field0 st60_1 rfl) ?_; clear ha a; intro a ha
    refine op_g ha rfl (g_load Try.isAgg2 rfl (hB3.cell rfl)) ?_; clear ha a; intro a ha
    refine op_g ha rfl (g_field0 st60_1 rfl) ?_; clear ha a; intro a ha
    refine op_g ha rfl (g_load Try.isAgg2 rfl (hB11.cell rfl)) ?_; clear ha a; intro a ha
    refine op_g ha rfl (g_neq rfl rfl) ?_; clear ha a; intro a ha
    refine wpList_nil ?_
    replace ha := ha.sub (σ' := [(2, (.pointer (some ⟨b1, 0, none⟩))), (3, (.pointer (some ⟨b9, 0, none⟩))), (14, (.bool (decide (a0_1 ≠ a1_1))))]) ⟨rfl, rfl, rfl, trivial⟩
    refine e_then ?_
    refine c_cond (a0_1 ≠ a1_1) ha rfl (decide_eq_true_iff) (fun hp20 => ?_) (fun hp20 => ?_)
    · replace hF := if_t hp20 hF
      refine wp_seq ?_
      refine wp_region_lit ?_
      refine op_g ha rfl (g_assign rfl) ?_; clear ha a; intro a ha
      refine wpList_nil ?_
      replace ha := ha.sub (σ' := [(4, (.bool false))]) ⟨rfl, trivial⟩
      refine e_then ?_
      refine wp_ret ?_
      refine e_then_ret ?_
      obtain rfl := Option.some.inj hF
      exact f_ret1 ha rfl rfl ⟨rfl, hE18⟩
    · replace hF := if_f hp20 hF
      refine wp_skip ?_
      refine e_then ?_
      refine wp_seq ?_
      refine wp_seq ?_
      refine wp_region_lit ?_
      refine op_g ha rfl (g_field0 st60_2 rfl) ?_; clear ha a; intro a ha
      refine op_g ha rfl (g_load Try.isAgg2 rfl (hB3.cell rfl)) ?_; clear ha a; intro a ha
      refine op_g ha rfl (g_field0 st60_2 rfl) ?_; clear ha a; intro a ha
      refine op_g ha rfl (g_load Try.isAgg2 rfl (hB11.cell rfl)) ?_; clear ha a; intro a ha
      refine op_g ha rfl (g_neq rfl rfl) ?_; clear ha a; intro a ha
      refine wpList_nil ?_
      replace ha := ha.sub (σ' := [(19, (.bool (decide (a0_2 ≠ a1_2))))]) ⟨rfl, trivial⟩
      refine e_then ?_
      refine c_cond (a0_2 ≠ a1_2) ha rfl (decide_eq_true_iff) (fun hp21 => ?_) (fun hp21 => ?_)
      · replace hF := if_t hp21 hF
        refine wp_seq ?_
        refine wp_region_lit ?_
        refine op_g ha rfl (g_assign rfl) ?_; clear ha a; intro a ha
        refine wpList_nil ?_
        replace ha := ha.sub (σ' := [(4, (.bool false))]) ⟨rfl, trivial⟩
        refine e_then ?_
        refine wp_ret ?_
        refine e_then_ret ?_
        obtain rfl := Option.some.inj hF
        exact f_ret1 ha rfl rfl ⟨rfl, hE18⟩
      · replace hF := if_f hp21 hF
        refine wp_skip ?_
        refine e_then ?_
        refine wp_seq ?_
        refine wp_region_lit ?_
        refine op_g ha rfl (g_assign rfl) ?_; clear ha a; intro a ha
        refine wpList_nil ?_
        replace ha := ha.sub (σ' := [(4, (.bool true))]) ⟨rfl, trivial⟩
        refine e_then ?_
        refine wp_ret ?_
        obtain rfl := Option.some.inj hF
        exact f_ret1 ha rfl rfl ⟨rfl, hE18⟩
set_option maxHeartbeats 2000000 in
theorem W_laws_eqFactS {W : World} {va0 : Value} {fa0 : List Nat} {a0 : (List (Int × (Int × Int)))} (ha0 : Ro (Rp.prod Rp.int (Rp.prod Rp.int Rp.int)) W fa0 va0 a0) {va1 : Value} {fa1 : List Nat} {a1 : (List (Int × (Int × Int)))} (ha1 : Ro (Rp.prod Rp.int (Rp.prod Rp.int Rp.int)) W fa1 va1 a1) {r : Bool} (hF : F_laws_eqFactS a0 a1 = some r) :
    Calls Try.prog 39 [va0, va1].toArray W (Ret fun u w' => u = .bool r ∧ Ext W w') := by
  refine f_enter Try.func39 rfl Try.ntmps39 rfl ?_
  intro a ha
  replace ha : Fr 27 [(0, va0), (1, va1)] a := ha
  have hE : Chg [] W W := Chg.refl _ _
  unfold F_laws_eqFactS at hF
  refine wp_seq ?_
  refine wp_region_lit ?_
  refine op_g ha rfl (g_assign rfl) ?_; clear ha a; intro a ha
  refine wpList_nil ?_
  replace ha := ha.sub (σ' := [(0, va0), (1, va1)]) ⟨rfl, rfl, trivial⟩
  refine e_then ?_
  refine wp_seq ?_
  refine wp_seq ?_
  refine wp_region_lit ?_
  refine op_g ha rfl (g_move rfl) ?_; clear ha a; intro a ha
  refine op_g ha rfl (g_lenR sl27.und ha0 rfl) ?_; clear ha a; intro a ha
  refine op_g ha rfl (g_move rfl) ?_; clear ha a; intro a ha
  refine op_g ha rfl (g_lenR sl27.und ha1 rfl) ?_; clear ha a; intro a ha
  refine op_g ha rfl (g_neq rfl rfl) ?_; clear ha a; intro a ha
  refine wpList_nil ?_
  replace ha := ha.sub (σ' := [(0, va0), (1, va1), (10, (.bool (decide ((a0.length : Int) ≠ (a1.length : Int)))))]) ⟨rfl, rfl, rfl, trivial⟩
  refine e_then ?_
  refine c_cond ((a0.length : Int) ≠ (a1.length : Int)) ha rfl (decide_eq_true_iff) (fun hp1 => ?_) (fun hp1 => ?_)
  · replace hF := if_t hp1 hF
    refine wp_seq ?_
    refine wp_region_lit ?_
    refine op_g ha rfl (g_assign rfl) ?_; clear ha a; intro a ha
    refine wpList_nil ?_
    replace ha := ha.sub (σ' := [(4, (.bool false))]) ⟨rfl, trivial⟩
    refine e_then ?_
    refine wp_ret ?_
    refine e_then_ret ?_
    obtain rfl := Option.some.inj hF
    exact f_ret1 ha rfl rfl ⟨rfl, hE⟩
  · replace hF := if_f hp1 hF
    refine wp_skip ?_
    refine e_then ?_
    refine wp_seq ?_
    refine wp_seq ?_
    refine wp_region_lit ?_
    refine op_g ha rfl (g_assign rfl) ?_; clear ha a; intro a ha
    refine wpList_nil ?_
    replace ha := ha.sub (σ' := [(0, va0), (1, va1), (5, (.int .i64 0))]) ⟨rfl, rfl, rfl, trivial⟩
    refine e_then ?_
    obtain ⟨o157, ho158, hK159⟩ := bnd_some hF
    obtain ⟨n160, hn161⟩ := lp_some ho158; clear ho158
    refine c_loop (fun a w => Fr 27 [] a ∧ Chg [] W w ∧ o157 = .inl ()) (fun n a w => ∃ (i79 : Int), Fr 27 [(0, va0), (1, va1), (5, (.int .i64 i79))] a ∧ Chg [] W w ∧ InI i79 ∧ lpN (fun s => F_laws_eqFactS_l1 a0 a1 s) n i79 = some o157) n160 ⟨0, ha.sub ⟨rfl, rfl, rfl, trivial⟩, hE, (show InI 0 from by decide), hn161⟩ ?_ ?_
    · rintro m165 a w78 ⟨i79, ha, hE81, hI80, hF⟩
      cases m165 with
      | zero => exact (lpN_zero hF).elim
      | succ m165 =>
        obtain ⟨z164, hF, hN163⟩ := lpN_succ hF
        have hF : F_laws_eqFactS_l1 a0 a1 i79 = some z164 := hF; unfold F_laws_eqFactS_l1 at hF
        refine wp_seq ?_
        refine wp_seq ?_
        refine wp_region_lit ?_
        refine op_g ha rfl (g_move rfl) ?_; clear ha a; intro a ha
        refine op_g ha rfl (g_move rfl) ?_; clear ha a; intro a ha
        refine op_g ha rfl (g_lenR sl27.und ha0 rfl) ?_; clear ha a; intro a ha
        refine op_g ha rfl (g_lss rfl rfl) ?_; clear ha a; intro a ha
        refine wpList_nil ?_
        replace ha := ha.sub (σ' := [(0, va0), (1, va1), (5, (.int .i64 i79)), (14, (.bool (decide (i79 < (a0.length : Int)))))]) ⟨rfl, rfl, rfl, rfl, trivial⟩
        refine e_then ?_
        refine c_cond (i79 < (a0.length : Int)) ha rfl (decide_eq_true_iff) (fun hp166 => ?_) (fun hp166 => ?_)
        · replace hF := if_t hp166 hF
          refine wp_skip ?_
          refine e_then ?_
          refine wp_seq ?_
          refine wp_block ?_
          refine wp_seq ?_
          refine d_quiet hmix (by kernel_rfl) ?_
          refine q_g ha rfl (g_move rfl) ?_; clear ha a; intro a ha
          refine q_g ha rfl (g_move rfl) ?_; clear ha a; intro a ha
          obtain ⟨x167, g168, gx169, hF⟩ := idx_some hF
          obtain ⟨p170, cs171, f172, hf173, hpb174, hat175, hr176, hi177⟩ := ha0.at g168 gx169
          obtain ⟨f178, f179, c180, c181, rfl, rfl, h182, h183⟩ := hr176
          obtain ⟨rfl, hI186, rfl⟩ := h182
          obtain ⟨f187, f188, c189, c190, rfl, rfl, h191, h192⟩ := h183
          obtain ⟨rfl, hI195, rfl⟩ := h191
          obtain ⟨rfl, hI196, rfl⟩ := h192
          refine q_g ha rfl (hi177.gives sl27 rfl rfl) ?_; clear ha a; intro a ha
          refine q_g ha rfl (g_loadA0 (cs := [(.int .i64 x167.1), (.int .i64 x167.2.1), (.int .i64 x167.2.2)]) hE81 Try.isAgg60 Try.sizeOf60 rfl (by simp) hat175) ?_; clear ha a; intro a ha
          refine q_g ha rfl (g_move rfl) ?_; clear ha a; intro a ha
          refine q_g ha rfl (g_move rfl) ?_; clear ha a; intro a ha
          obtain ⟨x197, g198, gx199, hF⟩ := idx_some hF
          obtain ⟨p200, cs201, f202, hf203, hpb204, hat205, hr206, hi207⟩ := ha1.at g198 gx199
          obtain ⟨f208, f209, c210, c211, rfl, rfl, h212, h213⟩ := hr206
          obtain ⟨rfl, hI216, rfl⟩ := h212
          obtain ⟨f217, f218, c219, c220, rfl, rfl, h221, h222⟩ := h213
          obtain ⟨rfl, hI225, rfl⟩ := h221
          obtain ⟨rfl, hI226, rfl⟩ := h222
          refine q_g ha rfl (hi207.gives sl27 rfl rfl) ?_; clear ha a; intro a ha
          refine q_g ha rfl (g_loadA0 (cs := [(.int .i64 x197.1), (.int .i64 x197.2.1), (.int .i64 x197.2.2)]) hE81 Try.isAgg60 Try.sizeOf60 rfl (by simp) hat205) ?_; clear ha a; intro a ha
          obtain ⟨x229, hc230, hF⟩ := cal_some hF
          refine q_call (.bool x229) ha rfl rfl Try.call58 (fun w228 hx227 => W_laws_eqFact hI186 hI195 hI196 hI216 hI225 hI226 hc230) (fun _ _ _ h => ⟨h.1, h.2⟩) ?_; clear ha a; intro a ha
          refine q_g ha rfl (g_not rfl) ?_; clear ha a; intro a ha
          refine q_nil ?_; intro w231 hx232
          have hE233 := Ext.trans hE81 hx232
          replace ha := ha.sub (σ' := [(0, va0), (1, va1), (5, (.int .i64 i79)), (26, (.bool (!x229)))]) ⟨rfl, rfl, rfl, rfl, trivial⟩
          refine e_then ?_
          refine c_cond (¬ (x229 = true)) ha rfl (n_iff (Iff.rfl)) (fun hp234 => ?_) (fun hp234 => ?_)
          · replace hF := if_t hp234 hF
            refine wp_seq ?_
            refine wp_region_lit ?_
            refine op_g ha rfl (g_assign rfl) ?_; clear ha a; intro a ha
            refine wpList_nil ?_
            replace ha := ha.sub (σ' := [(4, (.bool false))]) ⟨rfl, trivial⟩
            refine e_then ?_
            refine wp_ret ?_
            refine e_blk_ret ?_
            refine e_then_ret ?_
            refine e_lq_ret ?_
            refine e_then_ret ?_
            obtain rfl := Option.some.inj hF
            have e235 := LK_inr hN163; subst e235
            have e236 := BK_inr hK159; subst e236
            exact f_ret1 ha rfl rfl ⟨rfl, hE233⟩
          · replace hF := if_f hp234 hF
            refine wp_skip ?_
            refine e_blk ?_
            refine e_then ?_
            refine wp_region_lit ?_
            refine op_g ha rfl (g_move rfl) ?_; clear ha a; intro a ha
            obtain ⟨hI237, hF⟩ := ck_some hF
            refine op_g ha rfl (g_add rfl rfl hI237) ?_; clear ha a; intro a ha
            refine op_g ha rfl (g_assign rfl) ?_; clear ha a; intro a ha
            refine wpList_nil ?_
            replace ha := ha.sub (σ' := [(0, va0), (1, va1), (5, (.int .i64 (i79 + 1)))]) ⟨rfl, rfl, rfl, trivial⟩
            refine e_lq ?_
            obtain rfl := Option.some.inj hF
            exact ⟨_, Nat.lt_succ_self _, i79 + 1, ha.sub ⟨rfl, rfl, rfl, trivial⟩, hE233, hI237, hN163⟩
        · replace hF := if_f hp166 hF
          refine wp_exit ?_
          refine e_then_exit ?_
          refine e_lq_eq ?_
          obtain rfl := Option.some.inj hF
          exact ⟨ha.sub trivial, hE81, (LK_inr hN163).symm⟩
    · rintro a w156 ⟨ha, hE162, rfl⟩
      have hF : F_laws_eqFactS_k2 = some _ := hK159; clear hK159; unfold F_laws_eqFactS_k2 at hF
      refine e_then ?_
      refine wp_seq ?_
      refine wp_region_lit ?_
      refine op_g ha rfl (g_assign rfl) ?_; clear ha a; intro a ha
      refine wpList_nil ?_
      refine e_then ?_
      refine wp_ret ?_
      obtain rfl := Option.some.inj hF
      exact f_ret1 ha rfl rfl ⟨rfl, hE162⟩
set_option maxHeartbeats 2000000 in
theorem W_laws_eqFormula {W : World} {va0_0 : Value} {fa0_0 : List Nat} {a0_0 : (List (Int × (Int × Int)))} (ha0_0 : Ro (Rp.prod Rp.int (Rp.prod Rp.int Rp.int)) W fa0_0 va0_0 a0_0) {va1_0 : Value} {fa1_0 : List Nat} {a1_0 : (List (Int × (Int × Int)))} (ha1_0 : Ro (Rp.prod Rp.int (Rp.prod Rp.int Rp.int)) W fa1_0 va1_0 a1_0) {r : Bool} (hF : F_laws_eqFormula a0_0 a1_0 = some r) :
    Calls Try.prog 17 [.agg #[va0_0], .agg #[va1_0]].toArray W (Ret fun u w' => u = .bool r ∧ Ext W w') := by
  refine f_enter Try.func17 rfl Try.ntmps17 rfl ?_
  intro a ha
  replace ha : Fr 11 [(0, (.agg #[va0_0])), (1, (.agg #[va1_0]))] a := ha
  have hE : Chg [] W W := Chg.refl _ _
  unfold F_laws_eqFormula at hF
  refine wp_seq ?_
  refine wp_region_lit ?_
  refine o_box ha rfl rfl rfl ?_; clear ha a; intro b1 w2 hB3 hx4 hlo5 a ha
  have q6 := Zn.one hlo5
  have q7 := Zn.upD q6 hE
  have hE8 := Ext.trans hE hx4
  refine o_box ha rfl rfl rfl ?_; clear ha a; intro b9 w10 hB11 hx12 hlo13 a ha
  have q14 := Zn.one hlo13
  have q15 := Nq.new hB3.fpb q14
  have q16 := Nq.made1 hlo13 hB3.bi
  have q17 := Zn.upD q14 hE8
  replace hB3 := hB3.ext hx12
  have hE18 := Ext.trans hE8 hx12
  refine op_g ha rfl (g_assign rfl) ?_; clear ha a; intro a ha
  refine wpList_nil ?_
  replace ha := ha.sub (σ' := [(2, (.pointer (some ⟨b1, 0, none⟩))), (3, (.pointer (some ⟨b9, 0, none⟩)))]) ⟨rfl, rfl, trivial⟩
  refine e_then ?_
  refine wp_seq ?_
  refine wp_seq ?_
  refine wp_region_lit ?_
  refine op_g ha rfl (g_field0 st29_0 rfl) ?_; clear ha a; intro a ha
  refine op_g ha rfl (g_load Try.isAgg27 rfl (hB3.cell rfl)) ?_; clear ha a; intro a ha
  refine op_g ha rfl (g_field0 st29_0 rfl) ?_; clear ha a; intro a ha
  refine op_g ha rfl (g_load Try.isAgg27 rfl (hB11.cell rfl)) ?_; clear ha a; intro a ha
  obtain ⟨x19, hc20, hF⟩ := cal_some hF
  refine o_call ha rfl rfl Try.call39 (W_laws_eqFactS (ha0_0.ext hE18) (ha1_0.ext hE18) hc20) ?_; clear ha a; rintro v21 w22 ⟨rfl, hx23⟩ a ha
  replace hB3 := hB3.ext hx23
  replace hB11 := hB11.ext hx23
  have hE24 := Ext.trans hE18 hx23
  refine op_g ha rfl (g_not rfl) ?_; clear ha a; intro a ha
  refine wpList_nil ?_
  replace ha := ha.sub (σ' := [(10, (.bool (!x19)))]) ⟨rfl, trivial⟩
  refine e_then ?_
  refine c_cond (¬ (x19 = true)) ha rfl (n_iff (Iff.rfl)) (fun hp25 => ?_) (fun hp25 => ?_)
  · replace hF := if_t hp25 hF
    refine wp_seq ?_
    refine wp_region_lit ?_
    refine op_g ha rfl (g_assign rfl) ?_; clear ha a; intro a ha
    refine wpList_nil ?_
    replace ha := ha.sub (σ' := [(4, (.bool false))]) ⟨rfl, trivial⟩
    refine e_then ?_
    refine wp_ret ?_
    refine e_then_ret ?_
    obtain rfl := Option.some.inj hF
    exact f_ret1 ha rfl rfl ⟨rfl, hE24⟩
  · replace hF := if_f hp25 hF
    refine wp_skip ?_
    refine e_then ?_
    refine wp_seq ?_
    refine wp_region_lit ?_
    refine op_g ha rfl (g_assign rfl) ?_; clear ha a; intro a ha
    refine wpList_nil ?_
    replace ha := ha.sub (σ' := [(4, (.bool true))]) ⟨rfl, trivial⟩
    refine e_then ?_
    refine wp_ret ?_
    obtain rfl := Option.some.inj hF
    exact f_ret1 ha rfl rfl ⟨rfl, hE24⟩
set_option maxHeartbeats 2000000 in
theorem W_laws_markFactS {W : World} {va0 : Value} {ba0 : Int} {a0 : (List (Int × (Int × Int)))} (ha0 : Ow (Rp.prod Rp.int (Rp.prod Rp.int Rp.int)) 60 true W [] ba0 va0 a0) {a1 : Int} (ha1 : InI a1) {r : (Int × (List (Int × (Int × Int))))} (hF : F_laws_markFactS a0 a1 = some r) :
    Calls Try.prog 40 [va0, .int .i64 a1].toArray W (Ret fun u w' => (u = .int .i64 r.1 ∧ InI r.1) ∧ Ow (Rp.prod Rp.int (Rp.prod Rp.int Rp.int)) 60 true w' [] ba0 va0 r.2 ∧ Chg (bl ba0) W w') := by
  refine f_enter Try.func40 rfl Try.ntmps40 rfl ?_
  intro a ha
  replace ha : Fr 34 [(0, va0), (1, (.int .i64 a1))] a := ha
  have hE : Chg (bl ba0) W W := Chg.refl _ _
  unfold F_laws_markFactS at hF
  refine wp_seq ?_
  refine wp_region_lit ?_
  refine op_g ha rfl (g_assign rfl) ?_; clear ha a; intro a ha
  refine wpList_nil ?_
  replace ha := ha.sub (σ' := [(0, va0), (1, (.int .i64 a1))]) ⟨rfl, rfl, trivial⟩
  refine e_then ?_
  refine wp_seq ?_
  refine wp_seq ?_
  refine wp_region_lit ?_
  refine op_g ha rfl (g_assign rfl) ?_; clear ha a; intro a ha
  refine wpList_nil ?_
  refine e_then ?_
  obtain ⟨o273, ho274, hK275⟩ := bnd_some hF
  obtain ⟨n276, hn277⟩ := lp_some ho274; clear ho274
  refine c_loop (fun a w => ∃ (i267 : Int) (l270 : (List (Int × (Int × Int)))), Fr 34 [(1, (.int .i64 i267))] a ∧ Chg (bl ba0) W w ∧ InI i267 ∧ Ow (Rp.prod Rp.int (Rp.prod Rp.int Rp.int)) 60 true w [] ba0 va0 l270 ∧ o273 = .inl (i267, l270)) (fun n a w => ∃ (l132 : (List (Int × (Int × Int)))) (i135 : Int) (i137 : Int), Fr 34 [(0, va0), (1, (.int .i64 i135)), (5, (.int .i64 i137))] a ∧ Chg (bl ba0) W w ∧ InI i135 ∧ InI i137 ∧ Ow (Rp.prod Rp.int (Rp.prod Rp.int Rp.int)) 60 true w [] ba0 va0 l132 ∧ lpN (fun s => F_laws_markFactS_l1 s.1 s.2.1 s.2.2) n (l132, i135, i137) = some o273) n276 ⟨a0, a1, 0, ha.sub ⟨rfl, rfl, rfl, trivial⟩, hE, ha1, (show InI 0 from by decide), ha0, hn277⟩ ?_ ?_
  · rintro m281 a w130 ⟨l132, i135, i137, ha, hE139, hI136, hI138, h131, hF⟩
    cases m281 with
    | zero => exact (lpN_zero hF).elim
    | succ m281 =>
      obtain ⟨z280, hF, hN279⟩ := lpN_succ hF
      have hF : F_laws_markFactS_l1 l132 i135 i137 = some z280 := hF; unfold F_laws_markFactS_l1 at hF
      refine wp_seq ?_
      refine wp_seq ?_
      refine wp_region_lit ?_
      refine op_g ha rfl (g_move rfl) ?_; clear ha a; intro a ha
      refine op_g ha rfl (g_move rfl) ?_; clear ha a; intro a ha
      refine op_g ha rfl (g_lenO sl27.und h131 rfl) ?_; clear ha a; intro a ha
      refine op_g ha rfl (g_lss rfl rfl) ?_; clear ha a; intro a ha
      refine wpList_nil ?_
      replace ha := ha.sub (σ' := [(0, va0), (1, (.int .i64 i135)), (5, (.int .i64 i137)), (9, (.bool (decide (i137 < (l132.length : Int)))))]) ⟨rfl, rfl, rfl, rfl, trivial⟩
      refine e_then ?_
      refine c_cond (i137 < (l132.length : Int)) ha rfl (decide_eq_true_iff) (fun hp282 => ?_) (fun hp282 => ?_)
      · replace hF := if_t hp282 hF
        refine wp_skip ?_
        refine e_then ?_
        refine wp_seq ?_
        refine wp_block ?_
        refine wp_seq ?_
        refine wp_region_lit ?_
        refine op_g ha rfl (g_move rfl) ?_; clear ha a; intro a ha
        refine op_g ha rfl (g_move rfl) ?_; clear ha a; intro a ha
        refine op_g ha rfl (g_move rfl) ?_; clear ha a; intro a ha
        obtain ⟨x283, g284, gx285, hF⟩ := idx_some hF
        obtain ⟨p286, cs287, f288, hf289, hpb290, hat291, hr292, hi293⟩ := h131.at g284 gx285
        obtain ⟨f294, f295, c296, c297, rfl, rfl, h298, h299⟩ := hr292
        obtain ⟨rfl, hI302, rfl⟩ := h298
        obtain ⟨f303, f304, c305, c306, rfl, rfl, h307, h308⟩ := h299
        obtain ⟨rfl, hI311, rfl⟩ := h307
        obtain ⟨rfl, hI312, rfl⟩ := h308
        refine op_g ha rfl (hi293.gives sl27 rfl rfl) ?_; clear ha a; intro a ha
        refine op_g ha rfl (g_field st60_0 rfl) ?_; clear ha a; intro a ha
        refine o_storeF (cs := [(.int .i64 x283.1), (.int .i64 x283.2.1), (.int .i64 x283.2.2)]) (c := [(.int .i64 i135), (.int .i64 x283.2.1), (.int .i64 x283.2.2)]) (f := []) (q := (i135, x283.2.1, x283.2.2)) ha Try.sizeOf2 rfl rfl rfl h131 hi293 hat291 ⟨[], [], [_], _, rfl, rfl, ⟨rfl, hI136, rfl⟩, ⟨[], [], [_], _, rfl, rfl, ⟨rfl, hI311, rfl⟩, ⟨rfl, hI312, rfl⟩⟩⟩ rfl rfl rfl rfl (Nq.nil _) ?_; intro w313 fs314 h315 hc316 hs317
        obtain rfl := Subst.nil hs317
        have hE318 := Chg.same hE139 hc316
        refine wpList_nil ?_
        replace ha := ha.sub (σ' := [(0, va0), (1, (.int .i64 i135)), (5, (.int .i64 i137))]) ⟨rfl, rfl, rfl, trivial⟩
        refine e_then ?_
        refine wp_seq ?_
        refine wp_region_lit ?_
        refine op_g ha rfl (g_move rfl) ?_; clear ha a; intro a ha
        obtain ⟨hI319, hF⟩ := ck_some hF
        refine op_g ha rfl (g_add rfl rfl hI319) ?_; clear ha a; intro a ha
        refine op_g ha rfl (g_assign rfl) ?_; clear ha a; intro a ha
        refine wpList_nil ?_
        replace ha := ha.sub (σ' := [(0, va0), (1, (.int .i64 (i135 + 1))), (5, (.int .i64 i137))]) ⟨rfl, rfl, rfl, trivial⟩
        refine e_then ?_
        refine wp_seq ?_
        refine wp_region_lit ?_
        refine op_g ha rfl (g_move rfl) ?_; clear ha a; intro a ha
        refine op_g ha rfl (g_move rfl) ?_; clear ha a; intro a ha
        refine op_g ha rfl (g_move rfl) ?_; clear ha a; intro a ha
        obtain ⟨x321, g322, gx323, hF⟩ := idx_some hF
        obtain ⟨p324, cs325, f326, hf327, hpb328, hat329, hr330, hi331⟩ := h315.at g322 gx323
        obtain ⟨f332, f333, c334, c335, rfl, rfl, h336, h337⟩ := hr330
        obtain ⟨rfl, hI340, rfl⟩ := h336
        obtain ⟨f341, f342, c343, c344, rfl, rfl, h345, h346⟩ := h337
        obtain ⟨rfl, hI349, rfl⟩ := h345
        obtain ⟨rfl, hI350, rfl⟩ := h346
        refine op_g ha rfl (hi331.gives sl27 rfl rfl) ?_; clear ha a; intro a ha
        refine op_g ha rfl (g_field st60_1 rfl) ?_; clear ha a; intro a ha
        refine o_storeF (cs := [(.int .i64 x321.1), (.int .i64 x321.2.1), (.int .i64 x321.2.2)]) (c := [(.int .i64 x321.1), (.int .i64 (i135 + 1)), (.int .i64 x321.2.2)]) (f := []) (q := (x321.1, i135 + 1, x321.2.2)) ha Try.sizeOf2 rfl rfl rfl h315 hi331 hat329 ⟨[], [], [_], _, rfl, rfl, ⟨rfl, hI340, rfl⟩, ⟨[], [], [_], _, rfl, rfl, ⟨rfl, hI319, rfl⟩, ⟨rfl, hI350, rfl⟩⟩⟩ rfl rfl rfl rfl (Nq.nil _) ?_; intro w351 fs352 h353 hc354 hs355
        obtain rfl := Subst.nil hs355
        have hE356 := Chg.same hE318 hc354
        refine wpList_nil ?_
        replace ha := ha.sub (σ' := [(0, va0), (1, (.int .i64 (i135 + 1))), (5, (.int .i64 i137))]) ⟨rfl, rfl, rfl, trivial⟩
        refine e_then ?_
        refine wp_seq ?_
        refine wp_region_lit ?_
        refine op_g ha rfl (g_move rfl) ?_; clear ha a; intro a ha
        obtain ⟨hI357, hF⟩ := ck_some hF
        refine op_g ha rfl (g_add rfl rfl hI357) ?_; clear ha a; intro a ha
        refine op_g ha rfl (g_assign rfl) ?_; clear ha a; intro a ha
        refine wpList_nil ?_
        replace ha := ha.sub (σ' := [(0, va0), (1, (.int .i64 ((i135 + 1) + 1))), (5, (.int .i64 i137))]) ⟨rfl, rfl, rfl, trivial⟩
        refine e_then ?_
        refine wp_seq ?_
        refine wp_region_lit ?_
        refine op_g ha rfl (g_move rfl) ?_; clear ha a; intro a ha
        refine op_g ha rfl (g_move rfl) ?_; clear ha a; intro a ha
        refine op_g ha rfl (g_move rfl) ?_; clear ha a; intro a ha
        obtain ⟨x359, g360, gx361, hF⟩ := idx_some hF
        obtain ⟨p362, cs363, f364, hf365, hpb366, hat367, hr368, hi369⟩ := h353.at g360 gx361
        obtain ⟨f370, f371, c372, c373, rfl, rfl, h374, h375⟩ := hr368
        obtain ⟨rfl, hI378, rfl⟩ := h374
        obtain ⟨f379, f380, c381, c382, rfl, rfl, h383, h384⟩ := h375
        obtain ⟨rfl, hI387, rfl⟩ := h383
        obtain ⟨rfl, hI388, rfl⟩ := h384
        refine op_g ha rfl (hi369.gives sl27 rfl rfl) ?_; clear ha a; intro a ha
        refine op_g ha rfl (g_field st60_2 rfl) ?_; clear ha a; intro a ha
        refine o_storeF (cs := [(.int .i64 x359.1), (.int .i64 x359.2.1), (.int .i64 x359.2.2)]) (c := [(.int .i64 x359.1), (.int .i64 x359.2.1), (.int .i64 ((i135 + 1) + 1))]) (f := []) (q := (x359.1, x359.2.1, (i135 + 1) + 1)) ha Try.sizeOf2 rfl rfl rfl h353 hi369 hat367 ⟨[], [], [_], _, rfl, rfl, ⟨rfl, hI378, rfl⟩, ⟨[], [], [_], _, rfl, rfl, ⟨rfl, hI387, rfl⟩, ⟨rfl, hI357, rfl⟩⟩⟩ rfl rfl rfl rfl (Nq.nil _) ?_; intro w389 fs390 h391 hc392 hs393
        obtain rfl := Subst.nil hs393
        have hE394 := Chg.same hE356 hc392
        refine wpList_nil ?_
        replace ha := ha.sub (σ' := [(0, va0), (1, (.int .i64 ((i135 + 1) + 1))), (5, (.int .i64 i137))]) ⟨rfl, rfl, rfl, trivial⟩
        refine e_then ?_
        refine wp_region_lit ?_
        refine op_g ha rfl (g_move rfl) ?_; clear ha a; intro a ha
        obtain ⟨hI395, hF⟩ := ck_some hF
        refine op_g ha rfl (g_add rfl rfl hI395) ?_; clear ha a; intro a ha
        refine op_g ha rfl (g_assign rfl) ?_; clear ha a; intro a ha
        refine wpList_nil ?_
        replace ha := ha.sub (σ' := [(0, va0), (1, (.int .i64 (((i135 + 1) + 1) + 1))), (5, (.int .i64 i137))]) ⟨rfl, rfl, rfl, trivial⟩
        refine e_blk ?_
        refine e_then ?_
        refine wp_region_lit ?_
        refine op_g ha rfl (g_move rfl) ?_; clear ha a; intro a ha
        obtain ⟨hI397, hF⟩ := ck_some hF
        refine op_g ha rfl (g_add rfl rfl hI397) ?_; clear ha a; intro a ha
        refine op_g ha rfl (g_assign rfl) ?_; clear ha a; intro a ha
        refine wpList_nil ?_
        replace ha := ha.sub (σ' := [(0, va0), (1, (.int .i64 (((i135 + 1) + 1) + 1))), (5, (.int .i64 (i137 + 1)))]) ⟨rfl, rfl, rfl, trivial⟩
        refine e_lq ?_
        obtain rfl := Option.some.inj hF
        exact ⟨_, Nat.lt_succ_self _, (((l132.set ((i137).toNat) (i135, x283.2.1, x283.2.2)).set ((i137).toNat) (x321.1, i135 + 1, x321.2.2)).set ((i137).toNat) (x359.1, x359.2.1, (i135 + 1) + 1)), ((i135 + 1) + 1) + 1, i137 + 1, ha.sub ⟨rfl, rfl, rfl, trivial⟩, hE394, hI395, hI397, h391, hN279⟩
      · replace hF := if_f hp282 hF
        refine wp_exit ?_
        refine e_then_exit ?_
        refine e_lq_eq ?_
        obtain rfl := Option.some.inj hF
        exact ⟨i135, l132, ha.sub ⟨rfl, trivial⟩, hE139, hI136, h131, (LK_inr hN279).symm⟩
  · rintro a w266 ⟨i267, l270, ha, hE278, hI268, h269, rfl⟩
    have hF : F_laws_markFactS_k2 i267 l270 = some _ := hK275; clear hK275; unfold F_laws_markFactS_k2 at hF
    refine e_then ?_
    refine wp_seq ?_
    refine wp_region_lit ?_
    refine op_g ha rfl (g_move rfl) ?_; clear ha a; intro a ha
    refine op_g ha rfl (g_assign rfl) ?_; clear ha a; intro a ha
    refine wpList_nil ?_
    replace ha := ha.sub (σ' := [(4, (.int .i64 i267))]) ⟨rfl, trivial⟩
    refine e_then ?_
    refine wp_ret ?_
    obtain rfl := Option.some.inj hF
    exact f_ret1 ha rfl rfl ⟨⟨rfl, hI268⟩, h269, hE278⟩
set_option maxHeartbeats 2000000 in
theorem W_laws_markFormula {W : World} {va0_0 : Value} {ba0_0 : Int} {a0_0 : (List (Int × (Int × Int)))} (ha0_0 : Ow (Rp.prod Rp.int (Rp.prod Rp.int Rp.int)) 60 true W [] ba0_0 va0_0 a0_0) {a1 : Int} (ha1 : InI a1) {r : (Int × (List (Int × (Int × Int))))} (hF : F_laws_markFormula a0_0 a1 = some r) :
    Calls Try.prog 18 [.agg #[va0_0], .int .i64 a1].toArray W (Ret fun u w' => (u = .int .i64 r.1 ∧ InI r.1) ∧ Ow (Rp.prod Rp.int (Rp.prod Rp.int Rp.int)) 60 true w' [] ba0_0 va0_0 r.2 ∧ Chg (bl ba0_0) W w') := by
  refine f_enter Try.func18 rfl Try.ntmps18 rfl ?_
  intro a ha
  replace ha : Fr 10 [(0, (.agg #[va0_0])), (1, (.int .i64 a1))] a := ha
  have hE : Chg (bl ba0_0) W W := Chg.refl _ _
  unfold F_laws_markFormula at hF
  refine wp_seq ?_
  refine wp_region_lit ?_
  refine o_box ha rfl rfl rfl ?_; clear ha a; intro b1 w2 hB3 hx4 hlo5 a ha
  have q6 := Zn.one hlo5
  have q7 := Nq.new ha0_0.fpb q6
  have q8 := Nq.made1 hlo5 ha0_0.blt
  have q9 := Zn.upD q6 hE
  replace ha0_0 := ha0_0.ext hx4
  have hE10 := Chg.more hE hx4
  refine op_g ha rfl (g_assign rfl) ?_; clear ha a; intro a ha
  refine wpList_nil ?_
  replace ha := ha.sub (σ' := [(1, (.int .i64 a1)), (2, (.pointer (some ⟨b1, 0, none⟩)))]) ⟨rfl, rfl, trivial⟩
  refine e_then ?_
  refine wp_seq ?_
  refine wp_region_lit ?_
  refine op_g ha rfl (g_field0 st29_0 rfl) ?_; clear ha a; intro a ha
  refine op_g ha rfl (g_load Try.isAgg27 rfl (hB3.cell rfl)) ?_; clear ha a; intro a ha
  refine op_g ha rfl (g_move rfl) ?_; clear ha a; intro a ha
  obtain ⟨x11, hc12, hF⟩ := cal_some hF
  refine o_call ha rfl rfl Try.call40 (W_laws_markFactS ha0_0 ha1 hc12) ?_; clear ha a; rintro v13 w14 ⟨⟨rfl, hI16⟩, h17, hx15⟩ a ha
  replace hB3 := hB3.nq hx15 q8
  have hE18 := Chg.same hE10 hx15
  refine op_g ha rfl (g_assign rfl) ?_; clear ha a; intro a ha
  refine wpList_nil ?_
  replace ha := ha.sub (σ' := [(1, (.int .i64 x11.1))]) ⟨rfl, trivial⟩
  refine e_then ?_
  refine wp_seq ?_
  refine wp_region_lit ?_
  refine op_g ha rfl (g_move rfl) ?_; clear ha a; intro a ha
  refine op_g ha rfl (g_assign rfl) ?_; clear ha a; intro a ha
  refine wpList_nil ?_
  replace ha := ha.sub (σ' := [(4, (.int .i64 x11.1))]) ⟨rfl, trivial⟩
  refine e_then ?_
  refine wp_ret ?_
  obtain rfl := Option.some.inj hF
  exact f_ret1 ha rfl rfl ⟨⟨rfl, hI16⟩, h17, hE18⟩
set_option maxHeartbeats 2000000 in
theorem W_laws_heldFactS {W : World} {va0 : Value} {fa0 : List Nat} {a0 : (List (Int × (Int × Int)))} (ha0 : Ro (Rp.prod Rp.int (Rp.prod Rp.int Rp.int)) W fa0 va0 a0) {a1 : Int} (ha1 : InI a1) {r : Int} (hF : F_laws_heldFactS a0 a1 = some r) :
    Calls Try.prog 41 [va0, .int .i64 a1].toArray W (Ret fun u w' => (u = .int .i64 r ∧ InI r) ∧ Ext W w') := by
  refine f_enter Try.func41 rfl Try.ntmps41 rfl ?_
  intro a ha
  replace ha : Fr 40 [(0, va0), (1, (.int .i64 a1))] a := ha
  have hE : Chg [] W W := Chg.refl _ _
  unfold F_laws_heldFactS at hF
  refine wp_seq ?_
  refine wp_region_lit ?_
  refine op_g ha rfl (g_assign rfl) ?_; clear ha a; intro a ha
  refine wpList_nil ?_
  replace ha := ha.sub (σ' := [(0, va0), (1, (.int .i64 a1))]) ⟨rfl, rfl, trivial⟩
  refine e_then ?_
  refine wp_seq ?_
  refine wp_seq ?_
  refine wp_region_lit ?_
  refine op_g ha rfl (g_assign rfl) ?_; clear ha a; intro a ha
  refine wpList_nil ?_
  refine e_then ?_
  obtain ⟨o226, ho227, hK228⟩ := bnd_some hF
  obtain ⟨n229, hn230⟩ := lp_some ho227; clear ho227
  refine c_loop (fun a w => ∃ (i224 : Int), Fr 40 [(1, (.int .i64 i224))] a ∧ Chg [] W w ∧ InI i224 ∧ o226 = .inl i224) (fun n a w => ∃ (i111 : Int) (i113 : Int), Fr 40 [(0, va0), (1, (.int .i64 i111)), (5, (.int .i64 i113))] a ∧ Chg [] W w ∧ InI i111 ∧ InI i113 ∧ lpN (fun s => F_laws_heldFactS_l1 a0 s.1 s.2) n (i111, i113) = some o226) n229 ⟨a1, 0, ha.sub ⟨rfl, rfl, rfl, trivial⟩, hE, ha1, (show InI 0 from by decide), hn230⟩ ?_ ?_
  · rintro m234 a w110 ⟨i111, i113, ha, hE115, hI112, hI114, hF⟩
    cases m234 with
    | zero => exact (lpN_zero hF).elim
    | succ m234 =>
      obtain ⟨z233, hF, hN232⟩ := lpN_succ hF
      have hF : F_laws_heldFactS_l1 a0 i111 i113 = some z233 := hF; unfold F_laws_heldFactS_l1 at hF
      refine wp_seq ?_
      refine wp_seq ?_
      refine wp_region_lit ?_
      refine op_g ha rfl (g_move rfl) ?_; clear ha a; intro a ha
      refine op_g ha rfl (g_move rfl) ?_; clear ha a; intro a ha
      refine op_g ha rfl (g_lenR sl27.und ha0 rfl) ?_; clear ha a; intro a ha
      refine op_g ha rfl (g_lss rfl rfl) ?_; clear ha a; intro a ha
      refine wpList_nil ?_
      replace ha := ha.sub (σ' := [(0, va0), (1, (.int .i64 i111)), (5, (.int .i64 i113)), (9, (.bool (decide (i113 < (a0.length : Int)))))]) ⟨rfl, rfl, rfl, rfl, trivial⟩
      refine e_then ?_
      refine c_cond (i113 < (a0.length : Int)) ha rfl (decide_eq_true_iff) (fun hp235 => ?_) (fun hp235 => ?_)
      · replace hF := if_t hp235 hF
        refine wp_skip ?_
        refine e_then ?_
        refine wp_seq ?_
        refine wp_block ?_
        refine wp_seq ?_
        refine wp_seq ?_
        refine wp_region_lit ?_
        refine op_g ha rfl (g_move rfl) ?_; clear ha a; intro a ha
        refine op_g ha rfl (g_move rfl) ?_; clear ha a; intro a ha
        obtain ⟨x236, g237, gx238, hF⟩ := idx_some hF
        obtain ⟨p239, cs240, f241, hf242, hpb243, hat244, hr245, hi246⟩ := ha0.at g237 gx238
        obtain ⟨f247, f248, c249, c250, rfl, rfl, h251, h252⟩ := hr245
        obtain ⟨rfl, hI255, rfl⟩ := h251
        obtain ⟨f256, f257, c258, c259, rfl, rfl, h260, h261⟩ := h252
        obtain ⟨rfl, hI264, rfl⟩ := h260
        obtain ⟨rfl, hI265, rfl⟩ := h261
        refine op_g ha rfl (hi246.gives sl27 rfl rfl) ?_; clear ha a; intro a ha
        refine op_g ha rfl (g_field st60_0 rfl) ?_; clear ha a; intro a ha
        refine op_g ha rfl (g_load0 hE115 Try.isAgg2 rfl (hat244 0 _ rfl)) ?_; clear ha a; intro a ha
        refine op_g ha rfl (g_move rfl) ?_; clear ha a; intro a ha
        refine op_g ha rfl (g_neq rfl rfl) ?_; clear ha a; intro a ha
        refine wpList_nil ?_
        replace ha := ha.sub (σ' := [(0, va0), (1, (.int .i64 i111)), (5, (.int .i64 i113)), (18, (.bool (decide (x236.1 ≠ i111))))]) ⟨rfl, rfl, rfl, rfl, trivial⟩
        refine e_then ?_
        refine c_cond (x236.1 ≠ i111) ha rfl (decide_eq_true_iff) (fun hp266 => ?_) (fun hp266 => ?_)
        · replace hF := if_t hp266 hF
          refine wp_seq ?_
          refine wp_region_lit ?_
          refine op_g ha rfl (g_assign rfl) ?_; clear ha a; intro a ha
          refine wpList_nil ?_
          replace ha := ha.sub (σ' := [(4, (.int .i64 (-1)))]) ⟨rfl, trivial⟩
          refine e_then ?_
          refine wp_ret ?_
          refine e_then_ret ?_
          refine e_blk_ret ?_
          refine e_then_ret ?_
          refine e_lq_ret ?_
          refine e_then_ret ?_
          obtain rfl := Option.some.inj hF
          have e267 := LK_inr hN232; subst e267
          have e268 := BK_inr hK228; subst e268
          exact f_ret1 ha rfl rfl ⟨⟨rfl, (show InI (-1) from by decide)⟩, hE115⟩
        · replace hF := if_f hp266 hF
          refine wp_skip ?_
          refine e_then ?_
          refine wp_seq ?_
          refine wp_region_lit ?_
          refine op_g ha rfl (g_move rfl) ?_; clear ha a; intro a ha
          obtain ⟨hI269, hF⟩ := ck_some hF
          refine op_g ha rfl (g_add rfl rfl hI269) ?_; clear ha a; intro a ha
          refine op_g ha rfl (g_assign rfl) ?_; clear ha a; intro a ha
          refine wpList_nil ?_
          replace ha := ha.sub (σ' := [(0, va0), (1, (.int .i64 (i111 + 1))), (5, (.int .i64 i113))]) ⟨rfl, rfl, rfl, trivial⟩
          refine e_then ?_
          refine wp_seq ?_
          refine wp_seq ?_
          refine wp_region_lit ?_
          refine op_g ha rfl (g_move rfl) ?_; clear ha a; intro a ha
          refine op_g ha rfl (g_move rfl) ?_; clear ha a; intro a ha
          obtain ⟨x271, g272, gx273, hF⟩ := idx_some hF
          obtain ⟨p274, cs275, f276, hf277, hpb278, hat279, hr280, hi281⟩ := ha0.at g272 gx273
          obtain ⟨f282, f283, c284, c285, rfl, rfl, h286, h287⟩ := hr280
          obtain ⟨rfl, hI290, rfl⟩ := h286
          obtain ⟨f291, f292, c293, c294, rfl, rfl, h295, h296⟩ := h287
          obtain ⟨rfl, hI299, rfl⟩ := h295
          obtain ⟨rfl, hI300, rfl⟩ := h296
          refine op_g ha rfl (hi281.gives sl27 rfl rfl) ?_; clear ha a; intro a ha
          refine op_g ha rfl (g_field st60_1 rfl) ?_; clear ha a; intro a ha
          refine op_g ha rfl (g_load0 hE115 Try.isAgg2 rfl (hat279 1 _ rfl)) ?_; clear ha a; intro a ha
          refine op_g ha rfl (g_move rfl) ?_; clear ha a; intro a ha
          refine op_g ha rfl (g_neq rfl rfl) ?_; clear ha a; intro a ha
          refine wpList_nil ?_
          replace ha := ha.sub (σ' := [(0, va0), (1, (.int .i64 (i111 + 1))), (5, (.int .i64 i113)), (27, (.bool (decide (x271.2.1 ≠ (i111 + 1)))))]) ⟨rfl, rfl, rfl, rfl, trivial⟩
          refine e_then ?_
          refine c_cond (x271.2.1 ≠ (i111 + 1)) ha rfl (decide_eq_true_iff) (fun hp301 => ?_) (fun hp301 => ?_)
          · replace hF := if_t hp301 hF
            refine wp_seq ?_
            refine wp_region_lit ?_
            refine op_g ha rfl (g_assign rfl) ?_; clear ha a; intro a ha
            refine wpList_nil ?_
            replace ha := ha.sub (σ' := [(4, (.int .i64 (-1)))]) ⟨rfl, trivial⟩
            refine e_then ?_
            refine wp_ret ?_
            refine e_then_ret ?_
            refine e_blk_ret ?_
            refine e_then_ret ?_
            refine e_lq_ret ?_
            refine e_then_ret ?_
            obtain rfl := Option.some.inj hF
            have e302 := LK_inr hN232; subst e302
            have e303 := BK_inr hK228; subst e303
            exact f_ret1 ha rfl rfl ⟨⟨rfl, (show InI (-1) from by decide)⟩, hE115⟩
          · replace hF := if_f hp301 hF
            refine wp_skip ?_
            refine e_then ?_
            refine wp_seq ?_
            refine wp_region_lit ?_
            refine op_g ha rfl (g_move rfl) ?_; clear ha a; intro a ha
            obtain ⟨hI304, hF⟩ := ck_some hF
            refine op_g ha rfl (g_add rfl rfl hI304) ?_; clear ha a; intro a ha
            refine op_g ha rfl (g_assign rfl) ?_; clear ha a; intro a ha
            refine wpList_nil ?_
            replace ha := ha.sub (σ' := [(0, va0), (1, (.int .i64 ((i111 + 1) + 1))), (5, (.int .i64 i113))]) ⟨rfl, rfl, rfl, trivial⟩
            refine e_then ?_
            refine wp_seq ?_
            refine wp_seq ?_
            refine wp_region_lit ?_
            refine op_g ha rfl (g_move rfl) ?_; clear ha a; intro a ha
            refine op_g ha rfl (g_move rfl) ?_; clear ha a; intro a ha
            obtain ⟨x306, g307, gx308, hF⟩ := idx_some hF
            obtain ⟨p309, cs310, f311, hf312, hpb313, hat314, hr315, hi316⟩ := ha0.at g307 gx308
            obtain ⟨f317, f318, c319, c320, rfl, rfl, h321, h322⟩ := hr315
            obtain ⟨rfl, hI325, rfl⟩ := h321
            obtain ⟨f326, f327, c328, c329, rfl, rfl, h330, h331⟩ := h322
            obtain ⟨rfl, hI334, rfl⟩ := h330
            obtain ⟨rfl, hI335, rfl⟩ := h331
            refine op_g ha rfl (hi316.gives sl27 rfl rfl) ?_; clear ha a; intro a ha
            refine op_g ha rfl (g_field st60_2 rfl) ?_; clear ha a; intro a ha
            refine op_g ha rfl (g_load0 hE115 Try.isAgg2 rfl (hat314 2 _ rfl)) ?_; clear ha a; intro a ha
            refine op_g ha rfl (g_move rfl) ?_; clear ha a; intro a ha
            refine op_g ha rfl (g_neq rfl rfl) ?_; clear ha a; intro a ha
            refine wpList_nil ?_
            replace ha := ha.sub (σ' := [(0, va0), (1, (.int .i64 ((i111 + 1) + 1))), (5, (.int .i64 i113)), (36, (.bool (decide (x306.2.2 ≠ ((i111 + 1) + 1)))))]) ⟨rfl, rfl, rfl, rfl, trivial⟩
            refine e_then ?_
            refine c_cond (x306.2.2 ≠ ((i111 + 1) + 1)) ha rfl (decide_eq_true_iff) (fun hp336 => ?_) (fun hp336 => ?_)
            · replace hF := if_t hp336 hF
              refine wp_seq ?_
              refine wp_region_lit ?_
              refine op_g ha rfl (g_assign rfl) ?_; clear ha a; intro a ha
              refine wpList_nil ?_
              replace ha := ha.sub (σ' := [(4, (.int .i64 (-1)))]) ⟨rfl, trivial⟩
              refine e_then ?_
              refine wp_ret ?_
              refine e_then_ret ?_
              refine e_blk_ret ?_
              refine e_then_ret ?_
              refine e_lq_ret ?_
              refine e_then_ret ?_
              obtain rfl := Option.some.inj hF
              have e337 := LK_inr hN232; subst e337
              have e338 := BK_inr hK228; subst e338
              exact f_ret1 ha rfl rfl ⟨⟨rfl, (show InI (-1) from by decide)⟩, hE115⟩
            · replace hF := if_f hp336 hF
              refine wp_skip ?_
              refine e_then ?_
              refine wp_region_lit ?_
              refine op_g ha rfl (g_move rfl) ?_; clear ha a; intro a ha
              obtain ⟨hI339, hF⟩ := ck_some hF
              refine op_g ha rfl (g_add rfl rfl hI339) ?_; clear ha a; intro a ha
              refine op_g ha rfl (g_assign rfl) ?_; clear ha a; intro a ha
              refine wpList_nil ?_
              replace ha := ha.sub (σ' := [(0, va0), (1, (.int .i64 (((i111 + 1) + 1) + 1))), (5, (.int .i64 i113))]) ⟨rfl, rfl, rfl, trivial⟩
              refine e_blk ?_
              refine e_then ?_
              refine wp_region_lit ?_
              refine op_g ha rfl (g_move rfl) ?_; clear ha a; intro a ha
              obtain ⟨hI341, hF⟩ := ck_some hF
              refine op_g ha rfl (g_add rfl rfl hI341) ?_; clear ha a; intro a ha
              refine op_g ha rfl (g_assign rfl) ?_; clear ha a; intro a ha
              refine wpList_nil ?_
              replace ha := ha.sub (σ' := [(0, va0), (1, (.int .i64 (((i111 + 1) + 1) + 1))), (5, (.int .i64 (i113 + 1)))]) ⟨rfl, rfl, rfl, trivial⟩
              refine e_lq ?_
              obtain rfl := Option.some.inj hF
              exact ⟨_, Nat.lt_succ_self _, ((i111 + 1) + 1) + 1, i113 + 1, ha.sub ⟨rfl, rfl, rfl, trivial⟩, hE115, hI339, hI341, hN232⟩
      · replace hF := if_f hp235 hF
        refine wp_exit ?_
        refine e_then_exit ?_
        refine e_lq_eq ?_
        obtain rfl := Option.some.inj hF
        exact ⟨i111, ha.sub ⟨rfl, trivial⟩, hE115, hI112, (LK_inr hN232).symm⟩
  · rintro a w223 ⟨i224, ha, hE231, hI225, rfl⟩
    have hF : F_laws_heldFactS_k2 i224 = some _ := hK228; clear hK228; unfold F_laws_heldFactS_k2 at hF
    refine e_then ?_
    refine wp_seq ?_
    refine wp_region_lit ?_
    refine op_g ha rfl (g_move rfl) ?_; clear ha a; intro a ha
    refine op_g ha rfl (g_assign rfl) ?_; clear ha a; intro a ha
    refine wpList_nil ?_
    replace ha := ha.sub (σ' := [(4, (.int .i64 i224))]) ⟨rfl, trivial⟩
    refine e_then ?_
    refine wp_ret ?_
    obtain rfl := Option.some.inj hF
    exact f_ret1 ha rfl rfl ⟨⟨rfl, hI225⟩, hE231⟩
set_option maxHeartbeats 2000000 in
theorem W_laws_heldFormula {W : World} {va0_0 : Value} {fa0_0 : List Nat} {a0_0 : (List (Int × (Int × Int)))} (ha0_0 : Ro (Rp.prod Rp.int (Rp.prod Rp.int Rp.int)) W fa0_0 va0_0 a0_0) {a1 : Int} (ha1 : InI a1) {r : Int} (hF : F_laws_heldFormula a0_0 a1 = some r) :
    Calls Try.prog 19 [.agg #[va0_0], .int .i64 a1].toArray W (Ret fun u w' => (u = .int .i64 r ∧ InI r) ∧ Ext W w') := by
  refine f_enter Try.func19 rfl Try.ntmps19 rfl ?_
  intro a ha
  replace ha : Fr 12 [(0, (.agg #[va0_0])), (1, (.int .i64 a1))] a := ha
  have hE : Chg [] W W := Chg.refl _ _
  unfold F_laws_heldFormula at hF
  refine wp_seq ?_
  refine wp_region_lit ?_
  refine o_box ha rfl rfl rfl ?_; clear ha a; intro b1 w2 hB3 hx4 hlo5 a ha
  have q6 := Zn.one hlo5
  have q7 := Zn.upD q6 hE
  have hE8 := Ext.trans hE hx4
  refine op_g ha rfl (g_assign rfl) ?_; clear ha a; intro a ha
  refine wpList_nil ?_
  replace ha := ha.sub (σ' := [(1, (.int .i64 a1)), (2, (.pointer (some ⟨b1, 0, none⟩)))]) ⟨rfl, rfl, trivial⟩
  refine e_then ?_
  refine wp_seq ?_
  refine wp_region_lit ?_
  refine op_g ha rfl (g_field0 st29_0 rfl) ?_; clear ha a; intro a ha
  refine op_g ha rfl (g_load Try.isAgg27 rfl (hB3.cell rfl)) ?_; clear ha a; intro a ha
  refine op_g ha rfl (g_move rfl) ?_; clear ha a; intro a ha
  obtain ⟨x9, hc10, hF⟩ := cal_some hF
  refine o_call ha rfl rfl Try.call41 (W_laws_heldFactS (ha0_0.ext hE8) ha1 hc10) ?_; clear ha a; rintro v11 w12 ⟨⟨rfl, hI14⟩, hx13⟩ a ha
  replace hB3 := hB3.ext hx13
  have hE15 := Ext.trans hE8 hx13
  refine op_g ha rfl (g_assign rfl) ?_; clear ha a; intro a ha
  refine wpList_nil ?_
  replace ha := ha.sub (σ' := [(1, (.int .i64 x9))]) ⟨rfl, trivial⟩
  refine e_then ?_
  refine wp_seq ?_
  refine wp_seq ?_
  refine wp_region_lit ?_
  refine op_g ha rfl (g_move rfl) ?_; clear ha a; intro a ha
  refine op_g ha rfl (g_lss rfl rfl) ?_; clear ha a; intro a ha
  refine wpList_nil ?_
  replace ha := ha.sub (σ' := [(1, (.int .i64 x9)), (10, (.bool (decide (x9 < 0))))]) ⟨rfl, rfl, trivial⟩
  refine e_then ?_
  refine c_cond (x9 < 0) ha rfl (decide_eq_true_iff) (fun hp16 => ?_) (fun hp16 => ?_)
  · replace hF := if_t hp16 hF
    refine wp_seq ?_
    refine wp_region_lit ?_
    refine op_g ha rfl (g_assign rfl) ?_; clear ha a; intro a ha
    refine wpList_nil ?_
    replace ha := ha.sub (σ' := [(4, (.int .i64 (-1)))]) ⟨rfl, trivial⟩
    refine e_then ?_
    refine wp_ret ?_
    refine e_then_ret ?_
    obtain rfl := Option.some.inj hF
    exact f_ret1 ha rfl rfl ⟨⟨rfl, (show InI (-1) from by decide)⟩, hE15⟩
  · replace hF := if_f hp16 hF
    refine wp_skip ?_
    refine e_then ?_
    refine wp_seq ?_
    refine wp_region_lit ?_
    refine op_g ha rfl (g_move rfl) ?_; clear ha a; intro a ha
    refine op_g ha rfl (g_assign rfl) ?_; clear ha a; intro a ha
    refine wpList_nil ?_
    replace ha := ha.sub (σ' := [(4, (.int .i64 x9))]) ⟨rfl, trivial⟩
    refine e_then ?_
    refine wp_ret ?_
    obtain rfl := Option.some.inj hF
    exact f_ret1 ha rfl rfl ⟨⟨rfl, hI14⟩, hE15⟩
set_option maxHeartbeats 2000000 in
theorem W_laws_FnExactNegatedOf {W : World} {va0_0 : Value} {fa0_0 : List Nat} {a0_0 : (List (Int × (Int × Int)))} (ha0_0 : Ro (Rp.prod Rp.int (Rp.prod Rp.int Rp.int)) W fa0_0 va0_0 a0_0) {r : Bool} (hF : F_laws_FnExactNegatedOf a0_0 = some r) :
    Calls Try.prog 8 [.agg #[va0_0]].toArray W (Ret fun u w' => u = .bool r ∧ Ext W w') := by
  refine f_enter Try.func8 rfl Try.ntmps8 rfl ?_
  intro a ha
  replace ha : Fr 96 [(0, (.agg #[va0_0]))] a := ha
  have hE : Chg [] W W := Chg.refl _ _
  unfold F_laws_FnExactNegatedOf at hF
  refine wp_seq ?_
  refine wp_region_lit ?_
  refine o_box ha rfl rfl rfl ?_; clear ha a; intro b1 w2 hB3 hx4 hlo5 a ha
  have q6 := Zn.one hlo5
  have q7 := Zn.upD q6 hE
  have hE8 := Ext.trans hE hx4
  refine op_g ha rfl (g_assign rfl) ?_; clear ha a; intro a ha
  refine wpList_nil ?_
  replace ha := ha.sub (σ' := [(1, (.pointer (some ⟨b1, 0, none⟩)))]) ⟨rfl, trivial⟩
  refine e_then ?_
  refine wp_seq ?_
  refine wp_region_lit ?_
  refine op_g ha rfl (g_assign rfl) ?_; clear ha a; intro a ha
  refine wpList_nil ?_
  refine e_then ?_
  refine wp_seq ?_
  refine wp_region_lit ?_
  refine op_g ha rfl (g_loadA (cs := [va0_0]) Try.isAgg42 Try.sizeOf42 rfl (by simp) hB3.all) ?_; clear ha a; intro a ha
  refine op_g ha rfl (g_move rfl) ?_; clear ha a; intro a ha
  obtain ⟨x9, hc10, hF⟩ := cal_some hF
  refine o_call ha rfl rfl Try.call25 (W_laws_szFormula (ha0_0.ext hE8) (show InI 1048576 from by decide) hc10) ?_; clear ha a; rintro v11 w12 ⟨⟨rfl, hI14⟩, hx13⟩ a ha
  replace hB3 := hB3.ext hx13
  have hE15 := Ext.trans hE8 hx13
  refine op_g ha rfl (g_assign rfl) ?_; clear ha a; intro a ha
  refine wpList_nil ?_
  replace ha := ha.sub (σ' := [(1, (.pointer (some ⟨b1, 0, none⟩))), (3, (.int .i64 x9))]) ⟨rfl, rfl, trivial⟩
  refine e_then ?_
  refine wp_seq ?_
  refine wp_seq ?_
  refine wp_region_lit ?_
  refine op_g ha rfl (g_move rfl) ?_; clear ha a; intro a ha
  refine op_g ha rfl (g_lss rfl rfl) ?_; clear ha a; intro a ha
  refine wpList_nil ?_
  replace ha := ha.sub (σ' := [(1, (.pointer (some ⟨b1, 0, none⟩))), (18, (.bool (decide (x9 < 0))))]) ⟨rfl, rfl, trivial⟩
  refine e_then ?_
  refine c_cond (x9 < 0) ha rfl (decide_eq_true_iff) (fun hp16 => ?_) (fun hp16 => ?_)
  · replace hF := if_t hp16 hF
    refine wp_seq ?_
    refine wp_region_lit ?_
    refine op_g ha rfl (g_assign rfl) ?_; clear ha a; intro a ha
    refine wpList_nil ?_
    replace ha := ha.sub (σ' := [(2, (.bool true))]) ⟨rfl, trivial⟩
    refine e_then ?_
    refine wp_ret ?_
    refine e_then_ret ?_
    obtain rfl := Option.some.inj hF
    exact f_ret1 ha rfl rfl ⟨rfl, hE15⟩
  · replace hF := if_f hp16 hF
    refine wp_skip ?_
    refine e_then ?_
    refine wp_seq ?_
    refine wp_region_lit ?_
    refine op_g ha rfl (g_loadA (cs := [va0_0]) Try.isAgg42 Try.sizeOf42 rfl (by simp) hB3.all) ?_; clear ha a; intro a ha
    obtain ⟨x17, hc18, hF⟩ := cal_some hF
    refine o_call ha rfl rfl Try.call27 (W_laws_toFormula (ha0_0.ext hE15) hc18) ?_; clear ha a; rintro v19 w20 ⟨u22, b23, rfl, h24, z25, hx21⟩ a ha
    have q27 := Nq.new hB3.fpb z25
    have q28 := Nq.madeO z25 hB3.bi
    replace hB3 := hB3.ext hx21
    have hE29 := Ext.trans hE15 hx21
    have q30 := Zn.upD z25 hE15
    obtain ⟨fp31, hro32, -⟩ := h24.weak.ro
    obtain ⟨x33, hc34, hF⟩ := cal_some hF
    refine o_call ha rfl rfl Try.call34 (W_spec_NegatedOf hro32 hc34) ?_; clear ha a; rintro v35 w36 ⟨u38, u39, u40, b41, rfl, rfl, h42, z43, rfl, hx37⟩ a ha
    have q45 := Nq.new hB3.fpb z43
    have q46 := Nq.madeO z43 hB3.bi
    have q47 := Nq.new h24.fpb z43
    have q48 := Nq.madeO z43 h24.blt
    replace hB3 := hB3.ext hx37
    replace h24 := h24.ext hx37
    have hE49 := Ext.trans hE29 hx37
    have q50 := Zn.upD z43 hE29
    refine op_g ha rfl (g_move rfl) ?_; clear ha a; intro a ha
    refine op_g ha rfl (g_extract rfl rfl) ?_; clear ha a; intro a ha
    refine op_g ha rfl (g_extract rfl rfl) ?_; clear ha a; intro a ha
    refine o_alloc (cs := [(.slice none 0 0)]) ha rfl Try.zeroValue29 rfl ?_; clear ha a; intro b51 w52 hB53 hx54 hlo55 a ha
    have q56 := Zn.one hlo55
    have q57 := Nq.new hB3.fpb q56
    have q58 := Nq.made1 hlo55 hB3.bi
    have q59 := Nq.new h24.fpb q56
    have q60 := Nq.made1 hlo55 h24.blt
    have q61 := Nq.new h42.fpb q56
    have q62 := Nq.made1 hlo55 h42.blt
    have q63 := Zn.upD q56 hE49
    replace hB3 := hB3.ext hx54
    replace h24 := h24.ext hx54
    replace h42 := h42.ext hx54
    have hE64 := Ext.trans hE49 hx54
    refine o_storeA (vs := [u40]) ha hB53 Try.sizeOf29 rfl rfl (by intro c hc; simp only [List.mem_cons, List.not_mem_nil, or_false] at hc; rcases hc with hc <;> subst hc <;> first | rfl | exact h42.oneC) rfl ?_; intro w65 hB66 hc67
    replace hc67 := hc67.bl
    replace hB66 : Bx w65 b51 [u40] 29 := hB66
    replace hB3 := hB3.nq hc67 q57
    replace h24 := h24.nq hc67 q59
    replace h42 := h42.nq hc67 q61
    have hE68 := Ext.then hE64 hc67 (Zn.bl q63)
    refine op_g ha rfl (g_assign rfl) ?_; clear ha a; intro a ha
    refine wpList_nil ?_
    replace ha := ha.sub (σ' := [(1, (.pointer (some ⟨b1, 0, none⟩))), (4, (.pointer (some ⟨b51, 0, none⟩))), (5, (.bool x33.2))]) ⟨rfl, rfl, rfl, trivial⟩
    refine e_then ?_
    refine wp_seq ?_
    refine wp_region_lit ?_
    refine op_g ha rfl (g_loadA (cs := [va0_0]) Try.isAgg42 Try.sizeOf42 rfl (by simp) hB3.all) ?_; clear ha a; intro a ha
    obtain ⟨x69, hc70, hF⟩ := cal_some hF
    refine o_call ha rfl rfl Try.call27 (W_laws_toFormula (ha0_0.ext hE68) hc70) ?_; clear ha a; rintro v71 w72 ⟨u74, b75, rfl, h76, z77, hx73⟩ a ha
    have q79 := Nq.new hB3.fpb z77
    have q80 := Nq.madeO z77 hB3.bi
    have q81 := Nq.new h42.fpb z77
    have q82 := Nq.madeO z77 h42.blt
    have q83 := Nq.new hB66.fpb z77
    have q84 := Nq.madeO z77 hB66.bi
    replace hB3 := hB3.ext hx73
    replace h42 := h42.ext hx73
    replace hB66 := hB66.ext hx73
    have hE85 := Ext.trans hE68 hx73
    have q86 := Zn.upD z77 hE68
    refine o_alloc (cs := [(.slice none 0 0)]) ha rfl Try.zeroValue29 rfl ?_; clear ha a; intro b87 w88 hB89 hx90 hlo91 a ha
    have q92 := Zn.one hlo91
    have q93 := Nq.new hB3.fpb q92
    have q94 := Nq.made1 hlo91 hB3.bi
    have q95 := Nq.new h42.fpb q92
    have q96 := Nq.made1 hlo91 h42.blt
    have q97 := Nq.new hB66.fpb q92
    have q98 := Nq.made1 hlo91 hB66.bi
    have q99 := Nq.new h76.fpb q92
    have q100 := Nq.made1 hlo91 h76.blt
    have q101 := Zn.upD q92 hE85
    replace hB3 := hB3.ext hx90
    replace h42 := h42.ext hx90
    replace hB66 := hB66.ext hx90
    replace h76 := h76.ext hx90
    have hE102 := Ext.trans hE85 hx90
    refine o_storeA (vs := [u74]) ha hB89 Try.sizeOf29 rfl rfl (by intro c hc; simp only [List.mem_cons, List.not_mem_nil, or_false] at hc; rcases hc with hc <;> subst hc <;> first | rfl | exact h76.oneC) rfl ?_; intro w103 hB104 hc105
    replace hc105 := hc105.bl
    replace hB104 : Bx w103 b87 [u74] 29 := hB104
    replace hB3 := hB3.nq hc105 q93
    replace h42 := h42.nq hc105 q95
    replace hB66 := hB66.nq hc105 q97
    replace h76 := h76.nq hc105 q99
    have hE106 := Ext.then hE102 hc105 (Zn.bl q101)
    refine wpList_nil ?_
    replace ha := ha.sub (σ' := [(1, (.pointer (some ⟨b1, 0, none⟩))), (4, (.pointer (some ⟨b51, 0, none⟩))), (5, (.bool x33.2)), (6, (.pointer (some ⟨b87, 0, none⟩)))]) ⟨rfl, rfl, rfl, rfl, trivial⟩
    refine e_then ?_
    refine wp_seq ?_
    refine wp_region_lit ?_
    refine op_g ha rfl (g_loadA (cs := [u74]) Try.isAgg29 Try.sizeOf29 rfl (by simp) hB104.all) ?_; clear ha a; intro a ha
    obtain ⟨fp107, hro108, -⟩ := h76.weak.ro
    obtain ⟨x109, hc110, hF⟩ := cal_some hF
    refine o_call ha rfl rfl Try.call35 (W_impl_NegatedOf hro108 hc110) ?_; clear ha a; rintro v111 w112 ⟨u114, u115, u116, b117, rfl, rfl, h118, z119, rfl, hx113⟩ a ha
    have q121 := Nq.new hB3.fpb z119
    have q122 := Nq.madeO z119 hB3.bi
    have q123 := Nq.new h42.fpb z119
    have q124 := Nq.madeO z119 h42.blt
    have q125 := Nq.new hB66.fpb z119
    have q126 := Nq.madeO z119 hB66.bi
    have q127 := Nq.new h76.fpb z119
    have q128 := Nq.madeO z119 h76.blt
    have q129 := Nq.new hB104.fpb z119
    have q130 := Nq.madeO z119 hB104.bi
    replace hB3 := hB3.ext hx113
    replace h42 := h42.ext hx113
    replace hB66 := hB66.ext hx113
    replace h76 := h76.ext hx113
    replace hB104 := hB104.ext hx113
    have hE131 := Ext.trans hE106 hx113
    have q132 := Zn.upD z119 hE106
    refine op_g ha rfl (g_move rfl) ?_; clear ha a; intro a ha
    refine op_g ha rfl (g_extract rfl rfl) ?_; clear ha a; intro a ha
    refine op_g ha rfl (g_extract rfl rfl) ?_; clear ha a; intro a ha
    refine o_alloc (cs := [(.slice none 0 0)]) ha rfl Try.zeroValue29 rfl ?_; clear ha a; intro b133 w134 hB135 hx136 hlo137 a ha
    have q138 := Zn.one hlo137
    have q139 := Nq.new hB3.fpb q138
    have q140 := Nq.made1 hlo137 hB3.bi
    have q141 := Nq.new h42.fpb q138
    have q142 := Nq.made1 hlo137 h42.blt
    have q143 := Nq.new hB66.fpb q138
    have q144 := Nq.made1 hlo137 hB66.bi
    have q145 := Nq.new h76.fpb q138
    have q146 := Nq.made1 hlo137 h76.blt
    have q147 := Nq.new hB104.fpb q138
    have q148 := Nq.made1 hlo137 hB104.bi
    have q149 := Nq.new h118.fpb q138
    have q150 := Nq.made1 hlo137 h118.blt
    have q151 := Zn.upD q138 hE131
    replace hB3 := hB3.ext hx136
    replace h42 := h42.ext hx136
    replace hB66 := hB66.ext hx136
    replace h76 := h76.ext hx136
    replace hB104 := hB104.ext hx136
    replace h118 := h118.ext hx136
    have hE152 := Ext.trans hE131 hx136
    refine o_storeA (vs := [u116]) ha hB135 Try.sizeOf29 rfl rfl (by intro c hc; simp only [List.mem_cons, List.not_mem_nil, or_false] at hc; rcases hc with hc <;> subst hc <;> first | rfl | exact h118.oneC) rfl ?_; intro w153 hB154 hc155
    replace hc155 := hc155.bl
    replace hB154 : Bx w153 b133 [u116] 29 := hB154
    replace hB3 := hB3.nq hc155 q139
    replace h42 := h42.nq hc155 q141
    replace hB66 := hB66.nq hc155 q143
    replace h76 := h76.nq hc155 q145
    replace hB104 := hB104.nq hc155 q147
    replace h118 := h118.nq hc155 q149
    have hE156 := Ext.then hE152 hc155 (Zn.bl q151)
    refine op_g ha rfl (g_assign rfl) ?_; clear ha a; intro a ha
    refine wpList_nil ?_
    replace ha := ha.sub (σ' := [(1, (.pointer (some ⟨b1, 0, none⟩))), (4, (.pointer (some ⟨b51, 0, none⟩))), (5, (.bool x33.2)), (6, (.pointer (some ⟨b87, 0, none⟩))), (7, (.pointer (some ⟨b133, 0, none⟩))), (8, (.bool x109.2))]) ⟨rfl, rfl, rfl, rfl, rfl, rfl, trivial⟩
    refine e_then ?_
    refine wp_seq ?_
    refine wp_seq ?_
    refine wp_region_lit ?_
    refine op_g ha rfl (g_loadA (cs := [u116]) Try.isAgg29 Try.sizeOf29 rfl (by simp) hB154.all) ?_; clear ha a; intro a ha
    refine op_g ha rfl (g_loadA (cs := [u40]) Try.isAgg29 Try.sizeOf29 rfl (by simp) hB66.all) ?_; clear ha a; intro a ha
    obtain ⟨fp169, hro170, -⟩ := h118.weak.ro
    obtain ⟨fp171, hro172, -⟩ := h42.weak.ro
    obtain ⟨x173, hc174, hF⟩ := cal_some hF
    refine o_call ha rfl rfl Try.call17 (W_laws_eqFormula hro170 hro172 hc174) ?_; clear ha a; rintro v175 w176 ⟨rfl, hx177⟩ a ha
    replace hB3 := hB3.ext hx177
    replace h42 := h42.ext hx177
    replace hB66 := hB66.ext hx177
    replace h76 := h76.ext hx177
    replace hB104 := hB104.ext hx177
    replace h118 := h118.ext hx177
    replace hB154 := hB154.ext hx177
    have hE178 := Ext.trans hE156 hx177
    refine op_g ha rfl (g_not rfl) ?_; clear ha a; intro a ha
    refine op_g ha rfl (g_move rfl) ?_; clear ha a; intro a ha
    by_cases hp179 : ¬ (x173 = true)
    · replace hF := if_t hp179 hF
      rw [show (!x173) = true from (n_iff (Iff.rfl)).2 hp179] at ha
      refine op_unwant ha rfl (yields ha rfl rfl) rfl ?_; clear ha a; intro a ha
      refine op_unwant ha rfl (yields ha rfl rfl) rfl ?_; clear ha a; intro a ha
      refine op_unwant ha rfl (yields ha rfl rfl) rfl ?_; clear ha a; intro a ha
      refine op_g ha rfl (g_pick rfl rfl) ?_; clear ha a; intro a ha
      refine wpList_nil ?_
      replace ha := ha.sub (σ' := [(1, (.pointer (some ⟨b1, 0, none⟩))), (4, (.pointer (some ⟨b51, 0, none⟩))), (5, (.bool x33.2)), (6, (.pointer (some ⟨b87, 0, none⟩))), (7, (.pointer (some ⟨b133, 0, none⟩))), (8, (.bool x109.2)), (40, (.bool true))]) ⟨rfl, rfl, rfl, rfl, rfl, rfl, rfl, trivial⟩
      refine e_then ?_
      refine c_true ha rfl ?_
      refine wp_seq ?_
      refine wp_region_lit ?_
      refine op_g ha rfl (g_assign rfl) ?_; clear ha a; intro a ha
      refine wpList_nil ?_
      replace ha := ha.sub (σ' := [(2, (.bool false))]) ⟨rfl, trivial⟩
      refine e_then ?_
      refine wp_ret ?_
      refine e_then_ret ?_
      obtain rfl := Option.some.inj hF
      exact f_ret1 ha rfl rfl ⟨rfl, hE178⟩
    · replace hF := if_f hp179 hF
      rw [show (!x173) = false from b_false (n_iff (Iff.rfl)) hp179] at ha
      refine op_want (yields ha rfl rfl) ?_
      refine op_g ha rfl (g_move rfl) ?_; clear ha a; intro a ha
      refine op_want (yields ha rfl rfl) ?_
      refine op_g ha rfl (g_move rfl) ?_; clear ha a; intro a ha
      refine op_want (yields ha rfl rfl) ?_
      refine op_g ha rfl (gB_neq un4 rfl rfl) ?_; clear ha a; intro a ha
      refine op_g ha rfl (g_pick rfl rfl) ?_; clear ha a; intro a ha
      refine wpList_nil ?_
      replace ha := ha.sub (σ' := [(1, (.pointer (some ⟨b1, 0, none⟩))), (4, (.pointer (some ⟨b51, 0, none⟩))), (5, (.bool x33.2)), (6, (.pointer (some ⟨b87, 0, none⟩))), (7, (.pointer (some ⟨b133, 0, none⟩))), (8, (.bool x109.2)), (40, (.bool (x109.2 != x33.2)))]) ⟨rfl, rfl, rfl, rfl, rfl, rfl, rfl, trivial⟩
      refine e_then ?_
      refine c_cond ((x109.2 != x33.2) = true) ha rfl (Iff.rfl) (fun hp180 => ?_) (fun hp180 => ?_)
      · replace hF := if_t hp180 hF
        refine wp_seq ?_
        refine wp_region_lit ?_
        refine op_g ha rfl (g_assign rfl) ?_; clear ha a; intro a ha
        refine wpList_nil ?_
        replace ha := ha.sub (σ' := [(2, (.bool false))]) ⟨rfl, trivial⟩
        refine e_then ?_
        refine wp_ret ?_
        refine e_then_ret ?_
        obtain rfl := Option.some.inj hF
        exact f_ret1 ha rfl rfl ⟨rfl, hE178⟩
      · replace hF := if_f hp180 hF
        refine wp_skip ?_
        refine e_then ?_
        refine wp_seq ?_
        refine wp_seq ?_
        refine d_region 5 hmix ?_
        refine u_g 0 rfl (by kernel_rfl) (want0 _) ha rfl (g_loadA (cs := [u74]) Try.isAgg29 Try.sizeOf29 rfl (by simp) hB104.all) ?_; clear ha a; intro a ha
        refine u_g 1 rfl (by kernel_rfl) (want0 _) ha rfl (g_loadA (cs := [va0_0]) Try.isAgg42 Try.sizeOf42 rfl (by simp) hB3.all) ?_; clear ha a; intro a ha
        refine u_only 2 rfl (by kernel_rfl) ?_; intro w181 hx182
        replace hB3 := hB3.ext hx182
        replace h42 := h42.ext hx182
        replace hB66 := hB66.ext hx182
        replace h76 := h76.ext hx182
        replace hB104 := hB104.ext hx182
        replace h118 := h118.ext hx182
        replace hB154 := hB154.ext hx182
        have hE183 := Ext.trans hE178 hx182
        obtain ⟨x184, hc185, hF⟩ := cal_some hF
        refine o_call ha rfl rfl Try.call27 (W_laws_toFormula (ha0_0.ext hE183) hc185) ?_; clear ha a; rintro v186 w187 ⟨u189, b190, rfl, h191, z192, hx188⟩ a ha
        have q194 := Nq.new hB3.fpb z192
        have q195 := Nq.madeO z192 hB3.bi
        have q196 := Nq.new h42.fpb z192
        have q197 := Nq.madeO z192 h42.blt
        have q198 := Nq.new hB66.fpb z192
        have q199 := Nq.madeO z192 hB66.bi
        have q200 := Nq.new h76.fpb z192
        have q201 := Nq.madeO z192 h76.blt
        have q202 := Nq.new hB104.fpb z192
        have q203 := Nq.madeO z192 hB104.bi
        have q204 := Nq.new h118.fpb z192
        have q205 := Nq.madeO z192 h118.blt
        have q206 := Nq.new hB154.fpb z192
        have q207 := Nq.madeO z192 hB154.bi
        replace hB3 := hB3.ext hx188
        replace h42 := h42.ext hx188
        replace hB66 := hB66.ext hx188
        replace h76 := h76.ext hx188
        replace hB104 := hB104.ext hx188
        replace h118 := h118.ext hx188
        replace hB154 := hB154.ext hx188
        have hE208 := Ext.trans hE183 hx188
        have q209 := Zn.upD z192 hE183
        refine wpList_nil (e_sq ?_)
        refine ⟨fun _ => hx188, ?_⟩
        obtain ⟨fp212, hro213, -⟩ := h76.weak.ro
        obtain ⟨fp214, hro215, -⟩ := h191.weak.ro
        obtain ⟨x216, hc217, hF⟩ := cal_some hF
        refine u_call (.bool x216) 3 rfl (by kernel_rfl) (want0 _) ha rfl rfl Try.call17 (fun w211 hx210 => W_laws_eqFormula (hro213.ext hx210) (hro215.ext hx210) hc217) (fun _ _ _ h => ⟨h.1, h.2⟩) ?_; clear ha a; intro a ha
        refine u_g 4 rfl (by kernel_rfl) (want0 _) ha rfl (g_not rfl) ?_; clear ha a; intro a ha
        refine u_done (by kernel_rfl) ?_; intro w218 hx219
        replace hB3 := hB3.ext hx219
        replace h42 := h42.ext hx219
        replace hB66 := hB66.ext hx219
        replace h76 := h76.ext hx219
        replace hB104 := hB104.ext hx219
        replace h118 := h118.ext hx219
        replace hB154 := hB154.ext hx219
        replace h191 := h191.ext hx219
        have hE220 := Ext.trans hE208 hx219
        replace ha := ha.sub (σ' := [(1, (.pointer (some ⟨b1, 0, none⟩))), (4, (.pointer (some ⟨b51, 0, none⟩))), (5, (.bool x33.2)), (6, (.pointer (some ⟨b87, 0, none⟩))), (7, (.pointer (some ⟨b133, 0, none⟩))), (8, (.bool x109.2)), (45, (.bool (!x216)))]) ⟨rfl, rfl, rfl, rfl, rfl, rfl, rfl, trivial⟩
        refine e_then ?_
        refine c_cond (¬ (x216 = true)) ha rfl (n_iff (Iff.rfl)) (fun hp221 => ?_) (fun hp221 => ?_)
        · replace hF := if_t hp221 hF
          refine wp_seq ?_
          refine wp_region_lit ?_
          refine op_g ha rfl (g_assign rfl) ?_; clear ha a; intro a ha
          refine wpList_nil ?_
          replace ha := ha.sub (σ' := [(2, (.bool false))]) ⟨rfl, trivial⟩
          refine e_then ?_
          refine wp_ret ?_
          refine e_then_ret ?_
          obtain rfl := Option.some.inj hF
          exact f_ret1 ha rfl rfl ⟨rfl, hE220⟩
        · replace hF := if_f hp221 hF
          refine wp_skip ?_
          refine e_then ?_
          refine wp_seq ?_
          refine wp_region_lit ?_
          refine op_g ha rfl (g_assign rfl) ?_; clear ha a; intro a ha
          refine wpList_nil ?_
          replace ha := ha.sub (σ' := [(1, (.pointer (some ⟨b1, 0, none⟩))), (4, (.pointer (some ⟨b51, 0, none⟩))), (5, (.bool x33.2)), (6, (.pointer (some ⟨b87, 0, none⟩))), (7, (.pointer (some ⟨b133, 0, none⟩))), (8, (.bool x109.2)), (9, (.int .i64 1))]) ⟨rfl, rfl, rfl, rfl, rfl, rfl, rfl, trivial⟩
          refine e_then ?_
          refine wp_seq ?_
          refine wp_region_lit ?_
          refine op_g ha rfl (g_loadA (cs := [u74]) Try.isAgg29 Try.sizeOf29 rfl (by simp) hB104.all) ?_; clear ha a; intro a ha
          refine op_g ha rfl (g_move rfl) ?_; clear ha a; intro a ha
          obtain ⟨x222, hc223, hF⟩ := cal_some hF
          refine o_call ha rfl rfl Try.call18 (W_laws_markFormula h76 (show InI 1 from by decide) hc223) ?_; clear ha a; rintro v224 w225 ⟨⟨rfl, hI227⟩, h228, hx226⟩ a ha
          replace hB3 := hB3.nq hx226 q79
          replace h42 := h42.nq hx226 q81
          replace hB66 := hB66.nq hx226 q83
          replace hB104 := hB104.nq hx226 q100
          replace h118 := h118.nq hx226 q128
          replace hB154 := hB154.nq hx226 q146
          have hE229 := Ext.then hE220 hx226 (Zn.bl q86)
          refine op_g ha rfl (g_assign rfl) ?_; clear ha a; intro a ha
          refine wpList_nil ?_
          replace ha := ha.sub (σ' := [(1, (.pointer (some ⟨b1, 0, none⟩))), (4, (.pointer (some ⟨b51, 0, none⟩))), (5, (.bool x33.2)), (7, (.pointer (some ⟨b133, 0, none⟩))), (8, (.bool x109.2)), (9, (.int .i64 x222.1))]) ⟨rfl, rfl, rfl, rfl, rfl, rfl, trivial⟩
          refine e_then ?_
          refine wp_seq ?_
          refine wp_seq ?_
          refine wp_region_lit ?_
          refine op_g ha rfl (g_move rfl) ?_; clear ha a; intro a ha
          refine op_g ha rfl (g_lss rfl rfl) ?_; clear ha a; intro a ha
          refine op_g ha rfl (g_move rfl) ?_; clear ha a; intro a ha
          by_cases hp243 : x222.1 < 0
          · replace hF := if_t hp243 hF
            rw [show (decide (x222.1 < 0)) = true from (decide_eq_true_iff).2 hp243] at ha
            refine op_unwant ha rfl (yields ha rfl rfl) rfl ?_; clear ha a; intro a ha
            refine op_unwant ha rfl (yields ha rfl rfl) rfl ?_; clear ha a; intro a ha
            refine op_unwant ha rfl (yields ha rfl rfl) rfl ?_; clear ha a; intro a ha
            refine op_unwant ha rfl (yields ha rfl rfl) rfl ?_; clear ha a; intro a ha
            refine op_g ha rfl (g_pick rfl rfl) ?_; clear ha a; intro a ha
            refine op_g ha rfl (g_move rfl) ?_; clear ha a; intro a ha
            refine op_unwant ha rfl (yields ha rfl rfl) rfl ?_; clear ha a; intro a ha
            refine op_unwant ha rfl (yields ha rfl rfl) rfl ?_; clear ha a; intro a ha
            refine op_unwant ha rfl (yields ha rfl rfl) rfl ?_; clear ha a; intro a ha
            refine op_g ha rfl (g_pick rfl rfl) ?_; clear ha a; intro a ha
            refine wpList_nil ?_
            replace ha := ha.sub (σ' := [(1, (.pointer (some ⟨b1, 0, none⟩))), (4, (.pointer (some ⟨b51, 0, none⟩))), (5, (.bool x33.2)), (7, (.pointer (some ⟨b133, 0, none⟩))), (61, (.bool true))]) ⟨rfl, rfl, rfl, rfl, rfl, trivial⟩
            refine e_then ?_
            refine c_true ha rfl ?_
            refine wp_seq ?_
            refine wp_region_lit ?_
            refine op_g ha rfl (g_assign rfl) ?_; clear ha a; intro a ha
            refine wpList_nil ?_
            replace ha := ha.sub (σ' := [(2, (.bool false))]) ⟨rfl, trivial⟩
            refine e_then ?_
            refine wp_ret ?_
            refine e_then_ret ?_
            obtain rfl := Option.some.inj hF
            exact f_ret1 ha rfl rfl ⟨rfl, hE229⟩
          · replace hF := if_f hp243 hF
            rw [show (decide (x222.1 < 0)) = false from b_false (decide_eq_true_iff) hp243] at ha
            refine op_want (yields ha rfl rfl) ?_
            refine op_g ha rfl (g_loadA (cs := [u116]) Try.isAgg29 Try.sizeOf29 rfl (by simp) hB154.all) ?_; clear ha a; intro a ha
            refine op_want (yields ha rfl rfl) ?_
            refine op_g ha rfl (g_loadA (cs := [u40]) Try.isAgg29 Try.sizeOf29 rfl (by simp) hB66.all) ?_; clear ha a; intro a ha
            refine op_want (yields ha rfl rfl) ?_
            obtain ⟨fp244, hro245, -⟩ := h118.weak.ro
            obtain ⟨fp246, hro247, -⟩ := h42.weak.ro
            obtain ⟨x248, hc249, hF⟩ := cal_some hF
            refine o_call ha rfl rfl Try.call17 (W_laws_eqFormula hro245 hro247 hc249) ?_; clear ha a; rintro v250 w251 ⟨rfl, hx252⟩ a ha
            replace hB3 := hB3.ext hx252
            replace h42 := h42.ext hx252
            replace hB66 := hB66.ext hx252
            replace h118 := h118.ext hx252
            replace hB154 := hB154.ext hx252
            have hE253 := Ext.trans hE229 hx252
            refine op_want (yields ha rfl rfl) ?_
            refine op_g ha rfl (g_not rfl) ?_; clear ha a; intro a ha
            refine op_g ha rfl (g_pick rfl rfl) ?_; clear ha a; intro a ha
            refine op_g ha rfl (g_move rfl) ?_; clear ha a; intro a ha
            by_cases hp254 : ¬ (x248 = true)
            · replace hF := if_t hp254 hF
              rw [show (!x248) = true from (n_iff (Iff.rfl)).2 hp254] at ha
              refine op_unwant ha rfl (yields ha rfl rfl) rfl ?_; clear ha a; intro a ha
              refine op_unwant ha rfl (yields ha rfl rfl) rfl ?_; clear ha a; intro a ha
              refine op_unwant ha rfl (yields ha rfl rfl) rfl ?_; clear ha a; intro a ha
              refine op_g ha rfl (g_pick rfl rfl) ?_; clear ha a; intro a ha
              refine wpList_nil ?_
              replace ha := ha.sub (σ' := [(1, (.pointer (some ⟨b1, 0, none⟩))), (4, (.pointer (some ⟨b51, 0, none⟩))), (5, (.bool x33.2)), (7, (.pointer (some ⟨b133, 0, none⟩))), (61, (.bool true))]) ⟨rfl, rfl, rfl, rfl, rfl, trivial⟩
              refine e_then ?_
              refine c_true ha rfl ?_
              refine wp_seq ?_
              refine wp_region_lit ?_
              refine op_g ha rfl (g_assign rfl) ?_; clear ha a; intro a ha
              refine wpList_nil ?_
              replace ha := ha.sub (σ' := [(2, (.bool false))]) ⟨rfl, trivial⟩
              refine e_then ?_
              refine wp_ret ?_
              refine e_then_ret ?_
              obtain rfl := Option.some.inj hF
              exact f_ret1 ha rfl rfl ⟨rfl, hE253⟩
            · replace hF := if_f hp254 hF
              rw [show (!x248) = false from b_false (n_iff (Iff.rfl)) hp254] at ha
              refine op_want (yields ha rfl rfl) ?_
              refine op_g ha rfl (g_move rfl) ?_; clear ha a; intro a ha
              refine op_want (yields ha rfl rfl) ?_
              refine op_g ha rfl (g_move rfl) ?_; clear ha a; intro a ha
              refine op_want (yields ha rfl rfl) ?_
              refine op_g ha rfl (gB_neq un4 rfl rfl) ?_; clear ha a; intro a ha
              refine op_g ha rfl (g_pick rfl rfl) ?_; clear ha a; intro a ha
              refine wpList_nil ?_
              replace ha := ha.sub (σ' := [(1, (.pointer (some ⟨b1, 0, none⟩))), (4, (.pointer (some ⟨b51, 0, none⟩))), (5, (.bool x33.2)), (7, (.pointer (some ⟨b133, 0, none⟩))), (61, (.bool (x109.2 != x33.2)))]) ⟨rfl, rfl, rfl, rfl, rfl, trivial⟩
              refine e_then ?_
              refine c_cond ((x109.2 != x33.2) = true) ha rfl (Iff.rfl) (fun hp255 => ?_) (fun hp255 => ?_)
              · replace hF := if_t hp255 hF
                refine wp_seq ?_
                refine wp_region_lit ?_
                refine op_g ha rfl (g_assign rfl) ?_; clear ha a; intro a ha
                refine wpList_nil ?_
                replace ha := ha.sub (σ' := [(2, (.bool false))]) ⟨rfl, trivial⟩
                refine e_then ?_
                refine wp_ret ?_
                refine e_then_ret ?_
                obtain rfl := Option.some.inj hF
                exact f_ret1 ha rfl rfl ⟨rfl, hE253⟩
              · replace hF := if_f hp255 hF
                refine wp_skip ?_
                refine e_then ?_
                refine wp_seq ?_
                refine wp_region_lit ?_
                refine op_g ha rfl (g_assign rfl) ?_; clear ha a; intro a ha
                refine wpList_nil ?_
                replace ha := ha.sub (σ' := [(1, (.pointer (some ⟨b1, 0, none⟩))), (4, (.pointer (some ⟨b51, 0, none⟩))), (5, (.bool x33.2)), (7, (.pointer (some ⟨b133, 0, none⟩))), (10, (.int .i64 1))]) ⟨rfl, rfl, rfl, rfl, rfl, trivial⟩
                refine e_then ?_
                refine wp_seq ?_
                refine wp_region_lit ?_
                refine op_g ha rfl (g_loadA (cs := [u116]) Try.isAgg29 Try.sizeOf29 rfl (by simp) hB154.all) ?_; clear ha a; intro a ha
                refine op_g ha rfl (g_move rfl) ?_; clear ha a; intro a ha
                obtain ⟨x256, hc257, hF⟩ := cal_some hF
                refine o_call ha rfl rfl Try.call18 (W_laws_markFormula h118 (show InI 1 from by decide) hc257) ?_; clear ha a; rintro v258 w259 ⟨⟨rfl, hI261⟩, h262, hx260⟩ a ha
                replace hB3 := hB3.nq hx260 q121
                replace h42 := h42.nq hx260 q123
                replace hB66 := hB66.nq hx260 q125
                replace hB154 := hB154.nq hx260 q150
                have hE263 := Ext.then hE253 hx260 (Zn.bl q132)
                refine op_g ha rfl (g_assign rfl) ?_; clear ha a; intro a ha
                refine wpList_nil ?_
                replace ha := ha.sub (σ' := [(1, (.pointer (some ⟨b1, 0, none⟩))), (4, (.pointer (some ⟨b51, 0, none⟩))), (5, (.bool x33.2)), (7, (.pointer (some ⟨b133, 0, none⟩))), (10, (.int .i64 x256.1))]) ⟨rfl, rfl, rfl, rfl, rfl, trivial⟩
                refine e_then ?_
                refine wp_seq ?_
                refine wp_region_lit ?_
                refine op_g ha rfl (g_assign rfl) ?_; clear ha a; intro a ha
                refine wpList_nil ?_
                replace ha := ha.sub (σ' := [(1, (.pointer (some ⟨b1, 0, none⟩))), (4, (.pointer (some ⟨b51, 0, none⟩))), (5, (.bool x33.2)), (7, (.pointer (some ⟨b133, 0, none⟩))), (10, (.int .i64 x256.1)), (11, (.int .i64 1))]) ⟨rfl, rfl, rfl, rfl, rfl, rfl, trivial⟩
                refine e_then ?_
                refine wp_seq ?_
                refine wp_region_lit ?_
                refine op_g ha rfl (g_loadA (cs := [u116]) Try.isAgg29 Try.sizeOf29 rfl (by simp) hB154.all) ?_; clear ha a; intro a ha
                refine op_g ha rfl (g_move rfl) ?_; clear ha a; intro a ha
                obtain ⟨fp264, hro265, -⟩ := h262.weak.ro
                obtain ⟨x266, hc267, hF⟩ := cal_some hF
                refine o_call ha rfl rfl Try.call19 (W_laws_heldFormula hro265 (show InI 1 from by decide) hc267) ?_; clear ha a; rintro v268 w269 ⟨⟨rfl, hI271⟩, hx270⟩ a ha
                replace hB3 := hB3.ext hx270
                replace h42 := h42.ext hx270
                replace hB66 := hB66.ext hx270
                replace h262 := h262.ext hx270
                replace hB154 := hB154.ext hx270
                have hE272 := Ext.trans hE263 hx270
                refine op_g ha rfl (g_assign rfl) ?_; clear ha a; intro a ha
                refine wpList_nil ?_
                replace ha := ha.sub (σ' := [(1, (.pointer (some ⟨b1, 0, none⟩))), (4, (.pointer (some ⟨b51, 0, none⟩))), (5, (.bool x33.2)), (7, (.pointer (some ⟨b133, 0, none⟩))), (10, (.int .i64 x256.1)), (11, (.int .i64 x266))]) ⟨rfl, rfl, rfl, rfl, rfl, rfl, trivial⟩
                refine e_then ?_
                refine wp_seq ?_
                refine wp_seq ?_
                refine wp_region_lit ?_
                refine op_g ha rfl (g_move rfl) ?_; clear ha a; intro a ha
                refine op_g ha rfl (g_lss rfl rfl) ?_; clear ha a; intro a ha
                refine wpList_nil ?_
                replace ha := ha.sub (σ' := [(1, (.pointer (some ⟨b1, 0, none⟩))), (4, (.pointer (some ⟨b51, 0, none⟩))), (5, (.bool x33.2)), (7, (.pointer (some ⟨b133, 0, none⟩))), (10, (.int .i64 x256.1)), (11, (.int .i64 x266)), (69, (.bool (decide (x266 < 0))))]) ⟨rfl, rfl, rfl, rfl, rfl, rfl, rfl, trivial⟩
                refine e_then ?_
                refine c_cond (x266 < 0) ha rfl (decide_eq_true_iff) (fun hp273 => ?_) (fun hp273 => ?_)
                · replace hF := if_t hp273 hF
                  refine wp_seq ?_
                  refine wp_region_lit ?_
                  refine op_g ha rfl (g_assign rfl) ?_; clear ha a; intro a ha
                  refine wpList_nil ?_
                  replace ha := ha.sub (σ' := [(2, (.bool false))]) ⟨rfl, trivial⟩
                  refine e_then ?_
                  refine wp_ret ?_
                  refine e_then_ret ?_
                  obtain rfl := Option.some.inj hF
                  exact f_ret1 ha rfl rfl ⟨rfl, hE272⟩
                · replace hF := if_f hp273 hF
                  refine wp_skip ?_
                  refine e_then ?_
                  refine wp_seq ?_
                  refine wp_seq ?_
                  refine wp_region_lit ?_
                  refine op_g ha rfl (g_move rfl) ?_; clear ha a; intro a ha
                  refine op_g ha rfl (g_move rfl) ?_; clear ha a; intro a ha
                  refine op_g ha rfl (g_neq rfl rfl) ?_; clear ha a; intro a ha
                  refine wpList_nil ?_
                  replace ha := ha.sub (σ' := [(1, (.pointer (some ⟨b1, 0, none⟩))), (4, (.pointer (some ⟨b51, 0, none⟩))), (5, (.bool x33.2)), (7, (.pointer (some ⟨b133, 0, none⟩))), (10, (.int .i64 x256.1)), (72, (.bool (decide (x266 ≠ x256.1))))]) ⟨rfl, rfl, rfl, rfl, rfl, rfl, trivial⟩
                  refine e_then ?_
                  refine c_cond (x266 ≠ x256.1) ha rfl (decide_eq_true_iff) (fun hp274 => ?_) (fun hp274 => ?_)
                  · replace hF := if_t hp274 hF
                    refine wp_seq ?_
                    refine wp_region_lit ?_
                    refine op_g ha rfl (g_assign rfl) ?_; clear ha a; intro a ha
                    refine wpList_nil ?_
                    replace ha := ha.sub (σ' := [(2, (.bool false))]) ⟨rfl, trivial⟩
                    refine e_then ?_
                    refine wp_ret ?_
                    refine e_then_ret ?_
                    obtain rfl := Option.some.inj hF
                    exact f_ret1 ha rfl rfl ⟨rfl, hE272⟩
                  · replace hF := if_f hp274 hF
                    refine wp_skip ?_
                    refine e_then ?_
                    refine wp_seq ?_
                    refine wp_region_lit ?_
                    refine op_g ha rfl (g_loadA (cs := [va0_0]) Try.isAgg42 Try.sizeOf42 rfl (by simp) hB3.all) ?_; clear ha a; intro a ha
                    obtain ⟨x275, hc276, hF⟩ := cal_some hF
                    refine o_call ha rfl rfl Try.call27 (W_laws_toFormula (ha0_0.ext hE272) hc276) ?_; clear ha a; rintro v277 w278 ⟨u280, b281, rfl, h282, z283, hx279⟩ a ha
                    have q285 := Nq.new hB3.fpb z283
                    have q286 := Nq.madeO z283 hB3.bi
                    have q287 := Nq.new h42.fpb z283
                    have q288 := Nq.madeO z283 h42.blt
                    have q289 := Nq.new hB66.fpb z283
                    have q290 := Nq.madeO z283 hB66.bi
                    have q291 := Nq.new h262.fpb z283
                    have q292 := Nq.madeO z283 h262.blt
                    have q293 := Nq.new hB154.fpb z283
                    have q294 := Nq.madeO z283 hB154.bi
                    replace hB3 := hB3.ext hx279
                    replace h42 := h42.ext hx279
                    replace hB66 := hB66.ext hx279
                    replace h262 := h262.ext hx279
                    replace hB154 := hB154.ext hx279
                    have hE295 := Ext.trans hE272 hx279
                    have q296 := Zn.upD z283 hE272
                    obtain ⟨fp297, hro298, -⟩ := h282.weak.ro
                    obtain ⟨x299, hc300, hF⟩ := cal_some hF
                    refine o_call ha rfl rfl Try.call35 (W_impl_NegatedOf hro298 hc300) ?_; clear ha a; rintro v301 w302 ⟨u304, u305, u306, b307, rfl, rfl, h308, z309, rfl, hx303⟩ a ha
                    have q311 := Nq.new hB3.fpb z309
                    have q312 := Nq.madeO z309 hB3.bi
                    have q313 := Nq.new h42.fpb z309
                    have q314 := Nq.madeO z309 h42.blt
                    have q315 := Nq.new hB66.fpb z309
                    have q316 := Nq.madeO z309 hB66.bi
                    have q317 := Nq.new h262.fpb z309
                    have q318 := Nq.madeO z309 h262.blt
                    have q319 := Nq.new hB154.fpb z309
                    have q320 := Nq.madeO z309 hB154.bi
                    have q321 := Nq.new h282.fpb z309
                    have q322 := Nq.madeO z309 h282.blt
                    replace hB3 := hB3.ext hx303
                    replace h42 := h42.ext hx303
                    replace hB66 := hB66.ext hx303
                    replace h262 := h262.ext hx303
                    replace hB154 := hB154.ext hx303
                    replace h282 := h282.ext hx303
                    have hE323 := Ext.trans hE295 hx303
                    have q324 := Zn.upD z309 hE295
                    refine op_g ha rfl (g_move rfl) ?_; clear ha a; intro a ha
                    refine op_g ha rfl (g_extract rfl rfl) ?_; clear ha a; intro a ha
                    refine op_g ha rfl (g_extract rfl rfl) ?_; clear ha a; intro a ha
                    refine o_alloc (cs := [(.slice none 0 0)]) ha rfl Try.zeroValue29 rfl ?_; clear ha a; intro b325 w326 hB327 hx328 hlo329 a ha
                    have q330 := Zn.one hlo329
                    have q331 := Nq.new hB3.fpb q330
                    have q332 := Nq.made1 hlo329 hB3.bi
                    have q333 := Nq.new h42.fpb q330
                    have q334 := Nq.made1 hlo329 h42.blt
                    have q335 := Nq.new hB66.fpb q330
                    have q336 := Nq.made1 hlo329 hB66.bi
                    have q337 := Nq.new h262.fpb q330
                    have q338 := Nq.made1 hlo329 h262.blt
                    have q339 := Nq.new hB154.fpb q330
                    have q340 := Nq.made1 hlo329 hB154.bi
                    have q341 := Nq.new h282.fpb q330
                    have q342 := Nq.made1 hlo329 h282.blt
                    have q343 := Nq.new h308.fpb q330
                    have q344 := Nq.made1 hlo329 h308.blt
                    have q345 := Zn.upD q330 hE323
                    replace hB3 := hB3.ext hx328
                    replace h42 := h42.ext hx328
                    replace hB66 := hB66.ext hx328
                    replace h262 := h262.ext hx328
                    replace hB154 := hB154.ext hx328
                    replace h282 := h282.ext hx328
                    replace h308 := h308.ext hx328
                    have hE346 := Ext.trans hE323 hx328
                    refine o_storeA (vs := [u306]) ha hB327 Try.sizeOf29 rfl rfl (by intro c hc; simp only [List.mem_cons, List.not_mem_nil, or_false] at hc; rcases hc with hc <;> subst hc <;> first | rfl | exact h308.oneC) rfl ?_; intro w347 hB348 hc349
                    replace hc349 := hc349.bl
                    replace hB348 : Bx w347 b325 [u306] 29 := hB348
                    replace hB3 := hB3.nq hc349 q331
                    replace h42 := h42.nq hc349 q333
                    replace hB66 := hB66.nq hc349 q335
                    replace h262 := h262.nq hc349 q337
                    replace hB154 := hB154.nq hc349 q339
                    replace h282 := h282.nq hc349 q341
                    replace h308 := h308.nq hc349 q343
                    have hE350 := Ext.then hE346 hc349 (Zn.bl q345)
                    refine op_g ha rfl (g_assign rfl) ?_; clear ha a; intro a ha
                    refine wpList_nil ?_
                    replace ha := ha.sub (σ' := [(4, (.pointer (some ⟨b51, 0, none⟩))), (5, (.bool x33.2)), (7, (.pointer (some ⟨b133, 0, none⟩))), (10, (.int .i64 x256.1)), (12, (.pointer (some ⟨b325, 0, none⟩))), (13, (.bool x299.2))]) ⟨rfl, rfl, rfl, rfl, rfl, rfl, trivial⟩
                    refine e_then ?_
                    refine wp_seq ?_
                    refine wp_seq ?_
                    refine wp_region_lit ?_
                    refine op_g ha rfl (g_loadA (cs := [u306]) Try.isAgg29 Try.sizeOf29 rfl (by simp) hB348.all) ?_; clear ha a; intro a ha
                    refine op_g ha rfl (g_loadA (cs := [u40]) Try.isAgg29 Try.sizeOf29 rfl (by simp) hB66.all) ?_; clear ha a; intro a ha
                    obtain ⟨fp363, hro364, -⟩ := h308.weak.ro
                    obtain ⟨fp365, hro366, -⟩ := h42.weak.ro
                    obtain ⟨x367, hc368, hF⟩ := cal_some hF
                    refine o_call ha rfl rfl Try.call17 (W_laws_eqFormula hro364 hro366 hc368) ?_; clear ha a; rintro v369 w370 ⟨rfl, hx371⟩ a ha
                    replace h42 := h42.ext hx371
                    replace hB66 := hB66.ext hx371
                    replace h262 := h262.ext hx371
                    replace hB154 := hB154.ext hx371
                    replace h308 := h308.ext hx371
                    replace hB348 := hB348.ext hx371
                    have hE372 := Ext.trans hE350 hx371
                    refine op_g ha rfl (g_not rfl) ?_; clear ha a; intro a ha
                    refine op_g ha rfl (g_move rfl) ?_; clear ha a; intro a ha
                    by_cases hp373 : ¬ (x367 = true)
                    · replace hF := if_t hp373 hF
                      rw [show (!x367) = true from (n_iff (Iff.rfl)).2 hp373] at ha
                      refine op_unwant ha rfl (yields ha rfl rfl) rfl ?_; clear ha a; intro a ha
                      refine op_unwant ha rfl (yields ha rfl rfl) rfl ?_; clear ha a; intro a ha
                      refine op_unwant ha rfl (yields ha rfl rfl) rfl ?_; clear ha a; intro a ha
                      refine op_g ha rfl (g_pick rfl rfl) ?_; clear ha a; intro a ha
                      refine wpList_nil ?_
                      replace ha := ha.sub (σ' := [(7, (.pointer (some ⟨b133, 0, none⟩))), (10, (.int .i64 x256.1)), (87, (.bool true))]) ⟨rfl, rfl, rfl, trivial⟩
                      refine e_then ?_
                      refine c_true ha rfl ?_
                      refine wp_seq ?_
                      refine wp_region_lit ?_
                      refine op_g ha rfl (g_assign rfl) ?_; clear ha a; intro a ha
                      refine wpList_nil ?_
                      replace ha := ha.sub (σ' := [(2, (.bool false))]) ⟨rfl, trivial⟩
                      refine e_then ?_
                      refine wp_ret ?_
                      refine e_then_ret ?_
                      obtain rfl := Option.some.inj hF
                      exact f_ret1 ha rfl rfl ⟨rfl, hE372⟩
                    · replace hF := if_f hp373 hF
                      rw [show (!x367) = false from b_false (n_iff (Iff.rfl)) hp373] at ha
                      refine op_want (yields ha rfl rfl) ?_
                      refine op_g ha rfl (g_move rfl) ?_; clear ha a; intro a ha
                      refine op_want (yields ha rfl rfl) ?_
                      refine op_g ha rfl (g_move rfl) ?_; clear ha a; intro a ha
                      refine op_want (yields ha rfl rfl) ?_
                      refine op_g ha rfl (gB_neq un4 rfl rfl) ?_; clear ha a; intro a ha
                      refine op_g ha rfl (g_pick rfl rfl) ?_; clear ha a; intro a ha
                      refine wpList_nil ?_
                      replace ha := ha.sub (σ' := [(7, (.pointer (some ⟨b133, 0, none⟩))), (10, (.int .i64 x256.1)), (87, (.bool (x299.2 != x33.2)))]) ⟨rfl, rfl, rfl, trivial⟩
                      refine e_then ?_
                      refine c_cond ((x299.2 != x33.2) = true) ha rfl (Iff.rfl) (fun hp374 => ?_) (fun hp374 => ?_)
                      · replace hF := if_t hp374 hF
                        refine wp_seq ?_
                        refine wp_region_lit ?_
                        refine op_g ha rfl (g_assign rfl) ?_; clear ha a; intro a ha
                        refine wpList_nil ?_
                        replace ha := ha.sub (σ' := [(2, (.bool false))]) ⟨rfl, trivial⟩
                        refine e_then ?_
                        refine wp_ret ?_
                        refine e_then_ret ?_
                        obtain rfl := Option.some.inj hF
                        exact f_ret1 ha rfl rfl ⟨rfl, hE372⟩
                      · replace hF := if_f hp374 hF
                        refine wp_skip ?_
                        refine e_then ?_
                        refine wp_seq ?_
                        refine wp_region_lit ?_
                        refine op_g ha rfl (g_assign rfl) ?_; clear ha a; intro a ha
                        refine wpList_nil ?_
                        replace ha := ha.sub (σ' := [(7, (.pointer (some ⟨b133, 0, none⟩))), (10, (.int .i64 x256.1)), (11, (.int .i64 1))]) ⟨rfl, rfl, rfl, trivial⟩
                        refine e_then ?_
                        refine wp_seq ?_
                        refine wp_region_lit ?_
                        refine op_g ha rfl (g_loadA (cs := [u116]) Try.isAgg29 Try.sizeOf29 rfl (by simp) hB154.all) ?_; clear ha a; intro a ha
                        refine op_g ha rfl (g_move rfl) ?_; clear ha a; intro a ha
                        obtain ⟨fp375, hro376, -⟩ := h262.weak.ro
                        obtain ⟨x377, hc378, hF⟩ := cal_some hF
                        refine o_call ha rfl rfl Try.call19 (W_laws_heldFormula hro376 (show InI 1 from by decide) hc378) ?_; clear ha a; rintro v379 w380 ⟨⟨rfl, hI382⟩, hx381⟩ a ha
                        replace h262 := h262.ext hx381
                        replace hB154 := hB154.ext hx381
                        have hE383 := Ext.trans hE372 hx381
                        refine op_g ha rfl (g_assign rfl) ?_; clear ha a; intro a ha
                        refine wpList_nil ?_
                        replace ha := ha.sub (σ' := [(10, (.int .i64 x256.1)), (11, (.int .i64 x377))]) ⟨rfl, rfl, trivial⟩
                        refine e_then ?_
                        refine wp_seq ?_
                        refine wp_seq ?_
                        refine wp_region_lit ?_
                        refine op_g ha rfl (g_move rfl) ?_; clear ha a; intro a ha
                        refine op_g ha rfl (g_lss rfl rfl) ?_; clear ha a; intro a ha
                        refine wpList_nil ?_
                        replace ha := ha.sub (σ' := [(10, (.int .i64 x256.1)), (11, (.int .i64 x377)), (92, (.bool (decide (x377 < 0))))]) ⟨rfl, rfl, rfl, trivial⟩
                        refine e_then ?_
                        refine c_cond (x377 < 0) ha rfl (decide_eq_true_iff) (fun hp384 => ?_) (fun hp384 => ?_)
                        · replace hF := if_t hp384 hF
                          refine wp_seq ?_
                          refine wp_region_lit ?_
                          refine op_g ha rfl (g_assign rfl) ?_; clear ha a; intro a ha
                          refine wpList_nil ?_
                          replace ha := ha.sub (σ' := [(2, (.bool false))]) ⟨rfl, trivial⟩
                          refine e_then ?_
                          refine wp_ret ?_
                          refine e_then_ret ?_
                          obtain rfl := Option.some.inj hF
                          exact f_ret1 ha rfl rfl ⟨rfl, hE383⟩
                        · replace hF := if_f hp384 hF
                          refine wp_skip ?_
                          refine e_then ?_
                          refine wp_seq ?_
                          refine wp_seq ?_
                          refine wp_region_lit ?_
                          refine op_g ha rfl (g_move rfl) ?_; clear ha a; intro a ha
                          refine op_g ha rfl (g_move rfl) ?_; clear ha a; intro a ha
                          refine op_g ha rfl (g_neq rfl rfl) ?_; clear ha a; intro a ha
                          refine wpList_nil ?_
                          replace ha := ha.sub (σ' := [(95, (.bool (decide (x377 ≠ x256.1))))]) ⟨rfl, trivial⟩
                          refine e_then ?_
                          refine c_cond (x377 ≠ x256.1) ha rfl (decide_eq_true_iff) (fun hp385 => ?_) (fun hp385 => ?_)
                          · replace hF := if_t hp385 hF
                            refine wp_seq ?_
                            refine wp_region_lit ?_
                            refine op_g ha rfl (g_assign rfl) ?_; clear ha a; intro a ha
                            refine wpList_nil ?_
                            replace ha := ha.sub (σ' := [(2, (.bool false))]) ⟨rfl, trivial⟩
                            refine e_then ?_
                            refine wp_ret ?_
                            refine e_then_ret ?_
                            obtain rfl := Option.some.inj hF
                            exact f_ret1 ha rfl rfl ⟨rfl, hE383⟩
                          · replace hF := if_f hp385 hF
                            refine wp_skip ?_
                            refine e_then ?_
                            refine wp_seq ?_
                            refine wp_region_lit ?_
                            refine op_g ha rfl (g_assign rfl) ?_; clear ha a; intro a ha
                            refine wpList_nil ?_
                            replace ha := ha.sub (σ' := [(2, (.bool true))]) ⟨rfl, trivial⟩
                            refine e_then ?_
                            refine wp_ret ?_
                            obtain rfl := Option.some.inj hF
                            exact f_ret1 ha rfl rfl ⟨rfl, hE383⟩
end Go.Proofs.Ytacgmkncleiblaa
