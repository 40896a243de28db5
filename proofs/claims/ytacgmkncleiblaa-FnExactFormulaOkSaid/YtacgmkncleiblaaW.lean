/- Walks, printed by gen.py. -/
import Derived.Test.YtacgmkncleiblaaF
import Derived.Test.YtacgmkncleiblaaAid
import Derived.Test.YtacgmkncleiblaaProg
import Derived.KernelRfl
set_option maxRecDepth 100000
namespace Go.Proofs.Ytacgmkncleiblaa
open Go Go.RowKit

theorem hmix : Try.prog.follows .mixedOrders = true := by kernel_rfl
theorem st42_0 : stF Try.prog 42 0 = some 0 := by kernel_rfl
theorem sl40 : SlT Try.prog 40 77 3 24 (.agg #[(.int .i64 0), (.int .i64 0), (.int .i64 0)]) := ⟨by kernel_rfl, by kernel_rfl, by rfl⟩
theorem sl27 : SlT Try.prog 27 60 3 24 (.agg #[(.int .i64 0), (.int .i64 0), (.int .i64 0)]) := ⟨by kernel_rfl, by kernel_rfl, by rfl⟩
theorem st77_0 : stF Try.prog 77 0 = some 0 := by kernel_rfl
theorem st60_0 : stF Try.prog 60 0 = some 0 := by kernel_rfl
theorem st77_1 : stF Try.prog 77 1 = some 1 := by kernel_rfl
theorem st60_1 : stF Try.prog 60 1 = some 1 := by kernel_rfl
theorem st77_2 : stF Try.prog 77 2 = some 2 := by kernel_rfl
theorem st60_2 : stF Try.prog 60 2 = some 2 := by kernel_rfl
theorem st29_0 : stF Try.prog 29 0 = some 0 := by kernel_rfl
theorem un4 : Try.prog.underlying 4 = some .bool := by kernel_rfl
set_option maxHeartbeats 2000000 in
theorem W_laws_szFactS {W : World} {va0 : Value} {fa0 : List Nat} {a0 : (List (Int × (Int × Int)))} (ha0 : Ro (Rp.prod Rp.int (Rp.prod Rp.int Rp.int)) W fa0 va0 a0) {a1 : Int} (ha1 : InI a1) {r : Int} (hF : F_laws_szFactS a0 a1 = some r) :
    Calls Try.prog 46 [va0, .int .i64 a1].toArray W (Ret fun u w' => (u = .int .i64 r ∧ InI r) ∧ Ext W w') := by
  refine f_enter Try.func46 rfl Try.ntmps46 rfl ?_
  intro a ha
  replace ha : Fr 12 [(0, va0), (1, (.int .i64 a1))] a := ha
  have hE : Chg [] W W := Chg.refl _ _
  unfold F_laws_szFactS at hF
  refine wp_seq ?_
  refine wp_region_lit ?_
  refine op_g ha rfl (g_assign rfl) ?_; clear ha a; intro a ha
  refine wpList_nil ?_
  replace ha := ha.sub (σ' := [(0, va0), (1, (.int .i64 a1))]) ⟨rfl, rfl, trivial⟩
  refine e_then ?_
  refine wp_seq ?_
  refine wp_region_lit ?_
  refine op_g ha rfl (g_move rfl) ?_; clear ha a; intro a ha
  refine op_g ha rfl (g_move rfl) ?_; clear ha a; intro a ha
  refine op_g ha rfl (g_lenR sl40.und ha0 rfl) ?_; clear ha a; intro a ha
  obtain ⟨hI1, hF⟩ := ck_some hF
  refine op_g ha rfl (g_sub rfl rfl hI1) ?_; clear ha a; intro a ha
  refine op_g ha rfl (g_assign rfl) ?_; clear ha a; intro a ha
  refine wpList_nil ?_
  replace ha := ha.sub (σ' := [(1, (.int .i64 (a1 - (a0.length : Int))))]) ⟨rfl, trivial⟩
  refine e_then ?_
  refine wp_seq ?_
  refine wp_seq ?_
  refine wp_region_lit ?_
  refine op_g ha rfl (g_move rfl) ?_; clear ha a; intro a ha
  refine op_g ha rfl (g_lss rfl rfl) ?_; clear ha a; intro a ha
  refine wpList_nil ?_
  replace ha := ha.sub (σ' := [(1, (.int .i64 (a1 - (a0.length : Int)))), (10, (.bool (decide ((a1 - (a0.length : Int)) < 0))))]) ⟨rfl, rfl, trivial⟩
  refine e_then ?_
  refine c_cond ((a1 - (a0.length : Int)) < 0) ha rfl (decide_eq_true_iff) (fun hp3 => ?_) (fun hp3 => ?_)
  · replace hF := if_t hp3 hF
    refine wp_seq ?_
    refine wp_region_lit ?_
    refine op_g ha rfl (g_assign rfl) ?_; clear ha a; intro a ha
    refine wpList_nil ?_
    replace ha := ha.sub (σ' := [(4, (.int .i64 (-1)))]) ⟨rfl, trivial⟩
    refine e_then ?_
    refine wp_ret ?_
    refine e_then_ret ?_
    obtain rfl := Option.some.inj hF
    exact f_ret1 ha rfl rfl ⟨⟨rfl, (by decide)⟩, hE⟩
  · replace hF := if_f hp3 hF
    refine wp_skip ?_
    refine e_then ?_
    refine wp_seq ?_
    refine wp_region_lit ?_
    refine op_g ha rfl (g_move rfl) ?_; clear ha a; intro a ha
    refine op_g ha rfl (g_assign rfl) ?_; clear ha a; intro a ha
    refine wpList_nil ?_
    replace ha := ha.sub (σ' := [(4, (.int .i64 (a1 - (a0.length : Int))))]) ⟨rfl, trivial⟩
    refine e_then ?_
    refine wp_ret ?_
    obtain rfl := Option.some.inj hF
    exact f_ret1 ha rfl rfl ⟨⟨rfl, hI1⟩, hE⟩
set_option maxHeartbeats 2000000 in
theorem W_laws_szFormula {W : World} {va0_0 : Value} {fa0_0 : List Nat} {a0_0 : (List (Int × (Int × Int)))} (ha0_0 : Ro (Rp.prod Rp.int (Rp.prod Rp.int Rp.int)) W fa0_0 va0_0 a0_0) {a1 : Int} (ha1 : InI a1) {r : Int} (hF : F_laws_szFormula a0_0 a1 = some r) :
    Calls Try.prog 25 [.agg #[va0_0], .int .i64 a1].toArray W (Ret fun u w' => (u = .int .i64 r ∧ InI r) ∧ Ext W w') := by
  refine f_enter Try.func25 rfl Try.ntmps25 rfl ?_
  intro a ha
  replace ha : Fr 12 [(0, (.agg #[va0_0])), (1, (.int .i64 a1))] a := ha
  have hE : Chg [] W W := Chg.refl _ _
  unfold F_laws_szFormula at hF
  refine wp_seq ?_
  refine wp_region_lit ?_
  refine o_box ha rfl rfl rfl ?_; clear ha a; intro b1 w2 hB3 hx4 hlo5 a ha
  have q6 := Zn.one hlo5
  have q7 := Zn.upD q6 hE
  have hE8 := Ext.trans hE hx4
  refine op_g ha rfl (g_assign rfl) ?_; clear ha a; intro a ha
  refine wpList_nil ?_
  replace ha := ha.sub (σ' := [(1, (.int .i64 a1)), (2, (.pointer (some ⟨b1, 0, none⟩)))]) ⟨rfl, rfl, trivial⟩
  refine e_then ?_
  refine wp_seq ?_
  refine wp_region_lit ?_
  refine op_g ha rfl (g_field0 st42_0 rfl) ?_; clear ha a; intro a ha
  refine op_g ha rfl (g_load Try.isAgg40 rfl (hB3.cell rfl)) ?_; clear ha a; intro a ha
  refine op_g ha rfl (g_move rfl) ?_; clear ha a; intro a ha
  obtain ⟨x9, hc10, hF⟩ := cal_some hF
  refine o_call ha rfl rfl Try.call46 (W_laws_szFactS (ha0_0.ext hE8) ha1 hc10) ?_; clear ha a; rintro v11 w12 ⟨⟨rfl, hI14⟩, hx13⟩ a ha
  replace hB3 := hB3.ext hx13
  have hE15 := Ext.trans hE8 hx13
  refine op_g ha rfl (g_assign rfl) ?_; clear ha a; intro a ha
  refine wpList_nil ?_
  replace ha := ha.sub (σ' := [(1, (.int .i64 x9))]) ⟨rfl, trivial⟩
  refine e_then ?_
  refine wp_seq ?_
  refine wp_seq ?_
  refine wp_region_lit ?_
  refine op_g ha rfl (g_move rfl) ?_; clear ha a; intro a ha
  refine op_g ha rfl (g_lss rfl rfl) ?_; clear ha a; intro a ha
  refine wpList_nil ?_
  replace ha := ha.sub (σ' := [(1, (.int .i64 x9)), (10, (.bool (decide (x9 < 0))))]) ⟨rfl, rfl, trivial⟩
  refine e_then ?_
  refine c_cond (x9 < 0) ha rfl (decide_eq_true_iff) (fun hp16 => ?_) (fun hp16 => ?_)
  · replace hF := if_t hp16 hF
    refine wp_seq ?_
    refine wp_region_lit ?_
    refine op_g ha rfl (g_assign rfl) ?_; clear ha a; intro a ha
    refine wpList_nil ?_
    replace ha := ha.sub (σ' := [(4, (.int .i64 (-1)))]) ⟨rfl, trivial⟩
    refine e_then ?_
    refine wp_ret ?_
    refine e_then_ret ?_
    obtain rfl := Option.some.inj hF
    exact f_ret1 ha rfl rfl ⟨⟨rfl, (by decide)⟩, hE15⟩
  · replace hF := if_f hp16 hF
    refine wp_skip ?_
    refine e_then ?_
    refine wp_seq ?_
    refine wp_region_lit ?_
    refine op_g ha rfl (g_move rfl) ?_; clear ha a; intro a ha
    refine op_g ha rfl (g_assign rfl) ?_; clear ha a; intro a ha
    refine wpList_nil ?_
    replace ha := ha.sub (σ' := [(4, (.int .i64 x9))]) ⟨rfl, trivial⟩
    refine e_then ?_
    refine wp_ret ?_
    obtain rfl := Option.some.inj hF
    exact f_ret1 ha rfl rfl ⟨⟨rfl, hI14⟩, hE15⟩
set_option maxHeartbeats 2000000 in
theorem W_laws_toFact {W : World} {a0_0 : Int} (ha0_0 : InI a0_0) {a0_1 : Int} (ha0_1 : InI a0_1) {a0_2 : Int} (ha0_2 : InI a0_2) {r : (Int × (Int × Int))} (hF : F_laws_toFact a0_0 a0_1 a0_2 = some r) :
    Calls Try.prog 61 [.agg #[.int .i64 a0_0, .int .i64 a0_1, .int .i64 a0_2]].toArray W (Ret fun u w' => ∃ (u_0 : Value) (u_1 : Value) (u_2 : Value), u = .agg #[u_0, u_1, u_2] ∧ (u_0 = .int .i64 r.1 ∧ InI r.1) ∧ (u_1 = .int .i64 r.2.1 ∧ InI r.2.1) ∧ (u_2 = .int .i64 r.2.2 ∧ InI r.2.2) ∧ Ext W w') := by
  refine f_enter Try.func61 rfl Try.ntmps61 rfl ?_
  intro a ha
  replace ha : Fr 14 [(0, (.agg #[(.int .i64 a0_0), (.int .i64 a0_1), (.int .i64 a0_2)]))] a := ha
  have hE : Chg [] W W := Chg.refl _ _
  unfold F_laws_toFact at hF
  refine wp_seq ?_
  refine wp_region_lit ?_
  refine o_box ha rfl rfl rfl ?_; clear ha a; intro b1 w2 hB3 hx4 hlo5 a ha
  have q6 := Zn.one hlo5
  have q7 := Zn.upD q6 hE
  have hE8 := Ext.trans hE hx4
  refine o_alloc (cs := [(.int .i64 0), (.int .i64 0), (.int .i64 0)]) ha rfl Try.zeroValue60 rfl ?_; clear ha a; intro b9 w10 hB11 hx12 hlo13 a ha
  have q14 := Zn.one hlo13
  have q15 := Nq.new hB3.fpb q14
  have q16 := Nq.made1 hlo13 hB3.bi
  have q17 := Zn.upD q14 hE8
  replace hB3 := hB3.ext hx12
  have hE18 := Ext.trans hE8 hx12
  refine wpList_nil ?_
  replace ha := ha.sub (σ' := [(1, (.pointer (some ⟨b1, 0, none⟩))), (2, (.pointer (some ⟨b9, 0, none⟩)))]) ⟨rfl, rfl, trivial⟩
  refine e_then ?_
  refine wp_seq ?_
  refine wp_region_lit ?_
  refine o_alloc (cs := [(.int .i64 0), (.int .i64 0), (.int .i64 0)]) ha rfl Try.zeroValue60 rfl ?_; clear ha a; intro b19 w20 hB21 hx22 hlo23 a ha
  have q24 := Zn.one hlo23
  have q25 := Nq.new hB3.fpb q24
  have q26 := Nq.made1 hlo23 hB3.bi
  have q27 := Nq.new hB11.fpb q24
  have q28 := Nq.made1 hlo23 hB11.bi
  have q29 := Zn.upD q24 hE18
  replace hB3 := hB3.ext hx22
  replace hB11 := hB11.ext hx22
  have hE30 := Ext.trans hE18 hx22
  refine wpList_nil ?_
  refine e_then ?_
  refine wp_seq ?_
  refine wp_region_lit ?_
  refine op_g ha rfl (g_field0 st77_0 rfl) ?_; clear ha a; intro a ha
  refine op_g ha rfl (g_load Try.isAgg2 rfl (hB3.cell rfl)) ?_; clear ha a; intro a ha
  refine op_g ha rfl (g_field0 st60_0 rfl) ?_; clear ha a; intro a ha
  refine o_storeB ha hB21 Try.sizeOf2 rfl rfl rfl rfl (Nat.le_of_ble_eq_true rfl) ?_; intro w31 hB32 hc33
  replace hc33 := hc33.bl
  replace hB32 : Bx w31 b19 [(.int .i64 a0_0), (.int .i64 0), (.int .i64 0)] 60 := hB32
  replace hB3 := hB3.nq hc33 q25
  replace hB11 := hB11.nq hc33 q27
  have hE34 := Ext.then hE30 hc33 (Zn.bl q29)
  refine wpList_nil ?_
  replace ha := ha.sub (σ' := [(1, (.pointer (some ⟨b1, 0, none⟩))), (2, (.pointer (some ⟨b9, 0, none⟩))), (3, (.pointer (some ⟨b19, 0, none⟩)))]) ⟨rfl, rfl, rfl, trivial⟩
  refine e_then ?_
  refine wp_seq ?_
  refine wp_region_lit ?_
  refine op_g ha rfl (g_field0 st77_1 rfl) ?_; clear ha a; intro a ha
  refine op_g ha rfl (g_load Try.isAgg2 rfl (hB3.cell rfl)) ?_; clear ha a; intro a ha
  refine op_g ha rfl (g_field0 st60_1 rfl) ?_; clear ha a; intro a ha
  refine o_storeB ha hB32 Try.sizeOf2 rfl rfl rfl rfl (Nat.le_of_ble_eq_true rfl) ?_; intro w35 hB36 hc37
  replace hc37 := hc37.bl
  replace hB36 : Bx w35 b19 [(.int .i64 a0_0), (.int .i64 a0_1), (.int .i64 0)] 60 := hB36
  replace hB3 := hB3.nq hc37 q25
  replace hB11 := hB11.nq hc37 q27
  have hE38 := Ext.then hE34 hc37 (Zn.bl q29)
  refine wpList_nil ?_
  replace ha := ha.sub (σ' := [(1, (.pointer (some ⟨b1, 0, none⟩))), (2, (.pointer (some ⟨b9, 0, none⟩))), (3, (.pointer (some ⟨b19, 0, none⟩)))]) ⟨rfl, rfl, rfl, trivial⟩
  refine e_then ?_
  refine wp_seq ?_
  refine wp_region_lit ?_
  refine op_g ha rfl (g_field0 st77_2 rfl) ?_; clear ha a; intro a ha
  refine op_g ha rfl (g_load Try.isAgg2 rfl (hB3.cell rfl)) ?_; clear ha a; intro a ha
  refine op_g ha rfl (g_field0 st60_2 rfl) ?_; clear ha a; intro a ha
  refine o_storeB ha hB36 Try.sizeOf2 rfl rfl rfl rfl (Nat.le_of_ble_eq_true rfl) ?_; intro w39 hB40 hc41
  replace hc41 := hc41.bl
  replace hB40 : Bx w39 b19 [(.int .i64 a0_0), (.int .i64 a0_1), (.int .i64 a0_2)] 60 := hB40
  replace hB3 := hB3.nq hc41 q25
  replace hB11 := hB11.nq hc41 q27
  have hE42 := Ext.then hE38 hc41 (Zn.bl q29)
  refine wpList_nil ?_
  replace ha := ha.sub (σ' := [(2, (.pointer (some ⟨b9, 0, none⟩))), (3, (.pointer (some ⟨b19, 0, none⟩)))]) ⟨rfl, rfl, trivial⟩
  refine e_then ?_
  refine wp_seq ?_
  refine wp_region_lit ?_
  refine op_g ha rfl (g_loadA (cs := [(.int .i64 a0_0), (.int .i64 a0_1), (.int .i64 a0_2)]) Try.isAgg60 Try.sizeOf60 rfl (by simp) hB40.all) ?_; clear ha a; intro a ha
  refine o_storeA (vs := [(.int .i64 a0_0), (.int .i64 a0_1), (.int .i64 a0_2)]) ha hB11 Try.sizeOf60 rfl rfl (by intro c hc; simp only [List.mem_cons, List.not_mem_nil, or_false] at hc; rcases hc with hc | hc | hc <;> subst hc <;> first | rfl | exact rfl | exact rfl | exact rfl) rfl ?_; intro w43 hB44 hc45
  replace hc45 := hc45.bl
  replace hB44 : Bx w43 b9 [(.int .i64 a0_0), (.int .i64 a0_1), (.int .i64 a0_2)] 60 := hB44
  replace hB40 := hB40.nq hc45 q28
  have hE46 := Ext.then hE42 hc45 (Zn.bl q17)
  refine wpList_nil ?_
  replace ha := ha.sub (σ' := [(2, (.pointer (some ⟨b9, 0, none⟩)))]) ⟨rfl, trivial⟩
  refine e_then ?_
  refine wp_ret ?_
  obtain rfl := Option.some.inj hF
  exact f_retC (cs := [(.int .i64 a0_0), (.int .i64 a0_1), (.int .i64 a0_2)]) ha rfl rfl Try.isAgg60 Try.sizeOf60 hB44 ⟨_, _, _, rfl, ⟨rfl, ha0_0⟩, ⟨rfl, ha0_1⟩, ⟨rfl, ha0_2⟩, hE46⟩
set_option maxHeartbeats 2000000 in
theorem W_laws_toFactS {W : World} {va0 : Value} {fa0 : List Nat} {a0 : (List (Int × (Int × Int)))} (ha0 : Ro (Rp.prod Rp.int (Rp.prod Rp.int Rp.int)) W fa0 va0 a0) {r : (List (Int × (Int × Int)))} (hF : F_laws_toFactS a0 = some r) :
    Calls Try.prog 48 [va0].toArray W (Ret fun u w' => ∃ (b_u : Int), Ow (Rp.prod Rp.int (Rp.prod Rp.int Rp.int)) 60 true w' [] b_u u r ∧ Zn W b_u ∧ Ext W w') := by
  refine f_enter Try.func48 rfl Try.ntmps48 rfl ?_
  intro a ha
  replace ha : Fr 23 [(0, va0)] a := ha
  have hE : Chg [] W W := Chg.refl _ _
  unfold F_laws_toFactS at hF
  refine wp_seq ?_
  refine wp_region_lit ?_
  refine op_g ha rfl (g_assign rfl) ?_; clear ha a; intro a ha
  refine wpList_nil ?_
  replace ha := ha.sub (σ' := [(0, va0)]) ⟨rfl, trivial⟩
  refine e_then ?_
  refine wp_seq ?_
  refine wp_region_lit ?_
  refine op_g ha rfl (g_move rfl) ?_; clear ha a; intro a ha
  refine op_g ha rfl (g_lenR sl40.und ha0 rfl) ?_; clear ha a; intro a ha
  obtain ⟨g5, g5b, hF⟩ := mkS_some hF
  refine o_make (z0 := ((0 : Int), (0 : Int), (0 : Int))) (Rp.prod Rp.int (Rp.prod Rp.int Rp.int)) ha rfl sl27 rfl (fun w => ⟨[], [], [_], _, rfl, rfl, ⟨rfl, by decide, rfl⟩, ⟨[], [], [_], _, rfl, rfl, ⟨rfl, by decide, rfl⟩, ⟨rfl, by decide, rfl⟩⟩⟩) rfl g5 g5b ?_; clear ha a; intro v1 w2 h3 hx4 a ha
  obtain ⟨b8, hb8⟩ : ∃ b : Int, b = W.heap.size := ⟨_, rfl⟩; rw [← hb8] at h3
  have q9 := zn_of hb8
  have q10 := Zn.upD q9 hE
  have hE11 := Ext.trans hE hx4
  refine op_g ha rfl (g_assign rfl) ?_; clear ha a; intro a ha
  refine wpList_nil ?_
  replace ha := ha.sub (σ' := [(0, va0), (3, v1)]) ⟨rfl, rfl, trivial⟩
  refine e_then ?_
  refine wp_seq ?_
  refine wp_seq ?_
  refine wp_region_lit ?_
  refine op_g ha rfl (g_assign rfl) ?_; clear ha a; intro a ha
  refine wpList_nil ?_
  refine e_then ?_
  obtain ⟨o214, ho215, hK216⟩ := bnd_some hF
  obtain ⟨n217, hn218⟩ := lp_some ho215; clear ho215
  refine c_loop (fun a w => ∃ (l211 : (List (Int × (Int × Int)))) (v212 : Value) (b213 : Int), Fr 23 [(3, v212)] a ∧ Chg [] W w ∧ Ow (Rp.prod Rp.int (Rp.prod Rp.int Rp.int)) 60 true w [] b213 v212 l211 ∧ Zn W b213 ∧ o214 = .inl l211) (fun n a w => ∃ (l111 : (List (Int × (Int × Int)))) (i114 : Int) (v112 : Value) (b113 : Int), Fr 23 [(0, va0), (3, v112), (4, (.int .i64 i114))] a ∧ Chg [] W w ∧ InI i114 ∧ Ow (Rp.prod Rp.int (Rp.prod Rp.int Rp.int)) 60 true w [] b113 v112 l111 ∧ Zn W b113 ∧ lpN (fun s => F_laws_toFactS_l1 a0 s.1 s.2) n (l111, i114) = some o214) n217 ⟨(List.replicate ((a0.length : Int)).toNat ((0 : Int), (0 : Int), (0 : Int))), 0, v1, b8, ha.sub ⟨rfl, rfl, rfl, trivial⟩, hE11, (by decide), h3, q10, hn218⟩ ?_ ?_
  · rintro m222 a w107 ⟨l111, i114, v112, b113, ha, hE116, hI115, h109, z110, hF⟩
    cases m222 with
    | zero => exact (lpN_zero hF).elim
    | succ m222 =>
      obtain ⟨z221, hF, hN220⟩ := lpN_succ hF
      have hF : F_laws_toFactS_l1 a0 l111 i114 = some z221 := hF; unfold F_laws_toFactS_l1 at hF
      refine wp_seq ?_
      refine wp_seq ?_
      refine wp_region_lit ?_
      refine op_g ha rfl (g_move rfl) ?_; clear ha a; intro a ha
      refine op_g ha rfl (g_move rfl) ?_; clear ha a; intro a ha
      refine op_g ha rfl (g_lenR sl40.und ha0 rfl) ?_; clear ha a; intro a ha
      refine op_g ha rfl (g_lss rfl rfl) ?_; clear ha a; intro a ha
      refine wpList_nil ?_
      replace ha := ha.sub (σ' := [(0, va0), (3, v112), (4, (.int .i64 i114)), (11, (.bool (decide (i114 < (a0.length : Int)))))]) ⟨rfl, rfl, rfl, rfl, trivial⟩
      refine e_then ?_
      refine c_cond (i114 < (a0.length : Int)) ha rfl (decide_eq_true_iff) (fun hp223 => ?_) (fun hp223 => ?_)
      · replace hF := if_t hp223 hF
        refine wp_skip ?_
        refine e_then ?_
        refine wp_seq ?_
        refine wp_block ?_
        refine wp_region_lit ?_
        refine op_g ha rfl (g_move rfl) ?_; clear ha a; intro a ha
        refine op_g ha rfl (g_move rfl) ?_; clear ha a; intro a ha
        refine op_g ha rfl (g_move rfl) ?_; clear ha a; intro a ha
        refine op_g ha rfl (g_move rfl) ?_; clear ha a; intro a ha
        obtain ⟨x224, g225, gx226, hF⟩ := idx_some hF
        obtain ⟨p227, cs228, f229, hf230, hpb231, hat232, hr233, hi234⟩ := ha0.at g225 gx226
        obtain ⟨f235, f236, c237, c238, rfl, rfl, h239, h240⟩ := hr233
        obtain ⟨rfl, hI243, rfl⟩ := h239
        obtain ⟨f244, f245, c246, c247, rfl, rfl, h248, h249⟩ := h240
        obtain ⟨rfl, hI252, rfl⟩ := h248
        obtain ⟨rfl, hI253, rfl⟩ := h249
        refine op_g ha rfl (hi234.gives sl40 rfl rfl) ?_; clear ha a; intro a ha
        refine op_g ha rfl (g_loadA0 (cs := [(.int .i64 x224.1), (.int .i64 x224.2.1), (.int .i64 x224.2.2)]) hE116 Try.isAgg77 Try.sizeOf77 rfl (by simp) hat232) ?_; clear ha a; intro a ha
        obtain ⟨x254, hc255, hF⟩ := cal_some hF
        refine o_call ha rfl rfl Try.call61 (W_laws_toFact hI243 hI252 hI253 hc255) ?_; clear ha a; rintro v256 w257 ⟨u259, u260, u261, rfl, ⟨rfl, hI262⟩, ⟨rfl, hI263⟩, ⟨rfl, hI264⟩, hx258⟩ a ha
        replace h109 := h109.ext hx258
        have hE265 := Ext.trans hE116 hx258
        obtain ⟨x266, g267, gx268, hF⟩ := idx_some hF
        obtain ⟨p269, cs270, f271, hf272, hpb273, hat274, hr275, hi276⟩ := h109.at g267 gx268
        obtain ⟨f277, f278, c279, c280, rfl, rfl, h281, h282⟩ := hr275
        obtain ⟨rfl, hI285, rfl⟩ := h281
        obtain ⟨f286, f287, c288, c289, rfl, rfl, h290, h291⟩ := h282
        obtain ⟨rfl, hI294, rfl⟩ := h290
        obtain ⟨rfl, hI295, rfl⟩ := h291
        refine op_g ha rfl (hi276.gives sl27 rfl rfl) ?_; clear ha a; intro a ha
        refine o_storeE (f := []) (q := (x254.1, x254.2.1, x254.2.2)) ha Try.sizeOf60 rfl rfl rfl h109 hi276 ⟨[], [], [_], _, rfl, rfl, ⟨rfl, hI262, rfl⟩, ⟨[], [], [_], _, rfl, rfl, ⟨rfl, hI263, rfl⟩, ⟨rfl, hI264, rfl⟩⟩⟩ (Nq.nil _) ?_; intro w296 fs297 h298 hc299 hs300
        obtain rfl := Subst.nil hs300
        have hE301 := Ext.then hE265 hc299 (Zn.bl z110)
        refine wpList_nil ?_
        replace ha := ha.sub (σ' := [(0, va0), (3, v112), (4, (.int .i64 i114))]) ⟨rfl, rfl, rfl, trivial⟩
        refine e_blk ?_
        refine e_then ?_
        refine wp_region_lit ?_
        refine op_g ha rfl (g_move rfl) ?_; clear ha a; intro a ha
        obtain ⟨hI302, hF⟩ := ck_some hF
        refine op_g ha rfl (g_add rfl rfl hI302) ?_; clear ha a; intro a ha
        refine op_g ha rfl (g_assign rfl) ?_; clear ha a; intro a ha
        refine wpList_nil ?_
        replace ha := ha.sub (σ' := [(0, va0), (3, v112), (4, (.int .i64 (i114 + 1)))]) ⟨rfl, rfl, rfl, trivial⟩
        refine e_lq ?_
        obtain rfl := Option.some.inj hF
        exact ⟨_, Nat.lt_succ_self _, (l111.set ((i114).toNat) (x254.1, x254.2.1, x254.2.2)), i114 + 1, v112, b113, ha.sub ⟨rfl, rfl, rfl, trivial⟩, hE301, hI302, h298, z110, hN220⟩
      · replace hF := if_f hp223 hF
        refine wp_exit ?_
        refine e_then_exit ?_
        refine e_lq_eq ?_
        obtain rfl := Option.some.inj hF
        exact ⟨l111, v112, b113, ha.sub ⟨rfl, trivial⟩, hE116, h109, z110, (LK_inr hN220).symm⟩
  · rintro a w207 ⟨l211, v212, b213, ha, hE219, h209, z210, rfl⟩
    have hF : F_laws_toFactS_k2 l211 = some _ := hK216; clear hK216; unfold F_laws_toFactS_k2 at hF
    refine e_then ?_
    refine wp_seq ?_
    refine wp_region_lit ?_
    refine op_g ha rfl (g_move rfl) ?_; clear ha a; intro a ha
    refine op_g ha rfl (g_assign rfl) ?_; clear ha a; intro a ha
    refine wpList_nil ?_
    replace ha := ha.sub (σ' := [(2, v212)]) ⟨rfl, trivial⟩
    refine e_then ?_
    refine wp_ret ?_
    obtain rfl := Option.some.inj hF
    exact f_ret1 ha rfl rfl ⟨_, h209, z210, hE219⟩
set_option maxHeartbeats 2000000 in
theorem W_laws_toFormula {W : World} {va0_0 : Value} {fa0_0 : List Nat} {a0_0 : (List (Int × (Int × Int)))} (ha0_0 : Ro (Rp.prod Rp.int (Rp.prod Rp.int Rp.int)) W fa0_0 va0_0 a0_0) {r : (List (Int × (Int × Int)))} (hF : F_laws_toFormula a0_0 = some r) :
    Calls Try.prog 27 [.agg #[va0_0]].toArray W (Ret fun u w' => ∃ (u_0 : Value) (b_u_0 : Int), u = .agg #[u_0] ∧ Ow (Rp.prod Rp.int (Rp.prod Rp.int Rp.int)) 60 true w' [] b_u_0 u_0 r ∧ Zn W b_u_0 ∧ Ext W w') := by
  refine f_enter Try.func27 rfl Try.ntmps27 rfl ?_
  intro a ha
  replace ha : Fr 9 [(0, (.agg #[va0_0]))] a := ha
  have hE : Chg [] W W := Chg.refl _ _
  unfold F_laws_toFormula at hF
  refine wp_seq ?_
  refine wp_region_lit ?_
  refine o_box ha rfl rfl rfl ?_; clear ha a; intro b1 w2 hB3 hx4 hlo5 a ha
  have q6 := Zn.one hlo5
  have q7 := Zn.upD q6 hE
  have hE8 := Ext.trans hE hx4
  refine o_alloc (cs := [(.slice none 0 0)]) ha rfl Try.zeroValue29 rfl ?_; clear ha a; intro b9 w10 hB11 hx12 hlo13 a ha
  have q14 := Zn.one hlo13
  have q15 := Nq.new hB3.fpb q14
  have q16 := Nq.made1 hlo13 hB3.bi
  have q17 := Zn.upD q14 hE8
  replace hB3 := hB3.ext hx12
  have hE18 := Ext.trans hE8 hx12
  refine wpList_nil ?_
  replace ha := ha.sub (σ' := [(1, (.pointer (some ⟨b1, 0, none⟩))), (2, (.pointer (some ⟨b9, 0, none⟩)))]) ⟨rfl, rfl, trivial⟩
  refine e_then ?_
  refine wp_seq ?_
  refine wp_region_lit ?_
  refine o_alloc (cs := [(.slice none 0 0)]) ha rfl Try.zeroValue29 rfl ?_; clear ha a; intro b19 w20 hB21 hx22 hlo23 a ha
  have q24 := Zn.one hlo23
  have q25 := Nq.new hB3.fpb q24
  have q26 := Nq.made1 hlo23 hB3.bi
  have q27 := Nq.new hB11.fpb q24
  have q28 := Nq.made1 hlo23 hB11.bi
  have q29 := Zn.upD q24 hE18
  replace hB3 := hB3.ext hx22
  replace hB11 := hB11.ext hx22
  have hE30 := Ext.trans hE18 hx22
  refine wpList_nil ?_
  refine e_then ?_
  refine wp_seq ?_
  refine wp_region_lit ?_
  refine op_g ha rfl (g_field0 st42_0 rfl) ?_; clear ha a; intro a ha
  refine op_g ha rfl (g_load Try.isAgg40 rfl (hB3.cell rfl)) ?_; clear ha a; intro a ha
  obtain ⟨x31, hc32, hF⟩ := cal_some hF
  refine o_call ha rfl rfl Try.call48 (W_laws_toFactS (ha0_0.ext hE30) hc32) ?_; clear ha a; rintro v33 w34 ⟨b36, h37, z38, hx35⟩ a ha
  have q40 := Nq.new hB3.fpb z38
  have q41 := Nq.madeO z38 hB3.bi
  have q42 := Nq.new hB11.fpb z38
  have q43 := Nq.madeO z38 hB11.bi
  have q44 := Nq.new hB21.fpb z38
  have q45 := Nq.madeO z38 hB21.bi
  replace hB3 := hB3.ext hx35
  replace hB11 := hB11.ext hx35
  replace hB21 := hB21.ext hx35
  have hE46 := Ext.trans hE30 hx35
  have q47 := Zn.upD z38 hE30
  refine op_g ha rfl (g_field0 st29_0 rfl) ?_; clear ha a; intro a ha
  refine o_storeB ha hB21 Try.sizeOf27 rfl rfl h37.cells h37.oneC (Nat.le_of_ble_eq_true rfl) ?_; intro w48 hB49 hc50
  replace hc50 := hc50.bl
  replace hB49 : Bx w48 b19 [v33] 29 := hB49
  replace hB3 := hB3.nq hc50 q25
  replace hB11 := hB11.nq hc50 q27
  replace h37 := h37.nq hc50 q45
  have hE51 := Ext.then hE46 hc50 (Zn.bl q29)
  refine wpList_nil ?_
  replace ha := ha.sub (σ' := [(2, (.pointer (some ⟨b9, 0, none⟩))), (3, (.pointer (some ⟨b19, 0, none⟩)))]) ⟨rfl, rfl, trivial⟩
  refine e_then ?_
  refine wp_seq ?_
  refine wp_region_lit ?_
  refine op_g ha rfl (g_loadA (cs := [v33]) Try.isAgg29 Try.sizeOf29 rfl (by simp) hB49.all) ?_; clear ha a; intro a ha
  refine o_storeA (vs := [v33]) ha hB11 Try.sizeOf29 rfl rfl (by intro c hc; simp only [List.mem_cons, List.not_mem_nil, or_false] at hc; rcases hc with hc <;> subst hc <;> first | rfl | exact h37.oneC) rfl ?_; intro w52 hB53 hc54
  replace hc54 := hc54.bl
  replace hB53 : Bx w52 b9 [v33] 29 := hB53
  replace hB49 := hB49.nq hc54 q28
  replace h37 := h37.nq hc54 q43
  have hE55 := Ext.then hE51 hc54 (Zn.bl q17)
  refine wpList_nil ?_
  replace ha := ha.sub (σ' := [(2, (.pointer (some ⟨b9, 0, none⟩)))]) ⟨rfl, trivial⟩
  refine e_then ?_
  refine wp_ret ?_
  obtain rfl := Option.some.inj hF
  exact f_retC (cs := [v33]) ha rfl rfl Try.isAgg29 Try.sizeOf29 hB53 ⟨_, _, rfl, h37, q47, hE55⟩
set_option maxHeartbeats 2000000 in
theorem W_spec_l1In {W : World} {a0 : Int} (ha0 : InI a0) {a1 : Int} (ha1 : InI a1) {a2 : Int} (ha2 : InI a2) {r : Bool} (hF : F_spec_l1In a0 a1 a2 = some r) :
    Calls Try.prog 38 [.int .i64 a0, .int .i64 a1, .int .i64 a2].toArray W (Ret fun u w' => u = .bool r ∧ Ext W w') := by
  refine f_enter Try.func38 rfl Try.ntmps38 rfl ?_
  intro a ha
  replace ha : Fr 15 [(0, (.int .i64 a0)), (1, (.int .i64 a1)), (2, (.int .i64 a2))] a := ha
  have hE : Chg [] W W := Chg.refl _ _
  unfold F_spec_l1In at hF
  refine wp_seq ?_
  refine wp_region_lit ?_
  refine op_g ha rfl (g_assign rfl) ?_; clear ha a; intro a ha
  refine wpList_nil ?_
  replace ha := ha.sub (σ' := [(0, (.int .i64 a0)), (1, (.int .i64 a1)), (2, (.int .i64 a2))]) ⟨rfl, rfl, rfl, trivial⟩
  refine e_then ?_
  refine wp_seq ?_
  refine wp_region_lit ?_
  refine op_g ha rfl (g_move rfl) ?_; clear ha a; intro a ha
  refine op_g ha rfl (g_move rfl) ?_; clear ha a; intro a ha
  refine op_g ha rfl (g_geq rfl rfl) ?_; clear ha a; intro a ha
  refine op_g ha rfl (g_move rfl) ?_; clear ha a; intro a ha
  by_cases hp1 : a1 ≤ a0
  · replace hF := if_t hp1 hF
    rw [show (decide (a1 ≤ a0)) = true from (decide_eq_true_iff).2 hp1] at ha
    refine op_want (yields ha rfl rfl) ?_
    refine op_g ha rfl (g_move rfl) ?_; clear ha a; intro a ha
    refine op_want (yields ha rfl rfl) ?_
    refine op_g ha rfl (g_move rfl) ?_; clear ha a; intro a ha
    refine op_want (yields ha rfl rfl) ?_
    refine op_g ha rfl (g_leq rfl rfl) ?_; clear ha a; intro a ha
    refine op_g ha rfl (g_pick rfl rfl) ?_; clear ha a; intro a ha
    refine op_g ha rfl (g_assign rfl) ?_; clear ha a; intro a ha
    refine wpList_nil ?_
    replace ha := ha.sub (σ' := [(6, (.bool (decide (a0 ≤ a2))))]) ⟨rfl, trivial⟩
    refine e_then ?_
    refine wp_ret ?_
    obtain rfl := Option.some.inj hF
    exact f_ret1 ha rfl rfl ⟨rfl, hE⟩
  · replace hF := if_f hp1 hF
    rw [show (decide (a1 ≤ a0)) = false from b_false (decide_eq_true_iff) hp1] at ha
    refine op_unwant ha rfl (yields ha rfl rfl) rfl ?_; clear ha a; intro a ha
    refine op_unwant ha rfl (yields ha rfl rfl) rfl ?_; clear ha a; intro a ha
    refine op_unwant ha rfl (yields ha rfl rfl) rfl ?_; clear ha a; intro a ha
    refine op_g ha rfl (g_pick rfl rfl) ?_; clear ha a; intro a ha
    refine op_g ha rfl (g_assign rfl) ?_; clear ha a; intro a ha
    refine wpList_nil ?_
    replace ha := ha.sub (σ' := [(6, (.bool false))]) ⟨rfl, trivial⟩
    refine e_then ?_
    refine wp_ret ?_
    obtain rfl := Option.some.inj hF
    exact f_ret1 ha rfl rfl ⟨rfl, hE⟩
set_option maxHeartbeats 2000000 in
theorem W_spec_l30Name {W : World} {a0 : Int} (ha0 : InI a0) {r : Bool} (hF : F_spec_l30Name a0 = some r) :
    Calls Try.prog 59 [.int .i64 a0].toArray W (Ret fun u w' => u = .bool r ∧ Ext W w') := by
  refine f_enter Try.func59 rfl Try.ntmps59 rfl ?_
  intro a ha
  replace ha : Fr 5 [(0, (.int .i64 a0))] a := ha
  have hE : Chg [] W W := Chg.refl _ _
  unfold F_spec_l30Name at hF
  refine wp_seq ?_
  refine wp_region_lit ?_
  refine op_g ha rfl (g_assign rfl) ?_; clear ha a; intro a ha
  refine wpList_nil ?_
  replace ha := ha.sub (σ' := [(0, (.int .i64 a0))]) ⟨rfl, trivial⟩
  refine e_then ?_
  refine wp_seq ?_
  refine wp_region_lit ?_
  refine op_g ha rfl (g_move rfl) ?_; clear ha a; intro a ha
  obtain ⟨x1, hc2, hF⟩ := cal_some hF
  refine o_call ha rfl rfl Try.call38 (W_spec_l1In ha0 (by decide) (by decide) hc2) ?_; clear ha a; rintro v3 w4 ⟨rfl, hx5⟩ a ha
  have hE6 := Ext.trans hE hx5
  refine op_g ha rfl (g_assign rfl) ?_; clear ha a; intro a ha
  refine wpList_nil ?_
  replace ha := ha.sub (σ' := [(2, (.bool x1))]) ⟨rfl, trivial⟩
  refine e_then ?_
  refine wp_ret ?_
  obtain rfl := Option.some.inj hF
  exact f_ret1 ha rfl rfl ⟨rfl, hE6⟩
set_option maxHeartbeats 2000000 in
theorem W_spec_l30SetName {W : World} {a0 : Int} (ha0 : InI a0) {r : Bool} (hF : F_spec_l30SetName a0 = some r) :
    Calls Try.prog 60 [.int .i64 a0].toArray W (Ret fun u w' => u = .bool r ∧ Ext W w') := by
  refine f_enter Try.func60 rfl Try.ntmps60 rfl ?_
  intro a ha
  replace ha : Fr 5 [(0, (.int .i64 a0))] a := ha
  have hE : Chg [] W W := Chg.refl _ _
  unfold F_spec_l30SetName at hF
  refine wp_seq ?_
  refine wp_region_lit ?_
  refine op_g ha rfl (g_assign rfl) ?_; clear ha a; intro a ha
  refine wpList_nil ?_
  replace ha := ha.sub (σ' := [(0, (.int .i64 a0))]) ⟨rfl, trivial⟩
  refine e_then ?_
  refine wp_seq ?_
  refine wp_region_lit ?_
  refine op_g ha rfl (g_move rfl) ?_; clear ha a; intro a ha
  obtain ⟨x1, hc2, hF⟩ := cal_some hF
  refine o_call ha rfl rfl Try.call38 (W_spec_l1In ha0 (by decide) (by decide) hc2) ?_; clear ha a; rintro v3 w4 ⟨rfl, hx5⟩ a ha
  have hE6 := Ext.trans hE hx5
  refine op_g ha rfl (g_assign rfl) ?_; clear ha a; intro a ha
  refine wpList_nil ?_
  replace ha := ha.sub (σ' := [(2, (.bool x1))]) ⟨rfl, trivial⟩
  refine e_then ?_
  refine wp_ret ?_
  obtain rfl := Option.some.inj hF
  exact f_ret1 ha rfl rfl ⟨rfl, hE6⟩
set_option maxHeartbeats 2000000 in
theorem W_spec_l30Fact {W : World} {a0_0 : Int} (ha0_0 : InI a0_0) {a0_1 : Int} (ha0_1 : InI a0_1) {a0_2 : Int} (ha0_2 : InI a0_2) {a1 : Int} (ha1 : InI a1) {r : Bool} (hF : F_spec_l30Fact a0_0 a0_1 a0_2 a1 = some r) :
    Calls Try.prog 47 [.agg #[.int .i64 a0_0, .int .i64 a0_1, .int .i64 a0_2], .int .i64 a1].toArray W (Ret fun u w' => u = .bool r ∧ Ext W w') := by
  refine f_enter Try.func47 rfl Try.ntmps47 rfl ?_
  intro a ha
  replace ha : Fr 71 [(0, (.agg #[(.int .i64 a0_0), (.int .i64 a0_1), (.int .i64 a0_2)])), (1, (.int .i64 a1))] a := ha
  have hE : Chg [] W W := Chg.refl _ _
  unfold F_spec_l30Fact at hF
  refine wp_seq ?_
  refine wp_region_lit ?_
  refine o_box ha rfl rfl rfl ?_; clear ha a; intro b1 w2 hB3 hx4 hlo5 a ha
  have q6 := Zn.one hlo5
  have q7 := Zn.upD q6 hE
  have hE8 := Ext.trans hE hx4
  refine op_g ha rfl (g_assign rfl) ?_; clear ha a; intro a ha
  refine wpList_nil ?_
  replace ha := ha.sub (σ' := [(1, (.int .i64 a1)), (2, (.pointer (some ⟨b1, 0, none⟩)))]) ⟨rfl, rfl, trivial⟩
  refine e_then ?_
  refine wp_seq ?_
  refine wp_region_lit ?_
  refine op_g ha rfl (g_field0 st60_1 rfl) ?_; clear ha a; intro a ha
  refine op_g ha rfl (g_load Try.isAgg2 rfl (hB3.cell rfl)) ?_; clear ha a; intro a ha
  refine op_g ha rfl (g_move rfl) ?_; clear ha a; intro a ha
  obtain ⟨hI9, hF⟩ := ck_some hF
  refine op_g ha rfl (g_sub rfl rfl hI9) ?_; clear ha a; intro a ha
  obtain ⟨x11, hc12, hF⟩ := cal_some hF
  refine o_call ha rfl rfl Try.call38 (W_spec_l1In ha0_1 (by decide) hI9 hc12) ?_; clear ha a; rintro v13 w14 ⟨rfl, hx15⟩ a ha
  replace hB3 := hB3.ext hx15
  have hE16 := Ext.trans hE8 hx15
  refine op_g ha rfl (g_assign rfl) ?_; clear ha a; intro a ha
  refine wpList_nil ?_
  replace ha := ha.sub (σ' := [(1, (.int .i64 a1)), (2, (.pointer (some ⟨b1, 0, none⟩))), (5, (.bool x11))]) ⟨rfl, rfl, rfl, trivial⟩
  refine e_then ?_
  refine wp_seq ?_
  refine wp_region_lit ?_
  refine op_g ha rfl (g_field0 st60_2 rfl) ?_; clear ha a; intro a ha
  refine op_g ha rfl (g_load Try.isAgg2 rfl (hB3.cell rfl)) ?_; clear ha a; intro a ha
  refine op_g ha rfl (g_move rfl) ?_; clear ha a; intro a ha
  obtain ⟨hI17, hF⟩ := ck_some hF
  refine op_g ha rfl (g_sub rfl rfl hI17) ?_; clear ha a; intro a ha
  obtain ⟨x19, hc20, hF⟩ := cal_some hF
  refine o_call ha rfl rfl Try.call38 (W_spec_l1In ha0_2 (by decide) hI17 hc20) ?_; clear ha a; rintro v21 w22 ⟨rfl, hx23⟩ a ha
  replace hB3 := hB3.ext hx23
  have hE24 := Ext.trans hE16 hx23
  refine op_g ha rfl (g_assign rfl) ?_; clear ha a; intro a ha
  refine wpList_nil ?_
  replace ha := ha.sub (σ' := [(2, (.pointer (some ⟨b1, 0, none⟩))), (5, (.bool x11)), (6, (.bool x19))]) ⟨rfl, rfl, rfl, trivial⟩
  refine e_then ?_
  refine wp_seq ?_
  refine wp_seq ?_
  refine wp_region_lit ?_
  refine op_g ha rfl (g_field0 st60_0 rfl) ?_; clear ha a; intro a ha
  refine op_g ha rfl (g_load Try.isAgg2 rfl (hB3.cell rfl)) ?_; clear ha a; intro a ha
  refine wpList_nil ?_
  replace ha := ha.sub (σ' := [(2, (.pointer (some ⟨b1, 0, none⟩))), (5, (.bool x11)), (6, (.bool x19)), (18, (.int .i64 a0_0))]) ⟨rfl, rfl, rfl, rfl, trivial⟩
  refine e_then ?_
  refine wp_block ?_
  obtain ⟨o26, ho27, hK28⟩ := bnd_some hF
  have hF := ho27; clear ho27
  refine s_cut (fun a w => ∃ (t32 : Bool), Fr 71 [(2, (.pointer (some ⟨b1, 0, none⟩))), (5, (.bool x11)), (6, (.bool x19)), (18, (.int .i64 a0_0)), (19, (.bool t32))] a ∧ Chg [] W w ∧ Bx w b1 [(.int .i64 a0_0), (.int .i64 a0_1), (.int .i64 a0_2)] 60 ∧ Zn W (b1 : Int) ∧ o26 = .inl t32) ?_ ?_
  · skip
    refine wp_seq ?_
    refine wp_region_lit ?_
    refine op_g ha rfl (g_eql rfl rfl) ?_; clear ha a; intro a ha
    refine op_g ha rfl (g_assign rfl) ?_; clear ha a; intro a ha
    refine wpList_nil ?_
    replace ha := ha.sub (σ' := [(2, (.pointer (some ⟨b1, 0, none⟩))), (5, (.bool x11)), (6, (.bool x19)), (18, (.int .i64 a0_0)), (19, (.bool (decide (a0_0 = 1))))]) ⟨rfl, rfl, rfl, rfl, rfl, trivial⟩
    refine e_then ?_
    refine c_cond (a0_0 = 1) ha rfl (decide_eq_true_iff) (fun hp34 => ?_) (fun hp34 => ?_)
    · replace hF := if_t hp34 hF
      refine wp_skip ?_
      refine e_sq ?_
      obtain rfl := Option.some.inj hF
      exact ⟨decide (a0_0 = 1), ha.sub ⟨rfl, rfl, rfl, rfl, rfl, trivial⟩, hE24, hB3, q7, rfl⟩
    · replace hF := if_f hp34 hF
      refine wp_region_lit ?_
      refine op_g ha rfl (g_eql rfl rfl) ?_; clear ha a; intro a ha
      refine op_g ha rfl (g_assign rfl) ?_; clear ha a; intro a ha
      refine wpList_nil ?_
      replace ha := ha.sub (σ' := [(2, (.pointer (some ⟨b1, 0, none⟩))), (5, (.bool x11)), (6, (.bool x19)), (18, (.int .i64 a0_0)), (19, (.bool (decide (a0_0 = 2))))]) ⟨rfl, rfl, rfl, rfl, rfl, trivial⟩
      refine e_sq ?_
      obtain rfl := Option.some.inj hF
      exact ⟨decide (a0_0 = 2), ha.sub ⟨rfl, rfl, rfl, rfl, rfl, trivial⟩, hE24, hB3, q7, rfl⟩
  · rintro a w29 ⟨t32, ha, hE33, hB30, z31, rfl⟩
    have hF : F_spec_l30Fact_k1 a0_0 a0_1 a0_2 x11 x19 t32 = some _ := hK28; clear hK28; unfold F_spec_l30Fact_k1 at hF
    refine c_cond (t32 = true) ha rfl (Iff.rfl) (fun hp35 => ?_) (fun hp35 => ?_)
    · replace hF := if_t hp35 hF
      refine wp_seq ?_
      refine wp_region_lit ?_
      refine op_g ha rfl (g_field0 st60_1 rfl) ?_; clear ha a; intro a ha
      refine op_g ha rfl (g_load Try.isAgg2 rfl (hB30.cell rfl)) ?_; clear ha a; intro a ha
      obtain ⟨x36, hc37, hF⟩ := cal_some hF
      refine o_call ha rfl rfl Try.call59 (W_spec_l30Name ha0_1 hc37) ?_; clear ha a; rintro v38 w39 ⟨rfl, hx40⟩ a ha
      replace hB30 := hB30.ext hx40
      have hE41 := Ext.trans hE33 hx40
      refine op_g ha rfl (g_move rfl) ?_; clear ha a; intro a ha
      by_cases hp42 : x36 = true
      · replace hF := if_t hp42 hF
        rw [show (x36) = true from (Iff.rfl).2 hp42] at ha
        refine op_want (yields ha rfl rfl) ?_
        refine op_g ha rfl (g_field0 st60_2 rfl) ?_; clear ha a; intro a ha
        refine op_want (yields ha rfl rfl) ?_
        refine op_g ha rfl (g_load Try.isAgg2 rfl (hB30.cell rfl)) ?_; clear ha a; intro a ha
        refine op_want (yields ha rfl rfl) ?_
        obtain ⟨x43, hc44, hF⟩ := cal_some hF
        refine o_call ha rfl rfl Try.call59 (W_spec_l30Name ha0_2 hc44) ?_; clear ha a; rintro v45 w46 ⟨rfl, hx47⟩ a ha
        replace hB30 := hB30.ext hx47
        have hE48 := Ext.trans hE41 hx47
        refine op_g ha rfl (g_pick rfl rfl) ?_; clear ha a; intro a ha
        refine op_g ha rfl (g_assign rfl) ?_; clear ha a; intro a ha
        refine wpList_nil ?_
        replace ha := ha.sub (σ' := [(4, (.bool x43))]) ⟨rfl, trivial⟩
        refine e_then ?_
        refine wp_ret ?_
        refine e_blk_ret ?_
        refine e_then_ret ?_
        obtain rfl := Option.some.inj hF
        exact f_ret1 ha rfl rfl ⟨rfl, hE48⟩
      · replace hF := if_f hp42 hF
        rw [show (x36) = false from b_false (Iff.rfl) hp42] at ha
        refine op_unwant ha rfl (yields ha rfl rfl) rfl ?_; clear ha a; intro a ha
        refine op_unwant ha rfl (yields ha rfl rfl) rfl ?_; clear ha a; intro a ha
        refine op_unwant ha rfl (yields ha rfl rfl) rfl ?_; clear ha a; intro a ha
        refine op_g ha rfl (g_pick rfl rfl) ?_; clear ha a; intro a ha
        refine op_g ha rfl (g_assign rfl) ?_; clear ha a; intro a ha
        refine wpList_nil ?_
        replace ha := ha.sub (σ' := [(4, (.bool false))]) ⟨rfl, trivial⟩
        refine e_then ?_
        refine wp_ret ?_
        refine e_blk_ret ?_
        refine e_then_ret ?_
        obtain rfl := Option.some.inj hF
        exact f_ret1 ha rfl rfl ⟨rfl, hE41⟩
    · replace hF := if_f hp35 hF
      refine wp_seq ?_
      refine wp_region_lit ?_
      refine op_g ha rfl (g_eql rfl rfl) ?_; clear ha a; intro a ha
      refine op_g ha rfl (g_assign rfl) ?_; clear ha a; intro a ha
      refine wpList_nil ?_
      replace ha := ha.sub (σ' := [(2, (.pointer (some ⟨b1, 0, none⟩))), (5, (.bool x11)), (6, (.bool x19)), (18, (.int .i64 a0_0)), (30, (.bool (decide (a0_0 = 3))))]) ⟨rfl, rfl, rfl, rfl, rfl, trivial⟩
      refine e_then ?_
      refine c_cond (a0_0 = 3) ha rfl (decide_eq_true_iff) (fun hp49 => ?_) (fun hp49 => ?_)
      · replace hF := if_t hp49 hF
        refine wp_seq ?_
        refine wp_region_lit ?_
        refine op_g ha rfl (g_field0 st60_1 rfl) ?_; clear ha a; intro a ha
        refine op_g ha rfl (g_load Try.isAgg2 rfl (hB30.cell rfl)) ?_; clear ha a; intro a ha
        obtain ⟨x50, hc51, hF⟩ := cal_some hF
        refine o_call ha rfl rfl Try.call59 (W_spec_l30Name ha0_1 hc51) ?_; clear ha a; rintro v52 w53 ⟨rfl, hx54⟩ a ha
        replace hB30 := hB30.ext hx54
        have hE55 := Ext.trans hE33 hx54
        refine op_g ha rfl (g_move rfl) ?_; clear ha a; intro a ha
        by_cases hp56 : x50 = true
        · replace hF := if_t hp56 hF
          rw [show (x50) = true from (Iff.rfl).2 hp56] at ha
          refine op_want (yields ha rfl rfl) ?_
          refine op_g ha rfl (g_field0 st60_2 rfl) ?_; clear ha a; intro a ha
          refine op_want (yields ha rfl rfl) ?_
          refine op_g ha rfl (g_load Try.isAgg2 rfl (hB30.cell rfl)) ?_; clear ha a; intro a ha
          refine op_want (yields ha rfl rfl) ?_
          obtain ⟨x57, hc58, hF⟩ := cal_some hF
          refine o_call ha rfl rfl Try.call60 (W_spec_l30SetName ha0_2 hc58) ?_; clear ha a; rintro v59 w60 ⟨rfl, hx61⟩ a ha
          replace hB30 := hB30.ext hx61
          have hE62 := Ext.trans hE55 hx61
          refine op_g ha rfl (g_pick rfl rfl) ?_; clear ha a; intro a ha
          refine op_g ha rfl (g_assign rfl) ?_; clear ha a; intro a ha
          refine wpList_nil ?_
          replace ha := ha.sub (σ' := [(4, (.bool x57))]) ⟨rfl, trivial⟩
          refine e_then ?_
          refine wp_ret ?_
          refine e_blk_ret ?_
          refine e_then_ret ?_
          obtain rfl := Option.some.inj hF
          exact f_ret1 ha rfl rfl ⟨rfl, hE62⟩
        · replace hF := if_f hp56 hF
          rw [show (x50) = false from b_false (Iff.rfl) hp56] at ha
          refine op_unwant ha rfl (yields ha rfl rfl) rfl ?_; clear ha a; intro a ha
          refine op_unwant ha rfl (yields ha rfl rfl) rfl ?_; clear ha a; intro a ha
          refine op_unwant ha rfl (yields ha rfl rfl) rfl ?_; clear ha a; intro a ha
          refine op_g ha rfl (g_pick rfl rfl) ?_; clear ha a; intro a ha
          refine op_g ha rfl (g_assign rfl) ?_; clear ha a; intro a ha
          refine wpList_nil ?_
          replace ha := ha.sub (σ' := [(4, (.bool false))]) ⟨rfl, trivial⟩
          refine e_then ?_
          refine wp_ret ?_
          refine e_blk_ret ?_
          refine e_then_ret ?_
          obtain rfl := Option.some.inj hF
          exact f_ret1 ha rfl rfl ⟨rfl, hE55⟩
      · replace hF := if_f hp49 hF
        refine wp_seq ?_
        refine wp_region_lit ?_
        refine op_g ha rfl (g_eql rfl rfl) ?_; clear ha a; intro a ha
        refine op_g ha rfl (g_assign rfl) ?_; clear ha a; intro a ha
        refine wpList_nil ?_
        replace ha := ha.sub (σ' := [(2, (.pointer (some ⟨b1, 0, none⟩))), (5, (.bool x11)), (6, (.bool x19)), (18, (.int .i64 a0_0)), (40, (.bool (decide (a0_0 = 4))))]) ⟨rfl, rfl, rfl, rfl, rfl, trivial⟩
        refine e_then ?_
        refine c_cond (a0_0 = 4) ha rfl (decide_eq_true_iff) (fun hp63 => ?_) (fun hp63 => ?_)
        · replace hF := if_t hp63 hF
          refine wp_seq ?_
          refine wp_region_lit ?_
          refine op_g ha rfl (g_move rfl) ?_; clear ha a; intro a ha
          refine op_g ha rfl (g_move rfl) ?_; clear ha a; intro a ha
          by_cases hp64 : x11 = true
          · replace hF := if_t hp64 hF
            rw [show (x11) = true from (Iff.rfl).2 hp64] at ha
            refine op_want (yields ha rfl rfl) ?_
            refine op_g ha rfl (g_field0 st60_2 rfl) ?_; clear ha a; intro a ha
            refine op_want (yields ha rfl rfl) ?_
            refine op_g ha rfl (g_load Try.isAgg2 rfl (hB30.cell rfl)) ?_; clear ha a; intro a ha
            refine op_want (yields ha rfl rfl) ?_
            refine op_g ha rfl (g_eql rfl rfl) ?_; clear ha a; intro a ha
            refine op_g ha rfl (g_pick rfl rfl) ?_; clear ha a; intro a ha
            refine op_g ha rfl (g_assign rfl) ?_; clear ha a; intro a ha
            refine wpList_nil ?_
            replace ha := ha.sub (σ' := [(4, (.bool (decide (a0_2 = 0))))]) ⟨rfl, trivial⟩
            refine e_then ?_
            refine wp_ret ?_
            refine e_blk_ret ?_
            refine e_then_ret ?_
            obtain rfl := Option.some.inj hF
            exact f_ret1 ha rfl rfl ⟨rfl, hE33⟩
          · replace hF := if_f hp64 hF
            rw [show (x11) = false from b_false (Iff.rfl) hp64] at ha
            refine op_unwant ha rfl (yields ha rfl rfl) rfl ?_; clear ha a; intro a ha
            refine op_unwant ha rfl (yields ha rfl rfl) rfl ?_; clear ha a; intro a ha
            refine op_unwant ha rfl (yields ha rfl rfl) rfl ?_; clear ha a; intro a ha
            refine op_g ha rfl (g_pick rfl rfl) ?_; clear ha a; intro a ha
            refine op_g ha rfl (g_assign rfl) ?_; clear ha a; intro a ha
            refine wpList_nil ?_
            replace ha := ha.sub (σ' := [(4, (.bool false))]) ⟨rfl, trivial⟩
            refine e_then ?_
            refine wp_ret ?_
            refine e_blk_ret ?_
            refine e_then_ret ?_
            obtain rfl := Option.some.inj hF
            exact f_ret1 ha rfl rfl ⟨rfl, hE33⟩
        · replace hF := if_f hp63 hF
          obtain ⟨o66, ho67, hK68⟩ := bnd_some hF
          have hF := ho67; clear ho67
          refine s_cut (fun a w => ∃ (t72 : Bool), Fr 71 [(2, (.pointer (some ⟨b1, 0, none⟩))), (5, (.bool x11)), (6, (.bool x19)), (18, (.int .i64 a0_0)), (48, (.bool t72))] a ∧ Chg [] W w ∧ Bx w b1 [(.int .i64 a0_0), (.int .i64 a0_1), (.int .i64 a0_2)] 60 ∧ Zn W (b1 : Int) ∧ o66 = .inl t72) ?_ ?_
          · skip
            refine wp_seq ?_
            refine wp_region_lit ?_
            refine op_g ha rfl (g_eql rfl rfl) ?_; clear ha a; intro a ha
            refine op_g ha rfl (g_assign rfl) ?_; clear ha a; intro a ha
            refine wpList_nil ?_
            replace ha := ha.sub (σ' := [(2, (.pointer (some ⟨b1, 0, none⟩))), (5, (.bool x11)), (6, (.bool x19)), (18, (.int .i64 a0_0)), (48, (.bool (decide (a0_0 = 5))))]) ⟨rfl, rfl, rfl, rfl, rfl, trivial⟩
            refine e_then ?_
            refine c_cond (a0_0 = 5) ha rfl (decide_eq_true_iff) (fun hp74 => ?_) (fun hp74 => ?_)
            · replace hF := if_t hp74 hF
              refine wp_skip ?_
              refine e_sq ?_
              obtain rfl := Option.some.inj hF
              exact ⟨decide (a0_0 = 5), ha.sub ⟨rfl, rfl, rfl, rfl, rfl, trivial⟩, hE33, hB30, z31, rfl⟩
            · replace hF := if_f hp74 hF
              refine wp_region_lit ?_
              refine op_g ha rfl (g_eql rfl rfl) ?_; clear ha a; intro a ha
              refine op_g ha rfl (g_assign rfl) ?_; clear ha a; intro a ha
              refine wpList_nil ?_
              replace ha := ha.sub (σ' := [(2, (.pointer (some ⟨b1, 0, none⟩))), (5, (.bool x11)), (6, (.bool x19)), (18, (.int .i64 a0_0)), (48, (.bool (decide (a0_0 = 6))))]) ⟨rfl, rfl, rfl, rfl, rfl, trivial⟩
              refine e_sq ?_
              obtain rfl := Option.some.inj hF
              exact ⟨decide (a0_0 = 6), ha.sub ⟨rfl, rfl, rfl, rfl, rfl, trivial⟩, hE33, hB30, z31, rfl⟩
          · rintro a w69 ⟨t72, ha, hE73, hB70, z71, rfl⟩
            have hF : F_spec_l30Fact_k2 a0_0 a0_1 x11 x19 t72 = some _ := hK68; clear hK68; unfold F_spec_l30Fact_k2 at hF
            refine c_cond (t72 = true) ha rfl (Iff.rfl) (fun hp75 => ?_) (fun hp75 => ?_)
            · replace hF := if_t hp75 hF
              refine wp_seq ?_
              refine wp_region_lit ?_
              refine op_g ha rfl (g_move rfl) ?_; clear ha a; intro a ha
              refine op_g ha rfl (g_move rfl) ?_; clear ha a; intro a ha
              by_cases hp76 : x11 = true
              · replace hF := if_t hp76 hF
                rw [show (x11) = true from (Iff.rfl).2 hp76] at ha
                refine op_want (yields ha rfl rfl) ?_
                refine op_g ha rfl (g_move rfl) ?_; clear ha a; intro a ha
                refine op_g ha rfl (g_pick rfl rfl) ?_; clear ha a; intro a ha
                refine op_g ha rfl (g_assign rfl) ?_; clear ha a; intro a ha
                refine wpList_nil ?_
                replace ha := ha.sub (σ' := [(4, (.bool x19))]) ⟨rfl, trivial⟩
                refine e_then ?_
                refine wp_ret ?_
                refine e_blk_ret ?_
                refine e_then_ret ?_
                obtain rfl := Option.some.inj hF
                exact f_ret1 ha rfl rfl ⟨rfl, hE73⟩
              · replace hF := if_f hp76 hF
                rw [show (x11) = false from b_false (Iff.rfl) hp76] at ha
                refine op_unwant ha rfl (yields ha rfl rfl) rfl ?_; clear ha a; intro a ha
                refine op_g ha rfl (g_pick rfl rfl) ?_; clear ha a; intro a ha
                refine op_g ha rfl (g_assign rfl) ?_; clear ha a; intro a ha
                refine wpList_nil ?_
                replace ha := ha.sub (σ' := [(4, (.bool false))]) ⟨rfl, trivial⟩
                refine e_then ?_
                refine wp_ret ?_
                refine e_blk_ret ?_
                refine e_then_ret ?_
                obtain rfl := Option.some.inj hF
                exact f_ret1 ha rfl rfl ⟨rfl, hE73⟩
            · replace hF := if_f hp75 hF
              refine wp_seq ?_
              refine wp_region_lit ?_
              refine op_g ha rfl (g_eql rfl rfl) ?_; clear ha a; intro a ha
              refine op_g ha rfl (g_assign rfl) ?_; clear ha a; intro a ha
              refine wpList_nil ?_
              replace ha := ha.sub (σ' := [(2, (.pointer (some ⟨b1, 0, none⟩))), (6, (.bool x19)), (18, (.int .i64 a0_0)), (55, (.bool (decide (a0_0 = 7))))]) ⟨rfl, rfl, rfl, rfl, trivial⟩
              refine e_then ?_
              refine c_cond (a0_0 = 7) ha rfl (decide_eq_true_iff) (fun hp77 => ?_) (fun hp77 => ?_)
              · replace hF := if_t hp77 hF
                refine wp_seq ?_
                refine wp_region_lit ?_
                refine op_g ha rfl (g_field0 st60_1 rfl) ?_; clear ha a; intro a ha
                refine op_g ha rfl (g_load Try.isAgg2 rfl (hB70.cell rfl)) ?_; clear ha a; intro a ha
                obtain ⟨x78, hc79, hF⟩ := cal_some hF
                refine o_call ha rfl rfl Try.call59 (W_spec_l30Name ha0_1 hc79) ?_; clear ha a; rintro v80 w81 ⟨rfl, hx82⟩ a ha
                replace hB70 := hB70.ext hx82
                have hE83 := Ext.trans hE73 hx82
                refine op_g ha rfl (g_move rfl) ?_; clear ha a; intro a ha
                by_cases hp84 : x78 = true
                · replace hF := if_t hp84 hF
                  rw [show (x78) = true from (Iff.rfl).2 hp84] at ha
                  refine op_want (yields ha rfl rfl) ?_
                  refine op_g ha rfl (g_move rfl) ?_; clear ha a; intro a ha
                  refine op_g ha rfl (g_pick rfl rfl) ?_; clear ha a; intro a ha
                  refine op_g ha rfl (g_assign rfl) ?_; clear ha a; intro a ha
                  refine wpList_nil ?_
                  replace ha := ha.sub (σ' := [(4, (.bool x19))]) ⟨rfl, trivial⟩
                  refine e_then ?_
                  refine wp_ret ?_
                  refine e_blk_ret ?_
                  refine e_then_ret ?_
                  obtain rfl := Option.some.inj hF
                  exact f_ret1 ha rfl rfl ⟨rfl, hE83⟩
                · replace hF := if_f hp84 hF
                  rw [show (x78) = false from b_false (Iff.rfl) hp84] at ha
                  refine op_unwant ha rfl (yields ha rfl rfl) rfl ?_; clear ha a; intro a ha
                  refine op_g ha rfl (g_pick rfl rfl) ?_; clear ha a; intro a ha
                  refine op_g ha rfl (g_assign rfl) ?_; clear ha a; intro a ha
                  refine wpList_nil ?_
                  replace ha := ha.sub (σ' := [(4, (.bool false))]) ⟨rfl, trivial⟩
                  refine e_then ?_
                  refine wp_ret ?_
                  refine e_blk_ret ?_
                  refine e_then_ret ?_
                  obtain rfl := Option.some.inj hF
                  exact f_ret1 ha rfl rfl ⟨rfl, hE83⟩
              · replace hF := if_f hp77 hF
                refine wp_seq ?_
                refine wp_region_lit ?_
                refine op_g ha rfl (g_eql rfl rfl) ?_; clear ha a; intro a ha
                refine op_g ha rfl (g_assign rfl) ?_; clear ha a; intro a ha
                refine wpList_nil ?_
                replace ha := ha.sub (σ' := [(2, (.pointer (some ⟨b1, 0, none⟩))), (6, (.bool x19)), (63, (.bool (decide (a0_0 = 8))))]) ⟨rfl, rfl, rfl, trivial⟩
                refine e_then ?_
                refine c_cond (a0_0 = 8) ha rfl (decide_eq_true_iff) (fun hp85 => ?_) (fun hp85 => ?_)
                · replace hF := if_t hp85 hF
                  refine wp_seq ?_
                  refine wp_region_lit ?_
                  refine op_g ha rfl (g_field0 st60_1 rfl) ?_; clear ha a; intro a ha
                  refine op_g ha rfl (g_load Try.isAgg2 rfl (hB70.cell rfl)) ?_; clear ha a; intro a ha
                  obtain ⟨x86, hc87, hF⟩ := cal_some hF
                  refine o_call ha rfl rfl Try.call60 (W_spec_l30SetName ha0_1 hc87) ?_; clear ha a; rintro v88 w89 ⟨rfl, hx90⟩ a ha
                  replace hB70 := hB70.ext hx90
                  have hE91 := Ext.trans hE73 hx90
                  refine op_g ha rfl (g_move rfl) ?_; clear ha a; intro a ha
                  by_cases hp92 : x86 = true
                  · replace hF := if_t hp92 hF
                    rw [show (x86) = true from (Iff.rfl).2 hp92] at ha
                    refine op_want (yields ha rfl rfl) ?_
                    refine op_g ha rfl (g_move rfl) ?_; clear ha a; intro a ha
                    refine op_g ha rfl (g_pick rfl rfl) ?_; clear ha a; intro a ha
                    refine op_g ha rfl (g_assign rfl) ?_; clear ha a; intro a ha
                    refine wpList_nil ?_
                    replace ha := ha.sub (σ' := [(4, (.bool x19))]) ⟨rfl, trivial⟩
                    refine e_then ?_
                    refine wp_ret ?_
                    refine e_blk_ret ?_
                    refine e_then_ret ?_
                    obtain rfl := Option.some.inj hF
                    exact f_ret1 ha rfl rfl ⟨rfl, hE91⟩
                  · replace hF := if_f hp92 hF
                    rw [show (x86) = false from b_false (Iff.rfl) hp92] at ha
                    refine op_unwant ha rfl (yields ha rfl rfl) rfl ?_; clear ha a; intro a ha
                    refine op_g ha rfl (g_pick rfl rfl) ?_; clear ha a; intro a ha
                    refine op_g ha rfl (g_assign rfl) ?_; clear ha a; intro a ha
                    refine wpList_nil ?_
                    replace ha := ha.sub (σ' := [(4, (.bool false))]) ⟨rfl, trivial⟩
                    refine e_then ?_
                    refine wp_ret ?_
                    refine e_blk_ret ?_
                    refine e_then_ret ?_
                    obtain rfl := Option.some.inj hF
                    exact f_ret1 ha rfl rfl ⟨rfl, hE91⟩
                · replace hF := if_f hp85 hF
                  refine wp_skip ?_
                  refine e_blk ?_
                  refine e_then ?_
                  refine wp_seq ?_
                  refine wp_region_lit ?_
                  refine op_g ha rfl (g_assign rfl) ?_; clear ha a; intro a ha
                  refine wpList_nil ?_
                  replace ha := ha.sub (σ' := [(4, (.bool false))]) ⟨rfl, trivial⟩
                  refine e_then ?_
                  refine wp_ret ?_
                  obtain rfl := Option.some.inj hF
                  exact f_ret1 ha rfl rfl ⟨rfl, hE73⟩
set_option maxHeartbeats 2000000 in
theorem W_spec_FormulaOk {W : World} {va0_0 : Value} {fa0_0 : List Nat} {a0_0 : (List (Int × (Int × Int)))} (ha0_0 : Ro (Rp.prod Rp.int (Rp.prod Rp.int Rp.int)) W fa0_0 va0_0 a0_0) {r : Bool} (hF : F_spec_FormulaOk a0_0 = some r) :
    Calls Try.prog 26 [.agg #[va0_0]].toArray W (Ret fun u w' => u = .bool r ∧ Ext W w') := by
  refine f_enter Try.func26 rfl Try.ntmps26 rfl ?_
  intro a ha
  replace ha : Fr 24 [(0, (.agg #[va0_0]))] a := ha
  have hE : Chg [] W W := Chg.refl _ _
  unfold F_spec_FormulaOk at hF
  refine wp_seq ?_
  refine wp_region_lit ?_
  refine o_box ha rfl rfl rfl ?_; clear ha a; intro b1 w2 hB3 hx4 hlo5 a ha
  have q6 := Zn.one hlo5
  have q7 := Zn.upD q6 hE
  have hE8 := Ext.trans hE hx4
  refine op_g ha rfl (g_assign rfl) ?_; clear ha a; intro a ha
  refine wpList_nil ?_
  replace ha := ha.sub (σ' := [(1, (.pointer (some ⟨b1, 0, none⟩)))]) ⟨rfl, trivial⟩
  refine e_then ?_
  refine wp_seq ?_
  refine wp_seq ?_
  refine wp_region_lit ?_
  refine op_g ha rfl (g_field0 st29_0 rfl) ?_; clear ha a; intro a ha
  refine op_g ha rfl (g_load Try.isAgg27 rfl (hB3.cell rfl)) ?_; clear ha a; intro a ha
  refine op_g ha rfl (g_lenR sl27.und ha0_0 rfl) ?_; clear ha a; intro a ha
  obtain ⟨x9, hc10, hF⟩ := cal_some hF
  refine o_call ha rfl rfl Try.call38 (W_spec_l1In ha0_0.len (by decide) (by decide) hc10) ?_; clear ha a; rintro v11 w12 ⟨rfl, hx13⟩ a ha
  replace hB3 := hB3.ext hx13
  have hE14 := Ext.trans hE8 hx13
  refine op_g ha rfl (g_not rfl) ?_; clear ha a; intro a ha
  refine wpList_nil ?_
  replace ha := ha.sub (σ' := [(1, (.pointer (some ⟨b1, 0, none⟩))), (8, (.bool (!x9)))]) ⟨rfl, rfl, trivial⟩
  refine e_then ?_
  refine c_cond (¬ (x9 = true)) ha rfl (n_iff (Iff.rfl)) (fun hp15 => ?_) (fun hp15 => ?_)
  · replace hF := if_t hp15 hF
    refine wp_seq ?_
    refine wp_region_lit ?_
    refine op_g ha rfl (g_assign rfl) ?_; clear ha a; intro a ha
    refine wpList_nil ?_
    replace ha := ha.sub (σ' := [(2, (.bool false))]) ⟨rfl, trivial⟩
    refine e_then ?_
    refine wp_ret ?_
    refine e_then_ret ?_
    obtain rfl := Option.some.inj hF
    exact f_ret1 ha rfl rfl ⟨rfl, hE14⟩
  · replace hF := if_f hp15 hF
    refine wp_skip ?_
    refine e_then ?_
    refine wp_seq ?_
    refine wp_seq ?_
    refine wp_region_lit ?_
    refine op_g ha rfl (g_assign rfl) ?_; clear ha a; intro a ha
    refine wpList_nil ?_
    replace ha := ha.sub (σ' := [(1, (.pointer (some ⟨b1, 0, none⟩))), (3, (.int .i64 0))]) ⟨rfl, rfl, trivial⟩
    refine e_then ?_
    obtain ⟨o117, ho118, hK119⟩ := bnd_some hF
    obtain ⟨n120, hn121⟩ := lp_some ho118; clear ho118
    refine c_loop (fun a w => Fr 24 [] a ∧ Chg [] W w ∧ o117 = .inl ()) (fun n a w => ∃ (i68 : Int), Fr 24 [(1, (.pointer (some ⟨b1, 0, none⟩))), (3, (.int .i64 i68))] a ∧ Chg [] W w ∧ InI i68 ∧ Bx w b1 [va0_0] 29 ∧ Zn W (b1 : Int) ∧ lpN (fun s => F_spec_FormulaOk_l1 a0_0 s) n i68 = some o117) n120 ⟨0, ha.sub ⟨rfl, rfl, trivial⟩, hE14, (by decide), hB3, q7, hn121⟩ ?_ ?_
    · rintro m125 a w65 ⟨i68, ha, hE70, hI69, hB66, z67, hF⟩
      cases m125 with
      | zero => exact (lpN_zero hF).elim
      | succ m125 =>
        obtain ⟨z124, hF, hN123⟩ := lpN_succ hF
        have hF : F_spec_FormulaOk_l1 a0_0 i68 = some z124 := hF; unfold F_spec_FormulaOk_l1 at hF
        refine wp_seq ?_
        refine wp_seq ?_
        refine wp_region_lit ?_
        refine op_g ha rfl (g_move rfl) ?_; clear ha a; intro a ha
        refine op_g ha rfl (g_field0 st29_0 rfl) ?_; clear ha a; intro a ha
        refine op_g ha rfl (g_load Try.isAgg27 rfl (hB66.cell rfl)) ?_; clear ha a; intro a ha
        refine op_g ha rfl (g_lenR sl27.und ha0_0 rfl) ?_; clear ha a; intro a ha
        refine op_g ha rfl (g_lss rfl rfl) ?_; clear ha a; intro a ha
        refine wpList_nil ?_
        replace ha := ha.sub (σ' := [(1, (.pointer (some ⟨b1, 0, none⟩))), (3, (.int .i64 i68)), (13, (.bool (decide (i68 < (a0_0.length : Int)))))]) ⟨rfl, rfl, rfl, trivial⟩
        refine e_then ?_
        refine c_cond (i68 < (a0_0.length : Int)) ha rfl (decide_eq_true_iff) (fun hp126 => ?_) (fun hp126 => ?_)
        · replace hF := if_t hp126 hF
          refine wp_skip ?_
          refine e_then ?_
          refine wp_seq ?_
          refine wp_block ?_
          refine wp_seq ?_
          refine wp_region_lit ?_
          refine op_g ha rfl (g_field0 st29_0 rfl) ?_; clear ha a; intro a ha
          refine op_g ha rfl (g_load Try.isAgg27 rfl (hB66.cell rfl)) ?_; clear ha a; intro a ha
          refine op_g ha rfl (g_move rfl) ?_; clear ha a; intro a ha
          obtain ⟨x127, g128, gx129, hF⟩ := idx_some hF
          obtain ⟨p130, cs131, f132, hf133, hpb134, hat135, hr136, hi137⟩ := ha0_0.at g128 gx129
          obtain ⟨f138, f139, c140, c141, rfl, rfl, h142, h143⟩ := hr136
          obtain ⟨rfl, hI146, rfl⟩ := h142
          obtain ⟨f147, f148, c149, c150, rfl, rfl, h151, h152⟩ := h143
          obtain ⟨rfl, hI155, rfl⟩ := h151
          obtain ⟨rfl, hI156, rfl⟩ := h152
          refine op_g ha rfl (hi137.gives sl27 rfl rfl) ?_; clear ha a; intro a ha
          refine op_g ha rfl (g_loadA0 (cs := [(.int .i64 x127.1), (.int .i64 x127.2.1), (.int .i64 x127.2.2)]) hE70 Try.isAgg60 Try.sizeOf60 rfl (by simp) hat135) ?_; clear ha a; intro a ha
          refine op_g ha rfl (g_move rfl) ?_; clear ha a; intro a ha
          obtain ⟨x157, hc158, hF⟩ := cal_some hF
          refine o_call ha rfl rfl Try.call47 (W_spec_l30Fact hI146 hI155 hI156 hI69 hc158) ?_; clear ha a; rintro v159 w160 ⟨rfl, hx161⟩ a ha
          replace hB66 := hB66.ext hx161
          have hE162 := Ext.trans hE70 hx161
          refine op_g ha rfl (g_not rfl) ?_; clear ha a; intro a ha
          refine wpList_nil ?_
          replace ha := ha.sub (σ' := [(1, (.pointer (some ⟨b1, 0, none⟩))), (3, (.int .i64 i68)), (23, (.bool (!x157)))]) ⟨rfl, rfl, rfl, trivial⟩
          refine e_then ?_
          refine c_cond (¬ (x157 = true)) ha rfl (n_iff (Iff.rfl)) (fun hp163 => ?_) (fun hp163 => ?_)
          · replace hF := if_t hp163 hF
            refine wp_seq ?_
            refine wp_region_lit ?_
            refine op_g ha rfl (g_assign rfl) ?_; clear ha a; intro a ha
            refine wpList_nil ?_
            replace ha := ha.sub (σ' := [(2, (.bool false))]) ⟨rfl, trivial⟩
            refine e_then ?_
            refine wp_ret ?_
            refine e_blk_ret ?_
            refine e_then_ret ?_
            refine e_lq_ret ?_
            refine e_then_ret ?_
            obtain rfl := Option.some.inj hF
            have e164 := LK_inr hN123; subst e164
            have e165 := BK_inr hK119; subst e165
            exact f_ret1 ha rfl rfl ⟨rfl, hE162⟩
          · replace hF := if_f hp163 hF
            refine wp_skip ?_
            refine e_blk ?_
            refine e_then ?_
            refine wp_region_lit ?_
            refine op_g ha rfl (g_move rfl) ?_; clear ha a; intro a ha
            obtain ⟨hI166, hF⟩ := ck_some hF
            refine op_g ha rfl (g_add rfl rfl hI166) ?_; clear ha a; intro a ha
            refine op_g ha rfl (g_assign rfl) ?_; clear ha a; intro a ha
            refine wpList_nil ?_
            replace ha := ha.sub (σ' := [(1, (.pointer (some ⟨b1, 0, none⟩))), (3, (.int .i64 (i68 + 1)))]) ⟨rfl, rfl, trivial⟩
            refine e_lq ?_
            obtain rfl := Option.some.inj hF
            exact ⟨_, Nat.lt_succ_self _, i68 + 1, ha.sub ⟨rfl, rfl, trivial⟩, hE162, hI166, hB66, z67, hN123⟩
        · replace hF := if_f hp126 hF
          refine wp_exit ?_
          refine e_then_exit ?_
          refine e_lq_eq ?_
          obtain rfl := Option.some.inj hF
          exact ⟨ha.sub trivial, hE70, (LK_inr hN123).symm⟩
    · rintro a w116 ⟨ha, hE122, rfl⟩
      have hF : F_spec_FormulaOk_k2 = some _ := hK119; clear hK119; unfold F_spec_FormulaOk_k2 at hF
      refine e_then ?_
      refine wp_seq ?_
      refine wp_region_lit ?_
      refine op_g ha rfl (g_assign rfl) ?_; clear ha a; intro a ha
      refine wpList_nil ?_
      refine e_then ?_
      refine wp_ret ?_
      obtain rfl := Option.some.inj hF
      exact f_ret1 ha rfl rfl ⟨rfl, hE122⟩
set_option maxHeartbeats 2000000 in
theorem W_impl_inRange {W : World} {a0 : Int} (ha0 : InI a0) {a1 : Int} (ha1 : InI a1) {a2 : Int} (ha2 : InI a2) {r : Bool} (hF : F_impl_inRange a0 a1 a2 = some r) :
    Calls Try.prog 43 [.int .i64 a0, .int .i64 a1, .int .i64 a2].toArray W (Ret fun u w' => u = .bool r ∧ Ext W w') := by
  refine f_enter Try.func43 rfl Try.ntmps43 rfl ?_
  intro a ha
  replace ha : Fr 15 [(0, (.int .i64 a0)), (1, (.int .i64 a1)), (2, (.int .i64 a2))] a := ha
  have hE : Chg [] W W := Chg.refl _ _
  unfold F_impl_inRange at hF
  refine wp_seq ?_
  refine wp_region_lit ?_
  refine op_g ha rfl (g_assign rfl) ?_; clear ha a; intro a ha
  refine wpList_nil ?_
  replace ha := ha.sub (σ' := [(0, (.int .i64 a0)), (1, (.int .i64 a1)), (2, (.int .i64 a2))]) ⟨rfl, rfl, rfl, trivial⟩
  refine e_then ?_
  refine wp_seq ?_
  refine wp_region_lit ?_
  refine op_g ha rfl (g_move rfl) ?_; clear ha a; intro a ha
  refine op_g ha rfl (g_move rfl) ?_; clear ha a; intro a ha
  refine op_g ha rfl (g_leq rfl rfl) ?_; clear ha a; intro a ha
  refine op_g ha rfl (g_move rfl) ?_; clear ha a; intro a ha
  by_cases hp1 : a1 ≤ a0
  · replace hF := if_t hp1 hF
    rw [show (decide (a1 ≤ a0)) = true from (decide_eq_true_iff).2 hp1] at ha
    refine op_want (yields ha rfl rfl) ?_
    refine op_g ha rfl (g_move rfl) ?_; clear ha a; intro a ha
    refine op_want (yields ha rfl rfl) ?_
    refine op_g ha rfl (g_move rfl) ?_; clear ha a; intro a ha
    refine op_want (yields ha rfl rfl) ?_
    refine op_g ha rfl (g_leq rfl rfl) ?_; clear ha a; intro a ha
    refine op_g ha rfl (g_pick rfl rfl) ?_; clear ha a; intro a ha
    refine op_g ha rfl (g_assign rfl) ?_; clear ha a; intro a ha
    refine wpList_nil ?_
    replace ha := ha.sub (σ' := [(6, (.bool (decide (a0 ≤ a2))))]) ⟨rfl, trivial⟩
    refine e_then ?_
    refine wp_ret ?_
    obtain rfl := Option.some.inj hF
    exact f_ret1 ha rfl rfl ⟨rfl, hE⟩
  · replace hF := if_f hp1 hF
    rw [show (decide (a1 ≤ a0)) = false from b_false (decide_eq_true_iff) hp1] at ha
    refine op_unwant ha rfl (yields ha rfl rfl) rfl ?_; clear ha a; intro a ha
    refine op_unwant ha rfl (yields ha rfl rfl) rfl ?_; clear ha a; intro a ha
    refine op_unwant ha rfl (yields ha rfl rfl) rfl ?_; clear ha a; intro a ha
    refine op_g ha rfl (g_pick rfl rfl) ?_; clear ha a; intro a ha
    refine op_g ha rfl (g_assign rfl) ?_; clear ha a; intro a ha
    refine wpList_nil ?_
    replace ha := ha.sub (σ' := [(6, (.bool false))]) ⟨rfl, trivial⟩
    refine e_then ?_
    refine wp_ret ?_
    obtain rfl := Option.some.inj hF
    exact f_ret1 ha rfl rfl ⟨rfl, hE⟩
set_option maxHeartbeats 2000000 in
theorem W_impl_goodFact_1 {W : World} {a0 : Int} (ha0 : InI a0) {r : Bool} (hF : F_impl_goodFact_1 a0 = some r) :
    Calls Try.prog 62 [.int .i64 a0].toArray W (Ret fun u w' => u = .bool r ∧ Ext W w') := by
  refine f_enter Try.func62 rfl Try.ntmps62 rfl ?_
  intro a ha
  replace ha : Fr 5 [(0, (.int .i64 a0))] a := ha
  have hE : Chg [] W W := Chg.refl _ _
  unfold F_impl_goodFact_1 at hF
  refine wp_seq ?_
  refine wp_region_lit ?_
  refine op_g ha rfl (g_assign rfl) ?_; clear ha a; intro a ha
  refine wpList_nil ?_
  replace ha := ha.sub (σ' := [(0, (.int .i64 a0))]) ⟨rfl, trivial⟩
  refine e_then ?_
  refine wp_seq ?_
  refine wp_region_lit ?_
  refine op_g ha rfl (g_move rfl) ?_; clear ha a; intro a ha
  obtain ⟨x1, hc2, hF⟩ := cal_some hF
  refine o_call ha rfl rfl Try.call43 (W_impl_inRange ha0 (by decide) (by decide) hc2) ?_; clear ha a; rintro v3 w4 ⟨rfl, hx5⟩ a ha
  have hE6 := Ext.trans hE hx5
  refine op_g ha rfl (g_assign rfl) ?_; clear ha a; intro a ha
  refine wpList_nil ?_
  replace ha := ha.sub (σ' := [(2, (.bool x1))]) ⟨rfl, trivial⟩
  refine e_then ?_
  refine wp_ret ?_
  obtain rfl := Option.some.inj hF
  exact f_ret1 ha rfl rfl ⟨rfl, hE6⟩
set_option maxHeartbeats 2000000 in
theorem W_impl_goodFact_2 {W : World} {a0 : Int} (ha0 : InI a0) {r : Bool} (hF : F_impl_goodFact_2 a0 = some r) :
    Calls Try.prog 63 [.int .i64 a0].toArray W (Ret fun u w' => u = .bool r ∧ Ext W w') := by
  refine f_enter Try.func63 rfl Try.ntmps63 rfl ?_
  intro a ha
  replace ha : Fr 5 [(0, (.int .i64 a0))] a := ha
  have hE : Chg [] W W := Chg.refl _ _
  unfold F_impl_goodFact_2 at hF
  refine wp_seq ?_
  refine wp_region_lit ?_
  refine op_g ha rfl (g_assign rfl) ?_; clear ha a; intro a ha
  refine wpList_nil ?_
  replace ha := ha.sub (σ' := [(0, (.int .i64 a0))]) ⟨rfl, trivial⟩
  refine e_then ?_
  refine wp_seq ?_
  refine wp_region_lit ?_
  refine op_g ha rfl (g_move rfl) ?_; clear ha a; intro a ha
  obtain ⟨x1, hc2, hF⟩ := cal_some hF
  refine o_call ha rfl rfl Try.call43 (W_impl_inRange ha0 (by decide) (by decide) hc2) ?_; clear ha a; rintro v3 w4 ⟨rfl, hx5⟩ a ha
  have hE6 := Ext.trans hE hx5
  refine op_g ha rfl (g_assign rfl) ?_; clear ha a; intro a ha
  refine wpList_nil ?_
  replace ha := ha.sub (σ' := [(2, (.bool x1))]) ⟨rfl, trivial⟩
  refine e_then ?_
  refine wp_ret ?_
  obtain rfl := Option.some.inj hF
  exact f_ret1 ha rfl rfl ⟨rfl, hE6⟩
set_option maxHeartbeats 2000000 in
theorem W_impl_goodFact_3 {W : World} {a0 : Int} (ha0 : InI a0) {y0 : Int} (hy0 : InI y0) {bc0 : Nat} (hbc0 : Bx W bc0 [.int .i64 y0] 3) {r : Bool} (hF : F_impl_goodFact_3 a0 y0 = some r) :
    Calls Try.prog 64 [.int .i64 a0, .pointer (some ⟨bc0, 0, none⟩)].toArray W (Ret fun u w' => u = .bool r ∧ Ext W w') := by
  refine f_enter Try.func64 rfl Try.ntmps64 rfl ?_
  intro a ha
  replace ha : Fr 8 [(0, (.int .i64 a0)), (1, (.pointer (some ⟨bc0, 0, none⟩)))] a := ha
  have hE : Chg [] W W := Chg.refl _ _
  unfold F_impl_goodFact_3 at hF
  refine wp_seq ?_
  refine wp_region_lit ?_
  refine op_g ha rfl (g_assign rfl) ?_; clear ha a; intro a ha
  refine wpList_nil ?_
  replace ha := ha.sub (σ' := [(0, (.int .i64 a0)), (1, (.pointer (some ⟨bc0, 0, none⟩)))]) ⟨rfl, rfl, trivial⟩
  refine e_then ?_
  refine wp_seq ?_
  refine wp_region_lit ?_
  refine op_g ha rfl (g_move rfl) ?_; clear ha a; intro a ha
  refine op_g ha rfl (g_load Try.isAgg3 rfl ((hbc0.ext hE).cell rfl)) ?_; clear ha a; intro a ha
  obtain ⟨hI1, hF⟩ := ck_some hF
  refine op_g ha rfl (g_sub rfl rfl hI1) ?_; clear ha a; intro a ha
  obtain ⟨x3, hc4, hF⟩ := cal_some hF
  refine o_call ha rfl rfl Try.call43 (W_impl_inRange ha0 (by decide) hI1 hc4) ?_; clear ha a; rintro v5 w6 ⟨rfl, hx7⟩ a ha
  have hE8 := Ext.trans hE hx7
  refine op_g ha rfl (g_assign rfl) ?_; clear ha a; intro a ha
  refine wpList_nil ?_
  replace ha := ha.sub (σ' := [(3, (.bool x3))]) ⟨rfl, trivial⟩
  refine e_then ?_
  refine wp_ret ?_
  obtain rfl := Option.some.inj hF
  exact f_ret1 ha rfl rfl ⟨rfl, hE8⟩
set_option maxHeartbeats 2000000 in
theorem W_impl_goodFact {W : World} {a0_0 : Int} (ha0_0 : InI a0_0) {a0_1 : Int} (ha0_1 : InI a0_1) {a0_2 : Int} (ha0_2 : InI a0_2) {a1 : Int} (ha1 : InI a1) {r : Bool} (hF : F_impl_goodFact a0_0 a0_1 a0_2 a1 = some r) :
    Calls Try.prog 49 [.agg #[.int .i64 a0_0, .int .i64 a0_1, .int .i64 a0_2], .int .i64 a1].toArray W (Ret fun u w' => u = .bool r ∧ Ext W w') := by
  refine f_enter Try.func49 rfl Try.ntmps49 rfl ?_
  intro a ha
  replace ha : Fr 84 [(0, (.agg #[(.int .i64 a0_0), (.int .i64 a0_1), (.int .i64 a0_2)])), (1, (.int .i64 a1))] a := ha
  have hE : Chg [] W W := Chg.refl _ _
  unfold F_impl_goodFact at hF
  refine wp_seq ?_
  refine wp_region_lit ?_
  refine o_box ha rfl rfl rfl ?_; clear ha a; intro b1 w2 hB3 hx4 hlo5 a ha
  have q6 := Zn.one hlo5
  have q7 := Zn.upD q6 hE
  have hE8 := Ext.trans hE hx4
  refine o_box ha rfl rfl rfl ?_; clear ha a; intro b9 w10 hB11 hx12 hlo13 a ha
  have q14 := Zn.one hlo13
  have q15 := Nq.new hB3.fpb q14
  have q16 := Nq.made1 hlo13 hB3.bi
  have q17 := Zn.upD q14 hE8
  replace hB3 := hB3.ext hx12
  have hE18 := Ext.trans hE8 hx12
  refine op_g ha rfl (g_assign rfl) ?_; clear ha a; intro a ha
  refine wpList_nil ?_
  replace ha := ha.sub (σ' := [(2, (.pointer (some ⟨b1, 0, none⟩))), (3, (.pointer (some ⟨b9, 0, none⟩)))]) ⟨rfl, rfl, trivial⟩
  refine e_then ?_
  refine wp_seq ?_
  refine wp_region_lit ?_
  refine op_g ha rfl (g_assign rfl) ?_; clear ha a; intro a ha
  refine wpList_nil ?_
  refine e_then ?_
  refine wp_seq ?_
  refine wp_region_lit ?_
  refine op_g ha rfl (g_assign rfl) ?_; clear ha a; intro a ha
  refine wpList_nil ?_
  replace ha := ha.sub (σ' := [(2, (.pointer (some ⟨b1, 0, none⟩))), (3, (.pointer (some ⟨b9, 0, none⟩))), (5, (.func (.func 62) #[] #[])), (6, (.func (.func 63) #[] #[]))]) ⟨rfl, rfl, rfl, rfl, trivial⟩
  refine e_then ?_
  refine wp_seq ?_
  refine wp_region_lit ?_
  refine op_g ha rfl (g_func rfl rfl) ?_; clear ha a; intro a ha
  refine op_g ha rfl (g_assign rfl) ?_; clear ha a; intro a ha
  refine wpList_nil ?_
  replace ha := ha.sub (σ' := [(2, (.pointer (some ⟨b1, 0, none⟩))), (5, (.func (.func 62) #[] #[])), (6, (.func (.func 63) #[] #[])), (7, (.func (.func 64) #[] #[(.pointer (some ⟨b9, 0, none⟩))]))]) ⟨rfl, rfl, rfl, rfl, trivial⟩
  refine e_then ?_
  refine wp_seq ?_
  refine wp_seq ?_
  refine wp_region_lit ?_
  refine op_g ha rfl (g_field0 st60_0 rfl) ?_; clear ha a; intro a ha
  refine op_g ha rfl (g_load Try.isAgg2 rfl (hB3.cell rfl)) ?_; clear ha a; intro a ha
  refine wpList_nil ?_
  replace ha := ha.sub (σ' := [(2, (.pointer (some ⟨b1, 0, none⟩))), (5, (.func (.func 62) #[] #[])), (6, (.func (.func 63) #[] #[])), (7, (.func (.func 64) #[] #[(.pointer (some ⟨b9, 0, none⟩))])), (10, (.int .i64 a0_0))]) ⟨rfl, rfl, rfl, rfl, rfl, trivial⟩
  refine e_then ?_
  refine wp_block ?_
  obtain ⟨o20, ho21, hK22⟩ := bnd_some hF
  have hF := ho21; clear ho21
  refine s_cut (fun a w => ∃ (t28 : Bool), Fr 84 [(2, (.pointer (some ⟨b1, 0, none⟩))), (5, (.func (.func 62) #[] #[])), (6, (.func (.func 63) #[] #[])), (7, (.func (.func 64) #[] #[(.pointer (some ⟨b9, 0, none⟩))])), (10, (.int .i64 a0_0)), (11, (.bool t28))] a ∧ Chg [] W w ∧ Bx w b1 [(.int .i64 a0_0), (.int .i64 a0_1), (.int .i64 a0_2)] 60 ∧ Zn W (b1 : Int) ∧ Bx w b9 [(.int .i64 a1)] 3 ∧ Zn W (b9 : Int) ∧ Nq ([b1]) (b9 : Int) ∧ Nq ([b9]) (b1 : Int) ∧ o20 = .inl t28) ?_ ?_
  · skip
    refine wp_seq ?_
    refine wp_region_lit ?_
    refine op_g ha rfl (g_eql rfl rfl) ?_; clear ha a; intro a ha
    refine op_g ha rfl (g_assign rfl) ?_; clear ha a; intro a ha
    refine wpList_nil ?_
    replace ha := ha.sub (σ' := [(2, (.pointer (some ⟨b1, 0, none⟩))), (5, (.func (.func 62) #[] #[])), (6, (.func (.func 63) #[] #[])), (7, (.func (.func 64) #[] #[(.pointer (some ⟨b9, 0, none⟩))])), (10, (.int .i64 a0_0)), (11, (.bool (decide (a0_0 = 1))))]) ⟨rfl, rfl, rfl, rfl, rfl, rfl, trivial⟩
    refine e_then ?_
    refine c_cond (a0_0 = 1) ha rfl (decide_eq_true_iff) (fun hp32 => ?_) (fun hp32 => ?_)
    · replace hF := if_t hp32 hF
      refine wp_skip ?_
      refine e_sq ?_
      obtain rfl := Option.some.inj hF
      exact ⟨decide (a0_0 = 1), ha.sub ⟨rfl, rfl, rfl, rfl, rfl, rfl, trivial⟩, hE18, hB3, q7, hB11, q17, q15, q16, rfl⟩
    · replace hF := if_f hp32 hF
      refine wp_region_lit ?_
      refine op_g ha rfl (g_eql rfl rfl) ?_; clear ha a; intro a ha
      refine op_g ha rfl (g_assign rfl) ?_; clear ha a; intro a ha
      refine wpList_nil ?_
      replace ha := ha.sub (σ' := [(2, (.pointer (some ⟨b1, 0, none⟩))), (5, (.func (.func 62) #[] #[])), (6, (.func (.func 63) #[] #[])), (7, (.func (.func 64) #[] #[(.pointer (some ⟨b9, 0, none⟩))])), (10, (.int .i64 a0_0)), (11, (.bool (decide (a0_0 = 2))))]) ⟨rfl, rfl, rfl, rfl, rfl, rfl, trivial⟩
      refine e_sq ?_
      obtain rfl := Option.some.inj hF
      exact ⟨decide (a0_0 = 2), ha.sub ⟨rfl, rfl, rfl, rfl, rfl, rfl, trivial⟩, hE18, hB3, q7, hB11, q17, q15, q16, rfl⟩
  · rintro a w23 ⟨t28, ha, hE31, hB24, z25, hB26, z27, q29, q30, rfl⟩
    have hF : F_impl_goodFact_k1 a0_0 a0_1 a0_2 a1 t28 = some _ := hK22; clear hK22; unfold F_impl_goodFact_k1 at hF
    refine c_cond (t28 = true) ha rfl (Iff.rfl) (fun hp33 => ?_) (fun hp33 => ?_)
    · replace hF := if_t hp33 hF
      refine wp_seq ?_
      refine wp_region_lit ?_
      refine op_g ha rfl (g_move rfl) ?_; clear ha a; intro a ha
      refine op_g ha rfl (g_field0 st60_1 rfl) ?_; clear ha a; intro a ha
      refine op_g ha rfl (g_load Try.isAgg2 rfl (hB24.cell rfl)) ?_; clear ha a; intro a ha
      obtain ⟨x34, hc35, hF⟩ := cal_some hF
      refine o_callv ha rfl rfl rfl Try.call62 (W_impl_goodFact_1 ha0_1 hc35) ?_; clear ha a; rintro v36 w37 ⟨rfl, hx38⟩ a ha
      replace hB24 := hB24.ext hx38
      replace hB26 := hB26.ext hx38
      have hE39 := Ext.trans hE31 hx38
      refine op_g ha rfl (g_move rfl) ?_; clear ha a; intro a ha
      by_cases hp40 : x34 = true
      · replace hF := if_t hp40 hF
        rw [show (x34) = true from (Iff.rfl).2 hp40] at ha
        refine op_want (yields ha rfl rfl) ?_
        refine op_g ha rfl (g_move rfl) ?_; clear ha a; intro a ha
        refine op_want (yields ha rfl rfl) ?_
        refine op_g ha rfl (g_field0 st60_2 rfl) ?_; clear ha a; intro a ha
        refine op_want (yields ha rfl rfl) ?_
        refine op_g ha rfl (g_load Try.isAgg2 rfl (hB24.cell rfl)) ?_; clear ha a; intro a ha
        refine op_want (yields ha rfl rfl) ?_
        obtain ⟨x41, hc42, hF⟩ := cal_some hF
        refine o_callv ha rfl rfl rfl Try.call62 (W_impl_goodFact_1 ha0_2 hc42) ?_; clear ha a; rintro v43 w44 ⟨rfl, hx45⟩ a ha
        replace hB24 := hB24.ext hx45
        replace hB26 := hB26.ext hx45
        have hE46 := Ext.trans hE39 hx45
        refine op_g ha rfl (g_pick rfl rfl) ?_; clear ha a; intro a ha
        refine op_g ha rfl (g_assign rfl) ?_; clear ha a; intro a ha
        refine wpList_nil ?_
        replace ha := ha.sub (σ' := [(4, (.bool x41))]) ⟨rfl, trivial⟩
        refine e_then ?_
        refine wp_ret ?_
        refine e_blk_ret ?_
        refine e_then_ret ?_
        obtain rfl := Option.some.inj hF
        exact f_ret1 ha rfl rfl ⟨rfl, hE46⟩
      · replace hF := if_f hp40 hF
        rw [show (x34) = false from b_false (Iff.rfl) hp40] at ha
        refine op_unwant ha rfl (yields ha rfl rfl) rfl ?_; clear ha a; intro a ha
        refine op_unwant ha rfl (yields ha rfl rfl) rfl ?_; clear ha a; intro a ha
        refine op_unwant ha rfl (yields ha rfl rfl) rfl ?_; clear ha a; intro a ha
        refine op_unwant ha rfl (yields ha rfl rfl) rfl ?_; clear ha a; intro a ha
        refine op_g ha rfl (g_pick rfl rfl) ?_; clear ha a; intro a ha
        refine op_g ha rfl (g_assign rfl) ?_; clear ha a; intro a ha
        refine wpList_nil ?_
        replace ha := ha.sub (σ' := [(4, (.bool false))]) ⟨rfl, trivial⟩
        refine e_then ?_
        refine wp_ret ?_
        refine e_blk_ret ?_
        refine e_then_ret ?_
        obtain rfl := Option.some.inj hF
        exact f_ret1 ha rfl rfl ⟨rfl, hE39⟩
    · replace hF := if_f hp33 hF
      refine wp_seq ?_
      refine wp_region_lit ?_
      refine op_g ha rfl (g_eql rfl rfl) ?_; clear ha a; intro a ha
      refine op_g ha rfl (g_assign rfl) ?_; clear ha a; intro a ha
      refine wpList_nil ?_
      replace ha := ha.sub (σ' := [(2, (.pointer (some ⟨b1, 0, none⟩))), (5, (.func (.func 62) #[] #[])), (6, (.func (.func 63) #[] #[])), (7, (.func (.func 64) #[] #[(.pointer (some ⟨b9, 0, none⟩))])), (10, (.int .i64 a0_0)), (24, (.bool (decide (a0_0 = 3))))]) ⟨rfl, rfl, rfl, rfl, rfl, rfl, trivial⟩
      refine e_then ?_
      refine c_cond (a0_0 = 3) ha rfl (decide_eq_true_iff) (fun hp47 => ?_) (fun hp47 => ?_)
      · replace hF := if_t hp47 hF
        refine wp_seq ?_
        refine wp_region_lit ?_
        refine op_g ha rfl (g_move rfl) ?_; clear ha a; intro a ha
        refine op_g ha rfl (g_field0 st60_1 rfl) ?_; clear ha a; intro a ha
        refine op_g ha rfl (g_load Try.isAgg2 rfl (hB24.cell rfl)) ?_; clear ha a; intro a ha
        obtain ⟨x48, hc49, hF⟩ := cal_some hF
        refine o_callv ha rfl rfl rfl Try.call62 (W_impl_goodFact_1 ha0_1 hc49) ?_; clear ha a; rintro v50 w51 ⟨rfl, hx52⟩ a ha
        replace hB24 := hB24.ext hx52
        replace hB26 := hB26.ext hx52
        have hE53 := Ext.trans hE31 hx52
        refine op_g ha rfl (g_move rfl) ?_; clear ha a; intro a ha
        by_cases hp54 : x48 = true
        · replace hF := if_t hp54 hF
          rw [show (x48) = true from (Iff.rfl).2 hp54] at ha
          refine op_want (yields ha rfl rfl) ?_
          refine op_g ha rfl (g_move rfl) ?_; clear ha a; intro a ha
          refine op_want (yields ha rfl rfl) ?_
          refine op_g ha rfl (g_field0 st60_2 rfl) ?_; clear ha a; intro a ha
          refine op_want (yields ha rfl rfl) ?_
          refine op_g ha rfl (g_load Try.isAgg2 rfl (hB24.cell rfl)) ?_; clear ha a; intro a ha
          refine op_want (yields ha rfl rfl) ?_
          obtain ⟨x55, hc56, hF⟩ := cal_some hF
          refine o_callv ha rfl rfl rfl Try.call63 (W_impl_goodFact_2 ha0_2 hc56) ?_; clear ha a; rintro v57 w58 ⟨rfl, hx59⟩ a ha
          replace hB24 := hB24.ext hx59
          replace hB26 := hB26.ext hx59
          have hE60 := Ext.trans hE53 hx59
          refine op_g ha rfl (g_pick rfl rfl) ?_; clear ha a; intro a ha
          refine op_g ha rfl (g_assign rfl) ?_; clear ha a; intro a ha
          refine wpList_nil ?_
          replace ha := ha.sub (σ' := [(4, (.bool x55))]) ⟨rfl, trivial⟩
          refine e_then ?_
          refine wp_ret ?_
          refine e_blk_ret ?_
          refine e_then_ret ?_
          obtain rfl := Option.some.inj hF
          exact f_ret1 ha rfl rfl ⟨rfl, hE60⟩
        · replace hF := if_f hp54 hF
          rw [show (x48) = false from b_false (Iff.rfl) hp54] at ha
          refine op_unwant ha rfl (yields ha rfl rfl) rfl ?_; clear ha a; intro a ha
          refine op_unwant ha rfl (yields ha rfl rfl) rfl ?_; clear ha a; intro a ha
          refine op_unwant ha rfl (yields ha rfl rfl) rfl ?_; clear ha a; intro a ha
          refine op_unwant ha rfl (yields ha rfl rfl) rfl ?_; clear ha a; intro a ha
          refine op_g ha rfl (g_pick rfl rfl) ?_; clear ha a; intro a ha
          refine op_g ha rfl (g_assign rfl) ?_; clear ha a; intro a ha
          refine wpList_nil ?_
          replace ha := ha.sub (σ' := [(4, (.bool false))]) ⟨rfl, trivial⟩
          refine e_then ?_
          refine wp_ret ?_
          refine e_blk_ret ?_
          refine e_then_ret ?_
          obtain rfl := Option.some.inj hF
          exact f_ret1 ha rfl rfl ⟨rfl, hE53⟩
      · replace hF := if_f hp47 hF
        refine wp_seq ?_
        refine wp_region_lit ?_
        refine op_g ha rfl (g_eql rfl rfl) ?_; clear ha a; intro a ha
        refine op_g ha rfl (g_assign rfl) ?_; clear ha a; intro a ha
        refine wpList_nil ?_
        replace ha := ha.sub (σ' := [(2, (.pointer (some ⟨b1, 0, none⟩))), (5, (.func (.func 62) #[] #[])), (6, (.func (.func 63) #[] #[])), (7, (.func (.func 64) #[] #[(.pointer (some ⟨b9, 0, none⟩))])), (10, (.int .i64 a0_0)), (36, (.bool (decide (a0_0 = 4))))]) ⟨rfl, rfl, rfl, rfl, rfl, rfl, trivial⟩
        refine e_then ?_
        refine c_cond (a0_0 = 4) ha rfl (decide_eq_true_iff) (fun hp61 => ?_) (fun hp61 => ?_)
        · replace hF := if_t hp61 hF
          refine wp_seq ?_
          refine wp_region_lit ?_
          refine op_g ha rfl (g_move rfl) ?_; clear ha a; intro a ha
          refine op_g ha rfl (g_field0 st60_1 rfl) ?_; clear ha a; intro a ha
          refine op_g ha rfl (g_load Try.isAgg2 rfl (hB24.cell rfl)) ?_; clear ha a; intro a ha
          obtain ⟨x62, hc63, hF⟩ := cal_some hF
          refine o_callv ha rfl rfl rfl Try.call64 (W_impl_goodFact_3 ha0_1 ha1 hB26 hc63) ?_; clear ha a; rintro v64 w65 ⟨rfl, hx66⟩ a ha
          replace hB24 := hB24.ext hx66
          replace hB26 := hB26.ext hx66
          have hE67 := Ext.trans hE31 hx66
          refine op_g ha rfl (g_move rfl) ?_; clear ha a; intro a ha
          by_cases hp68 : x62 = true
          · replace hF := if_t hp68 hF
            rw [show (x62) = true from (Iff.rfl).2 hp68] at ha
            refine op_want (yields ha rfl rfl) ?_
            refine op_g ha rfl (g_field0 st60_2 rfl) ?_; clear ha a; intro a ha
            refine op_want (yields ha rfl rfl) ?_
            refine op_g ha rfl (g_load Try.isAgg2 rfl (hB24.cell rfl)) ?_; clear ha a; intro a ha
            refine op_want (yields ha rfl rfl) ?_
            refine op_g ha rfl (g_eql rfl rfl) ?_; clear ha a; intro a ha
            refine op_g ha rfl (g_pick rfl rfl) ?_; clear ha a; intro a ha
            refine op_g ha rfl (g_assign rfl) ?_; clear ha a; intro a ha
            refine wpList_nil ?_
            replace ha := ha.sub (σ' := [(4, (.bool (decide (a0_2 = 0))))]) ⟨rfl, trivial⟩
            refine e_then ?_
            refine wp_ret ?_
            refine e_blk_ret ?_
            refine e_then_ret ?_
            obtain rfl := Option.some.inj hF
            exact f_ret1 ha rfl rfl ⟨rfl, hE67⟩
          · replace hF := if_f hp68 hF
            rw [show (x62) = false from b_false (Iff.rfl) hp68] at ha
            refine op_unwant ha rfl (yields ha rfl rfl) rfl ?_; clear ha a; intro a ha
            refine op_unwant ha rfl (yields ha rfl rfl) rfl ?_; clear ha a; intro a ha
            refine op_unwant ha rfl (yields ha rfl rfl) rfl ?_; clear ha a; intro a ha
            refine op_g ha rfl (g_pick rfl rfl) ?_; clear ha a; intro a ha
            refine op_g ha rfl (g_assign rfl) ?_; clear ha a; intro a ha
            refine wpList_nil ?_
            replace ha := ha.sub (σ' := [(4, (.bool false))]) ⟨rfl, trivial⟩
            refine e_then ?_
            refine wp_ret ?_
            refine e_blk_ret ?_
            refine e_then_ret ?_
            obtain rfl := Option.some.inj hF
            exact f_ret1 ha rfl rfl ⟨rfl, hE67⟩
        · replace hF := if_f hp61 hF
          obtain ⟨o70, ho71, hK72⟩ := bnd_some hF
          have hF := ho71; clear ho71
          refine s_cut (fun a w => ∃ (t78 : Bool), Fr 84 [(2, (.pointer (some ⟨b1, 0, none⟩))), (5, (.func (.func 62) #[] #[])), (6, (.func (.func 63) #[] #[])), (7, (.func (.func 64) #[] #[(.pointer (some ⟨b9, 0, none⟩))])), (10, (.int .i64 a0_0)), (47, (.bool t78))] a ∧ Chg [] W w ∧ Bx w b1 [(.int .i64 a0_0), (.int .i64 a0_1), (.int .i64 a0_2)] 60 ∧ Zn W (b1 : Int) ∧ Bx w b9 [(.int .i64 a1)] 3 ∧ Zn W (b9 : Int) ∧ Nq ([b1]) (b9 : Int) ∧ Nq ([b9]) (b1 : Int) ∧ o70 = .inl t78) ?_ ?_
          · skip
            refine wp_seq ?_
            refine wp_region_lit ?_
            refine op_g ha rfl (g_eql rfl rfl) ?_; clear ha a; intro a ha
            refine op_g ha rfl (g_assign rfl) ?_; clear ha a; intro a ha
            refine wpList_nil ?_
            replace ha := ha.sub (σ' := [(2, (.pointer (some ⟨b1, 0, none⟩))), (5, (.func (.func 62) #[] #[])), (6, (.func (.func 63) #[] #[])), (7, (.func (.func 64) #[] #[(.pointer (some ⟨b9, 0, none⟩))])), (10, (.int .i64 a0_0)), (47, (.bool (decide (a0_0 = 5))))]) ⟨rfl, rfl, rfl, rfl, rfl, rfl, trivial⟩
            refine e_then ?_
            refine c_cond (a0_0 = 5) ha rfl (decide_eq_true_iff) (fun hp82 => ?_) (fun hp82 => ?_)
            · replace hF := if_t hp82 hF
              refine wp_skip ?_
              refine e_sq ?_
              obtain rfl := Option.some.inj hF
              exact ⟨decide (a0_0 = 5), ha.sub ⟨rfl, rfl, rfl, rfl, rfl, rfl, trivial⟩, hE31, hB24, z25, hB26, z27, q29, q30, rfl⟩
            · replace hF := if_f hp82 hF
              refine wp_region_lit ?_
              refine op_g ha rfl (g_eql rfl rfl) ?_; clear ha a; intro a ha
              refine op_g ha rfl (g_assign rfl) ?_; clear ha a; intro a ha
              refine wpList_nil ?_
              replace ha := ha.sub (σ' := [(2, (.pointer (some ⟨b1, 0, none⟩))), (5, (.func (.func 62) #[] #[])), (6, (.func (.func 63) #[] #[])), (7, (.func (.func 64) #[] #[(.pointer (some ⟨b9, 0, none⟩))])), (10, (.int .i64 a0_0)), (47, (.bool (decide (a0_0 = 6))))]) ⟨rfl, rfl, rfl, rfl, rfl, rfl, trivial⟩
              refine e_sq ?_
              obtain rfl := Option.some.inj hF
              exact ⟨decide (a0_0 = 6), ha.sub ⟨rfl, rfl, rfl, rfl, rfl, rfl, trivial⟩, hE31, hB24, z25, hB26, z27, q29, q30, rfl⟩
          · rintro a w73 ⟨t78, ha, hE81, hB74, z75, hB76, z77, q79, q80, rfl⟩
            have hF : F_impl_goodFact_k2 a0_0 a0_1 a0_2 a1 t78 = some _ := hK72; clear hK72; unfold F_impl_goodFact_k2 at hF
            refine c_cond (t78 = true) ha rfl (Iff.rfl) (fun hp83 => ?_) (fun hp83 => ?_)
            · replace hF := if_t hp83 hF
              refine wp_seq ?_
              refine wp_region_lit ?_
              refine op_g ha rfl (g_move rfl) ?_; clear ha a; intro a ha
              refine op_g ha rfl (g_field0 st60_1 rfl) ?_; clear ha a; intro a ha
              refine op_g ha rfl (g_load Try.isAgg2 rfl (hB74.cell rfl)) ?_; clear ha a; intro a ha
              obtain ⟨x84, hc85, hF⟩ := cal_some hF
              refine o_callv ha rfl rfl rfl Try.call64 (W_impl_goodFact_3 ha0_1 ha1 hB76 hc85) ?_; clear ha a; rintro v86 w87 ⟨rfl, hx88⟩ a ha
              replace hB74 := hB74.ext hx88
              replace hB76 := hB76.ext hx88
              have hE89 := Ext.trans hE81 hx88
              refine op_g ha rfl (g_move rfl) ?_; clear ha a; intro a ha
              by_cases hp90 : x84 = true
              · replace hF := if_t hp90 hF
                rw [show (x84) = true from (Iff.rfl).2 hp90] at ha
                refine op_want (yields ha rfl rfl) ?_
                refine op_g ha rfl (g_move rfl) ?_; clear ha a; intro a ha
                refine op_want (yields ha rfl rfl) ?_
                refine op_g ha rfl (g_field0 st60_2 rfl) ?_; clear ha a; intro a ha
                refine op_want (yields ha rfl rfl) ?_
                refine op_g ha rfl (g_load Try.isAgg2 rfl (hB74.cell rfl)) ?_; clear ha a; intro a ha
                refine op_want (yields ha rfl rfl) ?_
                obtain ⟨x91, hc92, hF⟩ := cal_some hF
                refine o_callv ha rfl rfl rfl Try.call64 (W_impl_goodFact_3 ha0_2 ha1 hB76 hc92) ?_; clear ha a; rintro v93 w94 ⟨rfl, hx95⟩ a ha
                replace hB74 := hB74.ext hx95
                replace hB76 := hB76.ext hx95
                have hE96 := Ext.trans hE89 hx95
                refine op_g ha rfl (g_pick rfl rfl) ?_; clear ha a; intro a ha
                refine op_g ha rfl (g_assign rfl) ?_; clear ha a; intro a ha
                refine wpList_nil ?_
                replace ha := ha.sub (σ' := [(4, (.bool x91))]) ⟨rfl, trivial⟩
                refine e_then ?_
                refine wp_ret ?_
                refine e_blk_ret ?_
                refine e_then_ret ?_
                obtain rfl := Option.some.inj hF
                exact f_ret1 ha rfl rfl ⟨rfl, hE96⟩
              · replace hF := if_f hp90 hF
                rw [show (x84) = false from b_false (Iff.rfl) hp90] at ha
                refine op_unwant ha rfl (yields ha rfl rfl) rfl ?_; clear ha a; intro a ha
                refine op_unwant ha rfl (yields ha rfl rfl) rfl ?_; clear ha a; intro a ha
                refine op_unwant ha rfl (yields ha rfl rfl) rfl ?_; clear ha a; intro a ha
                refine op_unwant ha rfl (yields ha rfl rfl) rfl ?_; clear ha a; intro a ha
                refine op_g ha rfl (g_pick rfl rfl) ?_; clear ha a; intro a ha
                refine op_g ha rfl (g_assign rfl) ?_; clear ha a; intro a ha
                refine wpList_nil ?_
                replace ha := ha.sub (σ' := [(4, (.bool false))]) ⟨rfl, trivial⟩
                refine e_then ?_
                refine wp_ret ?_
                refine e_blk_ret ?_
                refine e_then_ret ?_
                obtain rfl := Option.some.inj hF
                exact f_ret1 ha rfl rfl ⟨rfl, hE89⟩
            · replace hF := if_f hp83 hF
              refine wp_seq ?_
              refine wp_region_lit ?_
              refine op_g ha rfl (g_eql rfl rfl) ?_; clear ha a; intro a ha
              refine op_g ha rfl (g_assign rfl) ?_; clear ha a; intro a ha
              refine wpList_nil ?_
              replace ha := ha.sub (σ' := [(2, (.pointer (some ⟨b1, 0, none⟩))), (5, (.func (.func 62) #[] #[])), (6, (.func (.func 63) #[] #[])), (7, (.func (.func 64) #[] #[(.pointer (some ⟨b9, 0, none⟩))])), (10, (.int .i64 a0_0)), (60, (.bool (decide (a0_0 = 7))))]) ⟨rfl, rfl, rfl, rfl, rfl, rfl, trivial⟩
              refine e_then ?_
              refine c_cond (a0_0 = 7) ha rfl (decide_eq_true_iff) (fun hp97 => ?_) (fun hp97 => ?_)
              · replace hF := if_t hp97 hF
                refine wp_seq ?_
                refine wp_region_lit ?_
                refine op_g ha rfl (g_move rfl) ?_; clear ha a; intro a ha
                refine op_g ha rfl (g_field0 st60_1 rfl) ?_; clear ha a; intro a ha
                refine op_g ha rfl (g_load Try.isAgg2 rfl (hB74.cell rfl)) ?_; clear ha a; intro a ha
                obtain ⟨x98, hc99, hF⟩ := cal_some hF
                refine o_callv ha rfl rfl rfl Try.call62 (W_impl_goodFact_1 ha0_1 hc99) ?_; clear ha a; rintro v100 w101 ⟨rfl, hx102⟩ a ha
                replace hB74 := hB74.ext hx102
                replace hB76 := hB76.ext hx102
                have hE103 := Ext.trans hE81 hx102
                refine op_g ha rfl (g_move rfl) ?_; clear ha a; intro a ha
                by_cases hp104 : x98 = true
                · replace hF := if_t hp104 hF
                  rw [show (x98) = true from (Iff.rfl).2 hp104] at ha
                  refine op_want (yields ha rfl rfl) ?_
                  refine op_g ha rfl (g_move rfl) ?_; clear ha a; intro a ha
                  refine op_want (yields ha rfl rfl) ?_
                  refine op_g ha rfl (g_field0 st60_2 rfl) ?_; clear ha a; intro a ha
                  refine op_want (yields ha rfl rfl) ?_
                  refine op_g ha rfl (g_load Try.isAgg2 rfl (hB74.cell rfl)) ?_; clear ha a; intro a ha
                  refine op_want (yields ha rfl rfl) ?_
                  obtain ⟨x105, hc106, hF⟩ := cal_some hF
                  refine o_callv ha rfl rfl rfl Try.call64 (W_impl_goodFact_3 ha0_2 ha1 hB76 hc106) ?_; clear ha a; rintro v107 w108 ⟨rfl, hx109⟩ a ha
                  replace hB74 := hB74.ext hx109
                  replace hB76 := hB76.ext hx109
                  have hE110 := Ext.trans hE103 hx109
                  refine op_g ha rfl (g_pick rfl rfl) ?_; clear ha a; intro a ha
                  refine op_g ha rfl (g_assign rfl) ?_; clear ha a; intro a ha
                  refine wpList_nil ?_
                  replace ha := ha.sub (σ' := [(4, (.bool x105))]) ⟨rfl, trivial⟩
                  refine e_then ?_
                  refine wp_ret ?_
                  refine e_blk_ret ?_
                  refine e_then_ret ?_
                  obtain rfl := Option.some.inj hF
                  exact f_ret1 ha rfl rfl ⟨rfl, hE110⟩
                · replace hF := if_f hp104 hF
                  rw [show (x98) = false from b_false (Iff.rfl) hp104] at ha
                  refine op_unwant ha rfl (yields ha rfl rfl) rfl ?_; clear ha a; intro a ha
                  refine op_unwant ha rfl (yields ha rfl rfl) rfl ?_; clear ha a; intro a ha
                  refine op_unwant ha rfl (yields ha rfl rfl) rfl ?_; clear ha a; intro a ha
                  refine op_unwant ha rfl (yields ha rfl rfl) rfl ?_; clear ha a; intro a ha
                  refine op_g ha rfl (g_pick rfl rfl) ?_; clear ha a; intro a ha
                  refine op_g ha rfl (g_assign rfl) ?_; clear ha a; intro a ha
                  refine wpList_nil ?_
                  replace ha := ha.sub (σ' := [(4, (.bool false))]) ⟨rfl, trivial⟩
                  refine e_then ?_
                  refine wp_ret ?_
                  refine e_blk_ret ?_
                  refine e_then_ret ?_
                  obtain rfl := Option.some.inj hF
                  exact f_ret1 ha rfl rfl ⟨rfl, hE103⟩
              · replace hF := if_f hp97 hF
                refine wp_seq ?_
                refine wp_region_lit ?_
                refine op_g ha rfl (g_eql rfl rfl) ?_; clear ha a; intro a ha
                refine op_g ha rfl (g_assign rfl) ?_; clear ha a; intro a ha
                refine wpList_nil ?_
                replace ha := ha.sub (σ' := [(2, (.pointer (some ⟨b1, 0, none⟩))), (6, (.func (.func 63) #[] #[])), (7, (.func (.func 64) #[] #[(.pointer (some ⟨b9, 0, none⟩))])), (72, (.bool (decide (a0_0 = 8))))]) ⟨rfl, rfl, rfl, rfl, trivial⟩
                refine e_then ?_
                refine c_cond (a0_0 = 8) ha rfl (decide_eq_true_iff) (fun hp111 => ?_) (fun hp111 => ?_)
                · replace hF := if_t hp111 hF
                  refine wp_seq ?_
                  refine wp_region_lit ?_
                  refine op_g ha rfl (g_move rfl) ?_; clear ha a; intro a ha
                  refine op_g ha rfl (g_field0 st60_1 rfl) ?_; clear ha a; intro a ha
                  refine op_g ha rfl (g_load Try.isAgg2 rfl (hB74.cell rfl)) ?_; clear ha a; intro a ha
                  obtain ⟨x112, hc113, hF⟩ := cal_some hF
                  refine o_callv ha rfl rfl rfl Try.call63 (W_impl_goodFact_2 ha0_1 hc113) ?_; clear ha a; rintro v114 w115 ⟨rfl, hx116⟩ a ha
                  replace hB74 := hB74.ext hx116
                  replace hB76 := hB76.ext hx116
                  have hE117 := Ext.trans hE81 hx116
                  refine op_g ha rfl (g_move rfl) ?_; clear ha a; intro a ha
                  by_cases hp118 : x112 = true
                  · replace hF := if_t hp118 hF
                    rw [show (x112) = true from (Iff.rfl).2 hp118] at ha
                    refine op_want (yields ha rfl rfl) ?_
                    refine op_g ha rfl (g_move rfl) ?_; clear ha a; intro a ha
                    refine op_want (yields ha rfl rfl) ?_
                    refine op_g ha rfl (g_field0 st60_2 rfl) ?_; clear ha a; intro a ha
                    refine op_want (yields ha rfl rfl) ?_
                    refine op_g ha rfl (g_load Try.isAgg2 rfl (hB74.cell rfl)) ?_; clear ha a; intro a ha
                    refine op_want (yields ha rfl rfl) ?_
                    obtain ⟨x119, hc120, hF⟩ := cal_some hF
                    refine o_callv ha rfl rfl rfl Try.call64 (W_impl_goodFact_3 ha0_2 ha1 hB76 hc120) ?_; clear ha a; rintro v121 w122 ⟨rfl, hx123⟩ a ha
                    replace hB74 := hB74.ext hx123
                    replace hB76 := hB76.ext hx123
                    have hE124 := Ext.trans hE117 hx123
                    refine op_g ha rfl (g_pick rfl rfl) ?_; clear ha a; intro a ha
                    refine op_g ha rfl (g_assign rfl) ?_; clear ha a; intro a ha
                    refine wpList_nil ?_
                    replace ha := ha.sub (σ' := [(4, (.bool x119))]) ⟨rfl, trivial⟩
                    refine e_then ?_
                    refine wp_ret ?_
                    refine e_blk_ret ?_
                    refine e_then_ret ?_
                    obtain rfl := Option.some.inj hF
                    exact f_ret1 ha rfl rfl ⟨rfl, hE124⟩
                  · replace hF := if_f hp118 hF
                    rw [show (x112) = false from b_false (Iff.rfl) hp118] at ha
                    refine op_unwant ha rfl (yields ha rfl rfl) rfl ?_; clear ha a; intro a ha
                    refine op_unwant ha rfl (yields ha rfl rfl) rfl ?_; clear ha a; intro a ha
                    refine op_unwant ha rfl (yields ha rfl rfl) rfl ?_; clear ha a; intro a ha
                    refine op_unwant ha rfl (yields ha rfl rfl) rfl ?_; clear ha a; intro a ha
                    refine op_g ha rfl (g_pick rfl rfl) ?_; clear ha a; intro a ha
                    refine op_g ha rfl (g_assign rfl) ?_; clear ha a; intro a ha
                    refine wpList_nil ?_
                    replace ha := ha.sub (σ' := [(4, (.bool false))]) ⟨rfl, trivial⟩
                    refine e_then ?_
                    refine wp_ret ?_
                    refine e_blk_ret ?_
                    refine e_then_ret ?_
                    obtain rfl := Option.some.inj hF
                    exact f_ret1 ha rfl rfl ⟨rfl, hE117⟩
                · replace hF := if_f hp111 hF
                  refine wp_skip ?_
                  refine e_blk ?_
                  refine e_then ?_
                  refine wp_seq ?_
                  refine wp_region_lit ?_
                  refine op_g ha rfl (g_assign rfl) ?_; clear ha a; intro a ha
                  refine wpList_nil ?_
                  replace ha := ha.sub (σ' := [(4, (.bool false))]) ⟨rfl, trivial⟩
                  refine e_then ?_
                  refine wp_ret ?_
                  obtain rfl := Option.some.inj hF
                  exact f_ret1 ha rfl rfl ⟨rfl, hE81⟩
set_option maxHeartbeats 2000000 in
theorem W_impl_FormulaOk {W : World} {va0_0 : Value} {fa0_0 : List Nat} {a0_0 : (List (Int × (Int × Int)))} (ha0_0 : Ro (Rp.prod Rp.int (Rp.prod Rp.int Rp.int)) W fa0_0 va0_0 a0_0) {r : Bool} (hF : F_impl_FormulaOk a0_0 = some r) :
    Calls Try.prog 28 [.agg #[va0_0]].toArray W (Ret fun u w' => u = .bool r ∧ Ext W w') := by
  refine f_enter Try.func28 rfl Try.ntmps28 rfl ?_
  intro a ha
  replace ha : Fr 28 [(0, (.agg #[va0_0]))] a := ha
  have hE : Chg [] W W := Chg.refl _ _
  unfold F_impl_FormulaOk at hF
  refine wp_seq ?_
  refine wp_region_lit ?_
  refine o_box ha rfl rfl rfl ?_; clear ha a; intro b1 w2 hB3 hx4 hlo5 a ha
  have q6 := Zn.one hlo5
  have q7 := Zn.upD q6 hE
  have hE8 := Ext.trans hE hx4
  refine op_g ha rfl (g_assign rfl) ?_; clear ha a; intro a ha
  refine wpList_nil ?_
  replace ha := ha.sub (σ' := [(1, (.pointer (some ⟨b1, 0, none⟩)))]) ⟨rfl, trivial⟩
  refine e_then ?_
  refine wp_seq ?_
  refine wp_seq ?_
  refine wp_region_lit ?_
  refine op_g ha rfl (g_field0 st29_0 rfl) ?_; clear ha a; intro a ha
  refine op_g ha rfl (g_load Try.isAgg27 rfl (hB3.cell rfl)) ?_; clear ha a; intro a ha
  refine op_g ha rfl (g_lenR sl27.und ha0_0 rfl) ?_; clear ha a; intro a ha
  refine op_g ha rfl (g_lss rfl rfl) ?_; clear ha a; intro a ha
  refine op_g ha rfl (g_move rfl) ?_; clear ha a; intro a ha
  by_cases hp11 : (a0_0.length : Int) < 1
  · replace hF := if_t hp11 hF
    rw [show (decide ((a0_0.length : Int) < 1)) = true from (decide_eq_true_iff).2 hp11] at ha
    refine op_unwant ha rfl (yields ha rfl rfl) rfl ?_; clear ha a; intro a ha
    refine op_unwant ha rfl (yields ha rfl rfl) rfl ?_; clear ha a; intro a ha
    refine op_unwant ha rfl (yields ha rfl rfl) rfl ?_; clear ha a; intro a ha
    refine op_unwant ha rfl (yields ha rfl rfl) rfl ?_; clear ha a; intro a ha
    refine op_g ha rfl (g_pick rfl rfl) ?_; clear ha a; intro a ha
    refine wpList_nil ?_
    replace ha := ha.sub (σ' := [(1, (.pointer (some ⟨b1, 0, none⟩))), (14, (.bool true))]) ⟨rfl, rfl, trivial⟩
    refine e_then ?_
    refine c_true ha rfl ?_
    refine wp_seq ?_
    refine wp_region_lit ?_
    refine op_g ha rfl (g_assign rfl) ?_; clear ha a; intro a ha
    refine wpList_nil ?_
    replace ha := ha.sub (σ' := [(2, (.bool false))]) ⟨rfl, trivial⟩
    refine e_then ?_
    refine wp_ret ?_
    refine e_then_ret ?_
    obtain rfl := Option.some.inj hF
    exact f_ret1 ha rfl rfl ⟨rfl, hE8⟩
  · replace hF := if_f hp11 hF
    rw [show (decide ((a0_0.length : Int) < 1)) = false from b_false (decide_eq_true_iff) hp11] at ha
    refine op_want (yields ha rfl rfl) ?_
    refine op_g ha rfl (g_field0 st29_0 rfl) ?_; clear ha a; intro a ha
    refine op_want (yields ha rfl rfl) ?_
    refine op_g ha rfl (g_load Try.isAgg27 rfl (hB3.cell rfl)) ?_; clear ha a; intro a ha
    refine op_want (yields ha rfl rfl) ?_
    refine op_g ha rfl (g_lenR sl27.und ha0_0 rfl) ?_; clear ha a; intro a ha
    refine op_want (yields ha rfl rfl) ?_
    refine op_g ha rfl (g_gtr rfl rfl) ?_; clear ha a; intro a ha
    refine op_g ha rfl (g_pick rfl rfl) ?_; clear ha a; intro a ha
    refine wpList_nil ?_
    replace ha := ha.sub (σ' := [(1, (.pointer (some ⟨b1, 0, none⟩))), (14, (.bool (decide (40 < (a0_0.length : Int)))))]) ⟨rfl, rfl, trivial⟩
    refine e_then ?_
    refine c_cond (40 < (a0_0.length : Int)) ha rfl (decide_eq_true_iff) (fun hp12 => ?_) (fun hp12 => ?_)
    · replace hF := if_t hp12 hF
      refine wp_seq ?_
      refine wp_region_lit ?_
      refine op_g ha rfl (g_assign rfl) ?_; clear ha a; intro a ha
      refine wpList_nil ?_
      replace ha := ha.sub (σ' := [(2, (.bool false))]) ⟨rfl, trivial⟩
      refine e_then ?_
      refine wp_ret ?_
      refine e_then_ret ?_
      obtain rfl := Option.some.inj hF
      exact f_ret1 ha rfl rfl ⟨rfl, hE8⟩
    · replace hF := if_f hp12 hF
      refine wp_skip ?_
      refine e_then ?_
      refine wp_seq ?_
      refine wp_seq ?_
      refine wp_region_lit ?_
      refine op_g ha rfl (g_field0 st29_0 rfl) ?_; clear ha a; intro a ha
      refine op_g ha rfl (g_load Try.isAgg27 rfl (hB3.cell rfl)) ?_; clear ha a; intro a ha
      refine op_g ha rfl (g_lenR sl27.und ha0_0 rfl) ?_; clear ha a; intro a ha
      refine op_g ha rfl (g_move rfl) ?_; clear ha a; intro a ha
      refine wpList_nil ?_
      replace ha := ha.sub (σ' := [(16, va0_0), (17, (.int .i64 (a0_0.length : Int))), (18, (.int .i64 0))]) ⟨rfl, rfl, rfl, trivial⟩
      refine e_then ?_
      obtain ⟨o130, ho131, hK132⟩ := bnd_some hF
      obtain ⟨n133, hn134⟩ := lp_some ho131; clear ho131
      refine c_loop (fun a w => Fr 28 [] a ∧ Chg [] W w ∧ o130 = .inl ()) (fun n a w => ∃ (i71 : Int), Fr 28 [(16, va0_0), (17, (.int .i64 (a0_0.length : Int))), (18, (.int .i64 i71))] a ∧ Chg [] W w ∧ InI i71 ∧ lpN (fun s => F_impl_FormulaOk_l1 a0_0 s) n i71 = some o130) n133 ⟨0, ha.sub ⟨rfl, rfl, rfl, trivial⟩, hE8, (by decide), hn134⟩ ?_ ?_
      · rintro m138 a w70 ⟨i71, ha, hE73, hI72, hF⟩
        cases m138 with
        | zero => exact (lpN_zero hF).elim
        | succ m138 =>
          obtain ⟨z137, hF, hN136⟩ := lpN_succ hF
          have hF : F_impl_FormulaOk_l1 a0_0 i71 = some z137 := hF; unfold F_impl_FormulaOk_l1 at hF
          refine wp_seq ?_
          refine wp_region_lit ?_
          refine op_g ha rfl (g_lss rfl rfl) ?_; clear ha a; intro a ha
          refine wpList_nil ?_
          replace ha := ha.sub (σ' := [(16, va0_0), (17, (.int .i64 (a0_0.length : Int))), (18, (.int .i64 i71)), (19, (.bool (decide (i71 < (a0_0.length : Int)))))]) ⟨rfl, rfl, rfl, rfl, trivial⟩
          refine e_then ?_
          refine wp_seq ?_
          refine c_cond (i71 < (a0_0.length : Int)) ha rfl (decide_eq_true_iff) (fun hp139 => ?_) (fun hp139 => ?_)
          · replace hF := if_t hp139 hF
            refine wp_skip ?_
            refine e_then ?_
            refine wp_seq ?_
            refine wp_block ?_
            refine wp_seq ?_
            refine wp_region_lit ?_
            refine op_g ha rfl (g_move rfl) ?_; clear ha a; intro a ha
            obtain ⟨x140, g141, gx142, hF⟩ := idx_some hF
            obtain ⟨p143, cs144, f145, hf146, hpb147, hat148, hr149, hi150⟩ := ha0_0.at g141 gx142
            obtain ⟨f151, f152, c153, c154, rfl, rfl, h155, h156⟩ := hr149
            obtain ⟨rfl, hI159, rfl⟩ := h155
            obtain ⟨f160, f161, c162, c163, rfl, rfl, h164, h165⟩ := h156
            obtain ⟨rfl, hI168, rfl⟩ := h164
            obtain ⟨rfl, hI169, rfl⟩ := h165
            refine op_g ha rfl (hi150.gives sl27 rfl rfl) ?_; clear ha a; intro a ha
            refine op_g ha rfl (g_loadA0 (cs := [(.int .i64 x140.1), (.int .i64 x140.2.1), (.int .i64 x140.2.2)]) hE73 Try.isAgg60 Try.sizeOf60 rfl (by simp) hat148) ?_; clear ha a; intro a ha
            refine o_alloc (cs := [(.int .i64 0), (.int .i64 0), (.int .i64 0)]) ha rfl Try.zeroValue60 rfl ?_; clear ha a; intro b170 w171 hB172 hx173 hlo174 a ha
            have q175 := Zn.one hlo174
            have q176 := Zn.upD q175 hE73
            have hE177 := Ext.trans hE73 hx173
            refine op_g ha rfl (g_assign rfl) ?_; clear ha a; intro a ha
            refine o_storeA (vs := [(.int .i64 x140.1), (.int .i64 x140.2.1), (.int .i64 x140.2.2)]) ha hB172 Try.sizeOf60 rfl rfl (by intro c hc; simp only [List.mem_cons, List.not_mem_nil, or_false] at hc; rcases hc with hc | hc | hc <;> subst hc <;> first | rfl | exact rfl | exact rfl | exact rfl) rfl ?_; intro w178 hB179 hc180
            replace hc180 := hc180.bl
            replace hB179 : Bx w178 b170 [(.int .i64 x140.1), (.int .i64 x140.2.1), (.int .i64 x140.2.2)] 60 := hB179
            have hE181 := Ext.then hE177 hc180 (Zn.bl q176)
            refine wpList_nil ?_
            replace ha := ha.sub (σ' := [(3, (.int .i64 i71)), (4, (.pointer (some ⟨b170, 0, none⟩))), (16, va0_0), (17, (.int .i64 (a0_0.length : Int))), (18, (.int .i64 i71))]) ⟨rfl, rfl, rfl, rfl, rfl, trivial⟩
            refine e_then ?_
            refine wp_seq ?_
            refine wp_region_lit ?_
            refine op_g ha rfl (g_loadA (cs := [(.int .i64 x140.1), (.int .i64 x140.2.1), (.int .i64 x140.2.2)]) Try.isAgg60 Try.sizeOf60 rfl (by simp) hB179.all) ?_; clear ha a; intro a ha
            refine op_g ha rfl (g_move rfl) ?_; clear ha a; intro a ha
            obtain ⟨x182, hc183, hF⟩ := cal_some hF
            refine o_call ha rfl rfl Try.call49 (W_impl_goodFact hI159 hI168 hI169 hI72 hc183) ?_; clear ha a; rintro v184 w185 ⟨rfl, hx186⟩ a ha
            replace hB179 := hB179.ext hx186
            have hE187 := Ext.trans hE181 hx186
            refine op_g ha rfl (g_not rfl) ?_; clear ha a; intro a ha
            refine wpList_nil ?_
            replace ha := ha.sub (σ' := [(16, va0_0), (17, (.int .i64 (a0_0.length : Int))), (18, (.int .i64 i71)), (26, (.bool (!x182)))]) ⟨rfl, rfl, rfl, rfl, trivial⟩
            refine e_then ?_
            refine c_cond (¬ (x182 = true)) ha rfl (n_iff (Iff.rfl)) (fun hp188 => ?_) (fun hp188 => ?_)
            · replace hF := if_t hp188 hF
              refine wp_seq ?_
              refine wp_region_lit ?_
              refine op_g ha rfl (g_assign rfl) ?_; clear ha a; intro a ha
              refine wpList_nil ?_
              replace ha := ha.sub (σ' := [(2, (.bool false))]) ⟨rfl, trivial⟩
              refine e_then ?_
              refine wp_ret ?_
              refine e_blk_ret ?_
              refine e_then_ret ?_
              refine e_lq_ret ?_
              refine e_then_ret ?_
              obtain rfl := Option.some.inj hF
              have e189 := LK_inr hN136; subst e189
              have e190 := BK_inr hK132; subst e190
              exact f_ret1 ha rfl rfl ⟨rfl, hE187⟩
            · replace hF := if_f hp188 hF
              refine wp_skip ?_
              refine e_blk ?_
              refine e_then ?_
              refine wp_region_lit ?_
              obtain ⟨hI191, hF⟩ := ck_some hF
              refine op_g ha rfl (g_add rfl rfl hI191) ?_; clear ha a; intro a ha
              refine op_g ha rfl (g_move rfl) ?_; clear ha a; intro a ha
              refine wpList_nil ?_
              replace ha := ha.sub (σ' := [(16, va0_0), (17, (.int .i64 (a0_0.length : Int))), (18, (.int .i64 (i71 + 1)))]) ⟨rfl, rfl, rfl, trivial⟩
              refine e_lq ?_
              obtain rfl := Option.some.inj hF
              exact ⟨_, Nat.lt_succ_self _, i71 + 1, ha.sub ⟨rfl, rfl, rfl, trivial⟩, hE187, hI191, hN136⟩
          · replace hF := if_f hp139 hF
            refine wp_exit ?_
            refine e_then_exit ?_
            refine e_lq_eq ?_
            obtain rfl := Option.some.inj hF
            exact ⟨ha.sub trivial, hE73, (LK_inr hN136).symm⟩
      · rintro a w129 ⟨ha, hE135, rfl⟩
        have hF : F_impl_FormulaOk_k2 = some _ := hK132; clear hK132; unfold F_impl_FormulaOk_k2 at hF
        refine e_then ?_
        refine wp_seq ?_
        refine wp_region_lit ?_
        refine op_g ha rfl (g_assign rfl) ?_; clear ha a; intro a ha
        refine wpList_nil ?_
        refine e_then ?_
        refine wp_ret ?_
        obtain rfl := Option.some.inj hF
        exact f_ret1 ha rfl rfl ⟨rfl, hE135⟩
set_option maxHeartbeats 2000000 in
theorem W_laws_eqFact {W : World} {a0_0 : Int} (ha0_0 : InI a0_0) {a0_1 : Int} (ha0_1 : InI a0_1) {a0_2 : Int} (ha0_2 : InI a0_2) {a1_0 : Int} (ha1_0 : InI a1_0) {a1_1 : Int} (ha1_1 : InI a1_1) {a1_2 : Int} (ha1_2 : InI a1_2) {r : Bool} (hF : F_laws_eqFact a0_0 a0_1 a0_2 a1_0 a1_1 a1_2 = some r) :
    Calls Try.prog 58 [.agg #[.int .i64 a0_0, .int .i64 a0_1, .int .i64 a0_2], .agg #[.int .i64 a1_0, .int .i64 a1_1, .int .i64 a1_2]].toArray W (Ret fun u w' => u = .bool r ∧ Ext W w') := by
  refine f_enter Try.func58 rfl Try.ntmps58 rfl ?_
  intro a ha
  replace ha : Fr 20 [(0, (.agg #[(.int .i64 a0_0), (.int .i64 a0_1), (.int .i64 a0_2)])), (1, (.agg #[(.int .i64 a1_0), (.int .i64 a1_1), (.int .i64 a1_2)]))] a := ha
  have hE : Chg [] W W := Chg.refl _ _
  unfold F_laws_eqFact at hF
  refine wp_seq ?_
  refine wp_region_lit ?_
  refine o_box ha rfl rfl rfl ?_; clear ha a; intro b1 w2 hB3 hx4 hlo5 a ha
  have q6 := Zn.one hlo5
  have q7 := Zn.upD q6 hE
  have hE8 := Ext.trans hE hx4
  refine o_box ha rfl rfl rfl ?_; clear ha a; intro b9 w10 hB11 hx12 hlo13 a ha
  have q14 := Zn.one hlo13
  have q15 := Nq.new hB3.fpb q14
  have q16 := Nq.made1 hlo13 hB3.bi
  have q17 := Zn.upD q14 hE8
  replace hB3 := hB3.ext hx12
  have hE18 := Ext.trans hE8 hx12
  refine op_g ha rfl (g_assign rfl) ?_; clear ha a; intro a ha
  refine wpList_nil ?_
  replace ha := ha.sub (σ' := [(2, (.pointer (some ⟨b1, 0, none⟩))), (3, (.pointer (some ⟨b9, 0, none⟩)))]) ⟨rfl, rfl, trivial⟩
  refine e_then ?_
  refine wp_seq ?_
  refine wp_seq ?_
  refine wp_region_lit ?_
  refine op_g ha rfl (g_field0 st60_0 rfl) ?_; clear ha a; intro a ha
  refine op_g ha rfl (g_load Try.isAgg2 rfl (hB3.cell rfl)) ?_; clear ha a; intro a ha
  refine op_g ha rfl (g_field0 st60_0 rfl) ?_; clear ha a; intro a ha
  refine op_g ha rfl (g_load Try.isAgg2 rfl (hB11.cell rfl)) ?_; clear ha a; intro a ha
  refine op_g ha rfl (g_neq rfl rfl) ?_; clear ha a; intro a ha
  refine wpList_nil ?_
  replace ha := ha.sub (σ' := [(2, (.pointer (some ⟨b1, 0, none⟩))), (3, (.pointer (some ⟨b9, 0, none⟩))), (9, (.bool (decide (a0_0 ≠ a1_0))))]) ⟨rfl, rfl, rfl, trivial⟩
  refine e_then ?_
  refine c_cond (a0_0 ≠ a1_0) ha rfl (decide_eq_true_iff) (fun hp19 => ?_) (fun hp19 => ?_)
  · replace hF := if_t hp19 hF
    refine wp_seq ?_
    refine wp_region_lit ?_
    refine op_g ha rfl (g_assign rfl) ?_; clear ha a; intro a ha
    refine wpList_nil ?_
    replace ha := ha.sub (σ' := [(4, (.bool false))]) ⟨rfl, trivial⟩
    refine e_then ?_
    refine wp_ret ?_
    refine e_then_ret ?_
    obtain rfl := Option.some.inj hF
    exact f_ret1 ha rfl rfl ⟨rfl, hE18⟩
  · replace hF := if_f hp19 hF
    refine wp_skip ?_
    refine e_then ?_
    refine wp_seq ?_
    refine wp_seq ?_
    refine wp_region_lit ?_
    refine op_g ha rfl (g_field0 st60_1 rfl) ?_; clear ha a; intro a ha
    refine op_g ha rfl (g_load Try.isAgg2 rfl (hB3.cell rfl)) ?_; clear ha a; intro a ha
    refine op_g ha rfl (g_field0 st60_1 rfl) ?_; clear ha a; intro a ha
    refine op_g ha rfl (g_load Try.isAgg2 rfl (hB11.cell rfl)) ?_; clear ha a; intro a ha
    refine op_g ha rfl (g_neq rfl rfl) ?_; clear ha a; intro a ha
    refine wpList_nil ?_
    replace ha := ha.sub (σ' := [(2, (.pointer (some ⟨b1, 0, none⟩))), (3, (.pointer (some ⟨b9, 0, none⟩))), (14, (.bool (decide (a0_1 ≠ a1_1))))]) ⟨rfl, rfl, rfl, trivial⟩
    refine e_then ?_
    refine c_cond (a0_1 ≠ a1_1) ha rfl (decide_eq_true_iff) (fun hp20 => ?_) (fun hp20 => ?_)
    · replace hF := if_t hp20 hF
      refine wp_seq ?_
      refine wp_region_lit ?_
      refine op_g ha rfl (g_assign rfl) ?_; clear ha a; intro a ha
      refine wpList_nil ?_
      replace ha := ha.sub (σ' := [(4, (.bool false))]) ⟨rfl, trivial⟩
      refine e_then ?_
      refine wp_ret ?_
      refine e_then_ret ?_
      obtain rfl := Option.some.inj hF
      exact f_ret1 ha rfl rfl ⟨rfl, hE18⟩
    · replace hF := if_f hp20 hF
      refine wp_skip ?_
      refine e_then ?_
      refine wp_seq ?_
      refine wp_seq ?_
      refine wp_region_lit ?_
      refine op_g ha rfl (g_field0 st60_2 rfl) ?_; clear ha a; intro a ha
      refine op_g ha rfl (g_load Try.isAgg2 rfl (hB3.cell rfl)) ?_; clear ha a; intro a ha
      refine op_g ha rfl (g_field0 st60_2 rfl) ?_; clear ha a; intro a ha
      refine op_g ha rfl (g_load Try.isAgg2 rfl (hB11.cell rfl)) ?_; clear ha a; intro a ha
      refine op_g ha rfl (g_neq rfl rfl) ?_; clear ha a; intro a ha
      refine wpList_nil ?_
      replace ha := ha.sub (σ' := [(19, (.bool (decide (a0_2 ≠ a1_2))))]) ⟨rfl, trivial⟩
      refine e_then ?_
      refine c_cond (a0_2 ≠ a1_2) ha rfl (decide_eq_true_iff) (fun hp21 => ?_) (fun hp21 => ?_)
      · replace hF := if_t hp21 hF
        refine wp_seq ?_
        refine wp_region_lit ?_
        refine op_g ha rfl (g_assign rfl) ?_; clear ha a; intro a ha
        refine wpList_nil ?_
        replace ha := ha.sub (σ' := [(4, (.bool false))]) ⟨rfl, trivial⟩
        refine e_then ?_
        refine wp_ret ?_
        refine e_then_ret ?_
        obtain rfl := Option.some.inj hF
        exact f_ret1 ha rfl rfl ⟨rfl, hE18⟩
      · replace hF := if_f hp21 hF
        refine wp_skip ?_
        refine e_then ?_
        refine wp_seq ?_
        refine wp_region_lit ?_
        refine op_g ha rfl (g_assign rfl) ?_; clear ha a; intro a ha
        refine wpList_nil ?_
        replace ha := ha.sub (σ' := [(4, (.bool true))]) ⟨rfl, trivial⟩
        refine e_then ?_
        refine wp_ret ?_
        obtain rfl := Option.some.inj hF
        exact f_ret1 ha rfl rfl ⟨rfl, hE18⟩
set_option maxHeartbeats 2000000 in
theorem W_laws_eqFactS {W : World} {va0 : Value} {fa0 : List Nat} {a0 : (List (Int × (Int × Int)))} (ha0 : Ro (Rp.prod Rp.int (Rp.prod Rp.int Rp.int)) W fa0 va0 a0) {va1 : Value} {fa1 : List Nat} {a1 : (List (Int × (Int × Int)))} (ha1 : Ro (Rp.prod Rp.int (Rp.prod Rp.int Rp.int)) W fa1 va1 a1) {r : Bool} (hF : F_laws_eqFactS a0 a1 = some r) :
    Calls Try.prog 39 [va0, va1].toArray W (Ret fun u w' => u = .bool r ∧ Ext W w') := by
  refine f_enter Try.func39 rfl Try.ntmps39 rfl ?_
  intro a ha
  replace ha : Fr 27 [(0, va0), (1, va1)] a := ha
  have hE : Chg [] W W := Chg.refl _ _
  unfold F_laws_eqFactS at hF
  refine wp_seq ?_
  refine wp_region_lit ?_
  refine op_g ha rfl (g_assign rfl) ?_; clear ha a; intro a ha
  refine wpList_nil ?_
  replace ha := ha.sub (σ' := [(0, va0), (1, va1)]) ⟨rfl, rfl, trivial⟩
  refine e_then ?_
  refine wp_seq ?_
  refine wp_seq ?_
  refine wp_region_lit ?_
  refine op_g ha rfl (g_move rfl) ?_; clear ha a; intro a ha
  refine op_g ha rfl (g_lenR sl27.und ha0 rfl) ?_; clear ha a; intro a ha
  refine op_g ha rfl (g_move rfl) ?_; clear ha a; intro a ha
  refine op_g ha rfl (g_lenR sl27.und ha1 rfl) ?_; clear ha a; intro a ha
  refine op_g ha rfl (g_neq rfl rfl) ?_; clear ha a; intro a ha
  refine wpList_nil ?_
  replace ha := ha.sub (σ' := [(0, va0), (1, va1), (10, (.bool (decide ((a0.length : Int) ≠ (a1.length : Int)))))]) ⟨rfl, rfl, rfl, trivial⟩
  refine e_then ?_
  refine c_cond ((a0.length : Int) ≠ (a1.length : Int)) ha rfl (decide_eq_true_iff) (fun hp1 => ?_) (fun hp1 => ?_)
  · replace hF := if_t hp1 hF
    refine wp_seq ?_
    refine wp_region_lit ?_
    refine op_g ha rfl (g_assign rfl) ?_; clear ha a; intro a ha
    refine wpList_nil ?_
    replace ha := ha.sub (σ' := [(4, (.bool false))]) ⟨rfl, trivial⟩
    refine e_then ?_
    refine wp_ret ?_
    refine e_then_ret ?_
    obtain rfl := Option.some.inj hF
    exact f_ret1 ha rfl rfl ⟨rfl, hE⟩
  · replace hF := if_f hp1 hF
    refine wp_skip ?_
    refine e_then ?_
    refine wp_seq ?_
    refine wp_seq ?_
    refine wp_region_lit ?_
    refine op_g ha rfl (g_assign rfl) ?_; clear ha a; intro a ha
    refine wpList_nil ?_
    replace ha := ha.sub (σ' := [(0, va0), (1, va1), (5, (.int .i64 0))]) ⟨rfl, rfl, rfl, trivial⟩
    refine e_then ?_
    obtain ⟨o157, ho158, hK159⟩ := bnd_some hF
    obtain ⟨n160, hn161⟩ := lp_some ho158; clear ho158
    refine c_loop (fun a w => Fr 27 [] a ∧ Chg [] W w ∧ o157 = .inl ()) (fun n a w => ∃ (i79 : Int), Fr 27 [(0, va0), (1, va1), (5, (.int .i64 i79))] a ∧ Chg [] W w ∧ InI i79 ∧ lpN (fun s => F_laws_eqFactS_l1 a0 a1 s) n i79 = some o157) n160 ⟨0, ha.sub ⟨rfl, rfl, rfl, trivial⟩, hE, (by decide), hn161⟩ ?_ ?_
    · rintro m165 a w78 ⟨i79, ha, hE81, hI80, hF⟩
      cases m165 with
      | zero => exact (lpN_zero hF).elim
      | succ m165 =>
        obtain ⟨z164, hF, hN163⟩ := lpN_succ hF
        have hF : F_laws_eqFactS_l1 a0 a1 i79 = some z164 := hF; unfold F_laws_eqFactS_l1 at hF
        refine wp_seq ?_
        refine wp_seq ?_
        refine wp_region_lit ?_
        refine op_g ha rfl (g_move rfl) ?_; clear ha a; intro a ha
        refine op_g ha rfl (g_move rfl) ?_; clear ha a; intro a ha
        refine op_g ha rfl (g_lenR sl27.und ha0 rfl) ?_; clear ha a; intro a ha
        refine op_g ha rfl (g_lss rfl rfl) ?_; clear ha a; intro a ha
        refine wpList_nil ?_
        replace ha := ha.sub (σ' := [(0, va0), (1, va1), (5, (.int .i64 i79)), (14, (.bool (decide (i79 < (a0.length : Int)))))]) ⟨rfl, rfl, rfl, rfl, trivial⟩
        refine e_then ?_
        refine c_cond (i79 < (a0.length : Int)) ha rfl (decide_eq_true_iff) (fun hp166 => ?_) (fun hp166 => ?_)
        · replace hF := if_t hp166 hF
          refine wp_skip ?_
          refine e_then ?_
          refine wp_seq ?_
          refine wp_block ?_
          refine wp_seq ?_
          refine d_quiet hmix (by kernel_rfl) ?_
          refine q_g ha rfl (g_move rfl) ?_; clear ha a; intro a ha
          refine q_g ha rfl (g_move rfl) ?_; clear ha a; intro a ha
          obtain ⟨x167, g168, gx169, hF⟩ := idx_some hF
          obtain ⟨p170, cs171, f172, hf173, hpb174, hat175, hr176, hi177⟩ := ha0.at g168 gx169
          obtain ⟨f178, f179, c180, c181, rfl, rfl, h182, h183⟩ := hr176
          obtain ⟨rfl, hI186, rfl⟩ := h182
          obtain ⟨f187, f188, c189, c190, rfl, rfl, h191, h192⟩ := h183
          obtain ⟨rfl, hI195, rfl⟩ := h191
          obtain ⟨rfl, hI196, rfl⟩ := h192
          refine q_g ha rfl (hi177.gives sl27 rfl rfl) ?_; clear ha a; intro a ha
          refine q_g ha rfl (g_loadA0 (cs := [(.int .i64 x167.1), (.int .i64 x167.2.1), (.int .i64 x167.2.2)]) hE81 Try.isAgg60 Try.sizeOf60 rfl (by simp) hat175) ?_; clear ha a; intro a ha
          refine q_g ha rfl (g_move rfl) ?_; clear ha a; intro a ha
          refine q_g ha rfl (g_move rfl) ?_; clear ha a; intro a ha
          obtain ⟨x197, g198, gx199, hF⟩ := idx_some hF
          obtain ⟨p200, cs201, f202, hf203, hpb204, hat205, hr206, hi207⟩ := ha1.at g198 gx199
          obtain ⟨f208, f209, c210, c211, rfl, rfl, h212, h213⟩ := hr206
          obtain ⟨rfl, hI216, rfl⟩ := h212
          obtain ⟨f217, f218, c219, c220, rfl, rfl, h221, h222⟩ := h213
          obtain ⟨rfl, hI225, rfl⟩ := h221
          obtain ⟨rfl, hI226, rfl⟩ := h222
          refine q_g ha rfl (hi207.gives sl27 rfl rfl) ?_; clear ha a; intro a ha
          refine q_g ha rfl (g_loadA0 (cs := [(.int .i64 x197.1), (.int .i64 x197.2.1), (.int .i64 x197.2.2)]) hE81 Try.isAgg60 Try.sizeOf60 rfl (by simp) hat205) ?_; clear ha a; intro a ha
          obtain ⟨x229, hc230, hF⟩ := cal_some hF
          refine q_call (.bool x229) ha rfl rfl Try.call58 (fun w228 hx227 => W_laws_eqFact hI186 hI195 hI196 hI216 hI225 hI226 hc230) (fun _ _ _ h => ⟨h.1, h.2⟩) ?_; clear ha a; intro a ha
          refine q_g ha rfl (g_not rfl) ?_; clear ha a; intro a ha
          refine q_nil ?_; intro w231 hx232
          have hE233 := Ext.trans hE81 hx232
          replace ha := ha.sub (σ' := [(0, va0), (1, va1), (5, (.int .i64 i79)), (26, (.bool (!x229)))]) ⟨rfl, rfl, rfl, rfl, trivial⟩
          refine e_then ?_
          refine c_cond (¬ (x229 = true)) ha rfl (n_iff (Iff.rfl)) (fun hp234 => ?_) (fun hp234 => ?_)
          · replace hF := if_t hp234 hF
            refine wp_seq ?_
            refine wp_region_lit ?_
            refine op_g ha rfl (g_assign rfl) ?_; clear ha a; intro a ha
            refine wpList_nil ?_
            replace ha := ha.sub (σ' := [(4, (.bool false))]) ⟨rfl, trivial⟩
            refine e_then ?_
            refine wp_ret ?_
            refine e_blk_ret ?_
            refine e_then_ret ?_
            refine e_lq_ret ?_
            refine e_then_ret ?_
            obtain rfl := Option.some.inj hF
            have e235 := LK_inr hN163; subst e235
            have e236 := BK_inr hK159; subst e236
            exact f_ret1 ha rfl rfl ⟨rfl, hE233⟩
          · replace hF := if_f hp234 hF
            refine wp_skip ?_
            refine e_blk ?_
            refine e_then ?_
            refine wp_region_lit ?_
            refine op_g ha rfl (g_move rfl) ?_; clear ha a; intro a ha
            obtain ⟨hI237, hF⟩ := ck_some hF
            refine op_g ha rfl (g_add rfl rfl hI237) ?_; clear ha a; intro a ha
            refine op_g ha rfl (g_assign rfl) ?_; clear ha a; intro a ha
            refine wpList_nil ?_
            replace ha := ha.sub (σ' := [(0, va0), (1, va1), (5, (.int .i64 (i79 + 1)))]) ⟨rfl, rfl, rfl, trivial⟩
            refine e_lq ?_
            obtain rfl := Option.some.inj hF
            exact ⟨_, Nat.lt_succ_self _, i79 + 1, ha.sub ⟨rfl, rfl, rfl, trivial⟩, hE233, hI237, hN163⟩
        · replace hF := if_f hp166 hF
          refine wp_exit ?_
          refine e_then_exit ?_
          refine e_lq_eq ?_
          obtain rfl := Option.some.inj hF
          exact ⟨ha.sub trivial, hE81, (LK_inr hN163).symm⟩
    · rintro a w156 ⟨ha, hE162, rfl⟩
      have hF : F_laws_eqFactS_k2 = some _ := hK159; clear hK159; unfold F_laws_eqFactS_k2 at hF
      refine e_then ?_
      refine wp_seq ?_
      refine wp_region_lit ?_
      refine op_g ha rfl (g_assign rfl) ?_; clear ha a; intro a ha
      refine wpList_nil ?_
      refine e_then ?_
      refine wp_ret ?_
      obtain rfl := Option.some.inj hF
      exact f_ret1 ha rfl rfl ⟨rfl, hE162⟩
set_option maxHeartbeats 2000000 in
theorem W_laws_eqFormula {W : World} {va0_0 : Value} {fa0_0 : List Nat} {a0_0 : (List (Int × (Int × Int)))} (ha0_0 : Ro (Rp.prod Rp.int (Rp.prod Rp.int Rp.int)) W fa0_0 va0_0 a0_0) {va1_0 : Value} {fa1_0 : List Nat} {a1_0 : (List (Int × (Int × Int)))} (ha1_0 : Ro (Rp.prod Rp.int (Rp.prod Rp.int Rp.int)) W fa1_0 va1_0 a1_0) {r : Bool} (hF : F_laws_eqFormula a0_0 a1_0 = some r) :
    Calls Try.prog 17 [.agg #[va0_0], .agg #[va1_0]].toArray W (Ret fun u w' => u = .bool r ∧ Ext W w') := by
  refine f_enter Try.func17 rfl Try.ntmps17 rfl ?_
  intro a ha
  replace ha : Fr 11 [(0, (.agg #[va0_0])), (1, (.agg #[va1_0]))] a := ha
  have hE : Chg [] W W := Chg.refl _ _
  unfold F_laws_eqFormula at hF
  refine wp_seq ?_
  refine wp_region_lit ?_
  refine o_box ha rfl rfl rfl ?_; clear ha a; intro b1 w2 hB3 hx4 hlo5 a ha
  have q6 := Zn.one hlo5
  have q7 := Zn.upD q6 hE
  have hE8 := Ext.trans hE hx4
  refine o_box ha rfl rfl rfl ?_; clear ha a; intro b9 w10 hB11 hx12 hlo13 a ha
  have q14 := Zn.one hlo13
  have q15 := Nq.new hB3.fpb q14
  have q16 := Nq.made1 hlo13 hB3.bi
  have q17 := Zn.upD q14 hE8
  replace hB3 := hB3.ext hx12
  have hE18 := Ext.trans hE8 hx12
  refine op_g ha rfl (g_assign rfl) ?_; clear ha a; intro a ha
  refine wpList_nil ?_
  replace ha := ha.sub (σ' := [(2, (.pointer (some ⟨b1, 0, none⟩))), (3, (.pointer (some ⟨b9, 0, none⟩)))]) ⟨rfl, rfl, trivial⟩
  refine e_then ?_
  refine wp_seq ?_
  refine wp_seq ?_
  refine wp_region_lit ?_
  refine op_g ha rfl (g_field0 st29_0 rfl) ?_; clear ha a; intro a ha
  refine op_g ha rfl (g_load Try.isAgg27 rfl (hB3.cell rfl)) ?_; clear ha a; intro a ha
  refine op_g ha rfl (g_field0 st29_0 rfl) ?_; clear ha a; intro a ha
  refine op_g ha rfl (g_load Try.isAgg27 rfl (hB11.cell rfl)) ?_; clear ha a; intro a ha
  obtain ⟨x19, hc20, hF⟩ := cal_some hF
  refine o_call ha rfl rfl Try.call39 (W_laws_eqFactS (ha0_0.ext hE18) (ha1_0.ext hE18) hc20) ?_; clear ha a; rintro v21 w22 ⟨rfl, hx23⟩ a ha
  replace hB3 := hB3.ext hx23
  replace hB11 := hB11.ext hx23
  have hE24 := Ext.trans hE18 hx23
  refine op_g ha rfl (g_not rfl) ?_; clear ha a; intro a ha
  refine wpList_nil ?_
  replace ha := ha.sub (σ' := [(10, (.bool (!x19)))]) ⟨rfl, trivial⟩
  refine e_then ?_
  refine c_cond (¬ (x19 = true)) ha rfl (n_iff (Iff.rfl)) (fun hp25 => ?_) (fun hp25 => ?_)
  · replace hF := if_t hp25 hF
    refine wp_seq ?_
    refine wp_region_lit ?_
    refine op_g ha rfl (g_assign rfl) ?_; clear ha a; intro a ha
    refine wpList_nil ?_
    replace ha := ha.sub (σ' := [(4, (.bool false))]) ⟨rfl, trivial⟩
    refine e_then ?_
    refine wp_ret ?_
    refine e_then_ret ?_
    obtain rfl := Option.some.inj hF
    exact f_ret1 ha rfl rfl ⟨rfl, hE24⟩
  · replace hF := if_f hp25 hF
    refine wp_skip ?_
    refine e_then ?_
    refine wp_seq ?_
    refine wp_region_lit ?_
    refine op_g ha rfl (g_assign rfl) ?_; clear ha a; intro a ha
    refine wpList_nil ?_
    replace ha := ha.sub (σ' := [(4, (.bool true))]) ⟨rfl, trivial⟩
    refine e_then ?_
    refine wp_ret ?_
    obtain rfl := Option.some.inj hF
    exact f_ret1 ha rfl rfl ⟨rfl, hE24⟩
set_option maxHeartbeats 2000000 in
theorem W_laws_FnExactFormulaOk {W : World} {va0_0 : Value} {fa0_0 : List Nat} {a0_0 : (List (Int × (Int × Int)))} (ha0_0 : Ro (Rp.prod Rp.int (Rp.prod Rp.int Rp.int)) W fa0_0 va0_0 a0_0) {r : Bool} (hF : F_laws_FnExactFormulaOk a0_0 = some r) :
    Calls Try.prog 6 [.agg #[va0_0]].toArray W (Ret fun u w' => u = .bool r ∧ Ext W w') := by
  refine f_enter Try.func6 rfl Try.ntmps6 rfl ?_
  intro a ha
  replace ha : Fr 27 [(0, (.agg #[va0_0]))] a := ha
  have hE : Chg [] W W := Chg.refl _ _
  unfold F_laws_FnExactFormulaOk at hF
  refine wp_seq ?_
  refine wp_region_lit ?_
  refine o_box ha rfl rfl rfl ?_; clear ha a; intro b1 w2 hB3 hx4 hlo5 a ha
  have q6 := Zn.one hlo5
  have q7 := Zn.upD q6 hE
  have hE8 := Ext.trans hE hx4
  refine op_g ha rfl (g_assign rfl) ?_; clear ha a; intro a ha
  refine wpList_nil ?_
  replace ha := ha.sub (σ' := [(1, (.pointer (some ⟨b1, 0, none⟩)))]) ⟨rfl, trivial⟩
  refine e_then ?_
  refine wp_seq ?_
  refine wp_region_lit ?_
  refine op_g ha rfl (g_assign rfl) ?_; clear ha a; intro a ha
  refine wpList_nil ?_
  refine e_then ?_
  refine wp_seq ?_
  refine wp_region_lit ?_
  refine op_g ha rfl (g_loadA (cs := [va0_0]) Try.isAgg42 Try.sizeOf42 rfl (by simp) hB3.all) ?_; clear ha a; intro a ha
  refine op_g ha rfl (g_move rfl) ?_; clear ha a; intro a ha
  obtain ⟨x9, hc10, hF⟩ := cal_some hF
  refine o_call ha rfl rfl Try.call25 (W_laws_szFormula (ha0_0.ext hE8) (by decide) hc10) ?_; clear ha a; rintro v11 w12 ⟨⟨rfl, hI14⟩, hx13⟩ a ha
  replace hB3 := hB3.ext hx13
  have hE15 := Ext.trans hE8 hx13
  refine op_g ha rfl (g_assign rfl) ?_; clear ha a; intro a ha
  refine wpList_nil ?_
  replace ha := ha.sub (σ' := [(1, (.pointer (some ⟨b1, 0, none⟩))), (3, (.int .i64 x9))]) ⟨rfl, rfl, trivial⟩
  refine e_then ?_
  refine wp_seq ?_
  refine wp_seq ?_
  refine wp_region_lit ?_
  refine op_g ha rfl (g_move rfl) ?_; clear ha a; intro a ha
  refine op_g ha rfl (g_lss rfl rfl) ?_; clear ha a; intro a ha
  refine wpList_nil ?_
  replace ha := ha.sub (σ' := [(1, (.pointer (some ⟨b1, 0, none⟩))), (11, (.bool (decide (x9 < 0))))]) ⟨rfl, rfl, trivial⟩
  refine e_then ?_
  refine c_cond (x9 < 0) ha rfl (decide_eq_true_iff) (fun hp16 => ?_) (fun hp16 => ?_)
  · replace hF := if_t hp16 hF
    refine wp_seq ?_
    refine wp_region_lit ?_
    refine op_g ha rfl (g_assign rfl) ?_; clear ha a; intro a ha
    refine wpList_nil ?_
    replace ha := ha.sub (σ' := [(2, (.bool true))]) ⟨rfl, trivial⟩
    refine e_then ?_
    refine wp_ret ?_
    refine e_then_ret ?_
    obtain rfl := Option.some.inj hF
    exact f_ret1 ha rfl rfl ⟨rfl, hE15⟩
  · replace hF := if_f hp16 hF
    refine wp_skip ?_
    refine e_then ?_
    refine wp_seq ?_
    refine wp_region_lit ?_
    refine op_g ha rfl (g_loadA (cs := [va0_0]) Try.isAgg42 Try.sizeOf42 rfl (by simp) hB3.all) ?_; clear ha a; intro a ha
    obtain ⟨x17, hc18, hF⟩ := cal_some hF
    refine o_call ha rfl rfl Try.call27 (W_laws_toFormula (ha0_0.ext hE15) hc18) ?_; clear ha a; rintro v19 w20 ⟨u22, b23, rfl, h24, z25, hx21⟩ a ha
    have q27 := Nq.new hB3.fpb z25
    have q28 := Nq.madeO z25 hB3.bi
    replace hB3 := hB3.ext hx21
    have hE29 := Ext.trans hE15 hx21
    have q30 := Zn.upD z25 hE15
    obtain ⟨fp31, hro32, -⟩ := h24.weak.ro
    obtain ⟨x33, hc34, hF⟩ := cal_some hF
    refine o_call ha rfl rfl Try.call26 (W_spec_FormulaOk hro32 hc34) ?_; clear ha a; rintro v35 w36 ⟨rfl, hx37⟩ a ha
    replace hB3 := hB3.ext hx37
    replace h24 := h24.ext hx37
    have hE38 := Ext.trans hE29 hx37
    refine op_g ha rfl (g_assign rfl) ?_; clear ha a; intro a ha
    refine wpList_nil ?_
    replace ha := ha.sub (σ' := [(1, (.pointer (some ⟨b1, 0, none⟩))), (4, (.bool x33))]) ⟨rfl, rfl, trivial⟩
    refine e_then ?_
    refine wp_seq ?_
    refine wp_region_lit ?_
    refine op_g ha rfl (g_loadA (cs := [va0_0]) Try.isAgg42 Try.sizeOf42 rfl (by simp) hB3.all) ?_; clear ha a; intro a ha
    obtain ⟨x39, hc40, hF⟩ := cal_some hF
    refine o_call ha rfl rfl Try.call27 (W_laws_toFormula (ha0_0.ext hE38) hc40) ?_; clear ha a; rintro v41 w42 ⟨u44, b45, rfl, h46, z47, hx43⟩ a ha
    have q49 := Nq.new hB3.fpb z47
    have q50 := Nq.madeO z47 hB3.bi
    replace hB3 := hB3.ext hx43
    have hE51 := Ext.trans hE38 hx43
    have q52 := Zn.upD z47 hE38
    refine o_alloc (cs := [(.slice none 0 0)]) ha rfl Try.zeroValue29 rfl ?_; clear ha a; intro b53 w54 hB55 hx56 hlo57 a ha
    have q58 := Zn.one hlo57
    have q59 := Nq.new hB3.fpb q58
    have q60 := Nq.made1 hlo57 hB3.bi
    have q61 := Nq.new h46.fpb q58
    have q62 := Nq.made1 hlo57 h46.blt
    have q63 := Zn.upD q58 hE51
    replace hB3 := hB3.ext hx56
    replace h46 := h46.ext hx56
    have hE64 := Ext.trans hE51 hx56
    refine o_storeA (vs := [u44]) ha hB55 Try.sizeOf29 rfl rfl (by intro c hc; simp only [List.mem_cons, List.not_mem_nil, or_false] at hc; rcases hc with hc <;> subst hc <;> first | rfl | exact h46.oneC) rfl ?_; intro w65 hB66 hc67
    replace hc67 := hc67.bl
    replace hB66 : Bx w65 b53 [u44] 29 := hB66
    replace hB3 := hB3.nq hc67 q59
    replace h46 := h46.nq hc67 q61
    have hE68 := Ext.then hE64 hc67 (Zn.bl q63)
    refine wpList_nil ?_
    replace ha := ha.sub (σ' := [(1, (.pointer (some ⟨b1, 0, none⟩))), (4, (.bool x33)), (5, (.pointer (some ⟨b53, 0, none⟩)))]) ⟨rfl, rfl, rfl, trivial⟩
    refine e_then ?_
    refine wp_seq ?_
    refine wp_region_lit ?_
    refine op_g ha rfl (g_loadA (cs := [u44]) Try.isAgg29 Try.sizeOf29 rfl (by simp) hB66.all) ?_; clear ha a; intro a ha
    obtain ⟨fp69, hro70, -⟩ := h46.weak.ro
    obtain ⟨x71, hc72, hF⟩ := cal_some hF
    refine o_call ha rfl rfl Try.call28 (W_impl_FormulaOk hro70 hc72) ?_; clear ha a; rintro v73 w74 ⟨rfl, hx75⟩ a ha
    replace hB3 := hB3.ext hx75
    replace h46 := h46.ext hx75
    replace hB66 := hB66.ext hx75
    have hE76 := Ext.trans hE68 hx75
    refine op_g ha rfl (g_assign rfl) ?_; clear ha a; intro a ha
    refine wpList_nil ?_
    replace ha := ha.sub (σ' := [(1, (.pointer (some ⟨b1, 0, none⟩))), (4, (.bool x33)), (5, (.pointer (some ⟨b53, 0, none⟩))), (6, (.bool x71))]) ⟨rfl, rfl, rfl, rfl, trivial⟩
    refine e_then ?_
    refine wp_seq ?_
    refine wp_seq ?_
    refine wp_region_lit ?_
    refine op_g ha rfl (g_move rfl) ?_; clear ha a; intro a ha
    refine op_g ha rfl (g_move rfl) ?_; clear ha a; intro a ha
    refine op_g ha rfl (gB_neq un4 rfl rfl) ?_; clear ha a; intro a ha
    refine wpList_nil ?_
    replace ha := ha.sub (σ' := [(1, (.pointer (some ⟨b1, 0, none⟩))), (5, (.pointer (some ⟨b53, 0, none⟩))), (21, (.bool (x71 != x33)))]) ⟨rfl, rfl, rfl, trivial⟩
    refine e_then ?_
    refine c_cond ((x71 != x33) = true) ha rfl (Iff.rfl) (fun hp77 => ?_) (fun hp77 => ?_)
    · replace hF := if_t hp77 hF
      refine wp_seq ?_
      refine wp_region_lit ?_
      refine op_g ha rfl (g_assign rfl) ?_; clear ha a; intro a ha
      refine wpList_nil ?_
      replace ha := ha.sub (σ' := [(2, (.bool false))]) ⟨rfl, trivial⟩
      refine e_then ?_
      refine wp_ret ?_
      refine e_then_ret ?_
      obtain rfl := Option.some.inj hF
      exact f_ret1 ha rfl rfl ⟨rfl, hE76⟩
    · replace hF := if_f hp77 hF
      refine wp_skip ?_
      refine e_then ?_
      refine wp_seq ?_
      refine wp_seq ?_
      refine d_region 5 hmix ?_
      refine u_g 0 rfl (by kernel_rfl) (want0 _) ha rfl (g_loadA (cs := [u44]) Try.isAgg29 Try.sizeOf29 rfl (by simp) hB66.all) ?_; clear ha a; intro a ha
      refine u_g 1 rfl (by kernel_rfl) (want0 _) ha rfl (g_loadA (cs := [va0_0]) Try.isAgg42 Try.sizeOf42 rfl (by simp) hB3.all) ?_; clear ha a; intro a ha
      refine u_only 2 rfl (by kernel_rfl) ?_; intro w78 hx79
      replace hB3 := hB3.ext hx79
      replace h46 := h46.ext hx79
      replace hB66 := hB66.ext hx79
      have hE80 := Ext.trans hE76 hx79
      obtain ⟨x81, hc82, hF⟩ := cal_some hF
      refine o_call ha rfl rfl Try.call27 (W_laws_toFormula (ha0_0.ext hE80) hc82) ?_; clear ha a; rintro v83 w84 ⟨u86, b87, rfl, h88, z89, hx85⟩ a ha
      have q91 := Nq.new hB3.fpb z89
      have q92 := Nq.madeO z89 hB3.bi
      have q93 := Nq.new h46.fpb z89
      have q94 := Nq.madeO z89 h46.blt
      have q95 := Nq.new hB66.fpb z89
      have q96 := Nq.madeO z89 hB66.bi
      replace hB3 := hB3.ext hx85
      replace h46 := h46.ext hx85
      replace hB66 := hB66.ext hx85
      have hE97 := Ext.trans hE80 hx85
      have q98 := Zn.upD z89 hE80
      refine wpList_nil (e_sq ?_)
      refine ⟨fun _ => hx85, ?_⟩
      obtain ⟨fp101, hro102, -⟩ := h46.weak.ro
      obtain ⟨fp103, hro104, -⟩ := h88.weak.ro
      obtain ⟨x105, hc106, hF⟩ := cal_some hF
      refine u_call (.bool x105) 3 rfl (by kernel_rfl) (want0 _) ha rfl rfl Try.call17 (fun w100 hx99 => W_laws_eqFormula (hro102.ext hx99) (hro104.ext hx99) hc106) (fun _ _ _ h => ⟨h.1, h.2⟩) ?_; clear ha a; intro a ha
      refine u_g 4 rfl (by kernel_rfl) (want0 _) ha rfl (g_not rfl) ?_; clear ha a; intro a ha
      refine u_done (by kernel_rfl) ?_; intro w107 hx108
      replace hB3 := hB3.ext hx108
      replace h46 := h46.ext hx108
      replace hB66 := hB66.ext hx108
      replace h88 := h88.ext hx108
      have hE109 := Ext.trans hE97 hx108
      replace ha := ha.sub (σ' := [(26, (.bool (!x105)))]) ⟨rfl, trivial⟩
      refine e_then ?_
      refine c_cond (¬ (x105 = true)) ha rfl (n_iff (Iff.rfl)) (fun hp110 => ?_) (fun hp110 => ?_)
      · replace hF := if_t hp110 hF
        refine wp_seq ?_
        refine wp_region_lit ?_
        refine op_g ha rfl (g_assign rfl) ?_; clear ha a; intro a ha
        refine wpList_nil ?_
        replace ha := ha.sub (σ' := [(2, (.bool false))]) ⟨rfl, trivial⟩
        refine e_then ?_
        refine wp_ret ?_
        refine e_then_ret ?_
        obtain rfl := Option.some.inj hF
        exact f_ret1 ha rfl rfl ⟨rfl, hE109⟩
      · replace hF := if_f hp110 hF
        refine wp_skip ?_
        refine e_then ?_
        refine wp_seq ?_
        refine wp_region_lit ?_
        refine op_g ha rfl (g_assign rfl) ?_; clear ha a; intro a ha
        refine wpList_nil ?_
        replace ha := ha.sub (σ' := [(2, (.bool true))]) ⟨rfl, trivial⟩
        refine e_then ?_
        refine wp_ret ?_
        obtain rfl := Option.some.inj hF
        exact f_ret1 ha rfl rfl ⟨rfl, hE109⟩
end Go.Proofs.Ytacgmkncleiblaa
