/- Walks, printed by gen.py. -/
import Derived.Test.YtjcnkijmbjhcnaaF
import Derived.Test.YtjcnkijmbjhcnaaW2
import Derived.Test.YtjcnkijmbjhcnaaProg
import Derived.KernelRfl
set_option maxRecDepth 100000
namespace Go.Proofs.Ytjcnkijmbjhcnaa
open Go Go.RowKit

set_option maxHeartbeats 2000000 in
theorem W_impl_freeIn {W : World} {va0_0 : Value} {fa0_0 : List Nat} {a0_0 : (List (Int × (Int × Int)))} (ha0_0 : Ro (Rp.prod Rp.int (Rp.prod Rp.int Rp.int)) W fa0_0 va0_0 a0_0) {r : (List (BitVec 32))} (hF : F_impl_freeIn a0_0 = some r) :
    Calls Try.prog 42 [.agg #[va0_0]].toArray W (Ret fun u w' => ∃ (b_u : Int), Ow Rp.u32 56 true w' [] b_u u r ∧ Zn W b_u ∧ Ext W w') := by
  refine f_enter Try.func42 rfl Try.ntmps42 rfl ?_
  intro a ha
  replace ha : Fr 87 [(0, (.agg #[va0_0]))] a := ha
  have hE : Chg [] W W := Chg.refl _ _
  unfold F_impl_freeIn at hF
  refine wp_seq ?_; refine wp_region_lit ?_
  refine o_box ha rfl rfl rfl ?_; clear ha a; intro b1 w2 hB3 hx4 hlo5 a ha
  have q6 := Zn.one hlo5
  have q7 := Zn.upD q6 hE
  have hE8 := Ext.trans hE hx4
  refine op_g ha rfl (g_assign rfl) ?_; clear ha a; intro a ha; refine wpList_nil ?_; replace ha := ha.sub (σ' := [(1, (.pointer (some ⟨b1, 0, none⟩)))]) ⟨rfl, trivial⟩; refine e_then ?_; refine wp_seq ?_; refine wp_region_lit ?_
  refine o_lit0 Rp.u32 ha rfl sl74 ?_; clear ha a; intro v9 w10 h11 hx12 a ha
  obtain ⟨b14, hb14⟩ : ∃ b : Int, b = w2.heap.size := ⟨_, rfl⟩; rw [← hb14] at h11
  have q15 := zn_of hb14
  have q16 := Nq.new hB3.fpb q15
  have q17 := Nq.madeO q15 hB3.bi
  have q18 := Zn.upD q15 hE8
  replace hB3 := hB3.ext hx12
  have hE19 := Ext.trans hE8 hx12
  refine op_g ha rfl (g_assign rfl) ?_; clear ha a; intro a ha; refine wpList_nil ?_; replace ha := ha.sub (σ' := [(1, (.pointer (some ⟨b1, 0, none⟩))), (3, v9)]) ⟨rfl, rfl, trivial⟩; refine e_then ?_; refine wp_seq ?_; refine wp_seq ?_; refine wp_region_lit ?_; refine op_g ha rfl (g_field0 st35_0 rfl) ?_; clear ha a; intro a ha; refine op_g ha rfl (g_load Try.isAgg33 rfl (hB3.cell rfl)) ?_; clear ha a; intro a ha; refine op_g ha rfl (g_lenR sl33.und ha0_0 rfl) ?_; clear ha a; intro a ha; refine op_g ha rfl (g_move rfl) ?_; clear ha a; intro a ha; refine wpList_nil ?_; replace ha := ha.sub (σ' := [(3, v9), (9, va0_0), (10, (.int .i64 (a0_0.length : Int))), (11, (.int .i64 0))]) ⟨rfl, rfl, rfl, rfl, trivial⟩
  refine e_then ?_; obtain ⟨o776, ho777, hK778⟩ := bnd_some hF
  obtain ⟨n779, hn780⟩ := lp_some ho777; clear ho777
  refine c_loop (fun a w => ∃ (l773 : (List (BitVec 32))) (v774 : Value) (b775 : Int), Fr 87 [(3, v774)] a ∧ Chg [] W w ∧ Ow Rp.u32 56 true w [] b775 v774 l773 ∧ Zn W b775 ∧ o776 = .inl l773) (fun n a w => ∃ (l396 : (List (BitVec 32))) (i399 : Int) (v397 : Value) (b398 : Int), Fr 87 [(3, v397), (9, va0_0), (10, (.int .i64 (a0_0.length : Int))), (11, (.int .i64 i399))] a ∧ Chg [] W w ∧ InI i399 ∧ Ow Rp.u32 56 true w [] b398 v397 l396 ∧ Zn W b398 ∧ lpN (fun s => F_impl_freeIn_l1 a0_0 s.1 s.2) n (l396, i399) = some o776) n779 ⟨([] : (List (BitVec 32))), 0, v9, b14, ha.sub ⟨rfl, rfl, rfl, rfl, trivial⟩, hE19, (show InI 0 from by decide), h11, q18, hn780⟩ ?_ ?_
  · rintro m784 a w392 ⟨l396, i399, v397, b398, ha, hE401, hI400, h394, z395, hF⟩
    cases m784 with
    | zero => exact (lpN_zero hF).elim
    | succ m784 =>
      obtain ⟨z783, hF, hN782⟩ := lpN_succ hF
      have hF : F_impl_freeIn_l1 a0_0 l396 i399 = some z783 := hF; unfold F_impl_freeIn_l1 at hF
      refine wp_seq ?_; refine wp_region_lit ?_; refine op_g ha rfl (g_lss rfl rfl) ?_; clear ha a; intro a ha; refine wpList_nil ?_; replace ha := ha.sub (σ' := [(3, v397), (9, va0_0), (10, (.int .i64 (a0_0.length : Int))), (11, (.int .i64 i399)), (12, (.bool (decide (i399 < (a0_0.length : Int)))))]) ⟨rfl, rfl, rfl, rfl, rfl, trivial⟩; refine e_then ?_; refine wp_seq ?_; refine c_cond (i399 < (a0_0.length : Int)) ha rfl (decide_eq_true_iff) (fun hp785 => ?_) (fun hp785 => ?_)
      · replace hF := if_t hp785 hF
        refine wp_skip ?_; refine e_then ?_; refine wp_seq ?_; refine wp_block ?_; refine wp_seq ?_; refine wp_region_lit ?_; obtain ⟨x786, g787, gx788, hF⟩ := idx_some hF
        obtain ⟨p789, cs790, f791, hf792, hpb793, hat794, hr795, hi796⟩ := ha0_0.at g787 gx788
        obtain ⟨f797, f798, c799, c800, rfl, rfl, h801, h802⟩ := hr795
        obtain ⟨rfl, hI805, rfl⟩ := h801
        obtain ⟨f806, f807, c808, c809, rfl, rfl, h810, h811⟩ := h802
        obtain ⟨rfl, hI814, rfl⟩ := h810
        obtain ⟨rfl, hI815, rfl⟩ := h811
        refine op_g ha rfl (hi796.gives sl33 rfl rfl) ?_; clear ha a; intro a ha; refine op_g ha rfl (g_loadA0 (cs := [(.int .i64 x786.1), (.int .i64 x786.2.1), (.int .i64 x786.2.2)]) hE401 Try.isAgg71 Try.sizeOf71 rfl (by simp) hat794) ?_; clear ha a; intro a ha
        refine o_alloc (cs := [(.int .i64 0), (.int .i64 0), (.int .i64 0)]) ha rfl Try.zeroValue71 rfl ?_; clear ha a; intro b816 w817 hB818 hx819 hlo820 a ha
        have q821 := Zn.one hlo820
        have q822 := Nq.new h394.fpb q821
        have q823 := Nq.made1 hlo820 h394.blt
        have q824 := Zn.upD q821 hE401
        replace h394 := h394.ext hx819
        have hE825 := Ext.trans hE401 hx819
        refine o_storeA (vs := [(.int .i64 x786.1), (.int .i64 x786.2.1), (.int .i64 x786.2.2)]) ha hB818 Try.sizeOf71 rfl rfl (by intro c hc; simp only [List.mem_cons, List.not_mem_nil, or_false] at hc; rcases hc with hc | hc | hc <;> subst hc <;> first | rfl | exact rfl | exact rfl | exact rfl) rfl ?_; intro w826 hB827 hc828
        replace hc828 := hc828.bl
        replace hB827 : Bx w826 b816 [(.int .i64 x786.1), (.int .i64 x786.2.1), (.int .i64 x786.2.2)] 71 := hB827
        replace h394 := h394.nq hc828 q822
        have hE829 := Ext.then hE825 hc828 (Zn.bl q824)
        refine wpList_nil ?_; replace ha := ha.sub (σ' := [(3, v397), (5, (.pointer (some ⟨b816, 0, none⟩))), (9, va0_0), (10, (.int .i64 (a0_0.length : Int))), (11, (.int .i64 i399))]) ⟨rfl, rfl, rfl, rfl, rfl, trivial⟩; refine e_then ?_; refine wp_seq ?_; refine wp_region_lit ?_; refine op_g ha rfl (g_assign rfl) ?_; clear ha a; intro a ha; refine wpList_nil ?_; replace ha := ha.sub (σ' := [(3, v397), (5, (.pointer (some ⟨b816, 0, none⟩))), (6, (.int .u32 (BitVec.toNat (0#32) : Int))), (9, va0_0), (10, (.int .i64 (a0_0.length : Int))), (11, (.int .i64 i399))]) ⟨rfl, rfl, rfl, rfl, rfl, rfl, trivial⟩
        refine e_then ?_; refine wp_seq ?_; refine wp_seq ?_; refine wp_region_lit ?_; refine op_g ha rfl (g_field0 st71_0 rfl) ?_; clear ha a; intro a ha; refine op_g ha rfl (g_load Try.isAgg2 rfl (hB827.cell rfl)) ?_; clear ha a; intro a ha; refine wpList_nil ?_; replace ha := ha.sub (σ' := [(3, v397), (5, (.pointer (some ⟨b816, 0, none⟩))), (6, (.int .u32 (BitVec.toNat (0#32) : Int))), (9, va0_0), (10, (.int .i64 (a0_0.length : Int))), (11, (.int .i64 i399)), (16, (.int .i64 x786.1))]) ⟨rfl, rfl, rfl, rfl, rfl, rfl, rfl, trivial⟩; refine e_then ?_; refine wp_block ?_; obtain ⟨o831, ho832, hK833⟩ := bnd_some hF
        have hF := ho832; clear ho832
        refine s_cut (fun a w => ∃ (t840 : Bool), Fr 87 [(3, v397), (5, (.pointer (some ⟨b816, 0, none⟩))), (6, (.int .u32 (BitVec.toNat (0#32) : Int))), (9, va0_0), (10, (.int .i64 (a0_0.length : Int))), (11, (.int .i64 i399)), (16, (.int .i64 x786.1)), (17, (.bool t840))] a ∧ Chg [] W w ∧ Ow Rp.u32 56 true w [] b398 v397 l396 ∧ Zn W b398 ∧ Bx w b816 [(.int .i64 x786.1), (.int .i64 x786.2.1), (.int .i64 x786.2.2)] 71 ∧ Zn W (b816 : Int) ∧ Nq (bl b398 ++ []) (b816 : Int) ∧ Nq ([b816]) b398 ∧ o831 = .inl t840) ?_ ?_
        · skip
          refine wp_seq ?_; refine wp_region_lit ?_; refine op_g ha rfl (g_eql rfl rfl) ?_; clear ha a; intro a ha; refine op_g ha rfl (g_assign rfl) ?_; clear ha a; intro a ha; refine wpList_nil ?_; replace ha := ha.sub (σ' := [(3, v397), (5, (.pointer (some ⟨b816, 0, none⟩))), (6, (.int .u32 (BitVec.toNat (0#32) : Int))), (9, va0_0), (10, (.int .i64 (a0_0.length : Int))), (11, (.int .i64 i399)), (16, (.int .i64 x786.1)), (17, (.bool (decide (x786.1 = 1))))]) ⟨rfl, rfl, rfl, rfl, rfl, rfl, rfl, rfl, trivial⟩; refine e_then ?_; refine c_cond (x786.1 = 1) ha rfl (decide_eq_true_iff) (fun hp844 => ?_) (fun hp844 => ?_)
          · replace hF := if_t hp844 hF
            refine wp_skip ?_; refine e_sq ?_; obtain rfl := Option.some.inj hF
            exact ⟨decide (x786.1 = 1), ha.sub ⟨rfl, rfl, rfl, rfl, rfl, rfl, rfl, rfl, trivial⟩, hE829, h394, z395, hB827, q824, q822, q823, rfl⟩
          replace hF := if_f hp844 hF; refine wp_region_lit ?_; refine op_g ha rfl (g_eql rfl rfl) ?_; clear ha a; intro a ha; refine op_g ha rfl (g_assign rfl) ?_; clear ha a; intro a ha; refine wpList_nil ?_; replace ha := ha.sub (σ' := [(3, v397), (5, (.pointer (some ⟨b816, 0, none⟩))), (6, (.int .u32 (BitVec.toNat (0#32) : Int))), (9, va0_0), (10, (.int .i64 (a0_0.length : Int))), (11, (.int .i64 i399)), (16, (.int .i64 x786.1)), (17, (.bool (decide (x786.1 = 2))))]) ⟨rfl, rfl, rfl, rfl, rfl, rfl, rfl, rfl, trivial⟩; refine e_sq ?_; obtain rfl := Option.some.inj hF
          exact ⟨decide (x786.1 = 2), ha.sub ⟨rfl, rfl, rfl, rfl, rfl, rfl, rfl, rfl, trivial⟩, hE829, h394, z395, hB827, q824, q822, q823, rfl⟩
        rintro a w834 ⟨t840, ha, hE843, h836, z837, hB838, z839, q841, q842, rfl⟩
        have hF : F_impl_freeIn_k2 l396 i399 x786 t840 = some _ := hK833; clear hK833; unfold F_impl_freeIn_k2 at hF
        refine c_cond (t840 = true) ha rfl (Iff.rfl) (fun hp845 => ?_) (fun hp845 => ?_)
        · replace hF := if_t hp845 hF
          refine d_quiet hmix (by kernel_rfl) ?_; refine q_g ha rfl (g_field0 st71_1 rfl) ?_; clear ha a; intro a ha; refine q_g ha rfl (g_load Try.isAgg2 rfl (hB838.cell rfl)) ?_; clear ha a; intro a ha; obtain ⟨x848, hc849, hF⟩ := cal_some hF; refine q_call (.int .u32 (BitVec.toNat x848 : Int)) ha rfl rfl Try.call53 (fun w847 hx846 => W_impl_one hI814 hc849) (fun _ _ _ h => ⟨h.1, h.2⟩) ?_; clear ha a; intro a ha; refine q_g ha rfl (g_field0 st71_2 rfl) ?_; clear ha a; intro a ha; refine q_g ha rfl (g_load Try.isAgg2 rfl (hB838.cell rfl)) ?_; clear ha a; intro a ha; obtain ⟨x852, hc853, hF⟩ := cal_some hF
          refine q_call (.int .u32 (BitVec.toNat x852 : Int)) ha rfl rfl Try.call53 (fun w851 hx850 => W_impl_one hI815 hc853) (fun _ _ _ h => ⟨h.1, h.2⟩) ?_; clear ha a; intro a ha; refine q_g ha rfl (g32_or (m := x848) (n := x852) rfl rfl) ?_; clear ha a; intro a ha; refine q_g ha rfl (g_assign rfl) ?_; clear ha a; intro a ha
          refine q_nil ?_; intro w854 hx855
          replace h836 := h836.ext hx855
          replace hB838 := hB838.ext hx855
          have hE856 := Ext.trans hE843 hx855
          replace ha := ha.sub (σ' := [(3, v397), (6, (.int .u32 (BitVec.toNat (x848 ||| x852) : Int))), (9, va0_0), (10, (.int .i64 (a0_0.length : Int))), (11, (.int .i64 i399))]) ⟨rfl, rfl, rfl, rfl, rfl, trivial⟩; refine e_blk ?_; refine e_then ?_; refine wp_region_lit ?_; (iterate 2 refine op_g ha rfl (g_move rfl) ?_; clear ha a; intro a ha)
          refine o_lit1 (o := true) (y := x848 ||| x852) Rp.u32 ha rfl sl74 rfl rfl rfl ⟨rfl, rfl⟩ ?_; clear ha a; intro v857 w858 h859 hx860 a ha
          obtain ⟨b862, hb862⟩ : ∃ b : Int, b = w854.heap.size := ⟨_, rfl⟩; rw [← hb862] at h859
          have q863 := zn_of hb862
          have q864 := Nq.new h836.fpb q863
          have q865 := Nq.madeO q863 h836.blt
          have q866 := Zn.upD q863 hE856
          replace h836 := h836.ext hx860
          have hE867 := Ext.trans hE856 hx860
          obtain ⟨hl868, hF⟩ := app_some hF
          refine o_append ha rfl sl74 rfl rfl rfl h836 h859.src (Nq.nil _) hl868 ?_; clear ha a; intro v869 w870 b871 h872 hc873 hb874 a ha
          replace h872 : Ow Rp.u32 56 true w870 [] b871 v869 _ := h872
          have q876 := Nq.appY q865 h859.fpb hb874
          have q877 := Nq.appX q864 (Nq.nil _) hb874 h859.blt
          have q878 := Zn.appD z837 hb874 hE867
          replace h859 := h859.nq hc873 q865
          have hE879 := Ext.then hE867 hc873 (Zn.bl z837)
          refine op_g ha rfl (g_assign rfl) ?_; clear ha a; intro a ha; refine wpList_nil ?_; replace ha := ha.sub (σ' := [(3, v869), (9, va0_0), (10, (.int .i64 (a0_0.length : Int))), (11, (.int .i64 i399))]) ⟨rfl, rfl, rfl, rfl, trivial⟩; refine e_blk ?_; refine e_then ?_; refine wp_region_lit ?_; obtain ⟨hI880, hF⟩ := ck_some hF; refine op_g ha rfl (g_add rfl rfl hI880) ?_; clear ha a; intro a ha; refine op_g ha rfl (g_move rfl) ?_; clear ha a; intro a ha; refine wpList_nil ?_; replace ha := ha.sub (σ' := [(3, v869), (9, va0_0), (10, (.int .i64 (a0_0.length : Int))), (11, (.int .i64 (i399 + 1)))]) ⟨rfl, rfl, rfl, rfl, trivial⟩
          refine e_lq ?_; obtain rfl := Option.some.inj hF
          exact ⟨_, Nat.lt_succ_self _, (l396 ++ ([x848 ||| x852])), i399 + 1, v869, b871, ha.sub ⟨rfl, rfl, rfl, rfl, trivial⟩, hE879, hI880, h872, q878, hN782⟩
        replace hF := if_f hp845 hF; refine wp_seq ?_; refine wp_region_lit ?_; refine op_g ha rfl (g_eql rfl rfl) ?_; clear ha a; intro a ha; refine op_g ha rfl (g_assign rfl) ?_; clear ha a; intro a ha; refine wpList_nil ?_; replace ha := ha.sub (σ' := [(3, v397), (5, (.pointer (some ⟨b816, 0, none⟩))), (6, (.int .u32 (BitVec.toNat (0#32) : Int))), (9, va0_0), (10, (.int .i64 (a0_0.length : Int))), (11, (.int .i64 i399)), (16, (.int .i64 x786.1)), (27, (.bool (decide (x786.1 = 3))))]) ⟨rfl, rfl, rfl, rfl, rfl, rfl, rfl, rfl, trivial⟩; refine e_then ?_; refine c_cond (x786.1 = 3) ha rfl (decide_eq_true_iff) (fun hp882 => ?_) (fun hp882 => ?_)
        · replace hF := if_t hp882 hF
          refine d_quiet hmix (by kernel_rfl) ?_; refine q_g ha rfl (g_field0 st71_1 rfl) ?_; clear ha a; intro a ha; refine q_g ha rfl (g_load Try.isAgg2 rfl (hB838.cell rfl)) ?_; clear ha a; intro a ha; obtain ⟨x885, hc886, hF⟩ := cal_some hF; refine q_call (.int .u32 (BitVec.toNat x885 : Int)) ha rfl rfl Try.call53 (fun w884 hx883 => W_impl_one hI814 hc886) (fun _ _ _ h => ⟨h.1, h.2⟩) ?_; clear ha a; intro a ha; refine q_g ha rfl (g_field0 st71_2 rfl) ?_; clear ha a; intro a ha; refine q_g ha rfl (g_load Try.isAgg2 rfl (hB838.cell rfl)) ?_; clear ha a; intro a ha; obtain ⟨hI887, hF⟩ := ck_some hF
          refine q_g ha rfl (g_add rfl rfl hI887) ?_; clear ha a; intro a ha; obtain ⟨x891, hc892, hF⟩ := cal_some hF; refine q_call (.int .u32 (BitVec.toNat x891 : Int)) ha rfl rfl Try.call53 (fun w890 hx889 => W_impl_one hI887 hc892) (fun _ _ _ h => ⟨h.1, h.2⟩) ?_; clear ha a; intro a ha; refine q_g ha rfl (g32_or (m := x885) (n := x891) rfl rfl) ?_; clear ha a; intro a ha; refine q_g ha rfl (g_assign rfl) ?_; clear ha a; intro a ha
          refine q_nil ?_; intro w893 hx894
          replace h836 := h836.ext hx894
          replace hB838 := hB838.ext hx894
          have hE895 := Ext.trans hE843 hx894
          replace ha := ha.sub (σ' := [(3, v397), (6, (.int .u32 (BitVec.toNat (x885 ||| x891) : Int))), (9, va0_0), (10, (.int .i64 (a0_0.length : Int))), (11, (.int .i64 i399))]) ⟨rfl, rfl, rfl, rfl, rfl, trivial⟩; refine e_blk ?_; refine e_then ?_; refine wp_region_lit ?_; (iterate 2 refine op_g ha rfl (g_move rfl) ?_; clear ha a; intro a ha)
          refine o_lit1 (o := true) (y := x885 ||| x891) Rp.u32 ha rfl sl74 rfl rfl rfl ⟨rfl, rfl⟩ ?_; clear ha a; intro v896 w897 h898 hx899 a ha
          obtain ⟨b901, hb901⟩ : ∃ b : Int, b = w893.heap.size := ⟨_, rfl⟩; rw [← hb901] at h898
          have q902 := zn_of hb901
          have q903 := Nq.new h836.fpb q902
          have q904 := Nq.madeO q902 h836.blt
          have q905 := Zn.upD q902 hE895
          replace h836 := h836.ext hx899
          have hE906 := Ext.trans hE895 hx899
          obtain ⟨hl907, hF⟩ := app_some hF
          refine o_append ha rfl sl74 rfl rfl rfl h836 h898.src (Nq.nil _) hl907 ?_; clear ha a; intro v908 w909 b910 h911 hc912 hb913 a ha
          replace h911 : Ow Rp.u32 56 true w909 [] b910 v908 _ := h911
          have q915 := Nq.appY q904 h898.fpb hb913
          have q916 := Nq.appX q903 (Nq.nil _) hb913 h898.blt
          have q917 := Zn.appD z837 hb913 hE906
          replace h898 := h898.nq hc912 q904
          have hE918 := Ext.then hE906 hc912 (Zn.bl z837)
          refine op_g ha rfl (g_assign rfl) ?_; clear ha a; intro a ha; refine wpList_nil ?_; replace ha := ha.sub (σ' := [(3, v908), (9, va0_0), (10, (.int .i64 (a0_0.length : Int))), (11, (.int .i64 i399))]) ⟨rfl, rfl, rfl, rfl, trivial⟩; refine e_blk ?_; refine e_then ?_; refine wp_region_lit ?_; obtain ⟨hI919, hF⟩ := ck_some hF; refine op_g ha rfl (g_add rfl rfl hI919) ?_; clear ha a; intro a ha; refine op_g ha rfl (g_move rfl) ?_; clear ha a; intro a ha; refine wpList_nil ?_; replace ha := ha.sub (σ' := [(3, v908), (9, va0_0), (10, (.int .i64 (a0_0.length : Int))), (11, (.int .i64 (i399 + 1)))]) ⟨rfl, rfl, rfl, rfl, trivial⟩
          refine e_lq ?_; obtain rfl := Option.some.inj hF
          exact ⟨_, Nat.lt_succ_self _, (l396 ++ ([x885 ||| x891])), i399 + 1, v908, b910, ha.sub ⟨rfl, rfl, rfl, rfl, trivial⟩, hE918, hI919, h911, q917, hN782⟩
        replace hF := if_f hp882 hF; refine wp_seq ?_; refine wp_region_lit ?_; refine op_g ha rfl (g_eql rfl rfl) ?_; clear ha a; intro a ha; refine op_g ha rfl (g_assign rfl) ?_; clear ha a; intro a ha; refine wpList_nil ?_; replace ha := ha.sub (σ' := [(3, v397), (5, (.pointer (some ⟨b816, 0, none⟩))), (6, (.int .u32 (BitVec.toNat (0#32) : Int))), (9, va0_0), (10, (.int .i64 (a0_0.length : Int))), (11, (.int .i64 i399)), (16, (.int .i64 x786.1)), (37, (.bool (decide (x786.1 = 4))))]) ⟨rfl, rfl, rfl, rfl, rfl, rfl, rfl, rfl, trivial⟩; refine e_then ?_; refine c_cond (x786.1 = 4) ha rfl (decide_eq_true_iff) (fun hp921 => ?_) (fun hp921 => ?_)
        · replace hF := if_t hp921 hF
          refine wp_region_lit ?_; refine op_g ha rfl (g_move rfl) ?_; clear ha a; intro a ha; refine op_g ha rfl (g_field0 st71_1 rfl) ?_; clear ha a; intro a ha; refine op_g ha rfl (g_load Try.isAgg2 rfl (hB838.cell rfl)) ?_; clear ha a; intro a ha; obtain ⟨x922, g923, gx924, hF⟩ := idx_some hF
          obtain ⟨p925, cs926, f927, hf928, hpb929, hat930, hr931, hi932⟩ := h836.at g923 gx924
          obtain ⟨rfl, rfl⟩ := hr931
          refine op_g ha rfl (hi932.gives sl74 rfl rfl) ?_; clear ha a; intro a ha; refine op_g ha rfl (g_load Try.isAgg56 rfl hat930.one) ?_; clear ha a; intro a ha; refine op_g ha rfl (g_assign rfl) ?_; clear ha a; intro a ha; refine wpList_nil ?_; replace ha := ha.sub (σ' := [(3, v397), (6, (.int .u32 (BitVec.toNat x922 : Int))), (9, va0_0), (10, (.int .i64 (a0_0.length : Int))), (11, (.int .i64 i399))]) ⟨rfl, rfl, rfl, rfl, rfl, trivial⟩; refine e_blk ?_; refine e_then ?_; refine wp_region_lit ?_; (iterate 2 refine op_g ha rfl (g_move rfl) ?_; clear ha a; intro a ha)
          refine o_lit1 (o := true) (y := x922) Rp.u32 ha rfl sl74 rfl rfl rfl ⟨rfl, rfl⟩ ?_; clear ha a; intro v933 w934 h935 hx936 a ha
          obtain ⟨b938, hb938⟩ : ∃ b : Int, b = w834.heap.size := ⟨_, rfl⟩; rw [← hb938] at h935
          have q939 := zn_of hb938
          have q940 := Nq.new h836.fpb q939
          have q941 := Nq.madeO q939 h836.blt
          have q942 := Zn.upD q939 hE843
          replace h836 := h836.ext hx936
          have hE943 := Ext.trans hE843 hx936
          obtain ⟨hl944, hF⟩ := app_some hF
          refine o_append ha rfl sl74 rfl rfl rfl h836 h935.src (Nq.nil _) hl944 ?_; clear ha a; intro v945 w946 b947 h948 hc949 hb950 a ha
          replace h948 : Ow Rp.u32 56 true w946 [] b947 v945 _ := h948
          have q952 := Nq.appY q941 h935.fpb hb950
          have q953 := Nq.appX q940 (Nq.nil _) hb950 h935.blt
          have q954 := Zn.appD z837 hb950 hE943
          replace h935 := h935.nq hc949 q941
          have hE955 := Ext.then hE943 hc949 (Zn.bl z837)
          refine op_g ha rfl (g_assign rfl) ?_; clear ha a; intro a ha; refine wpList_nil ?_; replace ha := ha.sub (σ' := [(3, v945), (9, va0_0), (10, (.int .i64 (a0_0.length : Int))), (11, (.int .i64 i399))]) ⟨rfl, rfl, rfl, rfl, trivial⟩; refine e_blk ?_; refine e_then ?_; refine wp_region_lit ?_; obtain ⟨hI956, hF⟩ := ck_some hF; refine op_g ha rfl (g_add rfl rfl hI956) ?_; clear ha a; intro a ha; refine op_g ha rfl (g_move rfl) ?_; clear ha a; intro a ha; refine wpList_nil ?_; replace ha := ha.sub (σ' := [(3, v945), (9, va0_0), (10, (.int .i64 (a0_0.length : Int))), (11, (.int .i64 (i399 + 1)))]) ⟨rfl, rfl, rfl, rfl, trivial⟩
          refine e_lq ?_; obtain rfl := Option.some.inj hF
          exact ⟨_, Nat.lt_succ_self _, (l396 ++ ([x922])), i399 + 1, v945, b947, ha.sub ⟨rfl, rfl, rfl, rfl, trivial⟩, hE955, hI956, h948, q954, hN782⟩
        replace hF := if_f hp921 hF; obtain ⟨o959, ho960, hK961⟩ := bnd_some hF
        have hF := ho960; clear ho960
        refine s_cut (fun a w => ∃ (t968 : Bool), Fr 87 [(3, v397), (5, (.pointer (some ⟨b816, 0, none⟩))), (6, (.int .u32 (BitVec.toNat (0#32) : Int))), (9, va0_0), (10, (.int .i64 (a0_0.length : Int))), (11, (.int .i64 i399)), (16, (.int .i64 x786.1)), (44, (.bool t968))] a ∧ Chg [] W w ∧ Ow Rp.u32 56 true w [] b398 v397 l396 ∧ Zn W b398 ∧ Bx w b816 [(.int .i64 x786.1), (.int .i64 x786.2.1), (.int .i64 x786.2.2)] 71 ∧ Zn W (b816 : Int) ∧ Nq (bl b398 ++ []) (b816 : Int) ∧ Nq ([b816]) b398 ∧ o959 = .inl t968) ?_ ?_
        · skip
          refine wp_seq ?_; refine wp_region_lit ?_; refine op_g ha rfl (g_eql rfl rfl) ?_; clear ha a; intro a ha; refine op_g ha rfl (g_assign rfl) ?_; clear ha a; intro a ha; refine wpList_nil ?_; replace ha := ha.sub (σ' := [(3, v397), (5, (.pointer (some ⟨b816, 0, none⟩))), (6, (.int .u32 (BitVec.toNat (0#32) : Int))), (9, va0_0), (10, (.int .i64 (a0_0.length : Int))), (11, (.int .i64 i399)), (16, (.int .i64 x786.1)), (44, (.bool (decide (x786.1 = 5))))]) ⟨rfl, rfl, rfl, rfl, rfl, rfl, rfl, rfl, trivial⟩; refine e_then ?_; refine c_cond (x786.1 = 5) ha rfl (decide_eq_true_iff) (fun hp972 => ?_) (fun hp972 => ?_)
          · replace hF := if_t hp972 hF
            refine wp_skip ?_; refine e_sq ?_; obtain rfl := Option.some.inj hF
            exact ⟨decide (x786.1 = 5), ha.sub ⟨rfl, rfl, rfl, rfl, rfl, rfl, rfl, rfl, trivial⟩, hE843, h836, z837, hB838, z839, q841, q842, rfl⟩
          replace hF := if_f hp972 hF; refine wp_region_lit ?_; refine op_g ha rfl (g_eql rfl rfl) ?_; clear ha a; intro a ha; refine op_g ha rfl (g_assign rfl) ?_; clear ha a; intro a ha; refine wpList_nil ?_; replace ha := ha.sub (σ' := [(3, v397), (5, (.pointer (some ⟨b816, 0, none⟩))), (6, (.int .u32 (BitVec.toNat (0#32) : Int))), (9, va0_0), (10, (.int .i64 (a0_0.length : Int))), (11, (.int .i64 i399)), (16, (.int .i64 x786.1)), (44, (.bool (decide (x786.1 = 6))))]) ⟨rfl, rfl, rfl, rfl, rfl, rfl, rfl, rfl, trivial⟩; refine e_sq ?_; obtain rfl := Option.some.inj hF
          exact ⟨decide (x786.1 = 6), ha.sub ⟨rfl, rfl, rfl, rfl, rfl, rfl, rfl, rfl, trivial⟩, hE843, h836, z837, hB838, z839, q841, q842, rfl⟩
        rintro a w962 ⟨t968, ha, hE971, h964, z965, hB966, z967, q969, q970, rfl⟩
        have hF : F_impl_freeIn_k3 l396 i399 x786 t968 = some _ := hK961; clear hK961; unfold F_impl_freeIn_k3 at hF
        refine c_cond (t968 = true) ha rfl (Iff.rfl) (fun hp973 => ?_) (fun hp973 => ?_)
        · replace hF := if_t hp973 hF
          refine d_quiet hmix (by kernel_rfl) ?_; refine q_g ha rfl (g_move rfl) ?_; clear ha a; intro a ha; refine q_g ha rfl (g_field0 st71_1 rfl) ?_; clear ha a; intro a ha; refine q_g ha rfl (g_load Try.isAgg2 rfl (hB966.cell rfl)) ?_; clear ha a; intro a ha; obtain ⟨x974, g975, gx976, hF⟩ := idx_some hF
          obtain ⟨p977, cs978, f979, hf980, hpb981, hat982, hr983, hi984⟩ := h964.at g975 gx976
          obtain ⟨rfl, rfl⟩ := hr983
          refine q_g ha rfl (hi984.gives sl74 rfl rfl) ?_; clear ha a; intro a ha; refine q_g ha rfl (g_load Try.isAgg56 rfl hat982.one) ?_; clear ha a; intro a ha; refine q_g ha rfl (g_move rfl) ?_; clear ha a; intro a ha; refine q_g ha rfl (g_field0 st71_2 rfl) ?_; clear ha a; intro a ha; refine q_g ha rfl (g_load Try.isAgg2 rfl (hB966.cell rfl)) ?_; clear ha a; intro a ha; obtain ⟨x985, g986, gx987, hF⟩ := idx_some hF
          obtain ⟨p988, cs989, f990, hf991, hpb992, hat993, hr994, hi995⟩ := h964.at g986 gx987
          obtain ⟨rfl, rfl⟩ := hr994
          refine q_g ha rfl (hi995.gives sl74 rfl rfl) ?_; clear ha a; intro a ha; refine q_g ha rfl (g_load Try.isAgg56 rfl hat993.one) ?_; clear ha a; intro a ha; refine q_g ha rfl (g32_or (m := x974) (n := x985) rfl rfl) ?_; clear ha a; intro a ha; refine q_g ha rfl (g_assign rfl) ?_; clear ha a; intro a ha
          refine q_nil ?_; intro w996 hx997
          replace h964 := h964.ext hx997
          replace hB966 := hB966.ext hx997
          have hE998 := Ext.trans hE971 hx997
          replace ha := ha.sub (σ' := [(3, v397), (6, (.int .u32 (BitVec.toNat (x974 ||| x985) : Int))), (9, va0_0), (10, (.int .i64 (a0_0.length : Int))), (11, (.int .i64 i399))]) ⟨rfl, rfl, rfl, rfl, rfl, trivial⟩; refine e_blk ?_; refine e_then ?_; refine wp_region_lit ?_; (iterate 2 refine op_g ha rfl (g_move rfl) ?_; clear ha a; intro a ha)
          refine o_lit1 (o := true) (y := x974 ||| x985) Rp.u32 ha rfl sl74 rfl rfl rfl ⟨rfl, rfl⟩ ?_; clear ha a; intro v999 w1000 h1001 hx1002 a ha
          obtain ⟨b1004, hb1004⟩ : ∃ b : Int, b = w996.heap.size := ⟨_, rfl⟩; rw [← hb1004] at h1001
          have q1005 := zn_of hb1004
          have q1006 := Nq.new h964.fpb q1005
          have q1007 := Nq.madeO q1005 h964.blt
          have q1008 := Zn.upD q1005 hE998
          replace h964 := h964.ext hx1002
          have hE1009 := Ext.trans hE998 hx1002
          obtain ⟨hl1010, hF⟩ := app_some hF
          refine o_append ha rfl sl74 rfl rfl rfl h964 h1001.src (Nq.nil _) hl1010 ?_; clear ha a; intro v1011 w1012 b1013 h1014 hc1015 hb1016 a ha
          replace h1014 : Ow Rp.u32 56 true w1012 [] b1013 v1011 _ := h1014
          have q1018 := Nq.appY q1007 h1001.fpb hb1016
          have q1019 := Nq.appX q1006 (Nq.nil _) hb1016 h1001.blt
          have q1020 := Zn.appD z965 hb1016 hE1009
          replace h1001 := h1001.nq hc1015 q1007
          have hE1021 := Ext.then hE1009 hc1015 (Zn.bl z965)
          refine op_g ha rfl (g_assign rfl) ?_; clear ha a; intro a ha; refine wpList_nil ?_; replace ha := ha.sub (σ' := [(3, v1011), (9, va0_0), (10, (.int .i64 (a0_0.length : Int))), (11, (.int .i64 i399))]) ⟨rfl, rfl, rfl, rfl, trivial⟩; refine e_blk ?_; refine e_then ?_; refine wp_region_lit ?_; obtain ⟨hI1022, hF⟩ := ck_some hF; refine op_g ha rfl (g_add rfl rfl hI1022) ?_; clear ha a; intro a ha; refine op_g ha rfl (g_move rfl) ?_; clear ha a; intro a ha; refine wpList_nil ?_; replace ha := ha.sub (σ' := [(3, v1011), (9, va0_0), (10, (.int .i64 (a0_0.length : Int))), (11, (.int .i64 (i399 + 1)))]) ⟨rfl, rfl, rfl, rfl, trivial⟩
          refine e_lq ?_; obtain rfl := Option.some.inj hF
          exact ⟨_, Nat.lt_succ_self _, (l396 ++ ([x974 ||| x985])), i399 + 1, v1011, b1013, ha.sub ⟨rfl, rfl, rfl, rfl, trivial⟩, hE1021, hI1022, h1014, q1020, hN782⟩
        replace hF := if_f hp973 hF; refine wp_seq ?_; refine wp_region_lit ?_; refine op_g ha rfl (g_eql rfl rfl) ?_; clear ha a; intro a ha; refine op_g ha rfl (g_assign rfl) ?_; clear ha a; intro a ha; refine wpList_nil ?_; replace ha := ha.sub (σ' := [(3, v397), (5, (.pointer (some ⟨b816, 0, none⟩))), (6, (.int .u32 (BitVec.toNat (0#32) : Int))), (9, va0_0), (10, (.int .i64 (a0_0.length : Int))), (11, (.int .i64 i399)), (16, (.int .i64 x786.1)), (58, (.bool (decide (x786.1 = 7))))]) ⟨rfl, rfl, rfl, rfl, rfl, rfl, rfl, rfl, trivial⟩; refine e_then ?_; refine c_cond (x786.1 = 7) ha rfl (decide_eq_true_iff) (fun hp1024 => ?_) (fun hp1024 => ?_)
        · replace hF := if_t hp1024 hF
          refine d_quiet hmix (by kernel_rfl) ?_; refine q_g ha rfl (g_move rfl) ?_; clear ha a; intro a ha; refine q_g ha rfl (g_field0 st71_2 rfl) ?_; clear ha a; intro a ha; refine q_g ha rfl (g_load Try.isAgg2 rfl (hB966.cell rfl)) ?_; clear ha a; intro a ha; obtain ⟨x1025, g1026, gx1027, hF⟩ := idx_some hF
          obtain ⟨p1028, cs1029, f1030, hf1031, hpb1032, hat1033, hr1034, hi1035⟩ := h964.at g1026 gx1027
          obtain ⟨rfl, rfl⟩ := hr1034
          refine q_g ha rfl (hi1035.gives sl74 rfl rfl) ?_; clear ha a; intro a ha; refine q_g ha rfl (g_load Try.isAgg56 rfl hat1033.one) ?_; clear ha a; intro a ha; refine q_g ha rfl (g_field0 st71_1 rfl) ?_; clear ha a; intro a ha; refine q_g ha rfl (g_load Try.isAgg2 rfl (hB966.cell rfl)) ?_; clear ha a; intro a ha; obtain ⟨x1038, hc1039, hF⟩ := cal_some hF; refine q_call (.int .u32 (BitVec.toNat x1038 : Int)) ha rfl rfl Try.call53 (fun w1037 hx1036 => W_impl_one hI814 hc1039) (fun _ _ _ h => ⟨h.1, h.2⟩) ?_; clear ha a; intro a ha; refine q_g ha rfl (g32_andNot (m := x1025) (n := x1038) rfl rfl) ?_; clear ha a; intro a ha
          refine q_g ha rfl (g_assign rfl) ?_; clear ha a; intro a ha
          refine q_nil ?_; intro w1040 hx1041
          replace h964 := h964.ext hx1041
          replace hB966 := hB966.ext hx1041
          have hE1042 := Ext.trans hE971 hx1041
          replace ha := ha.sub (σ' := [(3, v397), (6, (.int .u32 (BitVec.toNat (x1025 &&& ~~~x1038) : Int))), (9, va0_0), (10, (.int .i64 (a0_0.length : Int))), (11, (.int .i64 i399))]) ⟨rfl, rfl, rfl, rfl, rfl, trivial⟩; refine e_blk ?_; refine e_then ?_; refine wp_region_lit ?_; (iterate 2 refine op_g ha rfl (g_move rfl) ?_; clear ha a; intro a ha)
          refine o_lit1 (o := true) (y := x1025 &&& ~~~x1038) Rp.u32 ha rfl sl74 rfl rfl rfl ⟨rfl, rfl⟩ ?_; clear ha a; intro v1043 w1044 h1045 hx1046 a ha
          obtain ⟨b1048, hb1048⟩ : ∃ b : Int, b = w1040.heap.size := ⟨_, rfl⟩; rw [← hb1048] at h1045
          have q1049 := zn_of hb1048
          have q1050 := Nq.new h964.fpb q1049
          have q1051 := Nq.madeO q1049 h964.blt
          have q1052 := Zn.upD q1049 hE1042
          replace h964 := h964.ext hx1046
          have hE1053 := Ext.trans hE1042 hx1046
          obtain ⟨hl1054, hF⟩ := app_some hF
          refine o_append ha rfl sl74 rfl rfl rfl h964 h1045.src (Nq.nil _) hl1054 ?_; clear ha a; intro v1055 w1056 b1057 h1058 hc1059 hb1060 a ha
          replace h1058 : Ow Rp.u32 56 true w1056 [] b1057 v1055 _ := h1058
          have q1062 := Nq.appY q1051 h1045.fpb hb1060
          have q1063 := Nq.appX q1050 (Nq.nil _) hb1060 h1045.blt
          have q1064 := Zn.appD z965 hb1060 hE1053
          replace h1045 := h1045.nq hc1059 q1051
          have hE1065 := Ext.then hE1053 hc1059 (Zn.bl z965)
          refine op_g ha rfl (g_assign rfl) ?_; clear ha a; intro a ha; refine wpList_nil ?_; replace ha := ha.sub (σ' := [(3, v1055), (9, va0_0), (10, (.int .i64 (a0_0.length : Int))), (11, (.int .i64 i399))]) ⟨rfl, rfl, rfl, rfl, trivial⟩; refine e_blk ?_; refine e_then ?_; refine wp_region_lit ?_; obtain ⟨hI1066, hF⟩ := ck_some hF; refine op_g ha rfl (g_add rfl rfl hI1066) ?_; clear ha a; intro a ha; refine op_g ha rfl (g_move rfl) ?_; clear ha a; intro a ha; refine wpList_nil ?_; replace ha := ha.sub (σ' := [(3, v1055), (9, va0_0), (10, (.int .i64 (a0_0.length : Int))), (11, (.int .i64 (i399 + 1)))]) ⟨rfl, rfl, rfl, rfl, trivial⟩
          refine e_lq ?_; obtain rfl := Option.some.inj hF
          exact ⟨_, Nat.lt_succ_self _, (l396 ++ ([x1025 &&& ~~~x1038])), i399 + 1, v1055, b1057, ha.sub ⟨rfl, rfl, rfl, rfl, trivial⟩, hE1065, hI1066, h1058, q1064, hN782⟩
        replace hF := if_f hp1024 hF; refine wp_seq ?_; refine wp_region_lit ?_; refine op_g ha rfl (g_eql rfl rfl) ?_; clear ha a; intro a ha; refine op_g ha rfl (g_assign rfl) ?_; clear ha a; intro a ha; refine wpList_nil ?_; replace ha := ha.sub (σ' := [(3, v397), (5, (.pointer (some ⟨b816, 0, none⟩))), (6, (.int .u32 (BitVec.toNat (0#32) : Int))), (9, va0_0), (10, (.int .i64 (a0_0.length : Int))), (11, (.int .i64 i399)), (69, (.bool (decide (x786.1 = 8))))]) ⟨rfl, rfl, rfl, rfl, rfl, rfl, rfl, trivial⟩; refine e_then ?_; refine c_cond (x786.1 = 8) ha rfl (decide_eq_true_iff) (fun hp1068 => ?_) (fun hp1068 => ?_)
        · replace hF := if_t hp1068 hF
          refine d_quiet hmix (by kernel_rfl) ?_; refine q_g ha rfl (g_move rfl) ?_; clear ha a; intro a ha; refine q_g ha rfl (g_field0 st71_2 rfl) ?_; clear ha a; intro a ha; refine q_g ha rfl (g_load Try.isAgg2 rfl (hB966.cell rfl)) ?_; clear ha a; intro a ha; obtain ⟨x1069, g1070, gx1071, hF⟩ := idx_some hF
          obtain ⟨p1072, cs1073, f1074, hf1075, hpb1076, hat1077, hr1078, hi1079⟩ := h964.at g1070 gx1071
          obtain ⟨rfl, rfl⟩ := hr1078
          refine q_g ha rfl (hi1079.gives sl74 rfl rfl) ?_; clear ha a; intro a ha; refine q_g ha rfl (g_load Try.isAgg56 rfl hat1077.one) ?_; clear ha a; intro a ha; refine q_g ha rfl (g_field0 st71_1 rfl) ?_; clear ha a; intro a ha; refine q_g ha rfl (g_load Try.isAgg2 rfl (hB966.cell rfl)) ?_; clear ha a; intro a ha; obtain ⟨hI1080, hF⟩ := ck_some hF; refine q_g ha rfl (g_add rfl rfl hI1080) ?_; clear ha a; intro a ha; obtain ⟨x1084, hc1085, hF⟩ := cal_some hF; refine q_call (.int .u32 (BitVec.toNat x1084 : Int)) ha rfl rfl Try.call53 (fun w1083 hx1082 => W_impl_one hI1080 hc1085) (fun _ _ _ h => ⟨h.1, h.2⟩) ?_; clear ha a; intro a ha
          refine q_g ha rfl (g32_andNot (m := x1069) (n := x1084) rfl rfl) ?_; clear ha a; intro a ha; refine q_g ha rfl (g_assign rfl) ?_; clear ha a; intro a ha
          refine q_nil ?_; intro w1086 hx1087
          replace h964 := h964.ext hx1087
          replace hB966 := hB966.ext hx1087
          have hE1088 := Ext.trans hE971 hx1087
          replace ha := ha.sub (σ' := [(3, v397), (6, (.int .u32 (BitVec.toNat (x1069 &&& ~~~x1084) : Int))), (9, va0_0), (10, (.int .i64 (a0_0.length : Int))), (11, (.int .i64 i399))]) ⟨rfl, rfl, rfl, rfl, rfl, trivial⟩; refine e_blk ?_; refine e_then ?_; refine wp_region_lit ?_; (iterate 2 refine op_g ha rfl (g_move rfl) ?_; clear ha a; intro a ha)
          refine o_lit1 (o := true) (y := x1069 &&& ~~~x1084) Rp.u32 ha rfl sl74 rfl rfl rfl ⟨rfl, rfl⟩ ?_; clear ha a; intro v1089 w1090 h1091 hx1092 a ha
          obtain ⟨b1094, hb1094⟩ : ∃ b : Int, b = w1086.heap.size := ⟨_, rfl⟩; rw [← hb1094] at h1091
          have q1095 := zn_of hb1094
          have q1096 := Nq.new h964.fpb q1095
          have q1097 := Nq.madeO q1095 h964.blt
          have q1098 := Zn.upD q1095 hE1088
          replace h964 := h964.ext hx1092
          have hE1099 := Ext.trans hE1088 hx1092
          obtain ⟨hl1100, hF⟩ := app_some hF
          refine o_append ha rfl sl74 rfl rfl rfl h964 h1091.src (Nq.nil _) hl1100 ?_; clear ha a; intro v1101 w1102 b1103 h1104 hc1105 hb1106 a ha
          replace h1104 : Ow Rp.u32 56 true w1102 [] b1103 v1101 _ := h1104
          have q1108 := Nq.appY q1097 h1091.fpb hb1106
          have q1109 := Nq.appX q1096 (Nq.nil _) hb1106 h1091.blt
          have q1110 := Zn.appD z965 hb1106 hE1099
          replace h1091 := h1091.nq hc1105 q1097
          have hE1111 := Ext.then hE1099 hc1105 (Zn.bl z965)
          refine op_g ha rfl (g_assign rfl) ?_; clear ha a; intro a ha; refine wpList_nil ?_; replace ha := ha.sub (σ' := [(3, v1101), (9, va0_0), (10, (.int .i64 (a0_0.length : Int))), (11, (.int .i64 i399))]) ⟨rfl, rfl, rfl, rfl, trivial⟩; refine e_blk ?_; refine e_then ?_; refine wp_region_lit ?_; obtain ⟨hI1112, hF⟩ := ck_some hF; refine op_g ha rfl (g_add rfl rfl hI1112) ?_; clear ha a; intro a ha; refine op_g ha rfl (g_move rfl) ?_; clear ha a; intro a ha; refine wpList_nil ?_; replace ha := ha.sub (σ' := [(3, v1101), (9, va0_0), (10, (.int .i64 (a0_0.length : Int))), (11, (.int .i64 (i399 + 1)))]) ⟨rfl, rfl, rfl, rfl, trivial⟩
          refine e_lq ?_; obtain rfl := Option.some.inj hF
          exact ⟨_, Nat.lt_succ_self _, (l396 ++ ([x1069 &&& ~~~x1084])), i399 + 1, v1101, b1103, ha.sub ⟨rfl, rfl, rfl, rfl, trivial⟩, hE1111, hI1112, h1104, q1110, hN782⟩
        replace hF := if_f hp1068 hF; refine wp_skip ?_; refine e_blk ?_; refine e_then ?_; refine wp_region_lit ?_; (iterate 2 refine op_g ha rfl (g_move rfl) ?_; clear ha a; intro a ha)
        refine o_lit1 (o := true) (y := 0#32) Rp.u32 ha rfl sl74 rfl rfl rfl ⟨rfl, rfl⟩ ?_; clear ha a; intro v1114 w1115 h1116 hx1117 a ha
        obtain ⟨b1119, hb1119⟩ : ∃ b : Int, b = w962.heap.size := ⟨_, rfl⟩; rw [← hb1119] at h1116
        have q1120 := zn_of hb1119
        have q1121 := Nq.new h964.fpb q1120
        have q1122 := Nq.madeO q1120 h964.blt
        have q1123 := Nq.new hB966.fpb q1120
        have q1124 := Nq.madeO q1120 hB966.bi
        have q1125 := Zn.upD q1120 hE971
        replace h964 := h964.ext hx1117
        replace hB966 := hB966.ext hx1117
        have hE1126 := Ext.trans hE971 hx1117
        obtain ⟨hl1127, hF⟩ := app_some hF
        refine o_append ha rfl sl74 rfl rfl rfl h964 h1116.src (Nq.nil _) hl1127 ?_; clear ha a; intro v1128 w1129 b1130 h1131 hc1132 hb1133 a ha
        replace h1131 : Ow Rp.u32 56 true w1129 [] b1130 v1128 _ := h1131
        have q1135 := Nq.appY q970 hB966.fpb hb1133
        have q1136 := Nq.appX q969 (Nq.nil _) hb1133 hB966.bi
        have q1137 := Nq.appY q1122 h1116.fpb hb1133
        have q1138 := Nq.appX q1121 (Nq.nil _) hb1133 h1116.blt
        have q1139 := Zn.appD z965 hb1133 hE1126
        replace hB966 := hB966.nq hc1132 q970
        replace h1116 := h1116.nq hc1132 q1122
        have hE1140 := Ext.then hE1126 hc1132 (Zn.bl z965)
        refine op_g ha rfl (g_assign rfl) ?_; clear ha a; intro a ha; refine wpList_nil ?_; replace ha := ha.sub (σ' := [(3, v1128), (9, va0_0), (10, (.int .i64 (a0_0.length : Int))), (11, (.int .i64 i399))]) ⟨rfl, rfl, rfl, rfl, trivial⟩; refine e_blk ?_; refine e_then ?_; refine wp_region_lit ?_; obtain ⟨hI1141, hF⟩ := ck_some hF; refine op_g ha rfl (g_add rfl rfl hI1141) ?_; clear ha a; intro a ha; refine op_g ha rfl (g_move rfl) ?_; clear ha a; intro a ha; refine wpList_nil ?_; replace ha := ha.sub (σ' := [(3, v1128), (9, va0_0), (10, (.int .i64 (a0_0.length : Int))), (11, (.int .i64 (i399 + 1)))]) ⟨rfl, rfl, rfl, rfl, trivial⟩
        refine e_lq ?_; obtain rfl := Option.some.inj hF
        exact ⟨_, Nat.lt_succ_self _, (l396 ++ ([0#32])), i399 + 1, v1128, b1130, ha.sub ⟨rfl, rfl, rfl, rfl, trivial⟩, hE1140, hI1141, h1131, q1139, hN782⟩
      replace hF := if_f hp785 hF; refine wp_exit ?_; refine e_then_exit ?_; refine e_lq_eq ?_; obtain rfl := Option.some.inj hF
      exact ⟨l396, v397, b398, ha.sub ⟨rfl, trivial⟩, hE401, h394, z395, (LK_inr hN782).symm⟩
  rintro a w769 ⟨l773, v774, b775, ha, hE781, h771, z772, rfl⟩
  have hF : F_impl_freeIn_k4 l773 = some _ := hK778; clear hK778; unfold F_impl_freeIn_k4 at hF
  refine e_then ?_; refine wp_seq ?_; refine wp_region_lit ?_; refine op_g ha rfl (g_move rfl) ?_; clear ha a; intro a ha; refine op_g ha rfl (g_assign rfl) ?_; clear ha a; intro a ha; refine wpList_nil ?_; replace ha := ha.sub (σ' := [(2, v774)]) ⟨rfl, trivial⟩; refine e_then ?_; refine wp_ret ?_; obtain rfl := Option.some.inj hF
  exact f_ret1 ha rfl rfl ⟨_, h771, z772, hE781⟩
set_option maxHeartbeats 2000000 in
theorem W_impl_largeIn {W : World} {va0_0 : Value} {fa0_0 : List Nat} {a0_0 : (List (Int × (Int × Int)))} (ha0_0 : Ro (Rp.prod Rp.int (Rp.prod Rp.int Rp.int)) W fa0_0 va0_0 a0_0) {r : (List Bool)} (hF : F_impl_largeIn a0_0 = some r) :
    Calls Try.prog 43 [.agg #[va0_0]].toArray W (Ret fun u w' => ∃ (b_u : Int), Ow Rp.bool 4 true w' [] b_u u r ∧ Zn W b_u ∧ Ext W w') := by
  refine f_enter Try.func43 rfl Try.ntmps43 rfl ?_
  intro a ha
  replace ha : Fr 56 [(0, (.agg #[va0_0]))] a := ha
  have hE : Chg [] W W := Chg.refl _ _
  unfold F_impl_largeIn at hF
  refine wp_seq ?_; refine wp_region_lit ?_
  refine o_box ha rfl rfl rfl ?_; clear ha a; intro b1 w2 hB3 hx4 hlo5 a ha
  have q6 := Zn.one hlo5
  have q7 := Zn.upD q6 hE
  have hE8 := Ext.trans hE hx4
  refine op_g ha rfl (g_assign rfl) ?_; clear ha a; intro a ha; refine wpList_nil ?_; replace ha := ha.sub (σ' := [(1, (.pointer (some ⟨b1, 0, none⟩)))]) ⟨rfl, trivial⟩; refine e_then ?_; refine wp_seq ?_; refine wp_region_lit ?_
  refine o_lit0 Rp.bool ha rfl sl78 ?_; clear ha a; intro v9 w10 h11 hx12 a ha
  obtain ⟨b14, hb14⟩ : ∃ b : Int, b = w2.heap.size := ⟨_, rfl⟩; rw [← hb14] at h11
  have q15 := zn_of hb14
  have q16 := Nq.new hB3.fpb q15
  have q17 := Nq.madeO q15 hB3.bi
  have q18 := Zn.upD q15 hE8
  replace hB3 := hB3.ext hx12
  have hE19 := Ext.trans hE8 hx12
  refine o_lit0 Rp.int ha rfl sl93 ?_; clear ha a; intro v20 w21 h22 hx23 a ha
  obtain ⟨b25, hb25⟩ : ∃ b : Int, b = w10.heap.size := ⟨_, rfl⟩; rw [← hb25] at h22
  have q26 := zn_of hb25
  have q27 := Nq.new hB3.fpb q26
  have q28 := Nq.madeO q26 hB3.bi
  have q29 := Nq.new h11.fpb q26
  have q30 := Nq.madeO q26 h11.blt
  have q31 := Zn.upD q26 hE19
  replace hB3 := hB3.ext hx23
  replace h11 := h11.ext hx23
  have hE32 := Ext.trans hE19 hx23
  (iterate 2 refine op_g ha rfl (g_assign rfl) ?_; clear ha a; intro a ha); refine wpList_nil ?_; replace ha := ha.sub (σ' := [(1, (.pointer (some ⟨b1, 0, none⟩))), (3, v9), (4, v20)]) ⟨rfl, rfl, rfl, trivial⟩; refine e_then ?_; refine wp_seq ?_; refine wp_seq ?_; refine wp_region_lit ?_; refine op_g ha rfl (g_field0 st35_0 rfl) ?_; clear ha a; intro a ha; refine op_g ha rfl (g_load Try.isAgg33 rfl (hB3.cell rfl)) ?_; clear ha a; intro a ha; refine op_g ha rfl (g_lenR sl33.und ha0_0 rfl) ?_; clear ha a; intro a ha; refine op_g ha rfl (g_move rfl) ?_; clear ha a; intro a ha; refine wpList_nil ?_
  replace ha := ha.sub (σ' := [(3, v9), (4, v20), (11, va0_0), (12, (.int .i64 (a0_0.length : Int))), (13, (.int .i64 0))]) ⟨rfl, rfl, rfl, rfl, rfl, trivial⟩; refine e_then ?_; obtain ⟨o678, ho679, hK680⟩ := bnd_some hF
  obtain ⟨n681, hn682⟩ := lp_some ho679; clear ho679
  refine c_loop (fun a w => ∃ (l675 : (List Bool)) (v676 : Value) (b677 : Int), Fr 56 [(3, v676)] a ∧ Chg [] W w ∧ Ow Rp.bool 4 true w [] b677 v676 l675 ∧ Zn W b677 ∧ o678 = .inl l675) (fun n a w => ∃ (l352 : (List Bool)) (l358 : (List Int)) (i361 : Int) (v353 : Value) (b354 : Int) (v359 : Value) (b360 : Int), Fr 56 [(3, v353), (4, v359), (11, va0_0), (12, (.int .i64 (a0_0.length : Int))), (13, (.int .i64 i361))] a ∧ Chg [] W w ∧ InI i361 ∧ Ow Rp.bool 4 true w [] b354 v353 l352 ∧ Zn W b354 ∧ Ow Rp.int 3 true w [] b360 v359 l358 ∧ Zn W b360 ∧ Nq (bl b354 ++ []) b360 ∧ Nq (bl b360 ++ []) b354 ∧ lpN (fun s => F_impl_largeIn_l1 a0_0 s.1 s.2.1 s.2.2) n (l352, l358, i361) = some o678) n681 ⟨([] : (List Bool)), ([] : (List Int)), 0, v9, b14, v20, b25, ha.sub ⟨rfl, rfl, rfl, rfl, rfl, trivial⟩, hE32, (show InI 0 from by decide), h11, q18, h22, q31, q29, q30, hn682⟩ ?_ ?_
  · rintro m686 a w348 ⟨l352, l358, i361, v353, b354, v359, b360, ha, hE365, hI362, h350, z351, h356, z357, q363, q364, hF⟩
    cases m686 with
    | zero => exact (lpN_zero hF).elim
    | succ m686 =>
      obtain ⟨z685, hF, hN684⟩ := lpN_succ hF
      have hF : F_impl_largeIn_l1 a0_0 l352 l358 i361 = some z685 := hF; unfold F_impl_largeIn_l1 at hF
      refine wp_seq ?_; refine wp_region_lit ?_; refine op_g ha rfl (g_lss rfl rfl) ?_; clear ha a; intro a ha; refine wpList_nil ?_; replace ha := ha.sub (σ' := [(3, v353), (4, v359), (11, va0_0), (12, (.int .i64 (a0_0.length : Int))), (13, (.int .i64 i361)), (14, (.bool (decide (i361 < (a0_0.length : Int)))))]) ⟨rfl, rfl, rfl, rfl, rfl, rfl, trivial⟩; refine e_then ?_; refine wp_seq ?_; refine c_cond (i361 < (a0_0.length : Int)) ha rfl (decide_eq_true_iff) (fun hp687 => ?_) (fun hp687 => ?_)
      · replace hF := if_t hp687 hF
        refine wp_skip ?_; refine e_then ?_; refine wp_seq ?_; refine wp_block ?_; refine wp_seq ?_; refine wp_region_lit ?_; obtain ⟨x688, g689, gx690, hF⟩ := idx_some hF
        obtain ⟨p691, cs692, f693, hf694, hpb695, hat696, hr697, hi698⟩ := ha0_0.at g689 gx690
        obtain ⟨f699, f700, c701, c702, rfl, rfl, h703, h704⟩ := hr697
        obtain ⟨rfl, hI707, rfl⟩ := h703
        obtain ⟨f708, f709, c710, c711, rfl, rfl, h712, h713⟩ := h704
        obtain ⟨rfl, hI716, rfl⟩ := h712
        obtain ⟨rfl, hI717, rfl⟩ := h713
        refine op_g ha rfl (hi698.gives sl33 rfl rfl) ?_; clear ha a; intro a ha; refine op_g ha rfl (g_loadA0 (cs := [(.int .i64 x688.1), (.int .i64 x688.2.1), (.int .i64 x688.2.2)]) hE365 Try.isAgg71 Try.sizeOf71 rfl (by simp) hat696) ?_; clear ha a; intro a ha
        refine o_alloc (cs := [(.int .i64 0), (.int .i64 0), (.int .i64 0)]) ha rfl Try.zeroValue71 rfl ?_; clear ha a; intro b718 w719 hB720 hx721 hlo722 a ha
        have q723 := Zn.one hlo722
        have q724 := Nq.new h350.fpb q723
        have q725 := Nq.made1 hlo722 h350.blt
        have q726 := Nq.new h356.fpb q723
        have q727 := Nq.made1 hlo722 h356.blt
        have q728 := Zn.upD q723 hE365
        replace h350 := h350.ext hx721
        replace h356 := h356.ext hx721
        have hE729 := Ext.trans hE365 hx721
        refine o_storeA (vs := [(.int .i64 x688.1), (.int .i64 x688.2.1), (.int .i64 x688.2.2)]) ha hB720 Try.sizeOf71 rfl rfl (by intro c hc; simp only [List.mem_cons, List.not_mem_nil, or_false] at hc; rcases hc with hc | hc | hc <;> subst hc <;> first | rfl | exact rfl | exact rfl | exact rfl) rfl ?_; intro w730 hB731 hc732
        replace hc732 := hc732.bl
        replace hB731 : Bx w730 b718 [(.int .i64 x688.1), (.int .i64 x688.2.1), (.int .i64 x688.2.2)] 71 := hB731
        replace h350 := h350.nq hc732 q724
        replace h356 := h356.nq hc732 q726
        have hE733 := Ext.then hE729 hc732 (Zn.bl q728)
        refine wpList_nil ?_; replace ha := ha.sub (σ' := [(3, v353), (4, v359), (6, (.pointer (some ⟨b718, 0, none⟩))), (11, va0_0), (12, (.int .i64 (a0_0.length : Int))), (13, (.int .i64 i361))]) ⟨rfl, rfl, rfl, rfl, rfl, rfl, trivial⟩; refine e_then ?_; refine wp_seq ?_; refine wp_region_lit ?_; refine op_g ha rfl (g_assign rfl) ?_; clear ha a; intro a ha; refine wpList_nil ?_; replace ha := ha.sub (σ' := [(3, v353), (4, v359), (6, (.pointer (some ⟨b718, 0, none⟩))), (7, (.int .i64 1)), (11, va0_0), (12, (.int .i64 (a0_0.length : Int))), (13, (.int .i64 i361))]) ⟨rfl, rfl, rfl, rfl, rfl, rfl, rfl, trivial⟩
        refine e_then ?_; refine wp_seq ?_; refine wp_seq ?_; refine wp_region_lit ?_; refine op_g ha rfl (g_field0 st71_0 rfl) ?_; clear ha a; intro a ha; refine op_g ha rfl (g_load Try.isAgg2 rfl (hB731.cell rfl)) ?_; clear ha a; intro a ha; refine wpList_nil ?_; replace ha := ha.sub (σ' := [(3, v353), (4, v359), (6, (.pointer (some ⟨b718, 0, none⟩))), (7, (.int .i64 1)), (11, va0_0), (12, (.int .i64 (a0_0.length : Int))), (13, (.int .i64 i361)), (18, (.int .i64 x688.1))]) ⟨rfl, rfl, rfl, rfl, rfl, rfl, rfl, rfl, trivial⟩; refine e_then ?_; refine wp_block ?_; refine wp_seq ?_; refine wp_region_lit ?_
        refine op_g ha rfl (g_eql rfl rfl) ?_; clear ha a; intro a ha; refine op_g ha rfl (g_assign rfl) ?_; clear ha a; intro a ha; refine wpList_nil ?_; replace ha := ha.sub (σ' := [(3, v353), (4, v359), (6, (.pointer (some ⟨b718, 0, none⟩))), (7, (.int .i64 1)), (11, va0_0), (12, (.int .i64 (a0_0.length : Int))), (13, (.int .i64 i361)), (18, (.int .i64 x688.1)), (19, (.bool (decide (x688.1 = 4))))]) ⟨rfl, rfl, rfl, rfl, rfl, rfl, rfl, rfl, rfl, trivial⟩; refine e_then ?_; refine c_cond (x688.1 = 4) ha rfl (decide_eq_true_iff) (fun hp734 => ?_) (fun hp734 => ?_)
        · replace hF := if_t hp734 hF
          refine wp_region_lit ?_; (iterate 2 refine op_g ha rfl (g_move rfl) ?_; clear ha a; intro a ha); refine op_g ha rfl (g_field0 st71_1 rfl) ?_; clear ha a; intro a ha; refine op_g ha rfl (g_load Try.isAgg2 rfl (hB731.cell rfl)) ?_; clear ha a; intro a ha; obtain ⟨x735, g736, gx737, hF⟩ := idx_some hF
          obtain ⟨p738, cs739, f740, hf741, hpb742, hat743, hr744, hi745⟩ := h356.at g736 gx737
          obtain ⟨rfl, hI746, rfl⟩ := hr744
          refine op_g ha rfl (hi745.gives sl93 rfl rfl) ?_; clear ha a; intro a ha; refine op_g ha rfl (g_load Try.isAgg3 rfl hat743.one) ?_; clear ha a; intro a ha; obtain ⟨hI747, hF⟩ := ck_some hF; refine op_g ha rfl (g_add rfl rfl hI747) ?_; clear ha a; intro a ha; refine op_g ha rfl (g_assign rfl) ?_; clear ha a; intro a ha; refine wpList_nil ?_; replace ha := ha.sub (σ' := [(3, v353), (4, v359), (7, (.int .i64 (1 + x735))), (11, va0_0), (12, (.int .i64 (a0_0.length : Int))), (13, (.int .i64 i361))]) ⟨rfl, rfl, rfl, rfl, rfl, rfl, trivial⟩; refine e_blk ?_; refine e_then ?_; refine wp_seq ?_
          refine wp_region_lit ?_; (iterate 2 refine op_g ha rfl (g_move rfl) ?_; clear ha a; intro a ha); refine op_g ha rfl (g_min rfl rfl) ?_; clear ha a; intro a ha
          refine o_lit1 (o := true) (y := min (1 + x735) 10000) Rp.int ha rfl sl93 rfl rfl rfl ⟨rfl, (in_min hI747 (show InI 10000 from by decide)), rfl⟩ ?_; clear ha a; intro v749 w750 h751 hx752 a ha
          obtain ⟨b754, hb754⟩ : ∃ b : Int, b = w730.heap.size := ⟨_, rfl⟩; rw [← hb754] at h751
          have q755 := zn_of hb754
          have q756 := Nq.new h350.fpb q755
          have q757 := Nq.madeO q755 h350.blt
          have q758 := Nq.new h356.fpb q755
          have q759 := Nq.madeO q755 h356.blt
          have q760 := Zn.upD q755 hE733
          replace h350 := h350.ext hx752
          replace h356 := h356.ext hx752
          have hE761 := Ext.trans hE733 hx752
          obtain ⟨hl762, hF⟩ := app_some hF
          refine o_append ha rfl sl93 rfl rfl rfl h356 h751.src (Nq.nil _) hl762 ?_; clear ha a; intro v763 w764 b765 h766 hc767 hb768 a ha
          replace h766 : Ow Rp.int 3 true w764 [] b765 v763 _ := h766
          have q770 := Nq.appY q363 h350.fpb hb768
          have q771 := Nq.appX q364 (Nq.nil _) hb768 h350.blt
          have q772 := Nq.appY q759 h751.fpb hb768
          have q773 := Nq.appX q758 (Nq.nil _) hb768 h751.blt
          have q774 := Zn.appD z357 hb768 hE761
          replace h350 := h350.nq hc767 q363
          replace h751 := h751.nq hc767 q759
          have hE775 := Ext.then hE761 hc767 (Zn.bl z357)
          refine op_g ha rfl (g_assign rfl) ?_; clear ha a; intro a ha; refine wpList_nil ?_; replace ha := ha.sub (σ' := [(3, v353), (4, v763), (7, (.int .i64 (1 + x735))), (11, va0_0), (12, (.int .i64 (a0_0.length : Int))), (13, (.int .i64 i361))]) ⟨rfl, rfl, rfl, rfl, rfl, rfl, trivial⟩; refine e_then ?_; refine wp_region_lit ?_; (iterate 2 refine op_g ha rfl (g_move rfl) ?_; clear ha a; intro a ha); refine op_g ha rfl (g_geq rfl rfl) ?_; clear ha a; intro a ha
          refine o_lit1 (o := true) (y := decide (10000 ≤ (1 + x735))) Rp.bool ha rfl sl78 rfl rfl rfl ⟨rfl, rfl⟩ ?_; clear ha a; intro v776 w777 h778 hx779 a ha
          obtain ⟨b781, hb781⟩ : ∃ b : Int, b = w764.heap.size := ⟨_, rfl⟩; rw [← hb781] at h778
          have q782 := zn_of hb781
          have q783 := Nq.new h350.fpb q782
          have q784 := Nq.madeO q782 h350.blt
          have q785 := Nq.new h766.fpb q782
          have q786 := Nq.madeO q782 h766.blt
          have q787 := Zn.upD q782 hE775
          replace h350 := h350.ext hx779
          replace h766 := h766.ext hx779
          have hE788 := Ext.trans hE775 hx779
          obtain ⟨hl789, hF⟩ := app_some hF
          refine o_append ha rfl sl78 rfl rfl rfl h350 h778.src (Nq.nil _) hl789 ?_; clear ha a; intro v790 w791 b792 h793 hc794 hb795 a ha
          replace h793 : Ow Rp.bool 4 true w791 [] b792 v790 _ := h793
          have q797 := Nq.appY q771 h766.fpb hb795
          have q798 := Nq.appX q770 (Nq.nil _) hb795 h766.blt
          have q799 := Nq.appY q784 h778.fpb hb795
          have q800 := Nq.appX q783 (Nq.nil _) hb795 h778.blt
          have q801 := Zn.appD z351 hb795 hE788
          replace h766 := h766.nq hc794 q771
          replace h778 := h778.nq hc794 q784
          have hE802 := Ext.then hE788 hc794 (Zn.bl z351)
          refine op_g ha rfl (g_assign rfl) ?_; clear ha a; intro a ha; refine wpList_nil ?_; replace ha := ha.sub (σ' := [(3, v790), (4, v763), (11, va0_0), (12, (.int .i64 (a0_0.length : Int))), (13, (.int .i64 i361))]) ⟨rfl, rfl, rfl, rfl, rfl, trivial⟩; refine e_blk ?_; refine e_then ?_; refine wp_region_lit ?_; obtain ⟨hI803, hF⟩ := ck_some hF; refine op_g ha rfl (g_add rfl rfl hI803) ?_; clear ha a; intro a ha; refine op_g ha rfl (g_move rfl) ?_; clear ha a; intro a ha; refine wpList_nil ?_; replace ha := ha.sub (σ' := [(3, v790), (4, v763), (11, va0_0), (12, (.int .i64 (a0_0.length : Int))), (13, (.int .i64 (i361 + 1)))]) ⟨rfl, rfl, rfl, rfl, rfl, trivial⟩
          refine e_lq ?_; obtain rfl := Option.some.inj hF
          exact ⟨_, Nat.lt_succ_self _, (l352 ++ ([decide (10000 ≤ (1 + x735))])), (l358 ++ ([min (1 + x735) 10000])), i361 + 1, v790, b792, v763, b765, ha.sub ⟨rfl, rfl, rfl, rfl, rfl, trivial⟩, hE802, hI803, h793, q801, h766, q774, q798, q797, hN684⟩
        replace hF := if_f hp734 hF; obtain ⟨o806, ho807, hK808⟩ := bnd_some hF
        have hF := ho807; clear ho807
        refine s_cut (fun a w => ∃ (t818 : Bool), Fr 56 [(3, v353), (4, v359), (6, (.pointer (some ⟨b718, 0, none⟩))), (7, (.int .i64 1)), (11, va0_0), (12, (.int .i64 (a0_0.length : Int))), (13, (.int .i64 i361)), (28, (.bool t818))] a ∧ Chg [] W w ∧ Ow Rp.bool 4 true w [] b354 v353 l352 ∧ Zn W b354 ∧ Ow Rp.int 3 true w [] b360 v359 l358 ∧ Zn W b360 ∧ Bx w b718 [(.int .i64 x688.1), (.int .i64 x688.2.1), (.int .i64 x688.2.2)] 71 ∧ Zn W (b718 : Int) ∧ Nq (bl b354 ++ []) b360 ∧ Nq (bl b354 ++ []) (b718 : Int) ∧ Nq (bl b360 ++ []) b354 ∧ Nq (bl b360 ++ []) (b718 : Int) ∧ Nq ([b718]) b354 ∧ Nq ([b718]) b360 ∧ o806 = .inl t818) ?_ ?_
        · skip
          refine wp_seq ?_; refine wp_region_lit ?_; refine op_g ha rfl (g_eql rfl rfl) ?_; clear ha a; intro a ha; refine op_g ha rfl (g_assign rfl) ?_; clear ha a; intro a ha; refine wpList_nil ?_; replace ha := ha.sub (σ' := [(3, v353), (4, v359), (6, (.pointer (some ⟨b718, 0, none⟩))), (7, (.int .i64 1)), (11, va0_0), (12, (.int .i64 (a0_0.length : Int))), (13, (.int .i64 i361)), (18, (.int .i64 x688.1)), (28, (.bool (decide (x688.1 = 5))))]) ⟨rfl, rfl, rfl, rfl, rfl, rfl, rfl, rfl, rfl, trivial⟩; refine e_then ?_; refine c_cond (x688.1 = 5) ha rfl (decide_eq_true_iff) (fun hp826 => ?_) (fun hp826 => ?_)
          · replace hF := if_t hp826 hF
            refine wp_skip ?_; refine e_sq ?_; obtain rfl := Option.some.inj hF
            exact ⟨decide (x688.1 = 5), ha.sub ⟨rfl, rfl, rfl, rfl, rfl, rfl, rfl, rfl, trivial⟩, hE733, h350, z351, h356, z357, hB731, q728, q363, q724, q364, q726, q725, q727, rfl⟩
          replace hF := if_f hp826 hF; refine wp_region_lit ?_; refine op_g ha rfl (g_eql rfl rfl) ?_; clear ha a; intro a ha; refine op_g ha rfl (g_assign rfl) ?_; clear ha a; intro a ha; refine wpList_nil ?_; replace ha := ha.sub (σ' := [(3, v353), (4, v359), (6, (.pointer (some ⟨b718, 0, none⟩))), (7, (.int .i64 1)), (11, va0_0), (12, (.int .i64 (a0_0.length : Int))), (13, (.int .i64 i361)), (28, (.bool (decide (x688.1 = 6))))]) ⟨rfl, rfl, rfl, rfl, rfl, rfl, rfl, rfl, trivial⟩; refine e_sq ?_; obtain rfl := Option.some.inj hF
          exact ⟨decide (x688.1 = 6), ha.sub ⟨rfl, rfl, rfl, rfl, rfl, rfl, rfl, rfl, trivial⟩, hE733, h350, z351, h356, z357, hB731, q728, q363, q724, q364, q726, q725, q727, rfl⟩
        rintro a w809 ⟨t818, ha, hE825, h811, z812, h814, z815, hB816, z817, q819, q820, q821, q822, q823, q824, rfl⟩
        have hF : F_impl_largeIn_k2 l352 l358 i361 x688 t818 = some _ := hK808; clear hK808; unfold F_impl_largeIn_k2 at hF
        refine c_cond (t818 = true) ha rfl (Iff.rfl) (fun hp827 => ?_) (fun hp827 => ?_)
        · replace hF := if_t hp827 hF
          refine d_quiet hmix (by kernel_rfl) ?_; (iterate 2 refine q_g ha rfl (g_move rfl) ?_; clear ha a; intro a ha); refine q_g ha rfl (g_field0 st71_1 rfl) ?_; clear ha a; intro a ha; refine q_g ha rfl (g_load Try.isAgg2 rfl (hB816.cell rfl)) ?_; clear ha a; intro a ha; obtain ⟨x828, g829, gx830, hF⟩ := idx_some hF
          obtain ⟨p831, cs832, f833, hf834, hpb835, hat836, hr837, hi838⟩ := h814.at g829 gx830
          obtain ⟨rfl, hI839, rfl⟩ := hr837
          refine q_g ha rfl (hi838.gives sl93 rfl rfl) ?_; clear ha a; intro a ha; refine q_g ha rfl (g_load Try.isAgg3 rfl hat836.one) ?_; clear ha a; intro a ha; refine q_g ha rfl (g_move rfl) ?_; clear ha a; intro a ha; refine q_g ha rfl (g_field0 st71_2 rfl) ?_; clear ha a; intro a ha; refine q_g ha rfl (g_load Try.isAgg2 rfl (hB816.cell rfl)) ?_; clear ha a; intro a ha; obtain ⟨x840, g841, gx842, hF⟩ := idx_some hF
          obtain ⟨p843, cs844, f845, hf846, hpb847, hat848, hr849, hi850⟩ := h814.at g841 gx842
          obtain ⟨rfl, hI851, rfl⟩ := hr849
          refine q_g ha rfl (hi850.gives sl93 rfl rfl) ?_; clear ha a; intro a ha; refine q_g ha rfl (g_load Try.isAgg3 rfl hat848.one) ?_; clear ha a; intro a ha; obtain ⟨hI852, hF⟩ := ck_some hF; refine q_g ha rfl (g_add rfl rfl hI852) ?_; clear ha a; intro a ha; obtain ⟨hI854, hF⟩ := ck_some hF; refine q_g ha rfl (g_add rfl rfl hI854) ?_; clear ha a; intro a ha; refine q_g ha rfl (g_assign rfl) ?_; clear ha a; intro a ha
          refine q_nil ?_; intro w856 hx857
          replace h811 := h811.ext hx857
          replace h814 := h814.ext hx857
          replace hB816 := hB816.ext hx857
          have hE858 := Ext.trans hE825 hx857
          replace ha := ha.sub (σ' := [(3, v353), (4, v359), (7, (.int .i64 (1 + (x828 + x840)))), (11, va0_0), (12, (.int .i64 (a0_0.length : Int))), (13, (.int .i64 i361))]) ⟨rfl, rfl, rfl, rfl, rfl, rfl, trivial⟩; refine e_blk ?_; refine e_then ?_; refine wp_seq ?_; refine wp_region_lit ?_; (iterate 2 refine op_g ha rfl (g_move rfl) ?_; clear ha a; intro a ha); refine op_g ha rfl (g_min rfl rfl) ?_; clear ha a; intro a ha
          refine o_lit1 (o := true) (y := min (1 + (x828 + x840)) 10000) Rp.int ha rfl sl93 rfl rfl rfl ⟨rfl, (in_min hI854 (show InI 10000 from by decide)), rfl⟩ ?_; clear ha a; intro v859 w860 h861 hx862 a ha
          obtain ⟨b864, hb864⟩ : ∃ b : Int, b = w856.heap.size := ⟨_, rfl⟩; rw [← hb864] at h861
          have q865 := zn_of hb864
          have q866 := Nq.new h811.fpb q865
          have q867 := Nq.madeO q865 h811.blt
          have q868 := Nq.new h814.fpb q865
          have q869 := Nq.madeO q865 h814.blt
          have q870 := Zn.upD q865 hE858
          replace h811 := h811.ext hx862
          replace h814 := h814.ext hx862
          have hE871 := Ext.trans hE858 hx862
          obtain ⟨hl872, hF⟩ := app_some hF
          refine o_append ha rfl sl93 rfl rfl rfl h814 h861.src (Nq.nil _) hl872 ?_; clear ha a; intro v873 w874 b875 h876 hc877 hb878 a ha
          replace h876 : Ow Rp.int 3 true w874 [] b875 v873 _ := h876
          have q880 := Nq.appY q819 h811.fpb hb878
          have q881 := Nq.appX q821 (Nq.nil _) hb878 h811.blt
          have q882 := Nq.appY q869 h861.fpb hb878
          have q883 := Nq.appX q868 (Nq.nil _) hb878 h861.blt
          have q884 := Zn.appD z815 hb878 hE871
          replace h811 := h811.nq hc877 q819
          replace h861 := h861.nq hc877 q869
          have hE885 := Ext.then hE871 hc877 (Zn.bl z815)
          refine op_g ha rfl (g_assign rfl) ?_; clear ha a; intro a ha; refine wpList_nil ?_; replace ha := ha.sub (σ' := [(3, v353), (4, v873), (7, (.int .i64 (1 + (x828 + x840)))), (11, va0_0), (12, (.int .i64 (a0_0.length : Int))), (13, (.int .i64 i361))]) ⟨rfl, rfl, rfl, rfl, rfl, rfl, trivial⟩; refine e_then ?_; refine wp_region_lit ?_; (iterate 2 refine op_g ha rfl (g_move rfl) ?_; clear ha a; intro a ha); refine op_g ha rfl (g_geq rfl rfl) ?_; clear ha a; intro a ha
          refine o_lit1 (o := true) (y := decide (10000 ≤ (1 + (x828 + x840)))) Rp.bool ha rfl sl78 rfl rfl rfl ⟨rfl, rfl⟩ ?_; clear ha a; intro v886 w887 h888 hx889 a ha
          obtain ⟨b891, hb891⟩ : ∃ b : Int, b = w874.heap.size := ⟨_, rfl⟩; rw [← hb891] at h888
          have q892 := zn_of hb891
          have q893 := Nq.new h811.fpb q892
          have q894 := Nq.madeO q892 h811.blt
          have q895 := Nq.new h876.fpb q892
          have q896 := Nq.madeO q892 h876.blt
          have q897 := Zn.upD q892 hE885
          replace h811 := h811.ext hx889
          replace h876 := h876.ext hx889
          have hE898 := Ext.trans hE885 hx889
          obtain ⟨hl899, hF⟩ := app_some hF
          refine o_append ha rfl sl78 rfl rfl rfl h811 h888.src (Nq.nil _) hl899 ?_; clear ha a; intro v900 w901 b902 h903 hc904 hb905 a ha
          replace h903 : Ow Rp.bool 4 true w901 [] b902 v900 _ := h903
          have q907 := Nq.appY q881 h876.fpb hb905
          have q908 := Nq.appX q880 (Nq.nil _) hb905 h876.blt
          have q909 := Nq.appY q894 h888.fpb hb905
          have q910 := Nq.appX q893 (Nq.nil _) hb905 h888.blt
          have q911 := Zn.appD z812 hb905 hE898
          replace h876 := h876.nq hc904 q881
          replace h888 := h888.nq hc904 q894
          have hE912 := Ext.then hE898 hc904 (Zn.bl z812)
          refine op_g ha rfl (g_assign rfl) ?_; clear ha a; intro a ha; refine wpList_nil ?_; replace ha := ha.sub (σ' := [(3, v900), (4, v873), (11, va0_0), (12, (.int .i64 (a0_0.length : Int))), (13, (.int .i64 i361))]) ⟨rfl, rfl, rfl, rfl, rfl, trivial⟩; refine e_blk ?_; refine e_then ?_; refine wp_region_lit ?_; obtain ⟨hI913, hF⟩ := ck_some hF; refine op_g ha rfl (g_add rfl rfl hI913) ?_; clear ha a; intro a ha; refine op_g ha rfl (g_move rfl) ?_; clear ha a; intro a ha; refine wpList_nil ?_; replace ha := ha.sub (σ' := [(3, v900), (4, v873), (11, va0_0), (12, (.int .i64 (a0_0.length : Int))), (13, (.int .i64 (i361 + 1)))]) ⟨rfl, rfl, rfl, rfl, rfl, trivial⟩
          refine e_lq ?_; obtain rfl := Option.some.inj hF
          exact ⟨_, Nat.lt_succ_self _, (l352 ++ ([decide (10000 ≤ (1 + (x828 + x840)))])), (l358 ++ ([min (1 + (x828 + x840)) 10000])), i361 + 1, v900, b902, v873, b875, ha.sub ⟨rfl, rfl, rfl, rfl, rfl, trivial⟩, hE912, hI913, h903, q911, h876, q884, q908, q907, hN684⟩
        replace hF := if_f hp827 hF; refine wp_skip ?_; refine e_blk ?_; refine e_then ?_; refine wp_seq ?_; refine wp_region_lit ?_; (iterate 2 refine op_g ha rfl (g_move rfl) ?_; clear ha a; intro a ha); refine op_g ha rfl (g_min rfl rfl) ?_; clear ha a; intro a ha
        refine o_lit1 (o := true) (y := min 1 10000) Rp.int ha rfl sl93 rfl rfl rfl ⟨rfl, (in_min (show InI 1 from by decide) (show InI 10000 from by decide)), rfl⟩ ?_; clear ha a; intro v915 w916 h917 hx918 a ha
        obtain ⟨b920, hb920⟩ : ∃ b : Int, b = w809.heap.size := ⟨_, rfl⟩; rw [← hb920] at h917
        have q921 := zn_of hb920
        have q922 := Nq.new h811.fpb q921
        have q923 := Nq.madeO q921 h811.blt
        have q924 := Nq.new h814.fpb q921
        have q925 := Nq.madeO q921 h814.blt
        have q926 := Nq.new hB816.fpb q921
        have q927 := Nq.madeO q921 hB816.bi
        have q928 := Zn.upD q921 hE825
        replace h811 := h811.ext hx918
        replace h814 := h814.ext hx918
        replace hB816 := hB816.ext hx918
        have hE929 := Ext.trans hE825 hx918
        obtain ⟨hl930, hF⟩ := app_some hF
        refine o_append ha rfl sl93 rfl rfl rfl h814 h917.src (Nq.nil _) hl930 ?_; clear ha a; intro v931 w932 b933 h934 hc935 hb936 a ha
        replace h934 : Ow Rp.int 3 true w932 [] b933 v931 _ := h934
        have q938 := Nq.appY q819 h811.fpb hb936
        have q939 := Nq.appX q821 (Nq.nil _) hb936 h811.blt
        have q940 := Nq.appY q824 hB816.fpb hb936
        have q941 := Nq.appX q822 (Nq.nil _) hb936 hB816.bi
        have q942 := Nq.appY q925 h917.fpb hb936
        have q943 := Nq.appX q924 (Nq.nil _) hb936 h917.blt
        have q944 := Zn.appD z815 hb936 hE929
        replace h811 := h811.nq hc935 q819
        replace hB816 := hB816.nq hc935 q824
        replace h917 := h917.nq hc935 q925
        have hE945 := Ext.then hE929 hc935 (Zn.bl z815)
        refine op_g ha rfl (g_assign rfl) ?_; clear ha a; intro a ha; refine wpList_nil ?_; replace ha := ha.sub (σ' := [(3, v353), (4, v931), (7, (.int .i64 1)), (11, va0_0), (12, (.int .i64 (a0_0.length : Int))), (13, (.int .i64 i361))]) ⟨rfl, rfl, rfl, rfl, rfl, rfl, trivial⟩; refine e_then ?_; refine wp_region_lit ?_; (iterate 2 refine op_g ha rfl (g_move rfl) ?_; clear ha a; intro a ha); refine op_g ha rfl (g_geq rfl rfl) ?_; clear ha a; intro a ha
        refine o_lit1 (o := true) (y := decide (10000 ≤ 1)) Rp.bool ha rfl sl78 rfl rfl rfl ⟨rfl, rfl⟩ ?_; clear ha a; intro v946 w947 h948 hx949 a ha
        obtain ⟨b951, hb951⟩ : ∃ b : Int, b = w932.heap.size := ⟨_, rfl⟩; rw [← hb951] at h948
        have q952 := zn_of hb951
        have q953 := Nq.new h811.fpb q952
        have q954 := Nq.madeO q952 h811.blt
        have q955 := Nq.new h934.fpb q952
        have q956 := Nq.madeO q952 h934.blt
        have q957 := Zn.upD q952 hE945
        replace h811 := h811.ext hx949
        replace h934 := h934.ext hx949
        have hE958 := Ext.trans hE945 hx949
        obtain ⟨hl959, hF⟩ := app_some hF
        refine o_append ha rfl sl78 rfl rfl rfl h811 h948.src (Nq.nil _) hl959 ?_; clear ha a; intro v960 w961 b962 h963 hc964 hb965 a ha
        replace h963 : Ow Rp.bool 4 true w961 [] b962 v960 _ := h963
        have q967 := Nq.appY q939 h934.fpb hb965
        have q968 := Nq.appX q938 (Nq.nil _) hb965 h934.blt
        have q969 := Nq.appY q954 h948.fpb hb965
        have q970 := Nq.appX q953 (Nq.nil _) hb965 h948.blt
        have q971 := Zn.appD z812 hb965 hE958
        replace h934 := h934.nq hc964 q939
        replace h948 := h948.nq hc964 q954
        have hE972 := Ext.then hE958 hc964 (Zn.bl z812)
        refine op_g ha rfl (g_assign rfl) ?_; clear ha a; intro a ha; refine wpList_nil ?_; replace ha := ha.sub (σ' := [(3, v960), (4, v931), (11, va0_0), (12, (.int .i64 (a0_0.length : Int))), (13, (.int .i64 i361))]) ⟨rfl, rfl, rfl, rfl, rfl, trivial⟩; refine e_blk ?_; refine e_then ?_; refine wp_region_lit ?_; obtain ⟨hI973, hF⟩ := ck_some hF; refine op_g ha rfl (g_add rfl rfl hI973) ?_; clear ha a; intro a ha; refine op_g ha rfl (g_move rfl) ?_; clear ha a; intro a ha; refine wpList_nil ?_; replace ha := ha.sub (σ' := [(3, v960), (4, v931), (11, va0_0), (12, (.int .i64 (a0_0.length : Int))), (13, (.int .i64 (i361 + 1)))]) ⟨rfl, rfl, rfl, rfl, rfl, trivial⟩
        refine e_lq ?_; obtain rfl := Option.some.inj hF
        exact ⟨_, Nat.lt_succ_self _, (l352 ++ ([decide (10000 ≤ 1)])), (l358 ++ ([min 1 10000])), i361 + 1, v960, b962, v931, b933, ha.sub ⟨rfl, rfl, rfl, rfl, rfl, trivial⟩, hE972, hI973, h963, q971, h934, q944, q968, q967, hN684⟩
      replace hF := if_f hp687 hF; refine wp_exit ?_; refine e_then_exit ?_; refine e_lq_eq ?_; obtain rfl := Option.some.inj hF
      exact ⟨l352, v353, b354, ha.sub ⟨rfl, trivial⟩, hE365, h350, z351, (LK_inr hN684).symm⟩
  rintro a w671 ⟨l675, v676, b677, ha, hE683, h673, z674, rfl⟩
  have hF : F_impl_largeIn_k3 l675 = some _ := hK680; clear hK680; unfold F_impl_largeIn_k3 at hF
  refine e_then ?_; refine wp_seq ?_; refine wp_region_lit ?_; refine op_g ha rfl (g_move rfl) ?_; clear ha a; intro a ha; refine op_g ha rfl (g_assign rfl) ?_; clear ha a; intro a ha; refine wpList_nil ?_; replace ha := ha.sub (σ' := [(2, v676)]) ⟨rfl, trivial⟩; refine e_then ?_; refine wp_ret ?_; obtain rfl := Option.some.inj hF
  exact f_ret1 ha rfl rfl ⟨_, h673, z674, hE683⟩
set_option maxHeartbeats 2000000 in
theorem W_impl_newJudge {W : World} {va0_0 : Value} {fa0_0 : List Nat} {a0_0 : (List (List Int))} (ha0_0 : Ro (Rp.sl 2 Rp.int) W fa0_0 va0_0 a0_0) {va1_0 : Value} {fa1_0 : List Nat} {a1_0 : (List (Int × (Int × Int)))} (ha1_0 : Ro (Rp.prod Rp.int (Rp.prod Rp.int Rp.int)) W fa1_0 va1_0 a1_0) {r : (Bool × JD)} (hF : F_impl_newJudge a0_0 a1_0 = some r) :
    Calls Try.prog 24 [.agg #[va0_0], .agg #[va1_0]].toArray W (Ret fun u w' => ∃ (fs_u : List Nat) (b_u : Int), Jn Try.prog 82 97 w' fs_u b_u u r ∧ Zn W b_u ∧ Pv (fa0_0 ++ fa1_0) W.heap.size fs_u ∧ Ext W w') := by
  refine f_enter Try.func24 rfl Try.ntmps24 rfl ?_
  intro a ha
  replace ha : Fr 23 [(0, (.agg #[va0_0])), (1, (.agg #[va1_0]))] a := ha
  have hE : Chg [] W W := Chg.refl _ _
  unfold F_impl_newJudge at hF
  refine wp_seq ?_; refine wp_region_lit ?_
  refine o_box ha rfl rfl rfl ?_; clear ha a; intro b1 w2 hB3 hx4 hlo5 a ha
  have q6 := Zn.one hlo5
  have q7 := Zn.upD q6 hE
  have hE8 := Ext.trans hE hx4
  refine o_box ha rfl rfl rfl ?_; clear ha a; intro b9 w10 hB11 hx12 hlo13 a ha
  have q14 := Zn.one hlo13
  have q15 := Nq.new hB3.fpb q14
  have q16 := Nq.made1 hlo13 hB3.bi
  have q17 := Zn.upD q14 hE8
  replace hB3 := hB3.ext hx12
  have hE18 := Ext.trans hE8 hx12
  refine op_g ha rfl (g_assign rfl) ?_; clear ha a; intro a ha; refine wpList_nil ?_; replace ha := ha.sub (σ' := [(2, (.pointer (some ⟨b1, 0, none⟩))), (3, (.pointer (some ⟨b9, 0, none⟩)))]) ⟨rfl, rfl, trivial⟩; refine e_then ?_; refine wp_seq ?_; refine wp_seq ?_; refine wp_region_lit ?_; refine op_g ha rfl (g_loadA (cs := [va0_0]) Try.isAgg31 Try.sizeOf31 rfl (by simp) hB3.all) ?_; clear ha a; intro a ha; obtain ⟨x19, hc20, hF⟩ := cal_some hF
  refine o_call ha rfl rfl Try.call39 (W_impl_isSmall (ha0_0.ext hE18) hc20) ?_; clear ha a; rintro v21 w22 ⟨rfl, hx23⟩ a ha
  replace hB3 := hB3.ext hx23
  replace hB11 := hB11.ext hx23
  have hE24 := Ext.trans hE18 hx23
  refine op_g ha rfl (g_not rfl) ?_; clear ha a; intro a ha; refine op_g ha rfl (g_move rfl) ?_; clear ha a; intro a ha
  by_cases hp25 : ¬ (x19 = true)
  · replace hF := if_t hp25 hF
    rw [show (!x19) = true from (n_iff (Iff.rfl)).2 hp25] at ha
    (iterate 3 refine op_unwant ha rfl (yields ha rfl rfl) rfl ?_; clear ha a; intro a ha); refine op_g ha rfl (g_pick rfl rfl) ?_; clear ha a; intro a ha; refine wpList_nil ?_; replace ha := ha.sub (σ' := [(2, (.pointer (some ⟨b1, 0, none⟩))), (3, (.pointer (some ⟨b9, 0, none⟩))), (12, (.bool true))]) ⟨rfl, rfl, rfl, trivial⟩; refine e_then ?_; refine c_true ha rfl ?_; refine wp_seq ?_; refine wp_region_lit ?_; refine op_g ha rfl (g_assign rfl) ?_; clear ha a; intro a ha; refine wpList_nil ?_; replace ha := ha.sub (σ' := [(4, (.pointer none))]) ⟨rfl, trivial⟩; refine e_then ?_; refine wp_ret ?_
    refine e_then_ret ?_; obtain rfl := Option.some.inj hF
    exact f_ret1 ha rfl rfl ⟨[], -1, (.inl ⟨rfl, rfl⟩), (.inl (by decide)), Pv.nil, hE24⟩
  replace hF := if_f hp25 hF
  rw [show (!x19) = false from b_false (n_iff (Iff.rfl)) hp25] at ha
  refine op_want (yields ha rfl rfl) ?_; refine op_g ha rfl (g_loadA (cs := [va1_0]) Try.isAgg35 Try.sizeOf35 rfl (by simp) hB11.all) ?_; clear ha a; intro a ha; refine op_want (yields ha rfl rfl) ?_; obtain ⟨x26, hc27, hF⟩ := cal_some hF
  refine o_call ha rfl rfl Try.call40 (W_impl_FormulaOk (ha1_0.ext hE24) hc27) ?_; clear ha a; rintro v28 w29 ⟨rfl, hx30⟩ a ha
  replace hB3 := hB3.ext hx30
  replace hB11 := hB11.ext hx30
  have hE31 := Ext.trans hE24 hx30
  refine op_want (yields ha rfl rfl) ?_; refine op_g ha rfl (g_not rfl) ?_; clear ha a; intro a ha; refine op_g ha rfl (g_pick rfl rfl) ?_; clear ha a; intro a ha; refine wpList_nil ?_; replace ha := ha.sub (σ' := [(2, (.pointer (some ⟨b1, 0, none⟩))), (3, (.pointer (some ⟨b9, 0, none⟩))), (12, (.bool (!x26)))]) ⟨rfl, rfl, rfl, trivial⟩; refine e_then ?_; refine c_cond (¬ (x26 = true)) ha rfl (n_iff (Iff.rfl)) (fun hp32 => ?_) (fun hp32 => ?_)
  · replace hF := if_t hp32 hF
    refine wp_seq ?_; refine wp_region_lit ?_; refine op_g ha rfl (g_assign rfl) ?_; clear ha a; intro a ha; refine wpList_nil ?_; replace ha := ha.sub (σ' := [(4, (.pointer none))]) ⟨rfl, trivial⟩; refine e_then ?_; refine wp_ret ?_; refine e_then_ret ?_; obtain rfl := Option.some.inj hF
    exact f_ret1 ha rfl rfl ⟨[], -1, (.inl ⟨rfl, rfl⟩), (.inl (by decide)), Pv.nil, hE31⟩
  replace hF := if_f hp32 hF; refine wp_skip ?_; refine e_then ?_; refine wp_seq ?_; refine d_region [0, 1, 2, 3, 4, 5, 6, 7, 8, 9, 10] hmix ?_; refine u_g 0 rfl (by kernel_rfl) (want0 _) ha rfl (g_loadA (cs := [va0_0]) Try.isAgg31 Try.sizeOf31 rfl (by simp) hB3.all) ?_; clear ha a; intro a ha; refine u_g 2 rfl (by kernel_rfl) (want0 _) ha rfl (g_loadA (cs := [va1_0]) Try.isAgg35 Try.sizeOf35 rfl (by simp) hB11.all) ?_; clear ha a; intro a ha; refine u_g 3 rfl (by kernel_rfl) (want0 _) ha rfl (g_loadA (cs := [va1_0]) Try.isAgg35 Try.sizeOf35 rfl (by simp) hB11.all) ?_; clear ha a; intro a ha; refine u_g 5 rfl (by kernel_rfl) (want0 _) ha rfl (g_loadA (cs := [va1_0]) Try.isAgg35 Try.sizeOf35 rfl (by simp) hB11.all) ?_; clear ha a; intro a ha
  obtain ⟨xqr1o1_1, hcqr1o1_1, hF⟩ := cal_some hF; obtain ⟨xqr1o4_1, hcqr1o4_1, hF⟩ := cal_some hF; obtain ⟨xqr1o6_1, hcqr1o6_1, hF⟩ := cal_some hF; refine u_many [1, 7] (by kernel_rfl) rfl fun wqr1_1 hxqr1_1 => ⟨⟨_, rfl, ?_⟩, ⟨_, rfl, ?_⟩, trivial⟩
  · skip
    replace hB3 := hB3.ext hxqr1_1
    replace hB11 := hB11.ext hxqr1_1
    have hEqr1o1_1 := Ext.trans hE31 hxqr1_1
    refine o_call ha rfl rfl Try.call41 (W_impl_netsOf (ha0_0.ext hEqr1o1_1) hcqr1o1_1) ?_; clear ha a; rintro vqr1o1_1 wqr1o1_1 ⟨bqr1o1_1, hqr1o1_1, zqr1o1_1, hxqr1o1_1⟩ a ha
    have qqr1o1_1 := Nq.new hB3.fpb zqr1o1_1
    have qqr1o1_2 := Nq.madeO zqr1o1_1 hB3.bi
    have qqr1o1_3 := Nq.new hB11.fpb zqr1o1_1
    have qqr1o1_4 := Nq.madeO zqr1o1_1 hB11.bi
    replace hB3 := hB3.ext hxqr1o1_1
    replace hB11 := hB11.ext hxqr1o1_1
    have hEqr1o1_2 := Ext.trans hEqr1o1_1 hxqr1o1_1
    have qqr1o1_5 := Zn.upD zqr1o1_1 hEqr1o1_1
    refine wpList_nil (e_sq ?_)
    refine ⟨fun _ => hxqr1o1_1, ?_⟩
    refine u_many [4, 7] (by kernel_rfl) rfl fun wqr1o1_2 hxqr1o1_2 => ⟨⟨_, rfl, ?_⟩, ⟨_, rfl, ?_⟩, trivial⟩
    · skip
      replace hB3 := hB3.ext hxqr1o1_2
      replace hB11 := hB11.ext hxqr1o1_2
      replace hqr1o1_1 := hqr1o1_1.ext hxqr1o1_2
      have hEqr1o4_1 := Ext.trans hEqr1o1_2 hxqr1o1_2
      refine o_call ha rfl rfl Try.call42 (W_impl_freeIn (ha1_0.ext hEqr1o4_1) hcqr1o4_1) ?_; clear ha a; rintro vqr1o4_1 wqr1o4_1 ⟨bqr1o4_1, hqr1o4_1, zqr1o4_1, hxqr1o4_1⟩ a ha
      have qqr1o4_1 := Nq.new hB3.fpb zqr1o4_1
      have qqr1o4_2 := Nq.madeO zqr1o4_1 hB3.bi
      have qqr1o4_3 := Nq.new hB11.fpb zqr1o4_1
      have qqr1o4_4 := Nq.madeO zqr1o4_1 hB11.bi
      have qqr1o4_5 := Nq.new hqr1o1_1.fpb zqr1o4_1
      have qqr1o4_6 := Nq.madeO zqr1o4_1 hqr1o1_1.blt
      replace hB3 := hB3.ext hxqr1o4_1
      replace hB11 := hB11.ext hxqr1o4_1
      replace hqr1o1_1 := hqr1o1_1.ext hxqr1o4_1
      have hEqr1o4_2 := Ext.trans hEqr1o4_1 hxqr1o4_1
      have qqr1o4_7 := Zn.upD zqr1o4_1 hEqr1o4_1
      refine wpList_nil (e_sq ?_)
      refine ⟨fun _ => hxqr1o4_1, ?_⟩
      refine u_many [6, 7] (by kernel_rfl) rfl fun wqr1o4_2 hxqr1o4_2 => ⟨⟨_, rfl, ?_⟩, ⟨_, rfl, ?_⟩, trivial⟩
      · skip
        replace hB3 := hB3.ext hxqr1o4_2
        replace hB11 := hB11.ext hxqr1o4_2
        replace hqr1o1_1 := hqr1o1_1.ext hxqr1o4_2
        replace hqr1o4_1 := hqr1o4_1.ext hxqr1o4_2
        have hEqr1o6_1 := Ext.trans hEqr1o4_2 hxqr1o4_2
        refine o_call ha rfl rfl Try.call43 (W_impl_largeIn (ha1_0.ext hEqr1o6_1) hcqr1o6_1) ?_; clear ha a; rintro vqr1o6_1 wqr1o6_1 ⟨bqr1o6_1, hqr1o6_1, zqr1o6_1, hxqr1o6_1⟩ a ha
        have qqr1o6_1 := Nq.new hB3.fpb zqr1o6_1
        have qqr1o6_2 := Nq.madeO zqr1o6_1 hB3.bi
        have qqr1o6_3 := Nq.new hB11.fpb zqr1o6_1
        have qqr1o6_4 := Nq.madeO zqr1o6_1 hB11.bi
        have qqr1o6_5 := Nq.new hqr1o1_1.fpb zqr1o6_1
        have qqr1o6_6 := Nq.madeO zqr1o6_1 hqr1o1_1.blt
        have qqr1o6_7 := Nq.new hqr1o4_1.fpb zqr1o6_1
        have qqr1o6_8 := Nq.madeO zqr1o6_1 hqr1o4_1.blt
        replace hB3 := hB3.ext hxqr1o6_1
        replace hB11 := hB11.ext hxqr1o6_1
        replace hqr1o1_1 := hqr1o1_1.ext hxqr1o6_1
        replace hqr1o4_1 := hqr1o4_1.ext hxqr1o6_1
        have hEqr1o6_2 := Ext.trans hEqr1o6_1 hxqr1o6_1
        have qqr1o6_9 := Zn.upD zqr1o6_1 hEqr1o6_1
        refine wpList_nil (e_sq ?_)
        refine ⟨fun _ => hxqr1o6_1, ?_⟩
        refine u_only 7 rfl (by kernel_rfl) ?_; intro wqr1o7_1 hxqr1o7_1
        replace hB3 := hB3.ext hxqr1o7_1
        replace hB11 := hB11.ext hxqr1o7_1
        replace hqr1o1_1 := hqr1o1_1.ext hxqr1o7_1
        replace hqr1o4_1 := hqr1o4_1.ext hxqr1o7_1
        replace hqr1o6_1 := hqr1o6_1.ext hxqr1o7_1
        have hEqr1o7_1 := Ext.trans hEqr1o6_2 hxqr1o7_1
        refine o_makeMap ha rfl 97 (fun _ _ => False) ?_; clear ha a; intro mqr1o7_1 wqr1o7_2 hMqr1o7_1 hxqr1o7_2 hloqr1o7_1 a ha
        have qqr1o7_1 := Zn.one hloqr1o7_1
        have qqr1o7_2 := Nq.new hB3.fpb qqr1o7_1
        have qqr1o7_3 := Nq.made1 hloqr1o7_1 hB3.bi
        have qqr1o7_4 := Nq.new hB11.fpb qqr1o7_1
        have qqr1o7_5 := Nq.made1 hloqr1o7_1 hB11.bi
        have qqr1o7_6 := Nq.new hqr1o1_1.fpb qqr1o7_1
        have qqr1o7_7 := Nq.made1 hloqr1o7_1 hqr1o1_1.blt
        have qqr1o7_8 := Nq.new hqr1o4_1.fpb qqr1o7_1
        have qqr1o7_9 := Nq.made1 hloqr1o7_1 hqr1o4_1.blt
        have qqr1o7_10 := Nq.new hqr1o6_1.fpb qqr1o7_1
        have qqr1o7_11 := Nq.made1 hloqr1o7_1 hqr1o6_1.blt
        have qqr1o7_12 := Zn.upD qqr1o7_1 hEqr1o7_1
        replace hB3 := hB3.ext hxqr1o7_2
        replace hB11 := hB11.ext hxqr1o7_2
        replace hqr1o1_1 := hqr1o1_1.ext hxqr1o7_2
        replace hqr1o4_1 := hqr1o4_1.ext hxqr1o7_2
        replace hqr1o6_1 := hqr1o6_1.ext hxqr1o7_2
        have hEqr1o7_2 := Ext.trans hEqr1o7_1 hxqr1o7_2
        refine wpList_nil (e_sq ?_)
        refine ⟨fun _ => hxqr1o7_2, ?_⟩
        refine u_g 8 rfl (by kernel_rfl) (want0 _) ha rfl (g_build (vs := [(0, vqr1o1_1), (1, (.agg #[va1_0])), (2, vqr1o4_1), (3, vqr1o6_1), (4, (.map (some mqr1o7_1)))]) (cells := #[vqr1o1_1, va1_0, vqr1o4_1, vqr1o6_1, (.map (some mqr1o7_1))]) rfl (by obtain ⟨_, _, rfl⟩ := hqr1o1_1.shape; obtain ⟨_, _, rfl⟩ := ha1_0.shape; obtain ⟨_, _, rfl⟩ := hqr1o4_1.shape; obtain ⟨_, _, rfl⟩ := hqr1o6_1.shape; rfl)) ?_; clear ha a; intro a ha
        refine u_only 9 rfl (by kernel_rfl) ?_; intro wqr1o9_1 hxqr1o9_1
        replace hB3 := hB3.ext hxqr1o9_1
        replace hB11 := hB11.ext hxqr1o9_1
        replace hqr1o1_1 := hqr1o1_1.ext hxqr1o9_1
        replace hqr1o4_1 := hqr1o4_1.ext hxqr1o9_1
        replace hqr1o6_1 := hqr1o6_1.ext hxqr1o9_1
        replace hMqr1o7_1 := hMqr1o7_1.ext hxqr1o9_1
        have hEqr1o9_1 := Ext.trans hEqr1o7_2 hxqr1o9_1
        refine o_box ha rfl rfl rfl ?_; clear ha a; intro bqr1o9_1 wqr1o9_2 hBqr1o9_1 hxqr1o9_2 hloqr1o9_1 a ha
        have qqr1o9_1 := Zn.one hloqr1o9_1
        have qqr1o9_2 := Nq.new hB3.fpb qqr1o9_1
        have qqr1o9_3 := Nq.made1 hloqr1o9_1 hB3.bi
        have qqr1o9_4 := Nq.new hB11.fpb qqr1o9_1
        have qqr1o9_5 := Nq.made1 hloqr1o9_1 hB11.bi
        have qqr1o9_6 := Nq.new hqr1o1_1.fpb qqr1o9_1
        have qqr1o9_7 := Nq.made1 hloqr1o9_1 hqr1o1_1.blt
        have qqr1o9_8 := Nq.new hqr1o4_1.fpb qqr1o9_1
        have qqr1o9_9 := Nq.made1 hloqr1o9_1 hqr1o4_1.blt
        have qqr1o9_10 := Nq.new hqr1o6_1.fpb qqr1o9_1
        have qqr1o9_11 := Nq.made1 hloqr1o9_1 hqr1o6_1.blt
        have qqr1o9_12 := Nq.new hMqr1o7_1.fpb qqr1o9_1
        have qqr1o9_13 := Nq.made1 hloqr1o9_1 hMqr1o7_1.bi
        have qqr1o9_14 := Zn.upD qqr1o9_1 hEqr1o9_1
        replace hB3 := hB3.ext hxqr1o9_2
        replace hB11 := hB11.ext hxqr1o9_2
        replace hqr1o1_1 := hqr1o1_1.ext hxqr1o9_2
        replace hqr1o4_1 := hqr1o4_1.ext hxqr1o9_2
        replace hqr1o6_1 := hqr1o6_1.ext hxqr1o9_2
        replace hMqr1o7_1 := hMqr1o7_1.ext hxqr1o9_2
        have hEqr1o9_2 := Ext.trans hEqr1o9_1 hxqr1o9_2
        refine wpList_nil (e_sq ?_)
        refine ⟨fun _ => hxqr1o9_2, ?_⟩
        refine u_g 10 rfl (by kernel_rfl) (want0 _) ha rfl (g_assign rfl) ?_; clear ha a; intro a ha
        refine u_done (by kernel_rfl) ?_; intro w33 hx34
        replace hB3 := hB3.ext hx34
        replace hB11 := hB11.ext hx34
        replace hqr1o1_1 := hqr1o1_1.ext hx34
        replace hqr1o4_1 := hqr1o4_1.ext hx34
        replace hqr1o6_1 := hqr1o6_1.ext hx34
        replace hMqr1o7_1 := hMqr1o7_1.ext hx34
        replace hBqr1o9_1 := hBqr1o9_1.ext hx34
        have hE35 := Ext.trans hEqr1o9_2 hx34
        replace ha := ha.sub (σ' := [(4, (.pointer (some ⟨bqr1o9_1, 0, none⟩)))]) ⟨rfl, trivial⟩; refine e_then ?_; refine wp_ret ?_
        obtain ⟨fp36, hro37, hs38⟩ := hqr1o1_1.roF
        obtain ⟨fp39, hro40, hs41⟩ := hqr1o4_1.roF
        obtain ⟨fp42, hro43, hs44⟩ := hqr1o6_1.roF
        have hJ45 := Jq.make hBqr1o9_1 hro37 (ha1_0.ext hE35) hro40 hro43 hMqr1o7_1 (jq_apart qqr1o9_13 (Nq.mono qqr1o7_6 hs38) (Nq.new ha1_0.bnd qqr1o7_12) (Nq.mono qqr1o7_8 hs41) (Nq.mono qqr1o7_10 hs44))
        obtain rfl := Option.some.inj hF
        exact f_ret1 ha rfl rfl ⟨_, _, (.inr ⟨rfl, hJ45⟩), qqr1o7_12, (pv_cons qqr1o9_14 (Pv.mono (Pv.own qqr1o1_5 (zf_nil _)) hs38) (Pv.par (fun _ h => List.mem_append_right _ h)) (Pv.mono (Pv.own qqr1o4_7 (zf_nil _)) hs41) (Pv.mono (Pv.own qqr1o6_9 (zf_nil _)) hs44)), hE35⟩
      skip
      replace hB3 := hB3.ext hxqr1o4_2
      replace hB11 := hB11.ext hxqr1o4_2
      replace hqr1o1_1 := hqr1o1_1.ext hxqr1o4_2
      replace hqr1o4_1 := hqr1o4_1.ext hxqr1o4_2
      have hEqr1o7_1 := Ext.trans hEqr1o4_2 hxqr1o4_2
      refine o_makeMap ha rfl 97 (fun _ _ => False) ?_; clear ha a; intro mqr1o7_1 wqr1o7_1 hMqr1o7_1 hxqr1o7_1 hloqr1o7_1 a ha
      have qqr1o7_1 := Zn.one hloqr1o7_1
      have qqr1o7_2 := Nq.new hB3.fpb qqr1o7_1
      have qqr1o7_3 := Nq.made1 hloqr1o7_1 hB3.bi
      have qqr1o7_4 := Nq.new hB11.fpb qqr1o7_1
      have qqr1o7_5 := Nq.made1 hloqr1o7_1 hB11.bi
      have qqr1o7_6 := Nq.new hqr1o1_1.fpb qqr1o7_1
      have qqr1o7_7 := Nq.made1 hloqr1o7_1 hqr1o1_1.blt
      have qqr1o7_8 := Nq.new hqr1o4_1.fpb qqr1o7_1
      have qqr1o7_9 := Nq.made1 hloqr1o7_1 hqr1o4_1.blt
      have qqr1o7_10 := Zn.upD qqr1o7_1 hEqr1o7_1
      replace hB3 := hB3.ext hxqr1o7_1
      replace hB11 := hB11.ext hxqr1o7_1
      replace hqr1o1_1 := hqr1o1_1.ext hxqr1o7_1
      replace hqr1o4_1 := hqr1o4_1.ext hxqr1o7_1
      have hEqr1o7_2 := Ext.trans hEqr1o7_1 hxqr1o7_1
      refine wpList_nil (e_sq ?_)
      refine ⟨fun _ => hxqr1o7_1, ?_⟩
      refine u_only 6 rfl (by kernel_rfl) ?_; intro wqr1o6_1 hxqr1o6_1
      replace hB3 := hB3.ext hxqr1o6_1
      replace hB11 := hB11.ext hxqr1o6_1
      replace hqr1o1_1 := hqr1o1_1.ext hxqr1o6_1
      replace hqr1o4_1 := hqr1o4_1.ext hxqr1o6_1
      replace hMqr1o7_1 := hMqr1o7_1.ext hxqr1o6_1
      have hEqr1o6_1 := Ext.trans hEqr1o7_2 hxqr1o6_1
      refine o_call ha rfl rfl Try.call43 (W_impl_largeIn (ha1_0.ext hEqr1o6_1) hcqr1o6_1) ?_; clear ha a; rintro vqr1o6_1 wqr1o6_2 ⟨bqr1o6_1, hqr1o6_1, zqr1o6_1, hxqr1o6_2⟩ a ha
      have qqr1o6_1 := Nq.new hB3.fpb zqr1o6_1
      have qqr1o6_2 := Nq.madeO zqr1o6_1 hB3.bi
      have qqr1o6_3 := Nq.new hB11.fpb zqr1o6_1
      have qqr1o6_4 := Nq.madeO zqr1o6_1 hB11.bi
      have qqr1o6_5 := Nq.new hqr1o1_1.fpb zqr1o6_1
      have qqr1o6_6 := Nq.madeO zqr1o6_1 hqr1o1_1.blt
      have qqr1o6_7 := Nq.new hqr1o4_1.fpb zqr1o6_1
      have qqr1o6_8 := Nq.madeO zqr1o6_1 hqr1o4_1.blt
      have qqr1o6_9 := Nq.new hMqr1o7_1.fpb zqr1o6_1
      have qqr1o6_10 := Nq.madeO zqr1o6_1 hMqr1o7_1.bi
      replace hB3 := hB3.ext hxqr1o6_2
      replace hB11 := hB11.ext hxqr1o6_2
      replace hqr1o1_1 := hqr1o1_1.ext hxqr1o6_2
      replace hqr1o4_1 := hqr1o4_1.ext hxqr1o6_2
      replace hMqr1o7_1 := hMqr1o7_1.ext hxqr1o6_2
      have hEqr1o6_2 := Ext.trans hEqr1o6_1 hxqr1o6_2
      have qqr1o6_11 := Zn.upD zqr1o6_1 hEqr1o6_1
      refine wpList_nil (e_sq ?_)
      refine ⟨fun _ => hxqr1o6_2, ?_⟩
      refine u_g 8 rfl (by kernel_rfl) (want0 _) ha rfl (g_build (vs := [(0, vqr1o1_1), (1, (.agg #[va1_0])), (2, vqr1o4_1), (3, vqr1o6_1), (4, (.map (some mqr1o7_1)))]) (cells := #[vqr1o1_1, va1_0, vqr1o4_1, vqr1o6_1, (.map (some mqr1o7_1))]) rfl (by obtain ⟨_, _, rfl⟩ := hqr1o1_1.shape; obtain ⟨_, _, rfl⟩ := ha1_0.shape; obtain ⟨_, _, rfl⟩ := hqr1o4_1.shape; obtain ⟨_, _, rfl⟩ := hqr1o6_1.shape; rfl)) ?_; clear ha a; intro a ha
      refine u_only 9 rfl (by kernel_rfl) ?_; intro wqr1o9_1 hxqr1o9_1
      replace hB3 := hB3.ext hxqr1o9_1
      replace hB11 := hB11.ext hxqr1o9_1
      replace hqr1o1_1 := hqr1o1_1.ext hxqr1o9_1
      replace hqr1o4_1 := hqr1o4_1.ext hxqr1o9_1
      replace hMqr1o7_1 := hMqr1o7_1.ext hxqr1o9_1
      replace hqr1o6_1 := hqr1o6_1.ext hxqr1o9_1
      have hEqr1o9_1 := Ext.trans hEqr1o6_2 hxqr1o9_1
      refine o_box ha rfl rfl rfl ?_; clear ha a; intro bqr1o9_1 wqr1o9_2 hBqr1o9_1 hxqr1o9_2 hloqr1o9_1 a ha
      have qqr1o9_1 := Zn.one hloqr1o9_1
      have qqr1o9_2 := Nq.new hB3.fpb qqr1o9_1
      have qqr1o9_3 := Nq.made1 hloqr1o9_1 hB3.bi
      have qqr1o9_4 := Nq.new hB11.fpb qqr1o9_1
      have qqr1o9_5 := Nq.made1 hloqr1o9_1 hB11.bi
      have qqr1o9_6 := Nq.new hqr1o1_1.fpb qqr1o9_1
      have qqr1o9_7 := Nq.made1 hloqr1o9_1 hqr1o1_1.blt
      have qqr1o9_8 := Nq.new hqr1o4_1.fpb qqr1o9_1
      have qqr1o9_9 := Nq.made1 hloqr1o9_1 hqr1o4_1.blt
      have qqr1o9_10 := Nq.new hMqr1o7_1.fpb qqr1o9_1
      have qqr1o9_11 := Nq.made1 hloqr1o9_1 hMqr1o7_1.bi
      have qqr1o9_12 := Nq.new hqr1o6_1.fpb qqr1o9_1
      have qqr1o9_13 := Nq.made1 hloqr1o9_1 hqr1o6_1.blt
      have qqr1o9_14 := Zn.upD qqr1o9_1 hEqr1o9_1
      replace hB3 := hB3.ext hxqr1o9_2
      replace hB11 := hB11.ext hxqr1o9_2
      replace hqr1o1_1 := hqr1o1_1.ext hxqr1o9_2
      replace hqr1o4_1 := hqr1o4_1.ext hxqr1o9_2
      replace hMqr1o7_1 := hMqr1o7_1.ext hxqr1o9_2
      replace hqr1o6_1 := hqr1o6_1.ext hxqr1o9_2
      have hEqr1o9_2 := Ext.trans hEqr1o9_1 hxqr1o9_2
      refine wpList_nil (e_sq ?_)
      refine ⟨fun _ => hxqr1o9_2, ?_⟩
      refine u_g 10 rfl (by kernel_rfl) (want0 _) ha rfl (g_assign rfl) ?_; clear ha a; intro a ha
      refine u_done (by kernel_rfl) ?_; intro w33 hx34
      replace hB3 := hB3.ext hx34
      replace hB11 := hB11.ext hx34
      replace hqr1o1_1 := hqr1o1_1.ext hx34
      replace hqr1o4_1 := hqr1o4_1.ext hx34
      replace hMqr1o7_1 := hMqr1o7_1.ext hx34
      replace hqr1o6_1 := hqr1o6_1.ext hx34
      replace hBqr1o9_1 := hBqr1o9_1.ext hx34
      have hE35 := Ext.trans hEqr1o9_2 hx34
      replace ha := ha.sub (σ' := [(4, (.pointer (some ⟨bqr1o9_1, 0, none⟩)))]) ⟨rfl, trivial⟩; refine e_then ?_; refine wp_ret ?_
      obtain ⟨fp36, hro37, hs38⟩ := hqr1o1_1.roF
      obtain ⟨fp39, hro40, hs41⟩ := hqr1o4_1.roF
      obtain ⟨fp42, hro43, hs44⟩ := hqr1o6_1.roF
      have hJ45 := Jq.make hBqr1o9_1 hro37 (ha1_0.ext hE35) hro40 hro43 hMqr1o7_1 (jq_apart qqr1o9_11 (Nq.mono qqr1o7_6 hs38) (Nq.new ha1_0.bnd qqr1o7_10) (Nq.mono qqr1o7_8 hs41) (Nq.mono qqr1o6_10 hs44))
      obtain rfl := Option.some.inj hF
      exact f_ret1 ha rfl rfl ⟨_, _, (.inr ⟨rfl, hJ45⟩), qqr1o7_10, (pv_cons qqr1o9_14 (Pv.mono (Pv.own qqr1o1_5 (zf_nil _)) hs38) (Pv.par (fun _ h => List.mem_append_right _ h)) (Pv.mono (Pv.own qqr1o4_7 (zf_nil _)) hs41) (Pv.mono (Pv.own qqr1o6_11 (zf_nil _)) hs44)), hE35⟩
    skip
    replace hB3 := hB3.ext hxqr1o1_2
    replace hB11 := hB11.ext hxqr1o1_2
    replace hqr1o1_1 := hqr1o1_1.ext hxqr1o1_2
    have hEqr1o7_1 := Ext.trans hEqr1o1_2 hxqr1o1_2
    refine o_makeMap ha rfl 97 (fun _ _ => False) ?_; clear ha a; intro mqr1o7_1 wqr1o7_1 hMqr1o7_1 hxqr1o7_1 hloqr1o7_1 a ha
    have qqr1o7_1 := Zn.one hloqr1o7_1
    have qqr1o7_2 := Nq.new hB3.fpb qqr1o7_1
    have qqr1o7_3 := Nq.made1 hloqr1o7_1 hB3.bi
    have qqr1o7_4 := Nq.new hB11.fpb qqr1o7_1
    have qqr1o7_5 := Nq.made1 hloqr1o7_1 hB11.bi
    have qqr1o7_6 := Nq.new hqr1o1_1.fpb qqr1o7_1
    have qqr1o7_7 := Nq.made1 hloqr1o7_1 hqr1o1_1.blt
    have qqr1o7_8 := Zn.upD qqr1o7_1 hEqr1o7_1
    replace hB3 := hB3.ext hxqr1o7_1
    replace hB11 := hB11.ext hxqr1o7_1
    replace hqr1o1_1 := hqr1o1_1.ext hxqr1o7_1
    have hEqr1o7_2 := Ext.trans hEqr1o7_1 hxqr1o7_1
    refine wpList_nil (e_sq ?_)
    refine ⟨fun _ => hxqr1o7_1, ?_⟩
    refine u_only 4 rfl (by kernel_rfl) ?_; intro wqr1o4_1 hxqr1o4_1
    replace hB3 := hB3.ext hxqr1o4_1
    replace hB11 := hB11.ext hxqr1o4_1
    replace hqr1o1_1 := hqr1o1_1.ext hxqr1o4_1
    replace hMqr1o7_1 := hMqr1o7_1.ext hxqr1o4_1
    have hEqr1o4_1 := Ext.trans hEqr1o7_2 hxqr1o4_1
    refine o_call ha rfl rfl Try.call42 (W_impl_freeIn (ha1_0.ext hEqr1o4_1) hcqr1o4_1) ?_; clear ha a; rintro vqr1o4_1 wqr1o4_2 ⟨bqr1o4_1, hqr1o4_1, zqr1o4_1, hxqr1o4_2⟩ a ha
    have qqr1o4_1 := Nq.new hB3.fpb zqr1o4_1
    have qqr1o4_2 := Nq.madeO zqr1o4_1 hB3.bi
    have qqr1o4_3 := Nq.new hB11.fpb zqr1o4_1
    have qqr1o4_4 := Nq.madeO zqr1o4_1 hB11.bi
    have qqr1o4_5 := Nq.new hqr1o1_1.fpb zqr1o4_1
    have qqr1o4_6 := Nq.madeO zqr1o4_1 hqr1o1_1.blt
    have qqr1o4_7 := Nq.new hMqr1o7_1.fpb zqr1o4_1
    have qqr1o4_8 := Nq.madeO zqr1o4_1 hMqr1o7_1.bi
    replace hB3 := hB3.ext hxqr1o4_2
    replace hB11 := hB11.ext hxqr1o4_2
    replace hqr1o1_1 := hqr1o1_1.ext hxqr1o4_2
    replace hMqr1o7_1 := hMqr1o7_1.ext hxqr1o4_2
    have hEqr1o4_2 := Ext.trans hEqr1o4_1 hxqr1o4_2
    have qqr1o4_9 := Zn.upD zqr1o4_1 hEqr1o4_1
    refine wpList_nil (e_sq ?_)
    refine ⟨fun _ => hxqr1o4_2, ?_⟩
    refine u_only 6 rfl (by kernel_rfl) ?_; intro wqr1o6_1 hxqr1o6_1
    replace hB3 := hB3.ext hxqr1o6_1
    replace hB11 := hB11.ext hxqr1o6_1
    replace hqr1o1_1 := hqr1o1_1.ext hxqr1o6_1
    replace hMqr1o7_1 := hMqr1o7_1.ext hxqr1o6_1
    replace hqr1o4_1 := hqr1o4_1.ext hxqr1o6_1
    have hEqr1o6_1 := Ext.trans hEqr1o4_2 hxqr1o6_1
    refine o_call ha rfl rfl Try.call43 (W_impl_largeIn (ha1_0.ext hEqr1o6_1) hcqr1o6_1) ?_; clear ha a; rintro vqr1o6_1 wqr1o6_2 ⟨bqr1o6_1, hqr1o6_1, zqr1o6_1, hxqr1o6_2⟩ a ha
    have qqr1o6_1 := Nq.new hB3.fpb zqr1o6_1
    have qqr1o6_2 := Nq.madeO zqr1o6_1 hB3.bi
    have qqr1o6_3 := Nq.new hB11.fpb zqr1o6_1
    have qqr1o6_4 := Nq.madeO zqr1o6_1 hB11.bi
    have qqr1o6_5 := Nq.new hqr1o1_1.fpb zqr1o6_1
    have qqr1o6_6 := Nq.madeO zqr1o6_1 hqr1o1_1.blt
    have qqr1o6_7 := Nq.new hMqr1o7_1.fpb zqr1o6_1
    have qqr1o6_8 := Nq.madeO zqr1o6_1 hMqr1o7_1.bi
    have qqr1o6_9 := Nq.new hqr1o4_1.fpb zqr1o6_1
    have qqr1o6_10 := Nq.madeO zqr1o6_1 hqr1o4_1.blt
    replace hB3 := hB3.ext hxqr1o6_2
    replace hB11 := hB11.ext hxqr1o6_2
    replace hqr1o1_1 := hqr1o1_1.ext hxqr1o6_2
    replace hMqr1o7_1 := hMqr1o7_1.ext hxqr1o6_2
    replace hqr1o4_1 := hqr1o4_1.ext hxqr1o6_2
    have hEqr1o6_2 := Ext.trans hEqr1o6_1 hxqr1o6_2
    have qqr1o6_11 := Zn.upD zqr1o6_1 hEqr1o6_1
    refine wpList_nil (e_sq ?_)
    refine ⟨fun _ => hxqr1o6_2, ?_⟩
    refine u_g 8 rfl (by kernel_rfl) (want0 _) ha rfl (g_build (vs := [(0, vqr1o1_1), (1, (.agg #[va1_0])), (2, vqr1o4_1), (3, vqr1o6_1), (4, (.map (some mqr1o7_1)))]) (cells := #[vqr1o1_1, va1_0, vqr1o4_1, vqr1o6_1, (.map (some mqr1o7_1))]) rfl (by obtain ⟨_, _, rfl⟩ := hqr1o1_1.shape; obtain ⟨_, _, rfl⟩ := ha1_0.shape; obtain ⟨_, _, rfl⟩ := hqr1o4_1.shape; obtain ⟨_, _, rfl⟩ := hqr1o6_1.shape; rfl)) ?_; clear ha a; intro a ha
    refine u_only 9 rfl (by kernel_rfl) ?_; intro wqr1o9_1 hxqr1o9_1
    replace hB3 := hB3.ext hxqr1o9_1
    replace hB11 := hB11.ext hxqr1o9_1
    replace hqr1o1_1 := hqr1o1_1.ext hxqr1o9_1
    replace hMqr1o7_1 := hMqr1o7_1.ext hxqr1o9_1
    replace hqr1o4_1 := hqr1o4_1.ext hxqr1o9_1
    replace hqr1o6_1 := hqr1o6_1.ext hxqr1o9_1
    have hEqr1o9_1 := Ext.trans hEqr1o6_2 hxqr1o9_1
    refine o_box ha rfl rfl rfl ?_; clear ha a; intro bqr1o9_1 wqr1o9_2 hBqr1o9_1 hxqr1o9_2 hloqr1o9_1 a ha
    have qqr1o9_1 := Zn.one hloqr1o9_1
    have qqr1o9_2 := Nq.new hB3.fpb qqr1o9_1
    have qqr1o9_3 := Nq.made1 hloqr1o9_1 hB3.bi
    have qqr1o9_4 := Nq.new hB11.fpb qqr1o9_1
    have qqr1o9_5 := Nq.made1 hloqr1o9_1 hB11.bi
    have qqr1o9_6 := Nq.new hqr1o1_1.fpb qqr1o9_1
    have qqr1o9_7 := Nq.made1 hloqr1o9_1 hqr1o1_1.blt
    have qqr1o9_8 := Nq.new hMqr1o7_1.fpb qqr1o9_1
    have qqr1o9_9 := Nq.made1 hloqr1o9_1 hMqr1o7_1.bi
    have qqr1o9_10 := Nq.new hqr1o4_1.fpb qqr1o9_1
    have qqr1o9_11 := Nq.made1 hloqr1o9_1 hqr1o4_1.blt
    have qqr1o9_12 := Nq.new hqr1o6_1.fpb qqr1o9_1
    have qqr1o9_13 := Nq.made1 hloqr1o9_1 hqr1o6_1.blt
    have qqr1o9_14 := Zn.upD qqr1o9_1 hEqr1o9_1
    replace hB3 := hB3.ext hxqr1o9_2
    replace hB11 := hB11.ext hxqr1o9_2
    replace hqr1o1_1 := hqr1o1_1.ext hxqr1o9_2
    replace hMqr1o7_1 := hMqr1o7_1.ext hxqr1o9_2
    replace hqr1o4_1 := hqr1o4_1.ext hxqr1o9_2
    replace hqr1o6_1 := hqr1o6_1.ext hxqr1o9_2
    have hEqr1o9_2 := Ext.trans hEqr1o9_1 hxqr1o9_2
    refine wpList_nil (e_sq ?_)
    refine ⟨fun _ => hxqr1o9_2, ?_⟩
    refine u_g 10 rfl (by kernel_rfl) (want0 _) ha rfl (g_assign rfl) ?_; clear ha a; intro a ha
    refine u_done (by kernel_rfl) ?_; intro w33 hx34
    replace hB3 := hB3.ext hx34
    replace hB11 := hB11.ext hx34
    replace hqr1o1_1 := hqr1o1_1.ext hx34
    replace hMqr1o7_1 := hMqr1o7_1.ext hx34
    replace hqr1o4_1 := hqr1o4_1.ext hx34
    replace hqr1o6_1 := hqr1o6_1.ext hx34
    replace hBqr1o9_1 := hBqr1o9_1.ext hx34
    have hE35 := Ext.trans hEqr1o9_2 hx34
    replace ha := ha.sub (σ' := [(4, (.pointer (some ⟨bqr1o9_1, 0, none⟩)))]) ⟨rfl, trivial⟩; refine e_then ?_; refine wp_ret ?_
    obtain ⟨fp36, hro37, hs38⟩ := hqr1o1_1.roF
    obtain ⟨fp39, hro40, hs41⟩ := hqr1o4_1.roF
    obtain ⟨fp42, hro43, hs44⟩ := hqr1o6_1.roF
    have hJ45 := Jq.make hBqr1o9_1 hro37 (ha1_0.ext hE35) hro40 hro43 hMqr1o7_1 (jq_apart qqr1o9_9 (Nq.mono qqr1o7_6 hs38) (Nq.new ha1_0.bnd qqr1o7_8) (Nq.mono qqr1o4_8 hs41) (Nq.mono qqr1o6_8 hs44))
    obtain rfl := Option.some.inj hF
    exact f_ret1 ha rfl rfl ⟨_, _, (.inr ⟨rfl, hJ45⟩), qqr1o7_8, (pv_cons qqr1o9_14 (Pv.mono (Pv.own qqr1o1_5 (zf_nil _)) hs38) (Pv.par (fun _ h => List.mem_append_right _ h)) (Pv.mono (Pv.own qqr1o4_9 (zf_nil _)) hs41) (Pv.mono (Pv.own qqr1o6_11 (zf_nil _)) hs44)), hE35⟩
  skip
  replace hB3 := hB3.ext hxqr1_1
  replace hB11 := hB11.ext hxqr1_1
  have hEqr1o7_1 := Ext.trans hE31 hxqr1_1
  refine o_makeMap ha rfl 97 (fun _ _ => False) ?_; clear ha a; intro mqr1o7_1 wqr1o7_1 hMqr1o7_1 hxqr1o7_1 hloqr1o7_1 a ha
  have qqr1o7_1 := Zn.one hloqr1o7_1
  have qqr1o7_2 := Nq.new hB3.fpb qqr1o7_1
  have qqr1o7_3 := Nq.made1 hloqr1o7_1 hB3.bi
  have qqr1o7_4 := Nq.new hB11.fpb qqr1o7_1
  have qqr1o7_5 := Nq.made1 hloqr1o7_1 hB11.bi
  have qqr1o7_6 := Zn.upD qqr1o7_1 hEqr1o7_1
  replace hB3 := hB3.ext hxqr1o7_1
  replace hB11 := hB11.ext hxqr1o7_1
  have hEqr1o7_2 := Ext.trans hEqr1o7_1 hxqr1o7_1
  refine wpList_nil (e_sq ?_)
  refine ⟨fun _ => hxqr1o7_1, ?_⟩
  refine u_only 1 rfl (by kernel_rfl) ?_; intro wqr1o1_1 hxqr1o1_1
  replace hB3 := hB3.ext hxqr1o1_1
  replace hB11 := hB11.ext hxqr1o1_1
  replace hMqr1o7_1 := hMqr1o7_1.ext hxqr1o1_1
  have hEqr1o1_1 := Ext.trans hEqr1o7_2 hxqr1o1_1
  refine o_call ha rfl rfl Try.call41 (W_impl_netsOf (ha0_0.ext hEqr1o1_1) hcqr1o1_1) ?_; clear ha a; rintro vqr1o1_1 wqr1o1_2 ⟨bqr1o1_1, hqr1o1_1, zqr1o1_1, hxqr1o1_2⟩ a ha
  have qqr1o1_1 := Nq.new hB3.fpb zqr1o1_1
  have qqr1o1_2 := Nq.madeO zqr1o1_1 hB3.bi
  have qqr1o1_3 := Nq.new hB11.fpb zqr1o1_1
  have qqr1o1_4 := Nq.madeO zqr1o1_1 hB11.bi
  have qqr1o1_5 := Nq.new hMqr1o7_1.fpb zqr1o1_1
  have qqr1o1_6 := Nq.madeO zqr1o1_1 hMqr1o7_1.bi
  replace hB3 := hB3.ext hxqr1o1_2
  replace hB11 := hB11.ext hxqr1o1_2
  replace hMqr1o7_1 := hMqr1o7_1.ext hxqr1o1_2
  have hEqr1o1_2 := Ext.trans hEqr1o1_1 hxqr1o1_2
  have qqr1o1_7 := Zn.upD zqr1o1_1 hEqr1o1_1
  refine wpList_nil (e_sq ?_)
  refine ⟨fun _ => hxqr1o1_2, ?_⟩
  refine u_only 4 rfl (by kernel_rfl) ?_; intro wqr1o4_1 hxqr1o4_1
  replace hB3 := hB3.ext hxqr1o4_1
  replace hB11 := hB11.ext hxqr1o4_1
  replace hMqr1o7_1 := hMqr1o7_1.ext hxqr1o4_1
  replace hqr1o1_1 := hqr1o1_1.ext hxqr1o4_1
  have hEqr1o4_1 := Ext.trans hEqr1o1_2 hxqr1o4_1
  refine o_call ha rfl rfl Try.call42 (W_impl_freeIn (ha1_0.ext hEqr1o4_1) hcqr1o4_1) ?_; clear ha a; rintro vqr1o4_1 wqr1o4_2 ⟨bqr1o4_1, hqr1o4_1, zqr1o4_1, hxqr1o4_2⟩ a ha
  have qqr1o4_1 := Nq.new hB3.fpb zqr1o4_1
  have qqr1o4_2 := Nq.madeO zqr1o4_1 hB3.bi
  have qqr1o4_3 := Nq.new hB11.fpb zqr1o4_1
  have qqr1o4_4 := Nq.madeO zqr1o4_1 hB11.bi
  have qqr1o4_5 := Nq.new hMqr1o7_1.fpb zqr1o4_1
  have qqr1o4_6 := Nq.madeO zqr1o4_1 hMqr1o7_1.bi
  have qqr1o4_7 := Nq.new hqr1o1_1.fpb zqr1o4_1
  have qqr1o4_8 := Nq.madeO zqr1o4_1 hqr1o1_1.blt
  replace hB3 := hB3.ext hxqr1o4_2
  replace hB11 := hB11.ext hxqr1o4_2
  replace hMqr1o7_1 := hMqr1o7_1.ext hxqr1o4_2
  replace hqr1o1_1 := hqr1o1_1.ext hxqr1o4_2
  have hEqr1o4_2 := Ext.trans hEqr1o4_1 hxqr1o4_2
  have qqr1o4_9 := Zn.upD zqr1o4_1 hEqr1o4_1
  refine wpList_nil (e_sq ?_)
  refine ⟨fun _ => hxqr1o4_2, ?_⟩
  refine u_only 6 rfl (by kernel_rfl) ?_; intro wqr1o6_1 hxqr1o6_1
  replace hB3 := hB3.ext hxqr1o6_1
  replace hB11 := hB11.ext hxqr1o6_1
  replace hMqr1o7_1 := hMqr1o7_1.ext hxqr1o6_1
  replace hqr1o1_1 := hqr1o1_1.ext hxqr1o6_1
  replace hqr1o4_1 := hqr1o4_1.ext hxqr1o6_1
  have hEqr1o6_1 := Ext.trans hEqr1o4_2 hxqr1o6_1
  refine o_call ha rfl rfl Try.call43 (W_impl_largeIn (ha1_0.ext hEqr1o6_1) hcqr1o6_1) ?_; clear ha a; rintro vqr1o6_1 wqr1o6_2 ⟨bqr1o6_1, hqr1o6_1, zqr1o6_1, hxqr1o6_2⟩ a ha
  have qqr1o6_1 := Nq.new hB3.fpb zqr1o6_1
  have qqr1o6_2 := Nq.madeO zqr1o6_1 hB3.bi
  have qqr1o6_3 := Nq.new hB11.fpb zqr1o6_1
  have qqr1o6_4 := Nq.madeO zqr1o6_1 hB11.bi
  have qqr1o6_5 := Nq.new hMqr1o7_1.fpb zqr1o6_1
  have qqr1o6_6 := Nq.madeO zqr1o6_1 hMqr1o7_1.bi
  have qqr1o6_7 := Nq.new hqr1o1_1.fpb zqr1o6_1
  have qqr1o6_8 := Nq.madeO zqr1o6_1 hqr1o1_1.blt
  have qqr1o6_9 := Nq.new hqr1o4_1.fpb zqr1o6_1
  have qqr1o6_10 := Nq.madeO zqr1o6_1 hqr1o4_1.blt
  replace hB3 := hB3.ext hxqr1o6_2
  replace hB11 := hB11.ext hxqr1o6_2
  replace hMqr1o7_1 := hMqr1o7_1.ext hxqr1o6_2
  replace hqr1o1_1 := hqr1o1_1.ext hxqr1o6_2
  replace hqr1o4_1 := hqr1o4_1.ext hxqr1o6_2
  have hEqr1o6_2 := Ext.trans hEqr1o6_1 hxqr1o6_2
  have qqr1o6_11 := Zn.upD zqr1o6_1 hEqr1o6_1
  refine wpList_nil (e_sq ?_)
  refine ⟨fun _ => hxqr1o6_2, ?_⟩
  refine u_g 8 rfl (by kernel_rfl) (want0 _) ha rfl (g_build (vs := [(0, vqr1o1_1), (1, (.agg #[va1_0])), (2, vqr1o4_1), (3, vqr1o6_1), (4, (.map (some mqr1o7_1)))]) (cells := #[vqr1o1_1, va1_0, vqr1o4_1, vqr1o6_1, (.map (some mqr1o7_1))]) rfl (by obtain ⟨_, _, rfl⟩ := hqr1o1_1.shape; obtain ⟨_, _, rfl⟩ := ha1_0.shape; obtain ⟨_, _, rfl⟩ := hqr1o4_1.shape; obtain ⟨_, _, rfl⟩ := hqr1o6_1.shape; rfl)) ?_; clear ha a; intro a ha
  refine u_only 9 rfl (by kernel_rfl) ?_; intro wqr1o9_1 hxqr1o9_1
  replace hB3 := hB3.ext hxqr1o9_1
  replace hB11 := hB11.ext hxqr1o9_1
  replace hMqr1o7_1 := hMqr1o7_1.ext hxqr1o9_1
  replace hqr1o1_1 := hqr1o1_1.ext hxqr1o9_1
  replace hqr1o4_1 := hqr1o4_1.ext hxqr1o9_1
  replace hqr1o6_1 := hqr1o6_1.ext hxqr1o9_1
  have hEqr1o9_1 := Ext.trans hEqr1o6_2 hxqr1o9_1
  refine o_box ha rfl rfl rfl ?_; clear ha a; intro bqr1o9_1 wqr1o9_2 hBqr1o9_1 hxqr1o9_2 hloqr1o9_1 a ha
  have qqr1o9_1 := Zn.one hloqr1o9_1
  have qqr1o9_2 := Nq.new hB3.fpb qqr1o9_1
  have qqr1o9_3 := Nq.made1 hloqr1o9_1 hB3.bi
  have qqr1o9_4 := Nq.new hB11.fpb qqr1o9_1
  have qqr1o9_5 := Nq.made1 hloqr1o9_1 hB11.bi
  have qqr1o9_6 := Nq.new hMqr1o7_1.fpb qqr1o9_1
  have qqr1o9_7 := Nq.made1 hloqr1o9_1 hMqr1o7_1.bi
  have qqr1o9_8 := Nq.new hqr1o1_1.fpb qqr1o9_1
  have qqr1o9_9 := Nq.made1 hloqr1o9_1 hqr1o1_1.blt
  have qqr1o9_10 := Nq.new hqr1o4_1.fpb qqr1o9_1
  have qqr1o9_11 := Nq.made1 hloqr1o9_1 hqr1o4_1.blt
  have qqr1o9_12 := Nq.new hqr1o6_1.fpb qqr1o9_1
  have qqr1o9_13 := Nq.made1 hloqr1o9_1 hqr1o6_1.blt
  have qqr1o9_14 := Zn.upD qqr1o9_1 hEqr1o9_1
  replace hB3 := hB3.ext hxqr1o9_2
  replace hB11 := hB11.ext hxqr1o9_2
  replace hMqr1o7_1 := hMqr1o7_1.ext hxqr1o9_2
  replace hqr1o1_1 := hqr1o1_1.ext hxqr1o9_2
  replace hqr1o4_1 := hqr1o4_1.ext hxqr1o9_2
  replace hqr1o6_1 := hqr1o6_1.ext hxqr1o9_2
  have hEqr1o9_2 := Ext.trans hEqr1o9_1 hxqr1o9_2
  refine wpList_nil (e_sq ?_)
  refine ⟨fun _ => hxqr1o9_2, ?_⟩
  refine u_g 10 rfl (by kernel_rfl) (want0 _) ha rfl (g_assign rfl) ?_; clear ha a; intro a ha
  refine u_done (by kernel_rfl) ?_; intro w33 hx34
  replace hB3 := hB3.ext hx34
  replace hB11 := hB11.ext hx34
  replace hMqr1o7_1 := hMqr1o7_1.ext hx34
  replace hqr1o1_1 := hqr1o1_1.ext hx34
  replace hqr1o4_1 := hqr1o4_1.ext hx34
  replace hqr1o6_1 := hqr1o6_1.ext hx34
  replace hBqr1o9_1 := hBqr1o9_1.ext hx34
  have hE35 := Ext.trans hEqr1o9_2 hx34
  replace ha := ha.sub (σ' := [(4, (.pointer (some ⟨bqr1o9_1, 0, none⟩)))]) ⟨rfl, trivial⟩; refine e_then ?_; refine wp_ret ?_
  obtain ⟨fp36, hro37, hs38⟩ := hqr1o1_1.roF
  obtain ⟨fp39, hro40, hs41⟩ := hqr1o4_1.roF
  obtain ⟨fp42, hro43, hs44⟩ := hqr1o6_1.roF
  have hJ45 := Jq.make hBqr1o9_1 hro37 (ha1_0.ext hE35) hro40 hro43 hMqr1o7_1 (jq_apart qqr1o9_7 (Nq.mono qqr1o1_6 hs38) (Nq.new ha1_0.bnd qqr1o7_6) (Nq.mono qqr1o4_6 hs41) (Nq.mono qqr1o6_6 hs44))
  obtain rfl := Option.some.inj hF
  exact f_ret1 ha rfl rfl ⟨_, _, (.inr ⟨rfl, hJ45⟩), qqr1o7_6, (pv_cons qqr1o9_14 (Pv.mono (Pv.own qqr1o1_7 (zf_nil _)) hs38) (Pv.par (fun _ h => List.mem_append_right _ h)) (Pv.mono (Pv.own qqr1o4_9 (zf_nil _)) hs41) (Pv.mono (Pv.own qqr1o6_11 (zf_nil _)) hs44)), hE35⟩
set_option maxHeartbeats 2000000 in
theorem W_impl_isVertex {W : World} {va0_0 : Value} {fa0_0 : List Nat} {a0_0 : (List (List Int))} (ha0_0 : Ro (Rp.sl 2 Rp.int) W fa0_0 va0_0 a0_0) {a1 : Int} (ha1 : InI a1) {r : Bool} (hF : F_impl_isVertex a0_0 a1 = some r) :
    Calls Try.prog 31 [.agg #[va0_0], .int .i64 a1].toArray W (Ret fun u w' => u = .bool r ∧ Ext W w') := by
  refine f_enter Try.func31 rfl Try.ntmps31 rfl ?_
  intro a ha
  replace ha : Fr 15 [(0, (.agg #[va0_0])), (1, (.int .i64 a1))] a := ha
  have hE : Chg [] W W := Chg.refl _ _
  unfold F_impl_isVertex at hF
  refine wp_seq ?_; refine wp_region_lit ?_
  refine o_box ha rfl rfl rfl ?_; clear ha a; intro b1 w2 hB3 hx4 hlo5 a ha
  have q6 := Zn.one hlo5
  have q7 := Zn.upD q6 hE
  have hE8 := Ext.trans hE hx4
  refine op_g ha rfl (g_assign rfl) ?_; clear ha a; intro a ha; refine wpList_nil ?_; replace ha := ha.sub (σ' := [(1, (.int .i64 a1)), (2, (.pointer (some ⟨b1, 0, none⟩)))]) ⟨rfl, rfl, trivial⟩; refine e_then ?_; refine wp_seq ?_; refine wp_region_lit ?_; refine op_g ha rfl (g_loadA (cs := [va0_0]) Try.isAgg31 Try.sizeOf31 rfl (by simp) hB3.all) ?_; clear ha a; intro a ha; obtain ⟨x9, hc10, hF⟩ := cal_some hF
  refine o_call ha rfl rfl Try.call50 (W_impl_GraphOk (ha0_0.ext hE8) hc10) ?_; clear ha a; rintro v11 w12 ⟨rfl, hx13⟩ a ha
  replace hB3 := hB3.ext hx13
  have hE14 := Ext.trans hE8 hx13
  refine op_g ha rfl (g_move rfl) ?_; clear ha a; intro a ha
  by_cases hp15 : x9 = true
  · replace hF := if_t hp15 hF
    rw [show (x9) = true from (Iff.rfl).2 hp15] at ha
    refine op_want (yields ha rfl rfl) ?_; refine op_g ha rfl (g_move rfl) ?_; clear ha a; intro a ha; refine op_want (yields ha rfl rfl) ?_; refine op_g ha rfl (g_field0 st31_0 rfl) ?_; clear ha a; intro a ha; refine op_want (yields ha rfl rfl) ?_; refine op_g ha rfl (g_load Try.isAgg22 rfl (hB3.cell rfl)) ?_; clear ha a; intro a ha; refine op_want (yields ha rfl rfl) ?_; refine op_g ha rfl (g_lenR sl22.und ha0_0 rfl) ?_; clear ha a; intro a ha; refine op_want (yields ha rfl rfl) ?_; obtain ⟨hI16, hF⟩ := ck_some hF; refine op_g ha rfl (g_sub rfl rfl hI16) ?_; clear ha a; intro a ha; refine op_want (yields ha rfl rfl) ?_
    obtain ⟨x18, hc19, hF⟩ := cal_some hF
    refine o_call ha rfl rfl Try.call51 (W_impl_inRange ha1 (show InI 0 from by decide) hI16 hc19) ?_; clear ha a; rintro v20 w21 ⟨rfl, hx22⟩ a ha
    replace hB3 := hB3.ext hx22
    have hE23 := Ext.trans hE14 hx22
    refine op_g ha rfl (g_pick rfl rfl) ?_; clear ha a; intro a ha; refine op_g ha rfl (g_assign rfl) ?_; clear ha a; intro a ha; refine wpList_nil ?_; replace ha := ha.sub (σ' := [(4, (.bool x18))]) ⟨rfl, trivial⟩; refine e_then ?_; refine wp_ret ?_; obtain rfl := Option.some.inj hF
    exact f_ret1 ha rfl rfl ⟨rfl, hE23⟩
  replace hF := if_f hp15 hF
  rw [show (x9) = false from b_false (Iff.rfl) hp15] at ha
  (iterate 6 refine op_unwant ha rfl (yields ha rfl rfl) rfl ?_; clear ha a; intro a ha); refine op_g ha rfl (g_pick rfl rfl) ?_; clear ha a; intro a ha; refine op_g ha rfl (g_assign rfl) ?_; clear ha a; intro a ha; refine wpList_nil ?_; replace ha := ha.sub (σ' := [(4, (.bool false))]) ⟨rfl, trivial⟩; refine e_then ?_; refine wp_ret ?_; obtain rfl := Option.some.inj hF
  exact f_ret1 ha rfl rfl ⟨rfl, hE14⟩
set_option maxHeartbeats 2000000 in
theorem W_impl_SetOk {W : World} {va0_0 : Value} {fa0_0 : List Nat} {a0_0 : (List (List Int))} (ha0_0 : Ro (Rp.sl 2 Rp.int) W fa0_0 va0_0 a0_0) {va1 : Value} {fa1 : List Nat} {a1 : (List Int)} (ha1 : Ro Rp.int W fa1 va1 a1) {r : Bool} (hF : F_impl_SetOk a0_0 a1 = some r) :
    Calls Try.prog 32 [.agg #[va0_0], va1].toArray W (Ret fun u w' => u = .bool r ∧ Ext W w') := by
  refine f_enter Try.func32 rfl Try.ntmps32 rfl ?_
  intro a ha
  replace ha : Fr 14 [(0, (.agg #[va0_0])), (1, va1)] a := ha
  have hE : Chg [] W W := Chg.refl _ _
  unfold F_impl_SetOk at hF
  refine wp_seq ?_; refine wp_region_lit ?_
  refine o_box ha rfl rfl rfl ?_; clear ha a; intro b1 w2 hB3 hx4 hlo5 a ha
  have q6 := Zn.one hlo5
  have q7 := Zn.upD q6 hE
  have hE8 := Ext.trans hE hx4
  refine op_g ha rfl (g_assign rfl) ?_; clear ha a; intro a ha; refine wpList_nil ?_; replace ha := ha.sub (σ' := [(1, va1), (2, (.pointer (some ⟨b1, 0, none⟩)))]) ⟨rfl, rfl, trivial⟩; refine e_then ?_; refine wp_seq ?_; refine wp_region_lit ?_; refine op_g ha rfl (g_loadA (cs := [va0_0]) Try.isAgg31 Try.sizeOf31 rfl (by simp) hB3.all) ?_; clear ha a; intro a ha; obtain ⟨x9, hc10, hF⟩ := cal_some hF
  refine o_call ha rfl rfl Try.call50 (W_impl_GraphOk (ha0_0.ext hE8) hc10) ?_; clear ha a; rintro v11 w12 ⟨rfl, hx13⟩ a ha
  replace hB3 := hB3.ext hx13
  have hE14 := Ext.trans hE8 hx13
  refine op_g ha rfl (g_move rfl) ?_; clear ha a; intro a ha
  by_cases hp15 : x9 = true
  · replace hF := if_t hp15 hF
    rw [show (x9) = true from (Iff.rfl).2 hp15] at ha
    refine op_want (yields ha rfl rfl) ?_; refine op_g ha rfl (g_move rfl) ?_; clear ha a; intro a ha; refine op_want (yields ha rfl rfl) ?_; refine op_g ha rfl (g_field0 st31_0 rfl) ?_; clear ha a; intro a ha; refine op_want (yields ha rfl rfl) ?_; refine op_g ha rfl (g_load Try.isAgg22 rfl (hB3.cell rfl)) ?_; clear ha a; intro a ha; refine op_want (yields ha rfl rfl) ?_; refine op_g ha rfl (g_lenR sl22.und ha0_0 rfl) ?_; clear ha a; intro a ha; refine op_want (yields ha rfl rfl) ?_; obtain ⟨x16, hc17, hF⟩ := cal_some hF
    refine o_call ha rfl rfl Try.call52 (W_impl_increasing (ha1.ext hE14) ha0_0.len hc17) ?_; clear ha a; rintro v18 w19 ⟨rfl, hx20⟩ a ha
    replace hB3 := hB3.ext hx20
    have hE21 := Ext.trans hE14 hx20
    refine op_g ha rfl (g_pick rfl rfl) ?_; clear ha a; intro a ha; refine op_g ha rfl (g_assign rfl) ?_; clear ha a; intro a ha; refine wpList_nil ?_; replace ha := ha.sub (σ' := [(4, (.bool x16))]) ⟨rfl, trivial⟩; refine e_then ?_; refine wp_ret ?_; obtain rfl := Option.some.inj hF
    exact f_ret1 ha rfl rfl ⟨rfl, hE21⟩
  replace hF := if_f hp15 hF
  rw [show (x9) = false from b_false (Iff.rfl) hp15] at ha
  (iterate 5 refine op_unwant ha rfl (yields ha rfl rfl) rfl ?_; clear ha a; intro a ha); refine op_g ha rfl (g_pick rfl rfl) ?_; clear ha a; intro a ha; refine op_g ha rfl (g_assign rfl) ?_; clear ha a; intro a ha; refine wpList_nil ?_; replace ha := ha.sub (σ' := [(4, (.bool false))]) ⟨rfl, trivial⟩; refine e_then ?_; refine wp_ret ?_; obtain rfl := Option.some.inj hF
  exact f_ret1 ha rfl rfl ⟨rfl, hE14⟩
set_option maxHeartbeats 2000000 in
theorem W_impl_judge_root {W : World} {va0 : Value} {ba0 : Int} {fa0 : List Nat} {a0 : JD} (ha0 : Jq Try.prog 82 97 W fa0 ba0 va0 a0) {a1_0 : Int} (ha1_0 : InI a1_0) {a1_1 : Int} (ha1_1 : InI a1_1) {a1_2 : Int} (ha1_2 : InI a1_2) {a1_3 : BitVec 32} {a1_4 : BitVec 32} {r : (Bool × JD)} (hF : F_impl_judge_root a0 a1_0 a1_1 a1_2 a1_3 a1_4 = some r) :
    Calls Try.prog 25 [va0, .agg #[.int .i64 a1_0, .int .i64 a1_1, .int .i64 a1_2, .int .u32 (BitVec.toNat a1_3 : Int), .int .u32 (BitVec.toNat a1_4 : Int)]].toArray W (Ret fun u w' => u = .bool r.1 ∧ Jq Try.prog 82 97 w' fa0 ba0 va0 r.2 ∧ Chg (bl ba0) W w') := by
  have dlta0 := ha0.fpb
  obtain ⟨j1, rfl⟩ := ha0.ptr
  refine f_enter Try.func25 rfl Try.ntmps25 rfl ?_
  intro a ha
  replace ha : Fr 15 [(0, (.pointer (some ⟨j1, 0, none⟩))), (1, (.agg #[(.int .i64 a1_0), (.int .i64 a1_1), (.int .i64 a1_2), (.int .u32 (BitVec.toNat a1_3 : Int)), (.int .u32 (BitVec.toNat a1_4 : Int))]))] a := ha
  have hE : Chg (bl ba0) W W := Chg.refl _ _
  unfold F_impl_judge_root at hF
  refine wp_seq ?_; refine wp_region_lit ?_
  refine o_box ha rfl rfl rfl ?_; clear ha a; intro b2 w3 hB4 hx5 hlo6 a ha
  have q7 := Zn.one hlo6
  have q8 := Nq.new ha0.fpb q7
  have q9 := Nq.made1 hlo6 ha0.blt
  have q10 := Zn.upD q7 hE
  replace ha0 := ha0.ext hx5
  have hE11 := Chg.more hE hx5
  refine op_g ha rfl (g_assign rfl) ?_; clear ha a; intro a ha; refine wpList_nil ?_; replace ha := ha.sub (σ' := [(0, (.pointer (some ⟨j1, 0, none⟩))), (3, (.pointer (some ⟨b2, 0, none⟩)))]) ⟨rfl, rfl, trivial⟩; refine e_then ?_; refine wp_seq ?_; refine d_region [0, 1, 2, 3, 4, 5, 6, 7, 8] hmix ?_; refine u_g 0 rfl (by kernel_rfl) (want0 _) ha rfl (g_move rfl) ?_; clear ha a; intro a ha; refine u_g 1 rfl (by kernel_rfl) (want0 _) ha rfl (g_move rfl) ?_; clear ha a; intro a ha; refine u_g 2 rfl (by kernel_rfl) (want0 _) ha rfl (g_nilCheck rfl) ?_; clear ha a; intro a ha; refine u_g 3 rfl (by kernel_rfl) (want0 _) ha rfl (g_field0 st82_1 rfl) ?_; clear ha a; intro a ha
  refine u_g 4 rfl (by kernel_rfl) (want0 _) ha rfl (g_field0 st35_0 rfl) ?_; clear ha a; intro a ha
  obtain ⟨u12, f13, h14, hc15, q16, hs17⟩ := ha0.get1
  have q19 := Nq.mono q8 hs17
  refine u_g 5 rfl (by kernel_rfl) (want0 _) ha rfl (g_load Try.isAgg33 rfl hc15) ?_; clear ha a; intro a ha; refine u_g 6 rfl (by kernel_rfl) (want0 _) ha rfl (g_lenR sl33.und h14 rfl) ?_; clear ha a; intro a ha; obtain ⟨hI20, hF⟩ := ck_some hF; refine u_g 7 rfl (by kernel_rfl) (want0 _) ha rfl (g_sub rfl rfl hI20) ?_; clear ha a; intro a ha; refine u_g 8 rfl (by kernel_rfl) (want0 _) ha rfl (g_loadA (cs := [(.int .i64 a1_0), (.int .i64 a1_1), (.int .i64 a1_2), (.int .u32 (BitVec.toNat a1_3 : Int)), (.int .u32 (BitVec.toNat a1_4 : Int))]) Try.isAgg59 Try.sizeOf59 rfl (by simp) hB4.all) ?_; clear ha a; intro a ha
  refine u_only 9 rfl (by kernel_rfl) ?_; intro w22 hx23
  replace ha0 := ha0.ext hx23
  replace hB4 := hB4.ext hx23
  replace h14 := h14.ext hx23
  have hE24 := Chg.more hE11 hx23
  obtain ⟨x25, hc26, hF⟩ := cal_some hF
  refine o_call ha rfl rfl Try.call44 (W_F_judge ha0 hI20 ha1_0 ha1_1 ha1_2 hc26) ?_; clear ha a; rintro v27 w28 ⟨rfl, h30, hx29⟩ a ha
  replace hB4 := hB4.nq hx29 q9
  replace h14 := h14.nq hx29 q16
  have hE31 := Chg.same hE24 hx29
  refine wpList_nil (e_sq ?_)
  refine ⟨fun h => absurd h (by decide), ?_⟩
  refine u_only 10 rfl (by kernel_rfl) ?_; intro w32 hx33
  replace h30 := h30.ext hx33
  replace hB4 := hB4.ext hx33
  replace h14 := h14.ext hx33
  have hE34 := Chg.more hE31 hx33
  refine op_g ha rfl (g_assign rfl) ?_; clear ha a; intro a ha; refine wpList_nil (e_sq ?_)
  refine ⟨fun h => absurd h (by decide), ?_⟩
  refine u_done (by kernel_rfl) ?_; intro w35 hx36
  replace h30 := h30.ext hx36
  replace hB4 := hB4.ext hx36
  replace h14 := h14.ext hx36
  have hE37 := Chg.more hE34 hx36
  replace ha := ha.sub (σ' := [(4, (.bool x25.1))]) ⟨rfl, trivial⟩; refine e_then ?_; refine wp_ret ?_; obtain rfl := Option.some.inj hF
  exact f_ret1 ha rfl rfl ⟨rfl, h30, hE37⟩
set_option maxHeartbeats 2000000 in
theorem W_impl_HoldsIn {W : World} {va0_0 : Value} {fa0_0 : List Nat} {a0_0 : (List (List Int))} (ha0_0 : Ro (Rp.sl 2 Rp.int) W fa0_0 va0_0 a0_0) {va1_0 : Value} {fa1_0 : List Nat} {a1_0 : (List (Int × (Int × Int)))} (ha1_0 : Ro (Rp.prod Rp.int (Rp.prod Rp.int Rp.int)) W fa1_0 va1_0 a1_0) {va2 : Value} {fa2 : List Nat} {a2 : (List Int)} (ha2 : Ro Rp.int W fa2 va2 a2) {va3 : Value} {fa3 : List Nat} {a3 : (List (List Int))} (ha3 : Ro (Rp.sl 2 Rp.int) W fa3 va3 a3) {r : Bool} (hF : F_impl_HoldsIn a0_0 a1_0 a2 a3 = some r) :
    Calls Try.prog 17 [.agg #[va0_0], .agg #[va1_0], va2, va3].toArray W (Ret fun u w' => u = .bool r ∧ Ext W w') := by
  refine f_enter Try.func17 rfl Try.ntmps17 rfl ?_
  intro a ha
  replace ha : Fr 67 [(0, (.agg #[va0_0])), (1, (.agg #[va1_0])), (2, va2), (3, va3)] a := ha
  have hE : Chg [] W W := Chg.refl _ _
  unfold F_impl_HoldsIn at hF
  refine wp_seq ?_; refine wp_region_lit ?_
  refine o_box ha rfl rfl rfl ?_; clear ha a; intro b1 w2 hB3 hx4 hlo5 a ha
  have q6 := Zn.one hlo5
  have q7 := Zn.upD q6 hE
  have hE8 := Ext.trans hE hx4
  refine o_box ha rfl rfl rfl ?_; clear ha a; intro b9 w10 hB11 hx12 hlo13 a ha
  have q14 := Zn.one hlo13
  have q15 := Nq.new hB3.fpb q14
  have q16 := Nq.made1 hlo13 hB3.bi
  have q17 := Zn.upD q14 hE8
  replace hB3 := hB3.ext hx12
  have hE18 := Ext.trans hE8 hx12
  refine op_g ha rfl (g_assign rfl) ?_; clear ha a; intro a ha; refine wpList_nil ?_; replace ha := ha.sub (σ' := [(2, va2), (3, va3), (4, (.pointer (some ⟨b1, 0, none⟩))), (5, (.pointer (some ⟨b9, 0, none⟩)))]) ⟨rfl, rfl, rfl, rfl, trivial⟩; refine e_then ?_; refine wp_seq ?_; refine wp_region_lit ?_; refine op_g ha rfl (g_loadA (cs := [va0_0]) Try.isAgg31 Try.sizeOf31 rfl (by simp) hB3.all) ?_; clear ha a; intro a ha; refine op_g ha rfl (g_loadA (cs := [va1_0]) Try.isAgg35 Try.sizeOf35 rfl (by simp) hB11.all) ?_; clear ha a; intro a ha; obtain ⟨x19, hc20, hF⟩ := cal_some hF
  refine o_call ha rfl rfl Try.call24 (W_impl_newJudge (ha0_0.ext hE18) (ha1_0.ext hE18) hc20) ?_; clear ha a; rintro v21 w22 ⟨fs24, b25, h26, z27, pv29, hx23⟩ a ha
  have q30 := Nq.new hB3.fpb z27
  have q31 := (Nq.append (Nq.madeB z27 hB3.bi) (Nq.rd pv29 (Nq.append (Nq.new ha0_0.bnd q7) (Nq.new ha1_0.bnd q7)) hB3.bi) : Nq (bl b25 ++ fs24) (b1 : Int))
  have q32 := Nq.new hB11.fpb z27
  have q33 := (Nq.append (Nq.madeB z27 hB11.bi) (Nq.rd pv29 (Nq.append (Nq.new ha0_0.bnd q17) (Nq.new ha1_0.bnd q17)) hB11.bi) : Nq (bl b25 ++ fs24) (b9 : Int))
  replace hB3 := hB3.ext hx23
  replace hB11 := hB11.ext hx23
  have hE34 := Ext.trans hE18 hx23
  have q35 := Zn.upD z27 hE18
  by_cases hp36 : x19.1 = true
  · replace hF := if_t hp36 hF
    obtain rfl := Jn.isnil h26 hp36
    refine op_g ha rfl (g_assign rfl) ?_; clear ha a; intro a ha; refine wpList_nil ?_; replace ha := ha.sub (σ' := [(2, va2), (3, va3), (4, (.pointer (some ⟨b1, 0, none⟩))), (9, (.pointer none))]) ⟨rfl, rfl, rfl, rfl, trivial⟩; refine e_then ?_; refine wp_seq ?_; refine wp_seq ?_; refine wp_region_lit ?_; refine op_g ha rfl (g_move rfl) ?_; clear ha a; intro a ha; refine op_g ha rfl (g_peql un51 rfl rfl) ?_; clear ha a; intro a ha; refine op_g ha rfl (g_move rfl) ?_; clear ha a; intro a ha; (iterate 3 refine op_unwant ha rfl (yields ha rfl rfl) rfl ?_; clear ha a; intro a ha); refine op_g ha rfl (g_pick rfl rfl) ?_; clear ha a; intro a ha
    refine op_g ha rfl (g_move rfl) ?_; clear ha a; intro a ha; (iterate 3 refine op_unwant ha rfl (yields ha rfl rfl) rfl ?_; clear ha a; intro a ha); refine op_g ha rfl (g_pick rfl rfl) ?_; clear ha a; intro a ha; refine wpList_nil ?_; replace ha := ha.sub (σ' := [(2, va2), (3, va3), (4, (.pointer (some ⟨b1, 0, none⟩))), (9, (.pointer none)), (29, (.bool true))]) ⟨rfl, rfl, rfl, rfl, rfl, trivial⟩; refine e_then ?_; refine c_true ha rfl ?_; refine wp_seq ?_; refine wp_region_lit ?_; refine op_g ha rfl (g_assign rfl) ?_; clear ha a; intro a ha; refine wpList_nil ?_; replace ha := ha.sub (σ' := [(8, (.bool false))]) ⟨rfl, trivial⟩
    refine e_then ?_; refine wp_ret ?_; refine e_then_ret ?_; obtain rfl := Option.some.inj hF
    exact f_ret1 ha rfl rfl ⟨rfl, hE34⟩
  replace hF := if_f hp36 hF
  have hJ37 := Jn.jq h26 hp36
  obtain ⟨j38, rfl⟩ := hJ37.ptr
  refine op_g ha rfl (g_assign rfl) ?_; clear ha a; intro a ha; refine wpList_nil ?_; replace ha := ha.sub (σ' := [(2, va2), (3, va3), (4, (.pointer (some ⟨b1, 0, none⟩))), (9, (.pointer (some ⟨j38, 0, none⟩)))]) ⟨rfl, rfl, rfl, rfl, trivial⟩; refine e_then ?_; refine wp_seq ?_; refine wp_seq ?_; refine wp_region_lit ?_; refine op_g ha rfl (g_move rfl) ?_; clear ha a; intro a ha; refine op_g ha rfl (g_peql un51 rfl rfl) ?_; clear ha a; intro a ha; refine op_g ha rfl (g_move rfl) ?_; clear ha a; intro a ha; refine op_want (yields ha rfl rfl) ?_; refine op_g ha rfl (g_move rfl) ?_; clear ha a; intro a ha
  refine op_want (yields ha rfl rfl) ?_; refine op_g ha rfl (g_lenR sl40.und ha2 rfl) ?_; clear ha a; intro a ha; refine op_want (yields ha rfl rfl) ?_; refine op_g ha rfl (g_neq rfl rfl) ?_; clear ha a; intro a ha; refine op_g ha rfl (g_pick rfl rfl) ?_; clear ha a; intro a ha; refine op_g ha rfl (g_move rfl) ?_; clear ha a; intro a ha
  by_cases hp41 : (a2.length : Int) ≠ 3
  · replace hF := if_t hp41 hF
    rw [show (decide ((a2.length : Int) ≠ 3)) = true from (decide_eq_true_iff).2 hp41] at ha
    (iterate 3 refine op_unwant ha rfl (yields ha rfl rfl) rfl ?_; clear ha a; intro a ha); refine op_g ha rfl (g_pick rfl rfl) ?_; clear ha a; intro a ha; refine wpList_nil ?_; replace ha := ha.sub (σ' := [(2, va2), (3, va3), (4, (.pointer (some ⟨b1, 0, none⟩))), (9, (.pointer (some ⟨j38, 0, none⟩))), (29, (.bool true))]) ⟨rfl, rfl, rfl, rfl, rfl, trivial⟩; refine e_then ?_; refine c_true ha rfl ?_; refine wp_seq ?_; refine wp_region_lit ?_; refine op_g ha rfl (g_assign rfl) ?_; clear ha a; intro a ha; refine wpList_nil ?_; replace ha := ha.sub (σ' := [(8, (.bool false))]) ⟨rfl, trivial⟩; refine e_then ?_
    refine wp_ret ?_; refine e_then_ret ?_; obtain rfl := Option.some.inj hF
    exact f_ret1 ha rfl rfl ⟨rfl, hE34⟩
  replace hF := if_f hp41 hF
  rw [show (decide ((a2.length : Int) ≠ 3)) = false from b_false (decide_eq_true_iff) hp41] at ha
  refine op_want (yields ha rfl rfl) ?_; refine op_g ha rfl (g_move rfl) ?_; clear ha a; intro a ha; refine op_want (yields ha rfl rfl) ?_; refine op_g ha rfl (g_lenR sl22.und ha3 rfl) ?_; clear ha a; intro a ha; refine op_want (yields ha rfl rfl) ?_; refine op_g ha rfl (g_neq rfl rfl) ?_; clear ha a; intro a ha; refine op_g ha rfl (g_pick rfl rfl) ?_; clear ha a; intro a ha; refine wpList_nil ?_; replace ha := ha.sub (σ' := [(2, va2), (3, va3), (4, (.pointer (some ⟨b1, 0, none⟩))), (9, (.pointer (some ⟨j38, 0, none⟩))), (29, (.bool (decide ((a3.length : Int) ≠ 2))))]) ⟨rfl, rfl, rfl, rfl, rfl, trivial⟩
  refine e_then ?_; refine c_cond ((a3.length : Int) ≠ 2) ha rfl (decide_eq_true_iff) (fun hp42 => ?_) (fun hp42 => ?_)
  · replace hF := if_t hp42 hF
    refine wp_seq ?_; refine wp_region_lit ?_; refine op_g ha rfl (g_assign rfl) ?_; clear ha a; intro a ha; refine wpList_nil ?_; replace ha := ha.sub (σ' := [(8, (.bool false))]) ⟨rfl, trivial⟩; refine e_then ?_; refine wp_ret ?_; refine e_then_ret ?_; obtain rfl := Option.some.inj hF
    exact f_ret1 ha rfl rfl ⟨rfl, hE34⟩
  replace hF := if_f hp42 hF; refine wp_skip ?_; refine e_then ?_; refine wp_seq ?_; refine wp_region_lit ?_; refine op_g ha rfl (g_build (vs := []) (cells := #[(.int .i64 0), (.int .i64 0), (.int .i64 0), (.int .u32 (BitVec.toNat (0#32) : Int)), (.int .u32 (BitVec.toNat (0#32) : Int))]) rfl (by rfl)) ?_; clear ha a; intro a ha
  refine o_alloc (cs := [(.int .i64 0), (.int .i64 0), (.int .i64 0), (.int .u32 (BitVec.toNat (0#32) : Int)), (.int .u32 (BitVec.toNat (0#32) : Int))]) ha rfl Try.zeroValue59 rfl ?_; clear ha a; intro b43 w44 hB45 hx46 hlo47 a ha
  have q48 := Zn.one hlo47
  have q49 := Nq.new hB3.fpb q48
  have q50 := Nq.made1 hlo47 hB3.bi
  have q51 := Nq.new hJ37.fpb q48
  have q52 := Nq.made1 hlo47 hJ37.blt
  have q53 := Zn.upD q48 hE34
  replace hB3 := hB3.ext hx46
  replace hJ37 := hJ37.ext hx46
  have hE54 := Ext.trans hE34 hx46
  refine o_storeA (vs := [(.int .i64 0), (.int .i64 0), (.int .i64 0), (.int .u32 (BitVec.toNat (0#32) : Int)), (.int .u32 (BitVec.toNat (0#32) : Int))]) ha hB45 Try.sizeOf59 rfl rfl (by intro c hc; simp only [List.mem_cons, List.not_mem_nil, or_false] at hc; rcases hc with hc | hc | hc | hc | hc <;> subst hc <;> first | rfl | exact rfl | exact rfl | exact rfl | exact rfl | exact rfl) rfl ?_; intro w55 hB56 hc57
  replace hc57 := hc57.bl
  replace hB56 : Bx w55 b43 [(.int .i64 0), (.int .i64 0), (.int .i64 0), (.int .u32 (BitVec.toNat (0#32) : Int)), (.int .u32 (BitVec.toNat (0#32) : Int))] 59 := hB56
  replace hB3 := hB3.nq hc57 q49
  replace hJ37 := hJ37.nq hc57 q51
  have hE58 := Ext.then hE54 hc57 (Zn.bl q53)
  refine wpList_nil ?_; replace ha := ha.sub (σ' := [(2, va2), (3, va3), (4, (.pointer (some ⟨b1, 0, none⟩))), (9, (.pointer (some ⟨j38, 0, none⟩))), (10, (.pointer (some ⟨b43, 0, none⟩)))]) ⟨rfl, rfl, rfl, rfl, rfl, trivial⟩; refine e_then ?_; refine wp_seq ?_; refine wp_seq ?_; refine wp_region_lit ?_; refine op_g ha rfl (g_move rfl) ?_; clear ha a; intro a ha; refine op_g ha rfl (g_lenR sl40.und ha2 rfl) ?_; clear ha a; intro a ha; refine op_g ha rfl (g_move rfl) ?_; clear ha a; intro a ha; refine wpList_nil ?_; replace ha := ha.sub (σ' := [(3, va3), (4, (.pointer (some ⟨b1, 0, none⟩))), (9, (.pointer (some ⟨j38, 0, none⟩))), (10, (.pointer (some ⟨b43, 0, none⟩))), (31, va2), (32, (.int .i64 (a2.length : Int))), (33, (.int .i64 0))]) ⟨rfl, rfl, rfl, rfl, rfl, rfl, rfl, trivial⟩
  refine e_then ?_; obtain ⟨o219, ho220, hK221⟩ := bnd_some hF
  obtain ⟨n222, hn223⟩ := lp_some ho220; clear ho220
  refine c_loop (fun a w => ∃ (i207 : Int) (i209 : Int) (i211 : Int), Fr 67 [(3, va3), (4, (.pointer (some ⟨b1, 0, none⟩))), (9, (.pointer (some ⟨j38, 0, none⟩))), (10, (.pointer (some ⟨b43, 0, none⟩)))] a ∧ Chg [] W w ∧ InI i207 ∧ InI i209 ∧ InI i211 ∧ Bx w b1 [va0_0] 31 ∧ Zn W (b1 : Int) ∧ Jq Try.prog 82 97 w fs24 b25 (.pointer (some ⟨j38, 0, none⟩)) x19.2 ∧ Zn W b25 ∧ Bx w b43 [(.int .i64 i207), (.int .i64 i209), (.int .i64 i211), (.int .u32 (BitVec.toNat (0#32) : Int)), (.int .u32 (BitVec.toNat (0#32) : Int))] 59 ∧ Zn W (b43 : Int) ∧ Nq ([b1]) b25 ∧ Nq ([b1]) (b43 : Int) ∧ Nq (bl b25 ++ fs24) (b1 : Int) ∧ Nq (bl b25 ++ fs24) (b43 : Int) ∧ Nq ([b43]) (b1 : Int) ∧ Nq ([b43]) b25 ∧ o219 = .inl (i207, i209, i211)) (fun n a w => ∃ (i133 : Int) (i135 : Int) (i137 : Int) (i139 : Int), Fr 67 [(3, va3), (4, (.pointer (some ⟨b1, 0, none⟩))), (9, (.pointer (some ⟨j38, 0, none⟩))), (10, (.pointer (some ⟨b43, 0, none⟩))), (31, va2), (32, (.int .i64 (a2.length : Int))), (33, (.int .i64 i139))] a ∧ Chg [] W w ∧ InI i133 ∧ InI i135 ∧ InI i137 ∧ InI i139 ∧ Bx w b1 [va0_0] 31 ∧ Zn W (b1 : Int) ∧ Jq Try.prog 82 97 w fs24 b25 (.pointer (some ⟨j38, 0, none⟩)) x19.2 ∧ Zn W b25 ∧ Bx w b43 [(.int .i64 i133), (.int .i64 i135), (.int .i64 i137), (.int .u32 (BitVec.toNat (0#32) : Int)), (.int .u32 (BitVec.toNat (0#32) : Int))] 59 ∧ Zn W (b43 : Int) ∧ Nq ([b1]) b25 ∧ Nq ([b1]) (b43 : Int) ∧ Nq (bl b25 ++ fs24) (b1 : Int) ∧ Nq (bl b25 ++ fs24) (b43 : Int) ∧ Nq ([b43]) (b1 : Int) ∧ Nq ([b43]) b25 ∧ lpN (fun s => F_impl_HoldsIn_l1 a0_0 a2 s.1 s.2.1 s.2.2.1 s.2.2.2) n (i133, i135, i137, i139) = some o219) n222 ⟨0, 0, 0, 0, ha.sub ⟨rfl, rfl, rfl, rfl, rfl, rfl, rfl, trivial⟩, hE58, (show InI 0 from by decide), (show InI 0 from by decide), (show InI 0 from by decide), (show InI 0 from by decide), hB3, q7, hJ37, q35, hB56, q53, q30, q49, q31, q51, q50, q52, hn223⟩ ?_ ?_
  · rintro m227 a w125 ⟨i133, i135, i137, i139, ha, hE147, hI134, hI136, hI138, hI140, hB126, z127, h129, z130, hB131, z132, q141, q142, q143, q144, q145, q146, hF⟩
    cases m227 with
    | zero => exact (lpN_zero hF).elim
    | succ m227 =>
      obtain ⟨z226, hF, hN225⟩ := lpN_succ hF
      have hF : F_impl_HoldsIn_l1 a0_0 a2 i133 i135 i137 i139 = some z226 := hF; unfold F_impl_HoldsIn_l1 at hF
      refine wp_seq ?_; refine wp_region_lit ?_; refine op_g ha rfl (g_lss rfl rfl) ?_; clear ha a; intro a ha; refine wpList_nil ?_; replace ha := ha.sub (σ' := [(3, va3), (4, (.pointer (some ⟨b1, 0, none⟩))), (9, (.pointer (some ⟨j38, 0, none⟩))), (10, (.pointer (some ⟨b43, 0, none⟩))), (31, va2), (32, (.int .i64 (a2.length : Int))), (33, (.int .i64 i139)), (34, (.bool (decide (i139 < (a2.length : Int)))))]) ⟨rfl, rfl, rfl, rfl, rfl, rfl, rfl, rfl, trivial⟩; refine e_then ?_; refine wp_seq ?_; refine c_cond (i139 < (a2.length : Int)) ha rfl (decide_eq_true_iff) (fun hp228 => ?_) (fun hp228 => ?_)
      · replace hF := if_t hp228 hF
        refine wp_skip ?_; refine e_then ?_; refine wp_seq ?_; refine wp_block ?_; refine wp_seq ?_; refine wp_region_lit ?_; refine op_g ha rfl (g_move rfl) ?_; clear ha a; intro a ha; obtain ⟨x229, g230, gx231, hF⟩ := idx_some hF
        obtain ⟨p232, cs233, f234, hf235, hpb236, hat237, hr238, hi239⟩ := ha2.at g230 gx231
        obtain ⟨rfl, hI240, rfl⟩ := hr238
        refine op_g ha rfl (hi239.gives sl40 rfl rfl) ?_; clear ha a; intro a ha; refine op_g ha rfl (g_load0 hE147 Try.isAgg2 rfl hat237.one) ?_; clear ha a; intro a ha; (iterate 2 refine op_g ha rfl (g_assign rfl) ?_; clear ha a; intro a ha); refine wpList_nil ?_; replace ha := ha.sub (σ' := [(3, va3), (4, (.pointer (some ⟨b1, 0, none⟩))), (9, (.pointer (some ⟨j38, 0, none⟩))), (10, (.pointer (some ⟨b43, 0, none⟩))), (11, (.int .i64 i139)), (12, (.int .i64 x229)), (31, va2), (32, (.int .i64 (a2.length : Int))), (33, (.int .i64 i139))]) ⟨rfl, rfl, rfl, rfl, rfl, rfl, rfl, rfl, rfl, trivial⟩; refine e_then ?_
        refine wp_seq ?_; refine wp_seq ?_; refine wp_region_lit ?_; refine op_g ha rfl (g_loadA (cs := [va0_0]) Try.isAgg31 Try.sizeOf31 rfl (by simp) hB126.all) ?_; clear ha a; intro a ha; refine op_g ha rfl (g_move rfl) ?_; clear ha a; intro a ha; obtain ⟨x241, hc242, hF⟩ := cal_some hF
        refine o_call ha rfl rfl Try.call31 (W_impl_isVertex (ha0_0.ext hE147) hI240 hc242) ?_; clear ha a; rintro v243 w244 ⟨rfl, hx245⟩ a ha
        replace hB126 := hB126.ext hx245
        replace h129 := h129.ext hx245
        replace hB131 := hB131.ext hx245
        have hE246 := Ext.trans hE147 hx245
        refine op_g ha rfl (g_not rfl) ?_; clear ha a; intro a ha; refine wpList_nil ?_; replace ha := ha.sub (σ' := [(3, va3), (4, (.pointer (some ⟨b1, 0, none⟩))), (9, (.pointer (some ⟨j38, 0, none⟩))), (10, (.pointer (some ⟨b43, 0, none⟩))), (11, (.int .i64 i139)), (12, (.int .i64 x229)), (31, va2), (32, (.int .i64 (a2.length : Int))), (33, (.int .i64 i139)), (41, (.bool (!x241)))]) ⟨rfl, rfl, rfl, rfl, rfl, rfl, rfl, rfl, rfl, rfl, trivial⟩; refine e_then ?_; refine c_cond (¬ (x241 = true)) ha rfl (n_iff (Iff.rfl)) (fun hp247 => ?_) (fun hp247 => ?_)
        · replace hF := if_t hp247 hF
          refine wp_seq ?_; refine wp_region_lit ?_; refine op_g ha rfl (g_assign rfl) ?_; clear ha a; intro a ha; refine wpList_nil ?_; replace ha := ha.sub (σ' := [(8, (.bool false))]) ⟨rfl, trivial⟩; refine e_then ?_; refine wp_ret ?_; refine e_then_ret ?_; refine e_blk_ret ?_; refine e_then_ret ?_; refine e_lq_ret ?_; refine e_then_ret ?_; obtain rfl := Option.some.inj hF
          have e248 := LK_inr hN225; subst e248
          have e249 := BK_inr hK221; subst e249
          exact f_ret1 ha rfl rfl ⟨rfl, hE246⟩
        replace hF := if_f hp247 hF; refine wp_skip ?_; refine e_then ?_; refine wp_region_lit ?_; (iterate 2 refine op_g ha rfl (g_move rfl) ?_; clear ha a; intro a ha); refine op_g ha rfl (g_field0 st59_0 rfl) ?_; clear ha a; intro a ha; obtain ⟨x250, g251, gx252, hF⟩ := idx_some hF; refine op_g ha rfl (g_idxBx un54 Try.sizeOf3 rfl rfl g251 (idx_lt g251 gx252 rfl)) ?_; clear ha a; intro a ha
        refine o_storeB ha hB131 Try.sizeOf3 rfl rfl rfl rfl (bxi_lt (pre := []) (post := [(.int .u32 (BitVec.toNat (0#32) : Int)), (.int .u32 (BitVec.toNat (0#32) : Int))]) (Value.int .i64) gx252) ?_; intro w253 hB254 hc255
        replace hc255 := hc255.bl
        replace hB254 : Bx w253 b43 [(.int .i64 (if i139 = 0 then x229 else i133)), (.int .i64 (if i139 = 1 then x229 else i135)), (.int .i64 (if i139 = 2 then x229 else i137)), (.int .u32 (BitVec.toNat (0#32) : Int)), (.int .u32 (BitVec.toNat (0#32) : Int))] 59 := Bx.eq (bxi_set3 (pre := []) (post := [(.int .u32 (BitVec.toNat (0#32) : Int)), (.int .u32 (BitVec.toNat (0#32) : Int))]) (Value.int .i64) g251 gx252) hB254
        replace hB126 := hB126.nq hc255 q142
        replace h129 := h129.nq hc255 q144
        have hE256 := Ext.then hE246 hc255 (Zn.bl z132)
        refine wpList_nil ?_; replace ha := ha.sub (σ' := [(3, va3), (4, (.pointer (some ⟨b1, 0, none⟩))), (9, (.pointer (some ⟨j38, 0, none⟩))), (10, (.pointer (some ⟨b43, 0, none⟩))), (31, va2), (32, (.int .i64 (a2.length : Int))), (33, (.int .i64 i139))]) ⟨rfl, rfl, rfl, rfl, rfl, rfl, rfl, trivial⟩; refine e_blk ?_; refine e_then ?_; refine wp_region_lit ?_; obtain ⟨hI257, hF⟩ := ck_some hF; refine op_g ha rfl (g_add rfl rfl hI257) ?_; clear ha a; intro a ha; refine op_g ha rfl (g_move rfl) ?_; clear ha a; intro a ha; refine wpList_nil ?_; replace ha := ha.sub (σ' := [(3, va3), (4, (.pointer (some ⟨b1, 0, none⟩))), (9, (.pointer (some ⟨j38, 0, none⟩))), (10, (.pointer (some ⟨b43, 0, none⟩))), (31, va2), (32, (.int .i64 (a2.length : Int))), (33, (.int .i64 (i139 + 1)))]) ⟨rfl, rfl, rfl, rfl, rfl, rfl, rfl, trivial⟩
        refine e_lq ?_; obtain rfl := Option.some.inj hF
        exact ⟨_, Nat.lt_succ_self _, (if i139 = 0 then x229 else i133), (if i139 = 1 then x229 else i135), (if i139 = 2 then x229 else i137), i139 + 1, ha.sub ⟨rfl, rfl, rfl, rfl, rfl, rfl, rfl, trivial⟩, hE256, (InI.ite hI240 hI134), (InI.ite hI240 hI136), (InI.ite hI240 hI138), hI257, hB126, z127, h129, z130, hB254, z132, q141, q142, q143, q144, q145, q146, hN225⟩
      replace hF := if_f hp228 hF; refine wp_exit ?_; refine e_then_exit ?_; refine e_lq_eq ?_; obtain rfl := Option.some.inj hF
      exact ⟨i133, i135, i137, ha.sub ⟨rfl, rfl, rfl, rfl, trivial⟩, hE147, hI134, hI136, hI138, hB126, z127, h129, z130, hB131, z132, q141, q142, q143, q144, q145, q146, (LK_inr hN225).symm⟩
  rintro a w199 ⟨i207, i209, i211, ha, hE224, hI208, hI210, hI212, hB200, z201, h203, z204, hB205, z206, q213, q214, q215, q216, q217, q218, rfl⟩
  have hF : F_impl_HoldsIn_k2 a0_0 a3 x19 i207 i209 i211 = some _ := hK221; clear hK221; unfold F_impl_HoldsIn_k2 at hF
  refine e_then ?_; refine wp_seq ?_; refine wp_seq ?_; refine wp_region_lit ?_; refine op_g ha rfl (g_move rfl) ?_; clear ha a; intro a ha; refine op_g ha rfl (g_lenR sl22.und ha3 rfl) ?_; clear ha a; intro a ha; refine op_g ha rfl (g_move rfl) ?_; clear ha a; intro a ha; refine wpList_nil ?_; replace ha := ha.sub (σ' := [(4, (.pointer (some ⟨b1, 0, none⟩))), (9, (.pointer (some ⟨j38, 0, none⟩))), (10, (.pointer (some ⟨b43, 0, none⟩))), (47, va3), (48, (.int .i64 (a3.length : Int))), (49, (.int .i64 0))]) ⟨rfl, rfl, rfl, rfl, rfl, rfl, trivial⟩; refine e_then ?_; obtain ⟨o413, ho414, hK415⟩ := bnd_some hF
  obtain ⟨n416, hn417⟩ := lp_some ho414; clear ho414
  refine c_loop (fun a w => ∃ (u409 : BitVec 32) (u410 : BitVec 32), Fr 67 [(9, (.pointer (some ⟨j38, 0, none⟩))), (10, (.pointer (some ⟨b43, 0, none⟩)))] a ∧ Chg [] W w ∧ Jq Try.prog 82 97 w fs24 b25 (.pointer (some ⟨j38, 0, none⟩)) x19.2 ∧ Zn W b25 ∧ Bx w b43 [(.int .i64 i207), (.int .i64 i209), (.int .i64 i211), (.int .u32 (BitVec.toNat u409 : Int)), (.int .u32 (BitVec.toNat u410 : Int))] 59 ∧ Zn W (b43 : Int) ∧ Nq (bl b25 ++ fs24) (b43 : Int) ∧ Nq ([b43]) b25 ∧ o413 = .inl (u409, u410)) (fun n a w => ∃ (u337 : BitVec 32) (u338 : BitVec 32) (i339 : Int), Fr 67 [(4, (.pointer (some ⟨b1, 0, none⟩))), (9, (.pointer (some ⟨j38, 0, none⟩))), (10, (.pointer (some ⟨b43, 0, none⟩))), (47, va3), (48, (.int .i64 (a3.length : Int))), (49, (.int .i64 i339))] a ∧ Chg [] W w ∧ InI i339 ∧ Bx w b1 [va0_0] 31 ∧ Zn W (b1 : Int) ∧ Jq Try.prog 82 97 w fs24 b25 (.pointer (some ⟨j38, 0, none⟩)) x19.2 ∧ Zn W b25 ∧ Bx w b43 [(.int .i64 i207), (.int .i64 i209), (.int .i64 i211), (.int .u32 (BitVec.toNat u337 : Int)), (.int .u32 (BitVec.toNat u338 : Int))] 59 ∧ Zn W (b43 : Int) ∧ Nq ([b1]) b25 ∧ Nq ([b1]) (b43 : Int) ∧ Nq (bl b25 ++ fs24) (b1 : Int) ∧ Nq (bl b25 ++ fs24) (b43 : Int) ∧ Nq ([b43]) (b1 : Int) ∧ Nq ([b43]) b25 ∧ lpN (fun s => F_impl_HoldsIn_l3 a0_0 a3 s.1 s.2.1 s.2.2) n (u337, u338, i339) = some o413) n416 ⟨0#32, 0#32, 0, ha.sub ⟨rfl, rfl, rfl, rfl, rfl, rfl, trivial⟩, hE224, (show InI 0 from by decide), hB200, z201, h203, z204, hB205, z206, q213, q214, q215, q216, q217, q218, hn417⟩ ?_ ?_
  · rintro m421 a w329 ⟨u337, u338, i339, ha, hE347, hI340, hB330, z331, h333, z334, hB335, z336, q341, q342, q343, q344, q345, q346, hF⟩
    cases m421 with
    | zero => exact (lpN_zero hF).elim
    | succ m421 =>
      obtain ⟨z420, hF, hN419⟩ := lpN_succ hF
      have hF : F_impl_HoldsIn_l3 a0_0 a3 u337 u338 i339 = some z420 := hF; unfold F_impl_HoldsIn_l3 at hF
      refine wp_seq ?_; refine wp_region_lit ?_; refine op_g ha rfl (g_lss rfl rfl) ?_; clear ha a; intro a ha; refine wpList_nil ?_; replace ha := ha.sub (σ' := [(4, (.pointer (some ⟨b1, 0, none⟩))), (9, (.pointer (some ⟨j38, 0, none⟩))), (10, (.pointer (some ⟨b43, 0, none⟩))), (47, va3), (48, (.int .i64 (a3.length : Int))), (49, (.int .i64 i339)), (50, (.bool (decide (i339 < (a3.length : Int)))))]) ⟨rfl, rfl, rfl, rfl, rfl, rfl, rfl, trivial⟩; refine e_then ?_; refine wp_seq ?_; refine c_cond (i339 < (a3.length : Int)) ha rfl (decide_eq_true_iff) (fun hp422 => ?_) (fun hp422 => ?_)
      · replace hF := if_t hp422 hF
        refine wp_skip ?_; refine e_then ?_; refine wp_seq ?_; refine wp_block ?_; refine wp_seq ?_; refine wp_region_lit ?_; refine op_g ha rfl (g_move rfl) ?_; clear ha a; intro a ha; obtain ⟨x423, g424, gx425, hF⟩ := idx_some hF
        obtain ⟨p426, cs427, f428, hf429, hpb430, hat431, hr432, hi433⟩ := ha3.at g424 gx425
        obtain ⟨v434, rfl, h435⟩ := hr432
        have h435 : Ro Rp.int W f428 v434 x423 := h435
        refine op_g ha rfl (hi433.gives sl22 rfl rfl) ?_; clear ha a; intro a ha; refine op_g ha rfl (g_load0 hE347 Try.isAgg40 rfl hat431.one) ?_; clear ha a; intro a ha; (iterate 2 refine op_g ha rfl (g_assign rfl) ?_; clear ha a; intro a ha); refine wpList_nil ?_; replace ha := ha.sub (σ' := [(4, (.pointer (some ⟨b1, 0, none⟩))), (9, (.pointer (some ⟨j38, 0, none⟩))), (10, (.pointer (some ⟨b43, 0, none⟩))), (13, (.int .i64 i339)), (14, v434), (47, va3), (48, (.int .i64 (a3.length : Int))), (49, (.int .i64 i339))]) ⟨rfl, rfl, rfl, rfl, rfl, rfl, rfl, rfl, trivial⟩; refine e_then ?_; refine wp_seq ?_
        refine wp_seq ?_; refine wp_region_lit ?_; refine op_g ha rfl (g_loadA (cs := [va0_0]) Try.isAgg31 Try.sizeOf31 rfl (by simp) hB330.all) ?_; clear ha a; intro a ha; refine op_g ha rfl (g_move rfl) ?_; clear ha a; intro a ha; obtain ⟨x437, hc438, hF⟩ := cal_some hF
        refine o_call ha rfl rfl Try.call32 (W_impl_SetOk (ha0_0.ext hE347) (h435.ext hE347) hc438) ?_; clear ha a; rintro v439 w440 ⟨rfl, hx441⟩ a ha
        replace hB330 := hB330.ext hx441
        replace h333 := h333.ext hx441
        replace hB335 := hB335.ext hx441
        have hE442 := Ext.trans hE347 hx441
        refine op_g ha rfl (g_not rfl) ?_; clear ha a; intro a ha; refine wpList_nil ?_; replace ha := ha.sub (σ' := [(4, (.pointer (some ⟨b1, 0, none⟩))), (9, (.pointer (some ⟨j38, 0, none⟩))), (10, (.pointer (some ⟨b43, 0, none⟩))), (13, (.int .i64 i339)), (14, v434), (47, va3), (48, (.int .i64 (a3.length : Int))), (49, (.int .i64 i339)), (57, (.bool (!x437)))]) ⟨rfl, rfl, rfl, rfl, rfl, rfl, rfl, rfl, rfl, trivial⟩; refine e_then ?_; refine c_cond (¬ (x437 = true)) ha rfl (n_iff (Iff.rfl)) (fun hp443 => ?_) (fun hp443 => ?_)
        · replace hF := if_t hp443 hF
          refine wp_seq ?_; refine wp_region_lit ?_; refine op_g ha rfl (g_assign rfl) ?_; clear ha a; intro a ha; refine wpList_nil ?_; replace ha := ha.sub (σ' := [(8, (.bool false))]) ⟨rfl, trivial⟩; refine e_then ?_; refine wp_ret ?_; refine e_then_ret ?_; refine e_blk_ret ?_; refine e_then_ret ?_; refine e_lq_ret ?_; refine e_then_ret ?_; obtain rfl := Option.some.inj hF
          have e444 := LK_inr hN419; subst e444
          have e445 := BK_inr hK415; subst e445
          exact f_ret1 ha rfl rfl ⟨rfl, hE442⟩
        replace hF := if_f hp443 hF; refine wp_skip ?_; refine e_then ?_; refine wp_region_lit ?_; (iterate 2 refine op_g ha rfl (g_move rfl) ?_; clear ha a; intro a ha); obtain ⟨x446, hc447, hF⟩ := cal_some hF
        refine o_call ha rfl rfl Try.call33 (W_impl_maskOf (h435.ext hE442) hc447) ?_; clear ha a; rintro v448 w449 ⟨rfl, hx450⟩ a ha
        replace hB330 := hB330.ext hx450
        replace h333 := h333.ext hx450
        replace hB335 := hB335.ext hx450
        have hE451 := Ext.trans hE442 hx450
        refine op_g ha rfl (g_field0 st59_1 rfl) ?_; clear ha a; intro a ha; obtain ⟨x452, g453, gx454, hF⟩ := idx_some hF; refine op_g ha rfl (g_idxBx un57 Try.sizeOf56 rfl rfl g453 (idx_lt g453 gx454 rfl)) ?_; clear ha a; intro a ha
        refine o_storeB ha hB335 Try.sizeOf56 rfl rfl rfl rfl (bxi_lt (pre := [(.int .i64 i207), (.int .i64 i209), (.int .i64 i211)]) (post := []) (fun x : BitVec 32 => Value.int .u32 (BitVec.toNat x : Int)) gx454) ?_; intro w455 hB456 hc457
        replace hc457 := hc457.bl
        replace hB456 : Bx w455 b43 [(.int .i64 i207), (.int .i64 i209), (.int .i64 i211), (.int .u32 (BitVec.toNat (if i339 = 0 then x446 else u337) : Int)), (.int .u32 (BitVec.toNat (if i339 = 1 then x446 else u338) : Int))] 59 := Bx.eq (bxi_set2 (pre := [(.int .i64 i207), (.int .i64 i209), (.int .i64 i211)]) (post := []) (fun x : BitVec 32 => Value.int .u32 (BitVec.toNat x : Int)) g453 gx454) hB456
        replace hB330 := hB330.nq hc457 q342
        replace h333 := h333.nq hc457 q344
        have hE458 := Ext.then hE451 hc457 (Zn.bl z336)
        refine wpList_nil ?_; replace ha := ha.sub (σ' := [(4, (.pointer (some ⟨b1, 0, none⟩))), (9, (.pointer (some ⟨j38, 0, none⟩))), (10, (.pointer (some ⟨b43, 0, none⟩))), (47, va3), (48, (.int .i64 (a3.length : Int))), (49, (.int .i64 i339))]) ⟨rfl, rfl, rfl, rfl, rfl, rfl, trivial⟩; refine e_blk ?_; refine e_then ?_; refine wp_region_lit ?_; obtain ⟨hI459, hF⟩ := ck_some hF; refine op_g ha rfl (g_add rfl rfl hI459) ?_; clear ha a; intro a ha; refine op_g ha rfl (g_move rfl) ?_; clear ha a; intro a ha; refine wpList_nil ?_; replace ha := ha.sub (σ' := [(4, (.pointer (some ⟨b1, 0, none⟩))), (9, (.pointer (some ⟨j38, 0, none⟩))), (10, (.pointer (some ⟨b43, 0, none⟩))), (47, va3), (48, (.int .i64 (a3.length : Int))), (49, (.int .i64 (i339 + 1)))]) ⟨rfl, rfl, rfl, rfl, rfl, rfl, trivial⟩
        refine e_lq ?_; obtain rfl := Option.some.inj hF
        exact ⟨_, Nat.lt_succ_self _, (if i339 = 0 then x446 else u337), (if i339 = 1 then x446 else u338), i339 + 1, ha.sub ⟨rfl, rfl, rfl, rfl, rfl, rfl, trivial⟩, hE458, hI459, hB330, z331, h333, z334, hB456, z336, q341, q342, q343, q344, q345, q346, hN419⟩
      replace hF := if_f hp422 hF; refine wp_exit ?_; refine e_then_exit ?_; refine e_lq_eq ?_; obtain rfl := Option.some.inj hF
      exact ⟨u337, u338, ha.sub ⟨rfl, rfl, trivial⟩, hE347, h333, z334, hB335, z336, q344, q346, (LK_inr hN419).symm⟩
  rintro a w403 ⟨u409, u410, ha, hE418, h405, z406, hB407, z408, q411, q412, rfl⟩
  have hF : F_impl_HoldsIn_k4 x19 i207 i209 i211 u409 u410 = some _ := hK415; clear hK415; unfold F_impl_HoldsIn_k4 at hF
  refine e_then ?_; refine wp_seq ?_; refine wp_region_lit ?_; refine op_g ha rfl (g_move rfl) ?_; clear ha a; intro a ha; refine op_g ha rfl (g_loadA (cs := [(.int .i64 i207), (.int .i64 i209), (.int .i64 i211), (.int .u32 (BitVec.toNat u409 : Int)), (.int .u32 (BitVec.toNat u410 : Int))]) Try.isAgg59 Try.sizeOf59 rfl (by simp) hB407.all) ?_; clear ha a; intro a ha; obtain ⟨x461, hc462, hF⟩ := cal_some hF
  refine o_call ha rfl rfl Try.call25 (W_impl_judge_root h405 hI208 hI210 hI212 hc462) ?_; clear ha a; rintro v463 w464 ⟨rfl, h466, hx465⟩ a ha
  replace hB407 := hB407.nq hx465 q412
  have hE467 := Ext.then hE418 hx465 (Zn.bl z406)
  refine op_g ha rfl (g_assign rfl) ?_; clear ha a; intro a ha; refine wpList_nil ?_; replace ha := ha.sub (σ' := [(8, (.bool x461.1))]) ⟨rfl, trivial⟩; refine e_then ?_; refine wp_ret ?_; obtain rfl := Option.some.inj hF
  exact f_ret1 ha rfl rfl ⟨rfl, hE467⟩
set_option maxHeartbeats 2000000 in
theorem W_laws_eqInt64S {W : World} {va0 : Value} {fa0 : List Nat} {a0 : (List Int)} (ha0 : Ro Rp.int W fa0 va0 a0) {va1 : Value} {fa1 : List Nat} {a1 : (List Int)} (ha1 : Ro Rp.int W fa1 va1 a1) {r : Bool} (hF : F_laws_eqInt64S a0 a1 = some r) :
    Calls Try.prog 18 [va0, va1].toArray W (Ret fun u w' => u = .bool r ∧ Ext W w') := by
  refine f_enter Try.func18 rfl Try.ntmps18 rfl ?_
  intro a ha
  replace ha : Fr 26 [(0, va0), (1, va1)] a := ha
  have hE : Chg [] W W := Chg.refl _ _
  unfold F_laws_eqInt64S at hF
  refine wp_seq ?_; refine wp_region_lit ?_; refine op_g ha rfl (g_assign rfl) ?_; clear ha a; intro a ha; refine wpList_nil ?_; replace ha := ha.sub (σ' := [(0, va0), (1, va1)]) ⟨rfl, rfl, trivial⟩; refine e_then ?_; refine wp_seq ?_; refine wp_seq ?_; refine wp_region_lit ?_; refine op_g ha rfl (g_move rfl) ?_; clear ha a; intro a ha; refine op_g ha rfl (g_lenR sl40.und ha0 rfl) ?_; clear ha a; intro a ha; refine op_g ha rfl (g_move rfl) ?_; clear ha a; intro a ha; refine op_g ha rfl (g_lenR sl40.und ha1 rfl) ?_; clear ha a; intro a ha; refine op_g ha rfl (g_neq rfl rfl) ?_; clear ha a; intro a ha
  refine wpList_nil ?_; replace ha := ha.sub (σ' := [(0, va0), (1, va1), (10, (.bool (decide ((a0.length : Int) ≠ (a1.length : Int)))))]) ⟨rfl, rfl, rfl, trivial⟩; refine e_then ?_; refine c_cond ((a0.length : Int) ≠ (a1.length : Int)) ha rfl (decide_eq_true_iff) (fun hp1 => ?_) (fun hp1 => ?_)
  · replace hF := if_t hp1 hF
    refine wp_seq ?_; refine wp_region_lit ?_; refine op_g ha rfl (g_assign rfl) ?_; clear ha a; intro a ha; refine wpList_nil ?_; replace ha := ha.sub (σ' := [(4, (.bool false))]) ⟨rfl, trivial⟩; refine e_then ?_; refine wp_ret ?_; refine e_then_ret ?_; obtain rfl := Option.some.inj hF
    exact f_ret1 ha rfl rfl ⟨rfl, hE⟩
  replace hF := if_f hp1 hF; refine wp_skip ?_; refine e_then ?_; refine wp_seq ?_; refine wp_seq ?_; refine wp_region_lit ?_; refine op_g ha rfl (g_assign rfl) ?_; clear ha a; intro a ha; refine wpList_nil ?_; replace ha := ha.sub (σ' := [(0, va0), (1, va1), (5, (.int .i64 0))]) ⟨rfl, rfl, rfl, trivial⟩; refine e_then ?_; obtain ⟨o77, ho78, hK79⟩ := bnd_some hF
  obtain ⟨n80, hn81⟩ := lp_some ho78; clear ho78
  refine c_loop (fun a w => Fr 26 [] a ∧ Chg [] W w ∧ o77 = .inl ()) (fun n a w => ∃ (i39 : Int), Fr 26 [(0, va0), (1, va1), (5, (.int .i64 i39))] a ∧ Chg [] W w ∧ InI i39 ∧ lpN (fun s => F_laws_eqInt64S_l1 a0 a1 s) n i39 = some o77) n80 ⟨0, ha.sub ⟨rfl, rfl, rfl, trivial⟩, hE, (show InI 0 from by decide), hn81⟩ ?_ ?_
  · rintro m85 a w38 ⟨i39, ha, hE41, hI40, hF⟩
    cases m85 with
    | zero => exact (lpN_zero hF).elim
    | succ m85 =>
      obtain ⟨z84, hF, hN83⟩ := lpN_succ hF
      have hF : F_laws_eqInt64S_l1 a0 a1 i39 = some z84 := hF; unfold F_laws_eqInt64S_l1 at hF
      refine wp_seq ?_; refine wp_seq ?_; refine wp_region_lit ?_; (iterate 2 refine op_g ha rfl (g_move rfl) ?_; clear ha a; intro a ha); refine op_g ha rfl (g_lenR sl40.und ha0 rfl) ?_; clear ha a; intro a ha; refine op_g ha rfl (g_lss rfl rfl) ?_; clear ha a; intro a ha; refine wpList_nil ?_; replace ha := ha.sub (σ' := [(0, va0), (1, va1), (5, (.int .i64 i39)), (14, (.bool (decide (i39 < (a0.length : Int)))))]) ⟨rfl, rfl, rfl, rfl, trivial⟩; refine e_then ?_; refine c_cond (i39 < (a0.length : Int)) ha rfl (decide_eq_true_iff) (fun hp86 => ?_) (fun hp86 => ?_)
      · replace hF := if_t hp86 hF
        refine wp_skip ?_; refine e_then ?_; refine wp_seq ?_; refine wp_block ?_; refine wp_seq ?_; refine d_quiet hmix (by kernel_rfl) ?_; (iterate 2 refine q_g ha rfl (g_move rfl) ?_; clear ha a; intro a ha); obtain ⟨x87, g88, gx89, hF⟩ := idx_some hF
        obtain ⟨p90, cs91, f92, hf93, hpb94, hat95, hr96, hi97⟩ := ha0.at g88 gx89
        obtain ⟨rfl, hI98, rfl⟩ := hr96
        refine q_g ha rfl (hi97.gives sl40 rfl rfl) ?_; clear ha a; intro a ha; refine q_g ha rfl (g_load0 hE41 Try.isAgg2 rfl hat95.one) ?_; clear ha a; intro a ha; (iterate 2 refine q_g ha rfl (g_move rfl) ?_; clear ha a; intro a ha); obtain ⟨x99, g100, gx101, hF⟩ := idx_some hF
        obtain ⟨p102, cs103, f104, hf105, hpb106, hat107, hr108, hi109⟩ := ha1.at g100 gx101
        obtain ⟨rfl, hI110, rfl⟩ := hr108
        refine q_g ha rfl (hi109.gives sl40 rfl rfl) ?_; clear ha a; intro a ha; refine q_g ha rfl (g_load0 hE41 Try.isAgg2 rfl hat107.one) ?_; clear ha a; intro a ha; refine q_g ha rfl (g_neq rfl rfl) ?_; clear ha a; intro a ha
        refine q_nil ?_; intro w111 hx112
        have hE113 := Ext.trans hE41 hx112
        replace ha := ha.sub (σ' := [(0, va0), (1, va1), (5, (.int .i64 i39)), (25, (.bool (decide (x87 ≠ x99))))]) ⟨rfl, rfl, rfl, rfl, trivial⟩; refine e_then ?_; refine c_cond (x87 ≠ x99) ha rfl (decide_eq_true_iff) (fun hp114 => ?_) (fun hp114 => ?_)
        · replace hF := if_t hp114 hF
          refine wp_seq ?_; refine wp_region_lit ?_; refine op_g ha rfl (g_assign rfl) ?_; clear ha a; intro a ha; refine wpList_nil ?_; replace ha := ha.sub (σ' := [(4, (.bool false))]) ⟨rfl, trivial⟩; refine e_then ?_; refine wp_ret ?_; refine e_blk_ret ?_; refine e_then_ret ?_; refine e_lq_ret ?_; refine e_then_ret ?_; obtain rfl := Option.some.inj hF
          have e115 := LK_inr hN83; subst e115
          have e116 := BK_inr hK79; subst e116
          exact f_ret1 ha rfl rfl ⟨rfl, hE113⟩
        replace hF := if_f hp114 hF; refine wp_skip ?_; refine e_blk ?_; refine e_then ?_; refine wp_region_lit ?_; refine op_g ha rfl (g_move rfl) ?_; clear ha a; intro a ha; obtain ⟨hI117, hF⟩ := ck_some hF; refine op_g ha rfl (g_add rfl rfl hI117) ?_; clear ha a; intro a ha; refine op_g ha rfl (g_assign rfl) ?_; clear ha a; intro a ha; refine wpList_nil ?_; replace ha := ha.sub (σ' := [(0, va0), (1, va1), (5, (.int .i64 (i39 + 1)))]) ⟨rfl, rfl, rfl, trivial⟩; refine e_lq ?_; obtain rfl := Option.some.inj hF
        exact ⟨_, Nat.lt_succ_self _, i39 + 1, ha.sub ⟨rfl, rfl, rfl, trivial⟩, hE113, hI117, hN83⟩
      replace hF := if_f hp86 hF; refine wp_exit ?_; refine e_then_exit ?_; refine e_lq_eq ?_; obtain rfl := Option.some.inj hF
      exact ⟨ha.sub trivial, hE41, (LK_inr hN83).symm⟩
  rintro a w76 ⟨ha, hE82, rfl⟩
  have hF : F_laws_eqInt64S_k2 = some _ := hK79; clear hK79; unfold F_laws_eqInt64S_k2 at hF
  refine e_then ?_; refine wp_seq ?_; refine wp_region_lit ?_; refine op_g ha rfl (g_assign rfl) ?_; clear ha a; intro a ha; refine wpList_nil ?_; refine e_then ?_; refine wp_ret ?_; obtain rfl := Option.some.inj hF
  exact f_ret1 ha rfl rfl ⟨rfl, hE82⟩
set_option maxHeartbeats 2000000 in
theorem W_laws_eqInt64SS {W : World} {va0 : Value} {fa0 : List Nat} {a0 : (List (List Int))} (ha0 : Ro (Rp.sl 2 Rp.int) W fa0 va0 a0) {va1 : Value} {fa1 : List Nat} {a1 : (List (List Int))} (ha1 : Ro (Rp.sl 2 Rp.int) W fa1 va1 a1) {r : Bool} (hF : F_laws_eqInt64SS a0 a1 = some r) :
    Calls Try.prog 19 [va0, va1].toArray W (Ret fun u w' => u = .bool r ∧ Ext W w') := by
  refine f_enter Try.func19 rfl Try.ntmps19 rfl ?_
  intro a ha
  replace ha : Fr 27 [(0, va0), (1, va1)] a := ha
  have hE : Chg [] W W := Chg.refl _ _
  unfold F_laws_eqInt64SS at hF
  refine wp_seq ?_; refine wp_region_lit ?_; refine op_g ha rfl (g_assign rfl) ?_; clear ha a; intro a ha; refine wpList_nil ?_; replace ha := ha.sub (σ' := [(0, va0), (1, va1)]) ⟨rfl, rfl, trivial⟩; refine e_then ?_; refine wp_seq ?_; refine wp_seq ?_; refine wp_region_lit ?_; refine op_g ha rfl (g_move rfl) ?_; clear ha a; intro a ha; refine op_g ha rfl (g_lenR sl22.und ha0 rfl) ?_; clear ha a; intro a ha; refine op_g ha rfl (g_move rfl) ?_; clear ha a; intro a ha; refine op_g ha rfl (g_lenR sl22.und ha1 rfl) ?_; clear ha a; intro a ha; refine op_g ha rfl (g_neq rfl rfl) ?_; clear ha a; intro a ha
  refine wpList_nil ?_; replace ha := ha.sub (σ' := [(0, va0), (1, va1), (10, (.bool (decide ((a0.length : Int) ≠ (a1.length : Int)))))]) ⟨rfl, rfl, rfl, trivial⟩; refine e_then ?_; refine c_cond ((a0.length : Int) ≠ (a1.length : Int)) ha rfl (decide_eq_true_iff) (fun hp1 => ?_) (fun hp1 => ?_)
  · replace hF := if_t hp1 hF
    refine wp_seq ?_; refine wp_region_lit ?_; refine op_g ha rfl (g_assign rfl) ?_; clear ha a; intro a ha; refine wpList_nil ?_; replace ha := ha.sub (σ' := [(4, (.bool false))]) ⟨rfl, trivial⟩; refine e_then ?_; refine wp_ret ?_; refine e_then_ret ?_; obtain rfl := Option.some.inj hF
    exact f_ret1 ha rfl rfl ⟨rfl, hE⟩
  replace hF := if_f hp1 hF; refine wp_skip ?_; refine e_then ?_; refine wp_seq ?_; refine wp_seq ?_; refine wp_region_lit ?_; refine op_g ha rfl (g_assign rfl) ?_; clear ha a; intro a ha; refine wpList_nil ?_; replace ha := ha.sub (σ' := [(0, va0), (1, va1), (5, (.int .i64 0))]) ⟨rfl, rfl, rfl, trivial⟩; refine e_then ?_; obtain ⟨o93, ho94, hK95⟩ := bnd_some hF
  obtain ⟨n96, hn97⟩ := lp_some ho94; clear ho94
  refine c_loop (fun a w => Fr 27 [] a ∧ Chg [] W w ∧ o93 = .inl ()) (fun n a w => ∃ (i47 : Int), Fr 27 [(0, va0), (1, va1), (5, (.int .i64 i47))] a ∧ Chg [] W w ∧ InI i47 ∧ lpN (fun s => F_laws_eqInt64SS_l1 a0 a1 s) n i47 = some o93) n96 ⟨0, ha.sub ⟨rfl, rfl, rfl, trivial⟩, hE, (show InI 0 from by decide), hn97⟩ ?_ ?_
  · rintro m101 a w46 ⟨i47, ha, hE49, hI48, hF⟩
    cases m101 with
    | zero => exact (lpN_zero hF).elim
    | succ m101 =>
      obtain ⟨z100, hF, hN99⟩ := lpN_succ hF
      have hF : F_laws_eqInt64SS_l1 a0 a1 i47 = some z100 := hF; unfold F_laws_eqInt64SS_l1 at hF
      refine wp_seq ?_; refine wp_seq ?_; refine wp_region_lit ?_; (iterate 2 refine op_g ha rfl (g_move rfl) ?_; clear ha a; intro a ha); refine op_g ha rfl (g_lenR sl22.und ha0 rfl) ?_; clear ha a; intro a ha; refine op_g ha rfl (g_lss rfl rfl) ?_; clear ha a; intro a ha; refine wpList_nil ?_; replace ha := ha.sub (σ' := [(0, va0), (1, va1), (5, (.int .i64 i47)), (14, (.bool (decide (i47 < (a0.length : Int)))))]) ⟨rfl, rfl, rfl, rfl, trivial⟩; refine e_then ?_; refine c_cond (i47 < (a0.length : Int)) ha rfl (decide_eq_true_iff) (fun hp102 => ?_) (fun hp102 => ?_)
      · replace hF := if_t hp102 hF
        refine wp_skip ?_; refine e_then ?_; refine wp_seq ?_; refine wp_block ?_; refine wp_seq ?_; refine d_quiet hmix (by kernel_rfl) ?_; (iterate 2 refine q_g ha rfl (g_move rfl) ?_; clear ha a; intro a ha); obtain ⟨x103, g104, gx105, hF⟩ := idx_some hF
        obtain ⟨p106, cs107, f108, hf109, hpb110, hat111, hr112, hi113⟩ := ha0.at g104 gx105
        obtain ⟨v114, rfl, h115⟩ := hr112
        have h115 : Ro Rp.int W f108 v114 x103 := h115
        refine q_g ha rfl (hi113.gives sl22 rfl rfl) ?_; clear ha a; intro a ha; refine q_g ha rfl (g_load0 hE49 Try.isAgg40 rfl hat111.one) ?_; clear ha a; intro a ha; (iterate 2 refine q_g ha rfl (g_move rfl) ?_; clear ha a; intro a ha); obtain ⟨x117, g118, gx119, hF⟩ := idx_some hF
        obtain ⟨p120, cs121, f122, hf123, hpb124, hat125, hr126, hi127⟩ := ha1.at g118 gx119
        obtain ⟨v128, rfl, h129⟩ := hr126
        have h129 : Ro Rp.int W f122 v128 x117 := h129
        refine q_g ha rfl (hi127.gives sl22 rfl rfl) ?_; clear ha a; intro a ha; refine q_g ha rfl (g_load0 hE49 Try.isAgg40 rfl hat125.one) ?_; clear ha a; intro a ha; obtain ⟨x133, hc134, hF⟩ := cal_some hF; refine q_call (.bool x133) ha rfl rfl Try.call18 (fun w132 hx131 => W_laws_eqInt64S (h115.ext (Ext.trans hE49 hx131)) (h129.ext (Ext.trans hE49 hx131)) hc134) (fun _ _ _ h => ⟨h.1, h.2⟩) ?_; clear ha a; intro a ha; refine q_g ha rfl (g_not rfl) ?_; clear ha a; intro a ha
        refine q_nil ?_; intro w135 hx136
        have hE137 := Ext.trans hE49 hx136
        replace ha := ha.sub (σ' := [(0, va0), (1, va1), (5, (.int .i64 i47)), (26, (.bool (!x133)))]) ⟨rfl, rfl, rfl, rfl, trivial⟩; refine e_then ?_; refine c_cond (¬ (x133 = true)) ha rfl (n_iff (Iff.rfl)) (fun hp138 => ?_) (fun hp138 => ?_)
        · replace hF := if_t hp138 hF
          refine wp_seq ?_; refine wp_region_lit ?_; refine op_g ha rfl (g_assign rfl) ?_; clear ha a; intro a ha; refine wpList_nil ?_; replace ha := ha.sub (σ' := [(4, (.bool false))]) ⟨rfl, trivial⟩; refine e_then ?_; refine wp_ret ?_; refine e_blk_ret ?_; refine e_then_ret ?_; refine e_lq_ret ?_; refine e_then_ret ?_; obtain rfl := Option.some.inj hF
          have e139 := LK_inr hN99; subst e139
          have e140 := BK_inr hK95; subst e140
          exact f_ret1 ha rfl rfl ⟨rfl, hE137⟩
        replace hF := if_f hp138 hF; refine wp_skip ?_; refine e_blk ?_; refine e_then ?_; refine wp_region_lit ?_; refine op_g ha rfl (g_move rfl) ?_; clear ha a; intro a ha; obtain ⟨hI141, hF⟩ := ck_some hF; refine op_g ha rfl (g_add rfl rfl hI141) ?_; clear ha a; intro a ha; refine op_g ha rfl (g_assign rfl) ?_; clear ha a; intro a ha; refine wpList_nil ?_; replace ha := ha.sub (σ' := [(0, va0), (1, va1), (5, (.int .i64 (i47 + 1)))]) ⟨rfl, rfl, rfl, trivial⟩; refine e_lq ?_; obtain rfl := Option.some.inj hF
        exact ⟨_, Nat.lt_succ_self _, i47 + 1, ha.sub ⟨rfl, rfl, rfl, trivial⟩, hE137, hI141, hN99⟩
      replace hF := if_f hp102 hF; refine wp_exit ?_; refine e_then_exit ?_; refine e_lq_eq ?_; obtain rfl := Option.some.inj hF
      exact ⟨ha.sub trivial, hE49, (LK_inr hN99).symm⟩
  rintro a w92 ⟨ha, hE98, rfl⟩
  have hF : F_laws_eqInt64SS_k2 = some _ := hK95; clear hK95; unfold F_laws_eqInt64SS_k2 at hF
  refine e_then ?_; refine wp_seq ?_; refine wp_region_lit ?_; refine op_g ha rfl (g_assign rfl) ?_; clear ha a; intro a ha; refine wpList_nil ?_; refine e_then ?_; refine wp_ret ?_; obtain rfl := Option.some.inj hF
  exact f_ret1 ha rfl rfl ⟨rfl, hE98⟩
set_option maxHeartbeats 2000000 in
theorem W_laws_eqGraph {W : World} {va0_0 : Value} {fa0_0 : List Nat} {a0_0 : (List (List Int))} (ha0_0 : Ro (Rp.sl 2 Rp.int) W fa0_0 va0_0 a0_0) {va1_0 : Value} {fa1_0 : List Nat} {a1_0 : (List (List Int))} (ha1_0 : Ro (Rp.sl 2 Rp.int) W fa1_0 va1_0 a1_0) {r : Bool} (hF : F_laws_eqGraph a0_0 a1_0 = some r) :
    Calls Try.prog 11 [.agg #[va0_0], .agg #[va1_0]].toArray W (Ret fun u w' => u = .bool r ∧ Ext W w') := by
  refine f_enter Try.func11 rfl Try.ntmps11 rfl ?_
  intro a ha
  replace ha : Fr 11 [(0, (.agg #[va0_0])), (1, (.agg #[va1_0]))] a := ha
  have hE : Chg [] W W := Chg.refl _ _
  unfold F_laws_eqGraph at hF
  refine wp_seq ?_; refine wp_region_lit ?_
  refine o_box ha rfl rfl rfl ?_; clear ha a; intro b1 w2 hB3 hx4 hlo5 a ha
  have q6 := Zn.one hlo5
  have q7 := Zn.upD q6 hE
  have hE8 := Ext.trans hE hx4
  refine o_box ha rfl rfl rfl ?_; clear ha a; intro b9 w10 hB11 hx12 hlo13 a ha
  have q14 := Zn.one hlo13
  have q15 := Nq.new hB3.fpb q14
  have q16 := Nq.made1 hlo13 hB3.bi
  have q17 := Zn.upD q14 hE8
  replace hB3 := hB3.ext hx12
  have hE18 := Ext.trans hE8 hx12
  refine op_g ha rfl (g_assign rfl) ?_; clear ha a; intro a ha; refine wpList_nil ?_; replace ha := ha.sub (σ' := [(2, (.pointer (some ⟨b1, 0, none⟩))), (3, (.pointer (some ⟨b9, 0, none⟩)))]) ⟨rfl, rfl, trivial⟩; refine e_then ?_; refine wp_seq ?_; refine wp_seq ?_; refine wp_region_lit ?_; refine op_g ha rfl (g_field0 st31_0 rfl) ?_; clear ha a; intro a ha; refine op_g ha rfl (g_load Try.isAgg22 rfl (hB3.cell rfl)) ?_; clear ha a; intro a ha; refine op_g ha rfl (g_field0 st31_0 rfl) ?_; clear ha a; intro a ha; refine op_g ha rfl (g_load Try.isAgg22 rfl (hB11.cell rfl)) ?_; clear ha a; intro a ha
  obtain ⟨x19, hc20, hF⟩ := cal_some hF
  refine o_call ha rfl rfl Try.call19 (W_laws_eqInt64SS (ha0_0.ext hE18) (ha1_0.ext hE18) hc20) ?_; clear ha a; rintro v21 w22 ⟨rfl, hx23⟩ a ha
  replace hB3 := hB3.ext hx23
  replace hB11 := hB11.ext hx23
  have hE24 := Ext.trans hE18 hx23
  refine op_g ha rfl (g_not rfl) ?_; clear ha a; intro a ha; refine wpList_nil ?_; replace ha := ha.sub (σ' := [(10, (.bool (!x19)))]) ⟨rfl, trivial⟩; refine e_then ?_; refine c_cond (¬ (x19 = true)) ha rfl (n_iff (Iff.rfl)) (fun hp25 => ?_) (fun hp25 => ?_)
  · replace hF := if_t hp25 hF
    refine wp_seq ?_; refine wp_region_lit ?_; refine op_g ha rfl (g_assign rfl) ?_; clear ha a; intro a ha; refine wpList_nil ?_; replace ha := ha.sub (σ' := [(4, (.bool false))]) ⟨rfl, trivial⟩; refine e_then ?_; refine wp_ret ?_; refine e_then_ret ?_; obtain rfl := Option.some.inj hF
    exact f_ret1 ha rfl rfl ⟨rfl, hE24⟩
  replace hF := if_f hp25 hF; refine wp_skip ?_; refine e_then ?_; refine wp_seq ?_; refine wp_region_lit ?_; refine op_g ha rfl (g_assign rfl) ?_; clear ha a; intro a ha; refine wpList_nil ?_; replace ha := ha.sub (σ' := [(4, (.bool true))]) ⟨rfl, trivial⟩; refine e_then ?_; refine wp_ret ?_; obtain rfl := Option.some.inj hF
  exact f_ret1 ha rfl rfl ⟨rfl, hE24⟩
set_option maxHeartbeats 2000000 in
theorem W_laws_eqFact {W : World} {a0_0 : Int} (ha0_0 : InI a0_0) {a0_1 : Int} (ha0_1 : InI a0_1) {a0_2 : Int} (ha0_2 : InI a0_2) {a1_0 : Int} (ha1_0 : InI a1_0) {a1_1 : Int} (ha1_1 : InI a1_1) {a1_2 : Int} (ha1_2 : InI a1_2) {r : Bool} (hF : F_laws_eqFact a0_0 a0_1 a0_2 a1_0 a1_1 a1_2 = some r) :
    Calls Try.prog 45 [.agg #[.int .i64 a0_0, .int .i64 a0_1, .int .i64 a0_2], .agg #[.int .i64 a1_0, .int .i64 a1_1, .int .i64 a1_2]].toArray W (Ret fun u w' => u = .bool r ∧ Ext W w') := by
  refine f_enter Try.func45 rfl Try.ntmps45 rfl ?_
  intro a ha
  replace ha : Fr 20 [(0, (.agg #[(.int .i64 a0_0), (.int .i64 a0_1), (.int .i64 a0_2)])), (1, (.agg #[(.int .i64 a1_0), (.int .i64 a1_1), (.int .i64 a1_2)]))] a := ha
  have hE : Chg [] W W := Chg.refl _ _
  unfold F_laws_eqFact at hF
  refine wp_seq ?_; refine wp_region_lit ?_
  refine o_box ha rfl rfl rfl ?_; clear ha a; intro b1 w2 hB3 hx4 hlo5 a ha
  have q6 := Zn.one hlo5
  have q7 := Zn.upD q6 hE
  have hE8 := Ext.trans hE hx4
  refine o_box ha rfl rfl rfl ?_; clear ha a; intro b9 w10 hB11 hx12 hlo13 a ha
  have q14 := Zn.one hlo13
  have q15 := Nq.new hB3.fpb q14
  have q16 := Nq.made1 hlo13 hB3.bi
  have q17 := Zn.upD q14 hE8
  replace hB3 := hB3.ext hx12
  have hE18 := Ext.trans hE8 hx12
  refine op_g ha rfl (g_assign rfl) ?_; clear ha a; intro a ha; refine wpList_nil ?_; replace ha := ha.sub (σ' := [(2, (.pointer (some ⟨b1, 0, none⟩))), (3, (.pointer (some ⟨b9, 0, none⟩)))]) ⟨rfl, rfl, trivial⟩; refine e_then ?_; refine wp_seq ?_; refine wp_seq ?_; refine wp_region_lit ?_; refine op_g ha rfl (g_field0 st71_0 rfl) ?_; clear ha a; intro a ha; refine op_g ha rfl (g_load Try.isAgg2 rfl (hB3.cell rfl)) ?_; clear ha a; intro a ha; refine op_g ha rfl (g_field0 st71_0 rfl) ?_; clear ha a; intro a ha; refine op_g ha rfl (g_load Try.isAgg2 rfl (hB11.cell rfl)) ?_; clear ha a; intro a ha
  refine op_g ha rfl (g_neq rfl rfl) ?_; clear ha a; intro a ha; refine wpList_nil ?_; replace ha := ha.sub (σ' := [(2, (.pointer (some ⟨b1, 0, none⟩))), (3, (.pointer (some ⟨b9, 0, none⟩))), (9, (.bool (decide (a0_0 ≠ a1_0))))]) ⟨rfl, rfl, rfl, trivial⟩; refine e_then ?_; refine c_cond (a0_0 ≠ a1_0) ha rfl (decide_eq_true_iff) (fun hp19 => ?_) (fun hp19 => ?_)
  · replace hF := if_t hp19 hF
    refine wp_seq ?_; refine wp_region_lit ?_; refine op_g ha rfl (g_assign rfl) ?_; clear ha a; intro a ha; refine wpList_nil ?_; replace ha := ha.sub (σ' := [(4, (.bool false))]) ⟨rfl, trivial⟩; refine e_then ?_; refine wp_ret ?_; refine e_then_ret ?_; obtain rfl := Option.some.inj hF
    exact f_ret1 ha rfl rfl ⟨rfl, hE18⟩
  replace hF := if_f hp19 hF; refine wp_skip ?_; refine e_then ?_; refine wp_seq ?_; refine wp_seq ?_; refine wp_region_lit ?_; refine op_g ha rfl (g_field0 st71_1 rfl) ?_; clear ha a; intro a ha; refine op_g ha rfl (g_load Try.isAgg2 rfl (hB3.cell rfl)) ?_; clear ha a; intro a ha; refine op_g ha rfl (g_field0 st71_1 rfl) ?_; clear ha a; intro a ha; refine op_g ha rfl (g_load Try.isAgg2 rfl (hB11.cell rfl)) ?_; clear ha a; intro a ha; refine op_g ha rfl (g_neq rfl rfl) ?_; clear ha a; intro a ha; refine wpList_nil ?_; replace ha := ha.sub (σ' := [(2, (.pointer (some ⟨b1, 0, none⟩))), (3, (.pointer (some ⟨b9, 0, none⟩))), (14, (.bool (decide (a0_1 ≠ a1_1))))]) ⟨rfl, rfl, rfl, trivial⟩
  refine e_then ?_; refine c_cond (a0_1 ≠ a1_1) ha rfl (decide_eq_true_iff) (fun hp20 => ?_) (fun hp20 => ?_)
  · replace hF := if_t hp20 hF
    refine wp_seq ?_; refine wp_region_lit ?_; refine op_g ha rfl (g_assign rfl) ?_; clear ha a; intro a ha; refine wpList_nil ?_; replace ha := ha.sub (σ' := [(4, (.bool false))]) ⟨rfl, trivial⟩; refine e_then ?_; refine wp_ret ?_; refine e_then_ret ?_; obtain rfl := Option.some.inj hF
    exact f_ret1 ha rfl rfl ⟨rfl, hE18⟩
  replace hF := if_f hp20 hF; refine wp_skip ?_; refine e_then ?_; refine wp_seq ?_; refine wp_seq ?_; refine wp_region_lit ?_; refine op_g ha rfl (g_field0 st71_2 rfl) ?_; clear ha a; intro a ha; refine op_g ha rfl (g_load Try.isAgg2 rfl (hB3.cell rfl)) ?_; clear ha a; intro a ha; refine op_g ha rfl (g_field0 st71_2 rfl) ?_; clear ha a; intro a ha; refine op_g ha rfl (g_load Try.isAgg2 rfl (hB11.cell rfl)) ?_; clear ha a; intro a ha; refine op_g ha rfl (g_neq rfl rfl) ?_; clear ha a; intro a ha; refine wpList_nil ?_; replace ha := ha.sub (σ' := [(19, (.bool (decide (a0_2 ≠ a1_2))))]) ⟨rfl, trivial⟩
  refine e_then ?_; refine c_cond (a0_2 ≠ a1_2) ha rfl (decide_eq_true_iff) (fun hp21 => ?_) (fun hp21 => ?_)
  · replace hF := if_t hp21 hF
    refine wp_seq ?_; refine wp_region_lit ?_; refine op_g ha rfl (g_assign rfl) ?_; clear ha a; intro a ha; refine wpList_nil ?_; replace ha := ha.sub (σ' := [(4, (.bool false))]) ⟨rfl, trivial⟩; refine e_then ?_; refine wp_ret ?_; refine e_then_ret ?_; obtain rfl := Option.some.inj hF
    exact f_ret1 ha rfl rfl ⟨rfl, hE18⟩
  replace hF := if_f hp21 hF; refine wp_skip ?_; refine e_then ?_; refine wp_seq ?_; refine wp_region_lit ?_; refine op_g ha rfl (g_assign rfl) ?_; clear ha a; intro a ha; refine wpList_nil ?_; replace ha := ha.sub (σ' := [(4, (.bool true))]) ⟨rfl, trivial⟩; refine e_then ?_; refine wp_ret ?_; obtain rfl := Option.some.inj hF
  exact f_ret1 ha rfl rfl ⟨rfl, hE18⟩
set_option maxHeartbeats 2000000 in
theorem W_laws_eqFactS {W : World} {va0 : Value} {fa0 : List Nat} {a0 : (List (Int × (Int × Int)))} (ha0 : Ro (Rp.prod Rp.int (Rp.prod Rp.int Rp.int)) W fa0 va0 a0) {va1 : Value} {fa1 : List Nat} {a1 : (List (Int × (Int × Int)))} (ha1 : Ro (Rp.prod Rp.int (Rp.prod Rp.int Rp.int)) W fa1 va1 a1) {r : Bool} (hF : F_laws_eqFactS a0 a1 = some r) :
    Calls Try.prog 26 [va0, va1].toArray W (Ret fun u w' => u = .bool r ∧ Ext W w') := by
  refine f_enter Try.func26 rfl Try.ntmps26 rfl ?_
  intro a ha
  replace ha : Fr 27 [(0, va0), (1, va1)] a := ha
  have hE : Chg [] W W := Chg.refl _ _
  unfold F_laws_eqFactS at hF
  refine wp_seq ?_; refine wp_region_lit ?_; refine op_g ha rfl (g_assign rfl) ?_; clear ha a; intro a ha; refine wpList_nil ?_; replace ha := ha.sub (σ' := [(0, va0), (1, va1)]) ⟨rfl, rfl, trivial⟩; refine e_then ?_; refine wp_seq ?_; refine wp_seq ?_; refine wp_region_lit ?_; refine op_g ha rfl (g_move rfl) ?_; clear ha a; intro a ha; refine op_g ha rfl (g_lenR sl33.und ha0 rfl) ?_; clear ha a; intro a ha; refine op_g ha rfl (g_move rfl) ?_; clear ha a; intro a ha; refine op_g ha rfl (g_lenR sl33.und ha1 rfl) ?_; clear ha a; intro a ha; refine op_g ha rfl (g_neq rfl rfl) ?_; clear ha a; intro a ha
  refine wpList_nil ?_; replace ha := ha.sub (σ' := [(0, va0), (1, va1), (10, (.bool (decide ((a0.length : Int) ≠ (a1.length : Int)))))]) ⟨rfl, rfl, rfl, trivial⟩; refine e_then ?_; refine c_cond ((a0.length : Int) ≠ (a1.length : Int)) ha rfl (decide_eq_true_iff) (fun hp1 => ?_) (fun hp1 => ?_)
  · replace hF := if_t hp1 hF
    refine wp_seq ?_; refine wp_region_lit ?_; refine op_g ha rfl (g_assign rfl) ?_; clear ha a; intro a ha; refine wpList_nil ?_; replace ha := ha.sub (σ' := [(4, (.bool false))]) ⟨rfl, trivial⟩; refine e_then ?_; refine wp_ret ?_; refine e_then_ret ?_; obtain rfl := Option.some.inj hF
    exact f_ret1 ha rfl rfl ⟨rfl, hE⟩
  replace hF := if_f hp1 hF; refine wp_skip ?_; refine e_then ?_; refine wp_seq ?_; refine wp_seq ?_; refine wp_region_lit ?_; refine op_g ha rfl (g_assign rfl) ?_; clear ha a; intro a ha; refine wpList_nil ?_; replace ha := ha.sub (σ' := [(0, va0), (1, va1), (5, (.int .i64 0))]) ⟨rfl, rfl, rfl, trivial⟩; refine e_then ?_; obtain ⟨o157, ho158, hK159⟩ := bnd_some hF
  obtain ⟨n160, hn161⟩ := lp_some ho158; clear ho158
  refine c_loop (fun a w => Fr 27 [] a ∧ Chg [] W w ∧ o157 = .inl ()) (fun n a w => ∃ (i79 : Int), Fr 27 [(0, va0), (1, va1), (5, (.int .i64 i79))] a ∧ Chg [] W w ∧ InI i79 ∧ lpN (fun s => F_laws_eqFactS_l1 a0 a1 s) n i79 = some o157) n160 ⟨0, ha.sub ⟨rfl, rfl, rfl, trivial⟩, hE, (show InI 0 from by decide), hn161⟩ ?_ ?_
  · rintro m165 a w78 ⟨i79, ha, hE81, hI80, hF⟩
    cases m165 with
    | zero => exact (lpN_zero hF).elim
    | succ m165 =>
      obtain ⟨z164, hF, hN163⟩ := lpN_succ hF
      have hF : F_laws_eqFactS_l1 a0 a1 i79 = some z164 := hF; unfold F_laws_eqFactS_l1 at hF
      refine wp_seq ?_; refine wp_seq ?_; refine wp_region_lit ?_; (iterate 2 refine op_g ha rfl (g_move rfl) ?_; clear ha a; intro a ha); refine op_g ha rfl (g_lenR sl33.und ha0 rfl) ?_; clear ha a; intro a ha; refine op_g ha rfl (g_lss rfl rfl) ?_; clear ha a; intro a ha; refine wpList_nil ?_; replace ha := ha.sub (σ' := [(0, va0), (1, va1), (5, (.int .i64 i79)), (14, (.bool (decide (i79 < (a0.length : Int)))))]) ⟨rfl, rfl, rfl, rfl, trivial⟩; refine e_then ?_; refine c_cond (i79 < (a0.length : Int)) ha rfl (decide_eq_true_iff) (fun hp166 => ?_) (fun hp166 => ?_)
      · replace hF := if_t hp166 hF
        refine wp_skip ?_; refine e_then ?_; refine wp_seq ?_; refine wp_block ?_; refine wp_seq ?_; refine d_quiet hmix (by kernel_rfl) ?_; (iterate 2 refine q_g ha rfl (g_move rfl) ?_; clear ha a; intro a ha); obtain ⟨x167, g168, gx169, hF⟩ := idx_some hF
        obtain ⟨p170, cs171, f172, hf173, hpb174, hat175, hr176, hi177⟩ := ha0.at g168 gx169
        obtain ⟨f178, f179, c180, c181, rfl, rfl, h182, h183⟩ := hr176
        obtain ⟨rfl, hI186, rfl⟩ := h182
        obtain ⟨f187, f188, c189, c190, rfl, rfl, h191, h192⟩ := h183
        obtain ⟨rfl, hI195, rfl⟩ := h191
        obtain ⟨rfl, hI196, rfl⟩ := h192
        refine q_g ha rfl (hi177.gives sl33 rfl rfl) ?_; clear ha a; intro a ha; refine q_g ha rfl (g_loadA0 (cs := [(.int .i64 x167.1), (.int .i64 x167.2.1), (.int .i64 x167.2.2)]) hE81 Try.isAgg71 Try.sizeOf71 rfl (by simp) hat175) ?_; clear ha a; intro a ha; (iterate 2 refine q_g ha rfl (g_move rfl) ?_; clear ha a; intro a ha); obtain ⟨x197, g198, gx199, hF⟩ := idx_some hF
        obtain ⟨p200, cs201, f202, hf203, hpb204, hat205, hr206, hi207⟩ := ha1.at g198 gx199
        obtain ⟨f208, f209, c210, c211, rfl, rfl, h212, h213⟩ := hr206
        obtain ⟨rfl, hI216, rfl⟩ := h212
        obtain ⟨f217, f218, c219, c220, rfl, rfl, h221, h222⟩ := h213
        obtain ⟨rfl, hI225, rfl⟩ := h221
        obtain ⟨rfl, hI226, rfl⟩ := h222
        refine q_g ha rfl (hi207.gives sl33 rfl rfl) ?_; clear ha a; intro a ha; refine q_g ha rfl (g_loadA0 (cs := [(.int .i64 x197.1), (.int .i64 x197.2.1), (.int .i64 x197.2.2)]) hE81 Try.isAgg71 Try.sizeOf71 rfl (by simp) hat205) ?_; clear ha a; intro a ha; obtain ⟨x229, hc230, hF⟩ := cal_some hF; refine q_call (.bool x229) ha rfl rfl Try.call45 (fun w228 hx227 => W_laws_eqFact hI186 hI195 hI196 hI216 hI225 hI226 hc230) (fun _ _ _ h => ⟨h.1, h.2⟩) ?_; clear ha a; intro a ha; refine q_g ha rfl (g_not rfl) ?_; clear ha a; intro a ha
        refine q_nil ?_; intro w231 hx232
        have hE233 := Ext.trans hE81 hx232
        replace ha := ha.sub (σ' := [(0, va0), (1, va1), (5, (.int .i64 i79)), (26, (.bool (!x229)))]) ⟨rfl, rfl, rfl, rfl, trivial⟩; refine e_then ?_; refine c_cond (¬ (x229 = true)) ha rfl (n_iff (Iff.rfl)) (fun hp234 => ?_) (fun hp234 => ?_)
        · replace hF := if_t hp234 hF
          refine wp_seq ?_; refine wp_region_lit ?_; refine op_g ha rfl (g_assign rfl) ?_; clear ha a; intro a ha; refine wpList_nil ?_; replace ha := ha.sub (σ' := [(4, (.bool false))]) ⟨rfl, trivial⟩; refine e_then ?_; refine wp_ret ?_; refine e_blk_ret ?_; refine e_then_ret ?_; refine e_lq_ret ?_; refine e_then_ret ?_; obtain rfl := Option.some.inj hF
          have e235 := LK_inr hN163; subst e235
          have e236 := BK_inr hK159; subst e236
          exact f_ret1 ha rfl rfl ⟨rfl, hE233⟩
        replace hF := if_f hp234 hF; refine wp_skip ?_; refine e_blk ?_; refine e_then ?_; refine wp_region_lit ?_; refine op_g ha rfl (g_move rfl) ?_; clear ha a; intro a ha; obtain ⟨hI237, hF⟩ := ck_some hF; refine op_g ha rfl (g_add rfl rfl hI237) ?_; clear ha a; intro a ha; refine op_g ha rfl (g_assign rfl) ?_; clear ha a; intro a ha; refine wpList_nil ?_; replace ha := ha.sub (σ' := [(0, va0), (1, va1), (5, (.int .i64 (i79 + 1)))]) ⟨rfl, rfl, rfl, trivial⟩; refine e_lq ?_; obtain rfl := Option.some.inj hF
        exact ⟨_, Nat.lt_succ_self _, i79 + 1, ha.sub ⟨rfl, rfl, rfl, trivial⟩, hE233, hI237, hN163⟩
      replace hF := if_f hp166 hF; refine wp_exit ?_; refine e_then_exit ?_; refine e_lq_eq ?_; obtain rfl := Option.some.inj hF
      exact ⟨ha.sub trivial, hE81, (LK_inr hN163).symm⟩
  rintro a w156 ⟨ha, hE162, rfl⟩
  have hF : F_laws_eqFactS_k2 = some _ := hK159; clear hK159; unfold F_laws_eqFactS_k2 at hF
  refine e_then ?_; refine wp_seq ?_; refine wp_region_lit ?_; refine op_g ha rfl (g_assign rfl) ?_; clear ha a; intro a ha; refine wpList_nil ?_; refine e_then ?_; refine wp_ret ?_; obtain rfl := Option.some.inj hF
  exact f_ret1 ha rfl rfl ⟨rfl, hE162⟩
set_option maxHeartbeats 2000000 in
theorem W_laws_eqFormula {W : World} {va0_0 : Value} {fa0_0 : List Nat} {a0_0 : (List (Int × (Int × Int)))} (ha0_0 : Ro (Rp.prod Rp.int (Rp.prod Rp.int Rp.int)) W fa0_0 va0_0 a0_0) {va1_0 : Value} {fa1_0 : List Nat} {a1_0 : (List (Int × (Int × Int)))} (ha1_0 : Ro (Rp.prod Rp.int (Rp.prod Rp.int Rp.int)) W fa1_0 va1_0 a1_0) {r : Bool} (hF : F_laws_eqFormula a0_0 a1_0 = some r) :
    Calls Try.prog 12 [.agg #[va0_0], .agg #[va1_0]].toArray W (Ret fun u w' => u = .bool r ∧ Ext W w') := by
  refine f_enter Try.func12 rfl Try.ntmps12 rfl ?_
  intro a ha
  replace ha : Fr 11 [(0, (.agg #[va0_0])), (1, (.agg #[va1_0]))] a := ha
  have hE : Chg [] W W := Chg.refl _ _
  unfold F_laws_eqFormula at hF
  refine wp_seq ?_; refine wp_region_lit ?_
  refine o_box ha rfl rfl rfl ?_; clear ha a; intro b1 w2 hB3 hx4 hlo5 a ha
  have q6 := Zn.one hlo5
  have q7 := Zn.upD q6 hE
  have hE8 := Ext.trans hE hx4
  refine o_box ha rfl rfl rfl ?_; clear ha a; intro b9 w10 hB11 hx12 hlo13 a ha
  have q14 := Zn.one hlo13
  have q15 := Nq.new hB3.fpb q14
  have q16 := Nq.made1 hlo13 hB3.bi
  have q17 := Zn.upD q14 hE8
  replace hB3 := hB3.ext hx12
  have hE18 := Ext.trans hE8 hx12
  refine op_g ha rfl (g_assign rfl) ?_; clear ha a; intro a ha; refine wpList_nil ?_; replace ha := ha.sub (σ' := [(2, (.pointer (some ⟨b1, 0, none⟩))), (3, (.pointer (some ⟨b9, 0, none⟩)))]) ⟨rfl, rfl, trivial⟩; refine e_then ?_; refine wp_seq ?_; refine wp_seq ?_; refine wp_region_lit ?_; refine op_g ha rfl (g_field0 st35_0 rfl) ?_; clear ha a; intro a ha; refine op_g ha rfl (g_load Try.isAgg33 rfl (hB3.cell rfl)) ?_; clear ha a; intro a ha; refine op_g ha rfl (g_field0 st35_0 rfl) ?_; clear ha a; intro a ha; refine op_g ha rfl (g_load Try.isAgg33 rfl (hB11.cell rfl)) ?_; clear ha a; intro a ha
  obtain ⟨x19, hc20, hF⟩ := cal_some hF
  refine o_call ha rfl rfl Try.call26 (W_laws_eqFactS (ha0_0.ext hE18) (ha1_0.ext hE18) hc20) ?_; clear ha a; rintro v21 w22 ⟨rfl, hx23⟩ a ha
  replace hB3 := hB3.ext hx23
  replace hB11 := hB11.ext hx23
  have hE24 := Ext.trans hE18 hx23
  refine op_g ha rfl (g_not rfl) ?_; clear ha a; intro a ha; refine wpList_nil ?_; replace ha := ha.sub (σ' := [(10, (.bool (!x19)))]) ⟨rfl, trivial⟩; refine e_then ?_; refine c_cond (¬ (x19 = true)) ha rfl (n_iff (Iff.rfl)) (fun hp25 => ?_) (fun hp25 => ?_)
  · replace hF := if_t hp25 hF
    refine wp_seq ?_; refine wp_region_lit ?_; refine op_g ha rfl (g_assign rfl) ?_; clear ha a; intro a ha; refine wpList_nil ?_; replace ha := ha.sub (σ' := [(4, (.bool false))]) ⟨rfl, trivial⟩; refine e_then ?_; refine wp_ret ?_; refine e_then_ret ?_; obtain rfl := Option.some.inj hF
    exact f_ret1 ha rfl rfl ⟨rfl, hE24⟩
  replace hF := if_f hp25 hF; refine wp_skip ?_; refine e_then ?_; refine wp_seq ?_; refine wp_region_lit ?_; refine op_g ha rfl (g_assign rfl) ?_; clear ha a; intro a ha; refine wpList_nil ?_; replace ha := ha.sub (σ' := [(4, (.bool true))]) ⟨rfl, trivial⟩; refine e_then ?_; refine wp_ret ?_; obtain rfl := Option.some.inj hF
  exact f_ret1 ha rfl rfl ⟨rfl, hE24⟩
set_option maxHeartbeats 2000000 in
theorem W_laws_FnExactHoldsIn {W : World} {va0_0 : Value} {fa0_0 : List Nat} {a0_0 : (List (List Int))} (ha0_0 : Ro (Rp.sl 2 Rp.int) W fa0_0 va0_0 a0_0) {va1_0 : Value} {fa1_0 : List Nat} {a1_0 : (List (Int × (Int × Int)))} (ha1_0 : Ro (Rp.prod Rp.int (Rp.prod Rp.int Rp.int)) W fa1_0 va1_0 a1_0) {va2 : Value} {fa2 : List Nat} {a2 : (List Int)} (ha2 : Ro Rp.int W fa2 va2 a2) {va3 : Value} {fa3 : List Nat} {a3 : (List (List Int))} (ha3 : Ro (Rp.sl 2 Rp.int) W fa3 va3 a3) {r : Bool} (hF : F_laws_FnExactHoldsIn a0_0 a1_0 a2 a3 = some r) :
    Calls Try.prog 4 [.agg #[va0_0], .agg #[va1_0], va2, va3].toArray W (Ret fun u w' => u = .bool r ∧ Ext W w') := by
  refine f_enter Try.func4 rfl Try.ntmps4 rfl ?_
  intro a ha
  replace ha : Fr 79 [(0, (.agg #[va0_0])), (1, (.agg #[va1_0])), (2, va2), (3, va3)] a := ha
  have hE : Chg [] W W := Chg.refl _ _
  unfold F_laws_FnExactHoldsIn at hF
  refine wp_seq ?_; refine wp_region_lit ?_
  refine o_box ha rfl rfl rfl ?_; clear ha a; intro b1 w2 hB3 hx4 hlo5 a ha
  have q6 := Zn.one hlo5
  have q7 := Zn.upD q6 hE
  have hE8 := Ext.trans hE hx4
  refine o_box ha rfl rfl rfl ?_; clear ha a; intro b9 w10 hB11 hx12 hlo13 a ha
  have q14 := Zn.one hlo13
  have q15 := Nq.new hB3.fpb q14
  have q16 := Nq.made1 hlo13 hB3.bi
  have q17 := Zn.upD q14 hE8
  replace hB3 := hB3.ext hx12
  have hE18 := Ext.trans hE8 hx12
  refine op_g ha rfl (g_assign rfl) ?_; clear ha a; intro a ha; refine wpList_nil ?_; replace ha := ha.sub (σ' := [(2, va2), (3, va3), (4, (.pointer (some ⟨b1, 0, none⟩))), (5, (.pointer (some ⟨b9, 0, none⟩)))]) ⟨rfl, rfl, rfl, rfl, trivial⟩; refine e_then ?_; refine wp_seq ?_; refine wp_seq ?_; refine wp_region_lit ?_; refine op_g ha rfl (g_move rfl) ?_; clear ha a; intro a ha; refine op_g ha rfl (g_lenR sl40.und ha2 rfl) ?_; clear ha a; intro a ha; refine op_g ha rfl (g_gtr rfl rfl) ?_; clear ha a; intro a ha; refine wpList_nil ?_; replace ha := ha.sub (σ' := [(2, va2), (3, va3), (4, (.pointer (some ⟨b1, 0, none⟩))), (5, (.pointer (some ⟨b9, 0, none⟩))), (18, (.bool (decide (1048576 < (a2.length : Int)))))]) ⟨rfl, rfl, rfl, rfl, rfl, trivial⟩
  refine e_then ?_; refine c_cond (1048576 < (a2.length : Int)) ha rfl (decide_eq_true_iff) (fun hp19 => ?_) (fun hp19 => ?_)
  · replace hF := if_t hp19 hF
    refine wp_seq ?_; refine wp_region_lit ?_; refine op_g ha rfl (g_assign rfl) ?_; clear ha a; intro a ha; refine wpList_nil ?_; replace ha := ha.sub (σ' := [(8, (.bool true))]) ⟨rfl, trivial⟩; refine e_then ?_; refine wp_ret ?_; refine e_then_ret ?_; obtain rfl := Option.some.inj hF
    exact f_ret1 ha rfl rfl ⟨rfl, hE18⟩
  replace hF := if_f hp19 hF; refine wp_skip ?_; refine e_then ?_; refine wp_seq ?_; refine wp_region_lit ?_; refine op_g ha rfl (g_assign rfl) ?_; clear ha a; intro a ha; refine wpList_nil ?_; replace ha := ha.sub (σ' := [(2, va2), (3, va3), (4, (.pointer (some ⟨b1, 0, none⟩))), (5, (.pointer (some ⟨b9, 0, none⟩))), (9, (.int .i64 1048576))]) ⟨rfl, rfl, rfl, rfl, rfl, trivial⟩; refine e_then ?_; refine wp_seq ?_; refine wp_region_lit ?_; refine op_g ha rfl (g_loadA (cs := [va0_0]) Try.isAgg24 Try.sizeOf24 rfl (by simp) hB3.all) ?_; clear ha a; intro a ha; refine op_g ha rfl (g_move rfl) ?_; clear ha a; intro a ha
  obtain ⟨x20, hc21, hF⟩ := cal_some hF
  refine o_call ha rfl rfl Try.call5 (W_laws_szGraph (ha0_0.ext hE18) (show InI 1048576 from by decide) hc21) ?_; clear ha a; rintro v22 w23 ⟨⟨rfl, hI25⟩, hx24⟩ a ha
  replace hB3 := hB3.ext hx24
  replace hB11 := hB11.ext hx24
  have hE26 := Ext.trans hE18 hx24
  refine op_g ha rfl (g_assign rfl) ?_; clear ha a; intro a ha; refine wpList_nil ?_; replace ha := ha.sub (σ' := [(2, va2), (3, va3), (4, (.pointer (some ⟨b1, 0, none⟩))), (5, (.pointer (some ⟨b9, 0, none⟩))), (9, (.int .i64 x20))]) ⟨rfl, rfl, rfl, rfl, rfl, trivial⟩; refine e_then ?_; refine wp_seq ?_; refine wp_seq ?_; refine wp_region_lit ?_; refine op_g ha rfl (g_move rfl) ?_; clear ha a; intro a ha; refine op_g ha rfl (g_lss rfl rfl) ?_; clear ha a; intro a ha; refine wpList_nil ?_; replace ha := ha.sub (σ' := [(2, va2), (3, va3), (4, (.pointer (some ⟨b1, 0, none⟩))), (5, (.pointer (some ⟨b9, 0, none⟩))), (9, (.int .i64 x20)), (23, (.bool (decide (x20 < 0))))]) ⟨rfl, rfl, rfl, rfl, rfl, rfl, trivial⟩
  refine e_then ?_; refine c_cond (x20 < 0) ha rfl (decide_eq_true_iff) (fun hp27 => ?_) (fun hp27 => ?_)
  · replace hF := if_t hp27 hF
    refine wp_seq ?_; refine wp_region_lit ?_; refine op_g ha rfl (g_assign rfl) ?_; clear ha a; intro a ha; refine wpList_nil ?_; replace ha := ha.sub (σ' := [(8, (.bool true))]) ⟨rfl, trivial⟩; refine e_then ?_; refine wp_ret ?_; refine e_then_ret ?_; obtain rfl := Option.some.inj hF
    exact f_ret1 ha rfl rfl ⟨rfl, hE26⟩
  replace hF := if_f hp27 hF; refine wp_skip ?_; refine e_then ?_; refine wp_seq ?_; refine wp_region_lit ?_; refine op_g ha rfl (g_loadA (cs := [va1_0]) Try.isAgg27 Try.sizeOf27 rfl (by simp) hB11.all) ?_; clear ha a; intro a ha; refine op_g ha rfl (g_move rfl) ?_; clear ha a; intro a ha; obtain ⟨x28, hc29, hF⟩ := cal_some hF
  refine o_call ha rfl rfl Try.call6 (W_laws_szFormula (ha1_0.ext hE26) hI25 hc29) ?_; clear ha a; rintro v30 w31 ⟨⟨rfl, hI33⟩, hx32⟩ a ha
  replace hB3 := hB3.ext hx32
  replace hB11 := hB11.ext hx32
  have hE34 := Ext.trans hE26 hx32
  refine op_g ha rfl (g_assign rfl) ?_; clear ha a; intro a ha; refine wpList_nil ?_; replace ha := ha.sub (σ' := [(2, va2), (3, va3), (4, (.pointer (some ⟨b1, 0, none⟩))), (5, (.pointer (some ⟨b9, 0, none⟩))), (9, (.int .i64 x28))]) ⟨rfl, rfl, rfl, rfl, rfl, trivial⟩; refine e_then ?_; refine wp_seq ?_; refine wp_seq ?_; refine wp_region_lit ?_; refine op_g ha rfl (g_move rfl) ?_; clear ha a; intro a ha; refine op_g ha rfl (g_lss rfl rfl) ?_; clear ha a; intro a ha; refine wpList_nil ?_; replace ha := ha.sub (σ' := [(2, va2), (3, va3), (4, (.pointer (some ⟨b1, 0, none⟩))), (5, (.pointer (some ⟨b9, 0, none⟩))), (9, (.int .i64 x28)), (28, (.bool (decide (x28 < 0))))]) ⟨rfl, rfl, rfl, rfl, rfl, rfl, trivial⟩
  refine e_then ?_; refine c_cond (x28 < 0) ha rfl (decide_eq_true_iff) (fun hp35 => ?_) (fun hp35 => ?_)
  · replace hF := if_t hp35 hF
    refine wp_seq ?_; refine wp_region_lit ?_; refine op_g ha rfl (g_assign rfl) ?_; clear ha a; intro a ha; refine wpList_nil ?_; replace ha := ha.sub (σ' := [(8, (.bool true))]) ⟨rfl, trivial⟩; refine e_then ?_; refine wp_ret ?_; refine e_then_ret ?_; obtain rfl := Option.some.inj hF
    exact f_ret1 ha rfl rfl ⟨rfl, hE34⟩
  replace hF := if_f hp35 hF; refine wp_skip ?_; refine e_then ?_; refine wp_seq ?_; refine wp_region_lit ?_; (iterate 2 refine op_g ha rfl (g_move rfl) ?_; clear ha a; intro a ha); obtain ⟨x36, hc37, hF⟩ := cal_some hF
  refine o_call ha rfl rfl Try.call13 (W_laws_szInt64SS (ha3.ext hE34) hI33 hc37) ?_; clear ha a; rintro v38 w39 ⟨⟨rfl, hI41⟩, hx40⟩ a ha
  replace hB3 := hB3.ext hx40
  replace hB11 := hB11.ext hx40
  have hE42 := Ext.trans hE34 hx40
  refine op_g ha rfl (g_assign rfl) ?_; clear ha a; intro a ha; refine wpList_nil ?_; replace ha := ha.sub (σ' := [(2, va2), (3, va3), (4, (.pointer (some ⟨b1, 0, none⟩))), (5, (.pointer (some ⟨b9, 0, none⟩))), (9, (.int .i64 x36))]) ⟨rfl, rfl, rfl, rfl, rfl, trivial⟩; refine e_then ?_; refine wp_seq ?_; refine wp_seq ?_; refine wp_region_lit ?_; refine op_g ha rfl (g_move rfl) ?_; clear ha a; intro a ha; refine op_g ha rfl (g_lss rfl rfl) ?_; clear ha a; intro a ha; refine wpList_nil ?_; replace ha := ha.sub (σ' := [(2, va2), (3, va3), (4, (.pointer (some ⟨b1, 0, none⟩))), (5, (.pointer (some ⟨b9, 0, none⟩))), (33, (.bool (decide (x36 < 0))))]) ⟨rfl, rfl, rfl, rfl, rfl, trivial⟩
  refine e_then ?_; refine c_cond (x36 < 0) ha rfl (decide_eq_true_iff) (fun hp43 => ?_) (fun hp43 => ?_)
  · replace hF := if_t hp43 hF
    refine wp_seq ?_; refine wp_region_lit ?_; refine op_g ha rfl (g_assign rfl) ?_; clear ha a; intro a ha; refine wpList_nil ?_; replace ha := ha.sub (σ' := [(8, (.bool true))]) ⟨rfl, trivial⟩; refine e_then ?_; refine wp_ret ?_; refine e_then_ret ?_; obtain rfl := Option.some.inj hF
    exact f_ret1 ha rfl rfl ⟨rfl, hE42⟩
  replace hF := if_f hp43 hF; refine wp_skip ?_; refine e_then ?_; refine wp_seq ?_; refine d_region [0, 1, 2, 3, 4, 5, 6, 7, 8, 9] hmix ?_; refine u_g 0 rfl (by kernel_rfl) (want0 _) ha rfl (g_loadA (cs := [va0_0]) Try.isAgg24 Try.sizeOf24 rfl (by simp) hB3.all) ?_; clear ha a; intro a ha; refine u_g 2 rfl (by kernel_rfl) (want0 _) ha rfl (g_loadA (cs := [va1_0]) Try.isAgg27 Try.sizeOf27 rfl (by simp) hB11.all) ?_; clear ha a; intro a ha; refine u_g 4 rfl (by kernel_rfl) (want0 _) ha rfl (g_move rfl) ?_; clear ha a; intro a ha; refine u_g 6 rfl (by kernel_rfl) (want0 _) ha rfl (g_move rfl) ?_; clear ha a; intro a ha
  refine u_only 1 rfl (by kernel_rfl) ?_; intro w44 hx45
  replace hB3 := hB3.ext hx45
  replace hB11 := hB11.ext hx45
  have hE46 := Ext.trans hE42 hx45
  obtain ⟨x47, hc48, hF⟩ := cal_some hF
  refine o_call ha rfl rfl Try.call8 (W_laws_toGraph (ha0_0.ext hE46) hc48) ?_; clear ha a; rintro v49 w50 ⟨u52, b53, fs57, rfl, h54, z55, zf58, nd59, hx51⟩ a ha
  have q60 := Nq.new hB3.fpb z55
  have q61 := Nq.madeF z55 zf58 hB3.bi
  have q62 := Nq.new hB11.fpb z55
  have q63 := Nq.madeF z55 zf58 hB11.bi
  have q64 := Nf.new hB3.fpb zf58
  have q65 := Nf.new hB11.fpb zf58
  replace hB3 := hB3.ext hx51
  replace hB11 := hB11.ext hx51
  have hE66 := Ext.trans hE46 hx51
  have q67 := Zn.upD z55 hE46
  have q68 := zf_up zf58 hE46
  refine wpList_nil (e_sq ?_)
  refine ⟨fun _ => hx51, ?_⟩
  refine u_only 3 rfl (by kernel_rfl) ?_; intro w69 hx70
  replace hB3 := hB3.ext hx70
  replace hB11 := hB11.ext hx70
  replace h54 := h54.ext hx70
  have hE71 := Ext.trans hE66 hx70
  obtain ⟨x72, hc73, hF⟩ := cal_some hF
  refine o_call ha rfl rfl Try.call9 (W_laws_toFormula (ha1_0.ext hE71) hc73) ?_; clear ha a; rintro v74 w75 ⟨u77, b78, rfl, h79, z80, hx76⟩ a ha
  have q82 := Nq.new hB3.fpb z80
  have q83 := Nq.madeO z80 hB3.bi
  have q84 := Nq.new hB11.fpb z80
  have q85 := Nq.madeO z80 hB11.bi
  have q86 := Nq.new h54.fpb z80
  have q87 := Nq.madeO z80 h54.blt
  have q88 := Nf.old z80 (zf_nil _) h54.bnd
  replace hB3 := hB3.ext hx76
  replace hB11 := hB11.ext hx76
  replace h54 := h54.ext hx76
  have hE89 := Ext.trans hE71 hx76
  have q90 := Zn.upD z80 hE71
  refine wpList_nil (e_sq ?_)
  refine ⟨fun _ => hx76, ?_⟩
  refine u_only 5 rfl (by kernel_rfl) ?_; intro w91 hx92
  replace hB3 := hB3.ext hx92
  replace hB11 := hB11.ext hx92
  replace h54 := h54.ext hx92
  replace h79 := h79.ext hx92
  have hE93 := Ext.trans hE89 hx92
  obtain ⟨x94, hc95, hF⟩ := cal_some hF
  refine o_call ha rfl rfl Try.call15 (W_laws_toInt64S (ha2.ext hE93) hc95) ?_; clear ha a; rintro v96 w97 ⟨b99, h100, z101, hx98⟩ a ha
  have q103 := Nq.new hB3.fpb z101
  have q104 := Nq.madeO z101 hB3.bi
  have q105 := Nq.new hB11.fpb z101
  have q106 := Nq.madeO z101 hB11.bi
  have q107 := Nq.new h54.fpb z101
  have q108 := Nq.madeO z101 h54.blt
  have q109 := Nq.new h79.fpb z101
  have q110 := Nq.madeO z101 h79.blt
  have q111 := Nf.old z101 (zf_nil _) h54.bnd
  replace hB3 := hB3.ext hx98
  replace hB11 := hB11.ext hx98
  replace h54 := h54.ext hx98
  replace h79 := h79.ext hx98
  have hE112 := Ext.trans hE93 hx98
  have q113 := Zn.upD z101 hE93
  refine wpList_nil (e_sq ?_)
  refine ⟨fun _ => hx98, ?_⟩
  refine u_only 7 rfl (by kernel_rfl) ?_; intro w114 hx115
  replace hB3 := hB3.ext hx115
  replace hB11 := hB11.ext hx115
  replace h54 := h54.ext hx115
  replace h79 := h79.ext hx115
  replace h100 := h100.ext hx115
  have hE116 := Ext.trans hE112 hx115
  obtain ⟨x117, hc118, hF⟩ := cal_some hF
  refine o_call ha rfl rfl Try.call16 (W_laws_toInt64SS (ha3.ext hE116) hc118) ?_; clear ha a; rintro v119 w120 ⟨b122, fs126, h123, z124, zf127, nd128, hx121⟩ a ha
  have q129 := Nq.new hB3.fpb z124
  have q130 := Nq.madeF z124 zf127 hB3.bi
  have q131 := Nq.new hB11.fpb z124
  have q132 := Nq.madeF z124 zf127 hB11.bi
  have q133 := Nq.new h54.fpb z124
  have q134 := Nq.madeF z124 zf127 h54.blt
  have q135 := Nq.new h79.fpb z124
  have q136 := Nq.madeF z124 zf127 h79.blt
  have q137 := Nq.new h100.fpb z124
  have q138 := Nq.madeF z124 zf127 h100.blt
  have q139 := Nf.new hB3.fpb zf127
  have q140 := Nf.new hB11.fpb zf127
  have q141 := Nf.new h54.fpb zf127
  have q142 := Nf.old z124 zf127 h54.bnd
  have q143 := Nf.new h79.fpb zf127
  have q144 := Nf.new h100.fpb zf127
  replace hB3 := hB3.ext hx121
  replace hB11 := hB11.ext hx121
  replace h54 := h54.ext hx121
  replace h79 := h79.ext hx121
  replace h100 := h100.ext hx121
  have hE145 := Ext.trans hE116 hx121
  have q146 := Zn.upD z124 hE116
  have q147 := zf_up zf127 hE116
  refine wpList_nil (e_sq ?_)
  refine ⟨fun _ => hx121, ?_⟩
  obtain ⟨fp150, hro151, hs152⟩ := h54.roF
  obtain ⟨fp153, hro154, hs155⟩ := h79.roF
  obtain ⟨fp156, hro157, hs158⟩ := h100.roF
  obtain ⟨fp159, hro160, hs161⟩ := h123.roF
  obtain ⟨x162, hc163, hF⟩ := cal_some hF; refine u_call (.bool x162) 8 rfl (by kernel_rfl) (want0 _) ha rfl rfl Try.call14 (fun w149 hx148 => W_spec_HoldsIn (hro151.ext hx148) (hro154.ext hx148) (hro157.ext hx148) (hro160.ext hx148) hc163) (fun _ _ _ h => ⟨h.1, h.2⟩) ?_; clear ha a; intro a ha; refine u_g 9 rfl (by kernel_rfl) (want0 _) ha rfl (g_assign rfl) ?_; clear ha a; intro a ha
  refine u_done (by kernel_rfl) ?_; intro w164 hx165
  replace hB3 := hB3.ext hx165
  replace hB11 := hB11.ext hx165
  replace h54 := h54.ext hx165
  replace h79 := h79.ext hx165
  replace h100 := h100.ext hx165
  replace h123 := h123.ext hx165
  have hE166 := Ext.trans hE145 hx165
  replace ha := ha.sub (σ' := [(2, va2), (3, va3), (4, (.pointer (some ⟨b1, 0, none⟩))), (5, (.pointer (some ⟨b9, 0, none⟩))), (10, (.bool x162))]) ⟨rfl, rfl, rfl, rfl, rfl, trivial⟩; refine e_then ?_; refine wp_seq ?_; refine wp_region_lit ?_; refine op_g ha rfl (g_loadA (cs := [va0_0]) Try.isAgg24 Try.sizeOf24 rfl (by simp) hB3.all) ?_; clear ha a; intro a ha; obtain ⟨x167, hc168, hF⟩ := cal_some hF
  refine o_call ha rfl rfl Try.call8 (W_laws_toGraph (ha0_0.ext hE166) hc168) ?_; clear ha a; rintro v169 w170 ⟨u172, b173, fs177, rfl, h174, z175, zf178, nd179, hx171⟩ a ha
  have q180 := Nq.new hB3.fpb z175
  have q181 := Nq.madeF z175 zf178 hB3.bi
  have q182 := Nq.new hB11.fpb z175
  have q183 := Nq.madeF z175 zf178 hB11.bi
  have q184 := Nf.new hB3.fpb zf178
  have q185 := Nf.new hB11.fpb zf178
  replace hB3 := hB3.ext hx171
  replace hB11 := hB11.ext hx171
  have hE186 := Ext.trans hE166 hx171
  have q187 := Zn.upD z175 hE166
  have q188 := zf_up zf178 hE166
  refine o_alloc (cs := [(.slice none 0 0)]) ha rfl Try.zeroValue31 rfl ?_; clear ha a; intro b189 w190 hB191 hx192 hlo193 a ha
  have q194 := Zn.one hlo193
  have q195 := Nq.new hB3.fpb q194
  have q196 := Nq.made1 hlo193 hB3.bi
  have q197 := Nq.new hB11.fpb q194
  have q198 := Nq.made1 hlo193 hB11.bi
  have q199 := Nq.new h174.fpb q194
  have q200 := Nq.made1 hlo193 h174.blt
  have q201 := Nf.old1 q194 h174.bnd
  have q202 := Zn.upD q194 hE186
  replace hB3 := hB3.ext hx192
  replace hB11 := hB11.ext hx192
  replace h174 := h174.ext hx192
  have hE203 := Ext.trans hE186 hx192
  refine o_storeA (vs := [u172]) ha hB191 Try.sizeOf31 rfl rfl (by intro c hc; simp only [List.mem_cons, List.not_mem_nil, or_false] at hc; rcases hc with hc <;> subst hc <;> first | rfl | exact h174.oneC) rfl ?_; intro w204 hB205 hc206
  replace hc206 := hc206.bl
  replace hB205 : Bx w204 b189 [u172] 31 := hB205
  replace hB3 := hB3.nq hc206 q195
  replace hB11 := hB11.nq hc206 q197
  replace h174 := h174.nq hc206 q199
  have hE207 := Ext.then hE203 hc206 (Zn.bl q202)
  refine wpList_nil ?_; replace ha := ha.sub (σ' := [(2, va2), (3, va3), (4, (.pointer (some ⟨b1, 0, none⟩))), (5, (.pointer (some ⟨b9, 0, none⟩))), (10, (.bool x162)), (11, (.pointer (some ⟨b189, 0, none⟩)))]) ⟨rfl, rfl, rfl, rfl, rfl, rfl, trivial⟩; refine e_then ?_; refine wp_seq ?_; refine wp_region_lit ?_; refine op_g ha rfl (g_loadA (cs := [va1_0]) Try.isAgg27 Try.sizeOf27 rfl (by simp) hB11.all) ?_; clear ha a; intro a ha; obtain ⟨x208, hc209, hF⟩ := cal_some hF
  refine o_call ha rfl rfl Try.call9 (W_laws_toFormula (ha1_0.ext hE207) hc209) ?_; clear ha a; rintro v210 w211 ⟨u213, b214, rfl, h215, z216, hx212⟩ a ha
  have q218 := Nq.new hB3.fpb z216
  have q219 := Nq.madeO z216 hB3.bi
  have q220 := Nq.new hB11.fpb z216
  have q221 := Nq.madeO z216 hB11.bi
  have q222 := Nq.new h174.fpb z216
  have q223 := Nq.madeO z216 h174.blt
  have q224 := Nq.new hB205.fpb z216
  have q225 := Nq.madeO z216 hB205.bi
  have q226 := Nf.old z216 (zf_nil _) h174.bnd
  replace hB3 := hB3.ext hx212
  replace hB11 := hB11.ext hx212
  replace h174 := h174.ext hx212
  replace hB205 := hB205.ext hx212
  have hE227 := Ext.trans hE207 hx212
  have q228 := Zn.upD z216 hE207
  refine o_alloc (cs := [(.slice none 0 0)]) ha rfl Try.zeroValue35 rfl ?_; clear ha a; intro b229 w230 hB231 hx232 hlo233 a ha
  have q234 := Zn.one hlo233
  have q235 := Nq.new hB3.fpb q234
  have q236 := Nq.made1 hlo233 hB3.bi
  have q237 := Nq.new hB11.fpb q234
  have q238 := Nq.made1 hlo233 hB11.bi
  have q239 := Nq.new h174.fpb q234
  have q240 := Nq.made1 hlo233 h174.blt
  have q241 := Nf.old1 q234 h174.bnd
  have q242 := Nq.new hB205.fpb q234
  have q243 := Nq.made1 hlo233 hB205.bi
  have q244 := Nq.new h215.fpb q234
  have q245 := Nq.made1 hlo233 h215.blt
  have q246 := Zn.upD q234 hE227
  replace hB3 := hB3.ext hx232
  replace hB11 := hB11.ext hx232
  replace h174 := h174.ext hx232
  replace hB205 := hB205.ext hx232
  replace h215 := h215.ext hx232
  have hE247 := Ext.trans hE227 hx232
  refine o_storeA (vs := [u213]) ha hB231 Try.sizeOf35 rfl rfl (by intro c hc; simp only [List.mem_cons, List.not_mem_nil, or_false] at hc; rcases hc with hc <;> subst hc <;> first | rfl | exact h215.oneC) rfl ?_; intro w248 hB249 hc250
  replace hc250 := hc250.bl
  replace hB249 : Bx w248 b229 [u213] 35 := hB249
  replace hB3 := hB3.nq hc250 q235
  replace hB11 := hB11.nq hc250 q237
  replace h174 := h174.nq hc250 q239
  replace hB205 := hB205.nq hc250 q242
  replace h215 := h215.nq hc250 q244
  have hE251 := Ext.then hE247 hc250 (Zn.bl q246)
  refine wpList_nil ?_; replace ha := ha.sub (σ' := [(2, va2), (3, va3), (4, (.pointer (some ⟨b1, 0, none⟩))), (5, (.pointer (some ⟨b9, 0, none⟩))), (10, (.bool x162)), (11, (.pointer (some ⟨b189, 0, none⟩))), (12, (.pointer (some ⟨b229, 0, none⟩)))]) ⟨rfl, rfl, rfl, rfl, rfl, rfl, rfl, trivial⟩; refine e_then ?_; refine wp_seq ?_; refine wp_region_lit ?_; refine op_g ha rfl (g_move rfl) ?_; clear ha a; intro a ha; obtain ⟨x252, hc253, hF⟩ := cal_some hF
  refine o_call ha rfl rfl Try.call15 (W_laws_toInt64S (ha2.ext hE251) hc253) ?_; clear ha a; rintro v254 w255 ⟨b257, h258, z259, hx256⟩ a ha
  have q261 := Nq.new hB3.fpb z259
  have q262 := Nq.madeO z259 hB3.bi
  have q263 := Nq.new hB11.fpb z259
  have q264 := Nq.madeO z259 hB11.bi
  have q265 := Nq.new h174.fpb z259
  have q266 := Nq.madeO z259 h174.blt
  have q267 := Nq.new hB205.fpb z259
  have q268 := Nq.madeO z259 hB205.bi
  have q269 := Nq.new h215.fpb z259
  have q270 := Nq.madeO z259 h215.blt
  have q271 := Nq.new hB249.fpb z259
  have q272 := Nq.madeO z259 hB249.bi
  have q273 := Nf.old z259 (zf_nil _) h174.bnd
  replace hB3 := hB3.ext hx256
  replace hB11 := hB11.ext hx256
  replace h174 := h174.ext hx256
  replace hB205 := hB205.ext hx256
  replace h215 := h215.ext hx256
  replace hB249 := hB249.ext hx256
  have hE274 := Ext.trans hE251 hx256
  have q275 := Zn.upD z259 hE251
  refine op_g ha rfl (g_assign rfl) ?_; clear ha a; intro a ha; refine wpList_nil ?_; replace ha := ha.sub (σ' := [(2, va2), (3, va3), (4, (.pointer (some ⟨b1, 0, none⟩))), (5, (.pointer (some ⟨b9, 0, none⟩))), (10, (.bool x162)), (11, (.pointer (some ⟨b189, 0, none⟩))), (12, (.pointer (some ⟨b229, 0, none⟩))), (13, v254)]) ⟨rfl, rfl, rfl, rfl, rfl, rfl, rfl, rfl, trivial⟩; refine e_then ?_; refine wp_seq ?_; refine wp_region_lit ?_; refine op_g ha rfl (g_move rfl) ?_; clear ha a; intro a ha; obtain ⟨x276, hc277, hF⟩ := cal_some hF
  refine o_call ha rfl rfl Try.call16 (W_laws_toInt64SS (ha3.ext hE274) hc277) ?_; clear ha a; rintro v278 w279 ⟨b281, fs285, h282, z283, zf286, nd287, hx280⟩ a ha
  have q288 := Nq.new hB3.fpb z283
  have q289 := Nq.madeF z283 zf286 hB3.bi
  have q290 := Nq.new hB11.fpb z283
  have q291 := Nq.madeF z283 zf286 hB11.bi
  have q292 := Nq.new h174.fpb z283
  have q293 := Nq.madeF z283 zf286 h174.blt
  have q294 := Nq.new hB205.fpb z283
  have q295 := Nq.madeF z283 zf286 hB205.bi
  have q296 := Nq.new h215.fpb z283
  have q297 := Nq.madeF z283 zf286 h215.blt
  have q298 := Nq.new hB249.fpb z283
  have q299 := Nq.madeF z283 zf286 hB249.bi
  have q300 := Nq.new h258.fpb z283
  have q301 := Nq.madeF z283 zf286 h258.blt
  have q302 := Nf.new hB3.fpb zf286
  have q303 := Nf.new hB11.fpb zf286
  have q304 := Nf.new h174.fpb zf286
  have q305 := Nf.old z283 zf286 h174.bnd
  have q306 := Nf.new hB205.fpb zf286
  have q307 := Nf.new h215.fpb zf286
  have q308 := Nf.new hB249.fpb zf286
  have q309 := Nf.new h258.fpb zf286
  replace hB3 := hB3.ext hx280
  replace hB11 := hB11.ext hx280
  replace h174 := h174.ext hx280
  replace hB205 := hB205.ext hx280
  replace h215 := h215.ext hx280
  replace hB249 := hB249.ext hx280
  replace h258 := h258.ext hx280
  have hE310 := Ext.trans hE274 hx280
  have q311 := Zn.upD z283 hE274
  have q312 := zf_up zf286 hE274
  refine op_g ha rfl (g_assign rfl) ?_; clear ha a; intro a ha; refine wpList_nil ?_; replace ha := ha.sub (σ' := [(2, va2), (3, va3), (4, (.pointer (some ⟨b1, 0, none⟩))), (5, (.pointer (some ⟨b9, 0, none⟩))), (10, (.bool x162)), (11, (.pointer (some ⟨b189, 0, none⟩))), (12, (.pointer (some ⟨b229, 0, none⟩))), (13, v254), (14, v278)]) ⟨rfl, rfl, rfl, rfl, rfl, rfl, rfl, rfl, rfl, trivial⟩; refine e_then ?_; refine wp_seq ?_; refine wp_region_lit ?_; refine op_g ha rfl (g_loadA (cs := [u172]) Try.isAgg31 Try.sizeOf31 rfl (by simp) hB205.all) ?_; clear ha a; intro a ha; refine op_g ha rfl (g_loadA (cs := [u213]) Try.isAgg35 Try.sizeOf35 rfl (by simp) hB249.all) ?_; clear ha a; intro a ha
  (iterate 2 refine op_g ha rfl (g_move rfl) ?_; clear ha a; intro a ha)
  obtain ⟨fp313, hro314, hs315⟩ := h174.roF
  obtain ⟨fp316, hro317, hs318⟩ := h215.roF
  obtain ⟨fp319, hro320, hs321⟩ := h258.roF
  obtain ⟨fp322, hro323, hs324⟩ := h282.roF
  obtain ⟨x325, hc326, hF⟩ := cal_some hF
  refine o_call ha rfl rfl Try.call17 (W_impl_HoldsIn hro314 hro317 hro320 hro323 hc326) ?_; clear ha a; rintro v327 w328 ⟨rfl, hx329⟩ a ha
  replace hB3 := hB3.ext hx329
  replace hB11 := hB11.ext hx329
  replace h174 := h174.ext hx329
  replace hB205 := hB205.ext hx329
  replace h215 := h215.ext hx329
  replace hB249 := hB249.ext hx329
  replace h258 := h258.ext hx329
  replace h282 := h282.ext hx329
  have hE330 := Ext.trans hE310 hx329
  refine op_g ha rfl (g_assign rfl) ?_; clear ha a; intro a ha; refine wpList_nil ?_; replace ha := ha.sub (σ' := [(2, va2), (3, va3), (4, (.pointer (some ⟨b1, 0, none⟩))), (5, (.pointer (some ⟨b9, 0, none⟩))), (10, (.bool x162)), (11, (.pointer (some ⟨b189, 0, none⟩))), (12, (.pointer (some ⟨b229, 0, none⟩))), (13, v254), (14, v278), (15, (.bool x325))]) ⟨rfl, rfl, rfl, rfl, rfl, rfl, rfl, rfl, rfl, rfl, trivial⟩; refine e_then ?_; refine wp_seq ?_; refine wp_seq ?_; refine wp_region_lit ?_; (iterate 2 refine op_g ha rfl (g_move rfl) ?_; clear ha a; intro a ha); refine op_g ha rfl (gB_neq un4 rfl rfl) ?_; clear ha a; intro a ha
  refine wpList_nil ?_; replace ha := ha.sub (σ' := [(2, va2), (3, va3), (4, (.pointer (some ⟨b1, 0, none⟩))), (5, (.pointer (some ⟨b9, 0, none⟩))), (11, (.pointer (some ⟨b189, 0, none⟩))), (12, (.pointer (some ⟨b229, 0, none⟩))), (13, v254), (14, v278), (58, (.bool (x325 != x162)))]) ⟨rfl, rfl, rfl, rfl, rfl, rfl, rfl, rfl, rfl, trivial⟩; refine e_then ?_; refine c_cond ((x325 != x162) = true) ha rfl (Iff.rfl) (fun hp331 => ?_) (fun hp331 => ?_)
  · replace hF := if_t hp331 hF
    refine wp_seq ?_; refine wp_region_lit ?_; refine op_g ha rfl (g_assign rfl) ?_; clear ha a; intro a ha; refine wpList_nil ?_; replace ha := ha.sub (σ' := [(8, (.bool false))]) ⟨rfl, trivial⟩; refine e_then ?_; refine wp_ret ?_; refine e_then_ret ?_; obtain rfl := Option.some.inj hF
    exact f_ret1 ha rfl rfl ⟨rfl, hE330⟩
  replace hF := if_f hp331 hF; refine wp_skip ?_; refine e_then ?_; refine wp_seq ?_; refine wp_seq ?_; refine d_region [0, 1, 2, 3, 4] hmix ?_; refine u_g 0 rfl (by kernel_rfl) (want0 _) ha rfl (g_loadA (cs := [u172]) Try.isAgg31 Try.sizeOf31 rfl (by simp) hB205.all) ?_; clear ha a; intro a ha; refine u_g 1 rfl (by kernel_rfl) (want0 _) ha rfl (g_loadA (cs := [va0_0]) Try.isAgg24 Try.sizeOf24 rfl (by simp) hB3.all) ?_; clear ha a; intro a ha
  refine u_only 2 rfl (by kernel_rfl) ?_; intro w332 hx333
  replace hB3 := hB3.ext hx333
  replace hB11 := hB11.ext hx333
  replace h174 := h174.ext hx333
  replace hB205 := hB205.ext hx333
  replace h215 := h215.ext hx333
  replace hB249 := hB249.ext hx333
  replace h258 := h258.ext hx333
  replace h282 := h282.ext hx333
  have hE334 := Ext.trans hE330 hx333
  obtain ⟨x335, hc336, hF⟩ := cal_some hF
  refine o_call ha rfl rfl Try.call8 (W_laws_toGraph (ha0_0.ext hE334) hc336) ?_; clear ha a; rintro v337 w338 ⟨u340, b341, fs345, rfl, h342, z343, zf346, nd347, hx339⟩ a ha
  have q348 := Nq.new hB3.fpb z343
  have q349 := Nq.madeF z343 zf346 hB3.bi
  have q350 := Nq.new hB11.fpb z343
  have q351 := Nq.madeF z343 zf346 hB11.bi
  have q352 := Nq.new h174.fpb z343
  have q353 := Nq.madeF z343 zf346 h174.blt
  have q354 := Nq.new hB205.fpb z343
  have q355 := Nq.madeF z343 zf346 hB205.bi
  have q356 := Nq.new h215.fpb z343
  have q357 := Nq.madeF z343 zf346 h215.blt
  have q358 := Nq.new hB249.fpb z343
  have q359 := Nq.madeF z343 zf346 hB249.bi
  have q360 := Nq.new h258.fpb z343
  have q361 := Nq.madeF z343 zf346 h258.blt
  have q362 := Nq.new h282.fpb z343
  have q363 := Nq.madeF z343 zf346 h282.blt
  have q364 := Nf.new hB3.fpb zf346
  have q365 := Nf.new hB11.fpb zf346
  have q366 := Nf.new h174.fpb zf346
  have q367 := Nf.old z343 zf346 h174.bnd
  have q368 := Nf.new hB205.fpb zf346
  have q369 := Nf.new h215.fpb zf346
  have q370 := Nf.new hB249.fpb zf346
  have q371 := Nf.new h258.fpb zf346
  have q372 := Nf.new h282.fpb zf346
  have q373 := Nf.old z343 zf346 h282.bnd
  replace hB3 := hB3.ext hx339
  replace hB11 := hB11.ext hx339
  replace h174 := h174.ext hx339
  replace hB205 := hB205.ext hx339
  replace h215 := h215.ext hx339
  replace hB249 := hB249.ext hx339
  replace h258 := h258.ext hx339
  replace h282 := h282.ext hx339
  have hE374 := Ext.trans hE334 hx339
  have q375 := Zn.upD z343 hE334
  have q376 := zf_up zf346 hE334
  refine wpList_nil (e_sq ?_)
  refine ⟨fun _ => hx339, ?_⟩
  obtain ⟨fp379, hro380, hs381⟩ := h174.roF
  obtain ⟨fp382, hro383, hs384⟩ := h342.roF
  obtain ⟨x385, hc386, hF⟩ := cal_some hF; refine u_call (.bool x385) 3 rfl (by kernel_rfl) (want0 _) ha rfl rfl Try.call11 (fun w378 hx377 => W_laws_eqGraph (hro380.ext hx377) (hro383.ext hx377) hc386) (fun _ _ _ h => ⟨h.1, h.2⟩) ?_; clear ha a; intro a ha; refine u_g 4 rfl (by kernel_rfl) (want0 _) ha rfl (g_not rfl) ?_; clear ha a; intro a ha
  refine u_done (by kernel_rfl) ?_; intro w387 hx388
  replace hB3 := hB3.ext hx388
  replace hB11 := hB11.ext hx388
  replace h174 := h174.ext hx388
  replace hB205 := hB205.ext hx388
  replace h215 := h215.ext hx388
  replace hB249 := hB249.ext hx388
  replace h258 := h258.ext hx388
  replace h282 := h282.ext hx388
  replace h342 := h342.ext hx388
  have hE389 := Ext.trans hE374 hx388
  replace ha := ha.sub (σ' := [(2, va2), (3, va3), (5, (.pointer (some ⟨b9, 0, none⟩))), (12, (.pointer (some ⟨b229, 0, none⟩))), (13, v254), (14, v278), (63, (.bool (!x385)))]) ⟨rfl, rfl, rfl, rfl, rfl, rfl, rfl, trivial⟩; refine e_then ?_; refine c_cond (¬ (x385 = true)) ha rfl (n_iff (Iff.rfl)) (fun hp390 => ?_) (fun hp390 => ?_)
  · replace hF := if_t hp390 hF
    refine wp_seq ?_; refine wp_region_lit ?_; refine op_g ha rfl (g_assign rfl) ?_; clear ha a; intro a ha; refine wpList_nil ?_; replace ha := ha.sub (σ' := [(8, (.bool false))]) ⟨rfl, trivial⟩; refine e_then ?_; refine wp_ret ?_; refine e_then_ret ?_; obtain rfl := Option.some.inj hF
    exact f_ret1 ha rfl rfl ⟨rfl, hE389⟩
  replace hF := if_f hp390 hF; refine wp_skip ?_; refine e_then ?_; refine wp_seq ?_; refine wp_seq ?_; refine d_region [0, 1, 2, 3, 4] hmix ?_; refine u_g 0 rfl (by kernel_rfl) (want0 _) ha rfl (g_loadA (cs := [u213]) Try.isAgg35 Try.sizeOf35 rfl (by simp) hB249.all) ?_; clear ha a; intro a ha; refine u_g 1 rfl (by kernel_rfl) (want0 _) ha rfl (g_loadA (cs := [va1_0]) Try.isAgg27 Try.sizeOf27 rfl (by simp) hB11.all) ?_; clear ha a; intro a ha
  refine u_only 2 rfl (by kernel_rfl) ?_; intro w391 hx392
  replace hB11 := hB11.ext hx392
  replace h215 := h215.ext hx392
  replace hB249 := hB249.ext hx392
  replace h258 := h258.ext hx392
  replace h282 := h282.ext hx392
  have hE393 := Ext.trans hE389 hx392
  obtain ⟨x394, hc395, hF⟩ := cal_some hF
  refine o_call ha rfl rfl Try.call9 (W_laws_toFormula (ha1_0.ext hE393) hc395) ?_; clear ha a; rintro v396 w397 ⟨u399, b400, rfl, h401, z402, hx398⟩ a ha
  have q404 := Nq.new hB11.fpb z402
  have q405 := Nq.madeO z402 hB11.bi
  have q406 := Nq.new h215.fpb z402
  have q407 := Nq.madeO z402 h215.blt
  have q408 := Nq.new hB249.fpb z402
  have q409 := Nq.madeO z402 hB249.bi
  have q410 := Nq.new h258.fpb z402
  have q411 := Nq.madeO z402 h258.blt
  have q412 := Nq.new h282.fpb z402
  have q413 := Nq.madeO z402 h282.blt
  have q414 := Nf.old z402 (zf_nil _) h282.bnd
  replace hB11 := hB11.ext hx398
  replace h215 := h215.ext hx398
  replace hB249 := hB249.ext hx398
  replace h258 := h258.ext hx398
  replace h282 := h282.ext hx398
  have hE415 := Ext.trans hE393 hx398
  have q416 := Zn.upD z402 hE393
  refine wpList_nil (e_sq ?_)
  refine ⟨fun _ => hx398, ?_⟩
  obtain ⟨fp419, hro420, hs421⟩ := h215.roF
  obtain ⟨fp422, hro423, hs424⟩ := h401.roF
  obtain ⟨x425, hc426, hF⟩ := cal_some hF; refine u_call (.bool x425) 3 rfl (by kernel_rfl) (want0 _) ha rfl rfl Try.call12 (fun w418 hx417 => W_laws_eqFormula (hro420.ext hx417) (hro423.ext hx417) hc426) (fun _ _ _ h => ⟨h.1, h.2⟩) ?_; clear ha a; intro a ha; refine u_g 4 rfl (by kernel_rfl) (want0 _) ha rfl (g_not rfl) ?_; clear ha a; intro a ha
  refine u_done (by kernel_rfl) ?_; intro w427 hx428
  replace hB11 := hB11.ext hx428
  replace h215 := h215.ext hx428
  replace hB249 := hB249.ext hx428
  replace h258 := h258.ext hx428
  replace h282 := h282.ext hx428
  replace h401 := h401.ext hx428
  have hE429 := Ext.trans hE415 hx428
  replace ha := ha.sub (σ' := [(2, va2), (3, va3), (13, v254), (14, v278), (68, (.bool (!x425)))]) ⟨rfl, rfl, rfl, rfl, rfl, trivial⟩; refine e_then ?_; refine c_cond (¬ (x425 = true)) ha rfl (n_iff (Iff.rfl)) (fun hp430 => ?_) (fun hp430 => ?_)
  · replace hF := if_t hp430 hF
    refine wp_seq ?_; refine wp_region_lit ?_; refine op_g ha rfl (g_assign rfl) ?_; clear ha a; intro a ha; refine wpList_nil ?_; replace ha := ha.sub (σ' := [(8, (.bool false))]) ⟨rfl, trivial⟩; refine e_then ?_; refine wp_ret ?_; refine e_then_ret ?_; obtain rfl := Option.some.inj hF
    exact f_ret1 ha rfl rfl ⟨rfl, hE429⟩
  replace hF := if_f hp430 hF; refine wp_skip ?_; refine e_then ?_; refine wp_seq ?_; refine wp_seq ?_; refine wp_region_lit ?_; (iterate 2 refine op_g ha rfl (g_move rfl) ?_; clear ha a; intro a ha); obtain ⟨x431, hc432, hF⟩ := cal_some hF
  refine o_call ha rfl rfl Try.call15 (W_laws_toInt64S (ha2.ext hE429) hc432) ?_; clear ha a; rintro v433 w434 ⟨b436, h437, z438, hx435⟩ a ha
  have q440 := Nq.new h258.fpb z438
  have q441 := Nq.madeO z438 h258.blt
  have q442 := Nq.new h282.fpb z438
  have q443 := Nq.madeO z438 h282.blt
  have q444 := Nf.old z438 (zf_nil _) h282.bnd
  replace h258 := h258.ext hx435
  replace h282 := h282.ext hx435
  have hE445 := Ext.trans hE429 hx435
  have q446 := Zn.upD z438 hE429
  obtain ⟨fp447, hro448, hs449⟩ := h258.roF
  obtain ⟨fp450, hro451, hs452⟩ := h437.roF
  obtain ⟨x453, hc454, hF⟩ := cal_some hF
  refine o_call ha rfl rfl Try.call18 (W_laws_eqInt64S hro448 hro451 hc454) ?_; clear ha a; rintro v455 w456 ⟨rfl, hx457⟩ a ha
  replace h258 := h258.ext hx457
  replace h282 := h282.ext hx457
  replace h437 := h437.ext hx457
  have hE458 := Ext.trans hE445 hx457
  refine op_g ha rfl (g_not rfl) ?_; clear ha a; intro a ha; refine wpList_nil ?_; replace ha := ha.sub (σ' := [(3, va3), (14, v278), (73, (.bool (!x453)))]) ⟨rfl, rfl, rfl, trivial⟩; refine e_then ?_; refine c_cond (¬ (x453 = true)) ha rfl (n_iff (Iff.rfl)) (fun hp459 => ?_) (fun hp459 => ?_)
  · replace hF := if_t hp459 hF
    refine wp_seq ?_; refine wp_region_lit ?_; refine op_g ha rfl (g_assign rfl) ?_; clear ha a; intro a ha; refine wpList_nil ?_; replace ha := ha.sub (σ' := [(8, (.bool false))]) ⟨rfl, trivial⟩; refine e_then ?_; refine wp_ret ?_; refine e_then_ret ?_; obtain rfl := Option.some.inj hF
    exact f_ret1 ha rfl rfl ⟨rfl, hE458⟩
  replace hF := if_f hp459 hF; refine wp_skip ?_; refine e_then ?_; refine wp_seq ?_; refine wp_seq ?_; refine wp_region_lit ?_; (iterate 2 refine op_g ha rfl (g_move rfl) ?_; clear ha a; intro a ha); obtain ⟨x460, hc461, hF⟩ := cal_some hF
  refine o_call ha rfl rfl Try.call16 (W_laws_toInt64SS (ha3.ext hE458) hc461) ?_; clear ha a; rintro v462 w463 ⟨b465, fs469, h466, z467, zf470, nd471, hx464⟩ a ha
  have q472 := Nq.new h282.fpb z467
  have q473 := Nq.madeF z467 zf470 h282.blt
  have q474 := Nf.new h282.fpb zf470
  have q475 := Nf.old z467 zf470 h282.bnd
  replace h282 := h282.ext hx464
  have hE476 := Ext.trans hE458 hx464
  have q477 := Zn.upD z467 hE458
  have q478 := zf_up zf470 hE458
  obtain ⟨fp479, hro480, hs481⟩ := h282.roF
  obtain ⟨fp482, hro483, hs484⟩ := h466.roF
  obtain ⟨x485, hc486, hF⟩ := cal_some hF
  refine o_call ha rfl rfl Try.call19 (W_laws_eqInt64SS hro480 hro483 hc486) ?_; clear ha a; rintro v487 w488 ⟨rfl, hx489⟩ a ha
  replace h282 := h282.ext hx489
  replace h466 := h466.ext hx489
  have hE490 := Ext.trans hE476 hx489
  refine op_g ha rfl (g_not rfl) ?_; clear ha a; intro a ha; refine wpList_nil ?_; replace ha := ha.sub (σ' := [(78, (.bool (!x485)))]) ⟨rfl, trivial⟩; refine e_then ?_; refine c_cond (¬ (x485 = true)) ha rfl (n_iff (Iff.rfl)) (fun hp491 => ?_) (fun hp491 => ?_)
  · replace hF := if_t hp491 hF
    refine wp_seq ?_; refine wp_region_lit ?_; refine op_g ha rfl (g_assign rfl) ?_; clear ha a; intro a ha; refine wpList_nil ?_; replace ha := ha.sub (σ' := [(8, (.bool false))]) ⟨rfl, trivial⟩; refine e_then ?_; refine wp_ret ?_; refine e_then_ret ?_; obtain rfl := Option.some.inj hF
    exact f_ret1 ha rfl rfl ⟨rfl, hE490⟩
  replace hF := if_f hp491 hF; refine wp_skip ?_; refine e_then ?_; refine wp_seq ?_; refine wp_region_lit ?_; refine op_g ha rfl (g_assign rfl) ?_; clear ha a; intro a ha; refine wpList_nil ?_; replace ha := ha.sub (σ' := [(8, (.bool true))]) ⟨rfl, trivial⟩; refine e_then ?_; refine wp_ret ?_; obtain rfl := Option.some.inj hF
  exact f_ret1 ha rfl rfl ⟨rfl, hE490⟩
end Go.Proofs.Ytjcnkijmbjhcnaa
