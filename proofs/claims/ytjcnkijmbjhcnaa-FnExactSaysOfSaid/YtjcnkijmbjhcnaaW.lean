/- Walks, printed by gen.py. -/
import Derived.Test.YtjcnkijmbjhcnaaF
import Derived.Test.YtjcnkijmbjhcnaaW2
import Derived.Test.YtjcnkijmbjhcnaaProg
import Derived.KernelRfl
set_option maxRecDepth 100000
namespace Go.Proofs.Ytjcnkijmbjhcnaa
open Go Go.RowKit

set_option maxHeartbeats 2000000 in
theorem W_impl_freeIn {W : World} {va0_0 : Value} {fa0_0 : List Nat} {a0_0 : (List (Int × (Int × Int)))} (ha0_0 : Ro (Rp.prod Rp.int (Rp.prod Rp.int Rp.int)) W fa0_0 va0_0 a0_0) {r : (List (BitVec 32))} (hF : F_impl_freeIn a0_0 = some r) :
    Calls Try.prog 42 [.agg #[va0_0]].toArray W (Ret fun u w' => ∃ (b_u : Int), Ow Rp.u32 56 true w' [] b_u u r ∧ Zn W b_u ∧ Ext W w') := by
  refine f_enter Try.func42 rfl Try.ntmps42 rfl ?_
  intro a ha
  replace ha : Fr 87 [(0, (.agg #[va0_0]))] a := ha
  have hE : Chg [] W W := Chg.refl _ _
  unfold F_impl_freeIn at hF
  refine wp_seq ?_; refine wp_region_lit ?_
  refine o_box ha rfl rfl rfl ?_; clear ha a; intro b1 w2 hB3 hx4 hlo5 a ha
  have q6 := Zn.one hlo5
  have q7 := Zn.upD q6 hE
  have hE8 := Ext.trans hE hx4
  refine op_g ha rfl (g_assign rfl) ?_; clear ha a; intro a ha; refine wpList_nil ?_; replace ha := ha.sub (σ' := [(1, (.pointer (some ⟨b1, 0, none⟩)))]) ⟨rfl, trivial⟩; refine e_then ?_; refine wp_seq ?_; refine wp_region_lit ?_
  refine o_lit0 Rp.u32 ha rfl sl74 ?_; clear ha a; intro v9 w10 h11 hx12 a ha
  obtain ⟨b14, hb14⟩ : ∃ b : Int, b = w2.heap.size := ⟨_, rfl⟩; rw [← hb14] at h11
  have q15 := zn_of hb14
  have q16 := Nq.new hB3.fpb q15
  have q17 := Nq.madeO q15 hB3.bi
  have q18 := Zn.upD q15 hE8
  replace hB3 := hB3.ext hx12
  have hE19 := Ext.trans hE8 hx12
  refine op_g ha rfl (g_assign rfl) ?_; clear ha a; intro a ha; refine wpList_nil ?_; replace ha := ha.sub (σ' := [(1, (.pointer (some ⟨b1, 0, none⟩))), (3, v9)]) ⟨rfl, rfl, trivial⟩; refine e_then ?_; refine wp_seq ?_; refine wp_seq ?_; refine wp_region_lit ?_; refine op_g ha rfl (g_field0 st35_0 rfl) ?_; clear ha a; intro a ha; refine op_g ha rfl (g_load Try.isAgg33 rfl (hB3.cell rfl)) ?_; clear ha a; intro a ha; refine op_g ha rfl (g_lenR sl33.und ha0_0 rfl) ?_; clear ha a; intro a ha; refine op_g ha rfl (g_move rfl) ?_; clear ha a; intro a ha; refine wpList_nil ?_; replace ha := ha.sub (σ' := [(3, v9), (9, va0_0), (10, (.int .i64 (a0_0.length : Int))), (11, (.int .i64 0))]) ⟨rfl, rfl, rfl, rfl, trivial⟩
  refine e_then ?_; obtain ⟨o776, ho777, hK778⟩ := bnd_some hF
  obtain ⟨n779, hn780⟩ := lp_some ho777; clear ho777
  refine c_loop (fun a w => ∃ (l773 : (List (BitVec 32))) (v774 : Value) (b775 : Int), Fr 87 [(3, v774)] a ∧ Chg [] W w ∧ Ow Rp.u32 56 true w [] b775 v774 l773 ∧ Zn W b775 ∧ o776 = .inl l773) (fun n a w => ∃ (l396 : (List (BitVec 32))) (i399 : Int) (v397 : Value) (b398 : Int), Fr 87 [(3, v397), (9, va0_0), (10, (.int .i64 (a0_0.length : Int))), (11, (.int .i64 i399))] a ∧ Chg [] W w ∧ InI i399 ∧ Ow Rp.u32 56 true w [] b398 v397 l396 ∧ Zn W b398 ∧ lpN (fun s => F_impl_freeIn_l1 a0_0 s.1 s.2) n (l396, i399) = some o776) n779 ⟨([] : (List (BitVec 32))), 0, v9, b14, ha.sub ⟨rfl, rfl, rfl, rfl, trivial⟩, hE19, (show InI 0 from by decide), h11, q18, hn780⟩ ?_ ?_
  · rintro m784 a w392 ⟨l396, i399, v397, b398, ha, hE401, hI400, h394, z395, hF⟩
    cases m784 with
    | zero => exact (lpN_zero hF).elim
    | succ m784 =>
      obtain ⟨z783, hF, hN782⟩ := lpN_succ hF
      have hF : F_impl_freeIn_l1 a0_0 l396 i399 = some z783 := hF; unfold F_impl_freeIn_l1 at hF
      refine wp_seq ?_; refine wp_region_lit ?_; refine op_g ha rfl (g_lss rfl rfl) ?_; clear ha a; intro a ha; refine wpList_nil ?_; replace ha := ha.sub (σ' := [(3, v397), (9, va0_0), (10, (.int .i64 (a0_0.length : Int))), (11, (.int .i64 i399)), (12, (.bool (decide (i399 < (a0_0.length : Int)))))]) ⟨rfl, rfl, rfl, rfl, rfl, trivial⟩; refine e_then ?_; refine wp_seq ?_; refine c_cond (i399 < (a0_0.length : Int)) ha rfl (decide_eq_true_iff) (fun hp785 => ?_) (fun hp785 => ?_)
      · replace hF := if_t hp785 hF
        refine wp_skip ?_; refine e_then ?_; refine wp_seq ?_; refine wp_block ?_; refine wp_seq ?_; refine wp_region_lit ?_; obtain ⟨x786, g787, gx788, hF⟩ := idx_some hF
        obtain ⟨p789, cs790, f791, hf792, hpb793, hat794, hr795, hi796⟩ := ha0_0.at g787 gx788
        obtain ⟨f797, f798, c799, c800, rfl, rfl, h801, h802⟩ := hr795
        obtain ⟨rfl, hI805, rfl⟩ := h801
        obtain ⟨f806, f807, c808, c809, rfl, rfl, h810, h811⟩ := h802
        obtain ⟨rfl, hI814, rfl⟩ := h810
        obtain ⟨rfl, hI815, rfl⟩ := h811
        refine op_g ha rfl (hi796.gives sl33 rfl rfl) ?_; clear ha a; intro a ha; refine op_g ha rfl (g_loadA0 (cs := [(.int .i64 x786.1), (.int .i64 x786.2.1), (.int .i64 x786.2.2)]) hE401 Try.isAgg71 Try.sizeOf71 rfl (by simp) hat794) ?_; clear ha a; intro a ha
        refine o_alloc (cs := [(.int .i64 0), (.int .i64 0), (.int .i64 0)]) ha rfl Try.zeroValue71 rfl ?_; clear ha a; intro b816 w817 hB818 hx819 hlo820 a ha
        have q821 := Zn.one hlo820
        have q822 := Nq.new h394.fpb q821
        have q823 := Nq.made1 hlo820 h394.blt
        have q824 := Zn.upD q821 hE401
        replace h394 := h394.ext hx819
        have hE825 := Ext.trans hE401 hx819
        refine o_storeA (vs := [(.int .i64 x786.1), (.int .i64 x786.2.1), (.int .i64 x786.2.2)]) ha hB818 Try.sizeOf71 rfl rfl (by intro c hc; simp only [List.mem_cons, List.not_mem_nil, or_false] at hc; rcases hc with hc | hc | hc <;> subst hc <;> first | rfl | exact rfl | exact rfl | exact rfl) rfl ?_; intro w826 hB827 hc828
        replace hc828 := hc828.bl
        replace hB827 : Bx w826 b816 [(.int .i64 x786.1), (.int .i64 x786.2.1), (.int .i64 x786.2.2)] 71 := hB827
        replace h394 := h394.nq hc828 q822
        have hE829 := Ext.then hE825 hc828 (Zn.bl q824)
        refine wpList_nil ?_; replace ha := ha.sub (σ' := [(3, v397), (5, (.pointer (some ⟨b816, 0, none⟩))), (9, va0_0), (10, (.int .i64 (a0_0.length : Int))), (11, (.int .i64 i399))]) ⟨rfl, rfl, rfl, rfl, rfl, trivial⟩; refine e_then ?_; refine wp_seq ?_; refine wp_region_lit ?_; refine op_g ha rfl (g_assign rfl) ?_; clear ha a; intro a ha; refine wpList_nil ?_; replace ha := ha.sub (σ' := [(3, v397), (5, (.pointer (some ⟨b816, 0, none⟩))), (6, (.int .u32 (BitVec.toNat (0#32) : Int))), (9, va0_0), (10, (.int .i64 (a0_0.length : Int))), (11, (.int .i64 i399))]) ⟨rfl, rfl, rfl, rfl, rfl, rfl, trivial⟩
        refine e_then ?_; refine wp_seq ?_; refine wp_seq ?_; refine wp_region_lit ?_; refine op_g ha rfl (g_field0 st71_0 rfl) ?_; clear ha a; intro a ha; refine op_g ha rfl (g_load Try.isAgg2 rfl (hB827.cell rfl)) ?_; clear ha a; intro a ha; refine wpList_nil ?_; replace ha := ha.sub (σ' := [(3, v397), (5, (.pointer (some ⟨b816, 0, none⟩))), (6, (.int .u32 (BitVec.toNat (0#32) : Int))), (9, va0_0), (10, (.int .i64 (a0_0.length : Int))), (11, (.int .i64 i399)), (16, (.int .i64 x786.1))]) ⟨rfl, rfl, rfl, rfl, rfl, rfl, rfl, trivial⟩; refine e_then ?_; refine wp_block ?_; obtain ⟨o831, ho832, hK833⟩ := bnd_some hF
        have hF := ho832; clear ho832
        refine s_cut (fun a w => ∃ (t840 : Bool), Fr 87 [(3, v397), (5, (.pointer (some ⟨b816, 0, none⟩))), (6, (.int .u32 (BitVec.toNat (0#32) : Int))), (9, va0_0), (10, (.int .i64 (a0_0.length : Int))), (11, (.int .i64 i399)), (16, (.int .i64 x786.1)), (17, (.bool t840))] a ∧ Chg [] W w ∧ Ow Rp.u32 56 true w [] b398 v397 l396 ∧ Zn W b398 ∧ Bx w b816 [(.int .i64 x786.1), (.int .i64 x786.2.1), (.int .i64 x786.2.2)] 71 ∧ Zn W (b816 : Int) ∧ Nq (bl b398 ++ []) (b816 : Int) ∧ Nq ([b816]) b398 ∧ o831 = .inl t840) ?_ ?_
        · skip
          refine wp_seq ?_; refine wp_region_lit ?_; refine op_g ha rfl (g_eql rfl rfl) ?_; clear ha a; intro a ha; refine op_g ha rfl (g_assign rfl) ?_; clear ha a; intro a ha; refine wpList_nil ?_; replace ha := ha.sub (σ' := [(3, v397), (5, (.pointer (some ⟨b816, 0, none⟩))), (6, (.int .u32 (BitVec.toNat (0#32) : Int))), (9, va0_0), (10, (.int .i64 (a0_0.length : Int))), (11, (.int .i64 i399)), (16, (.int .i64 x786.1)), (17, (.bool (decide (x786.1 = 1))))]) ⟨rfl, rfl, rfl, rfl, rfl, rfl, rfl, rfl, trivial⟩; refine e_then ?_; refine c_cond (x786.1 = 1) ha rfl (decide_eq_true_iff) (fun hp844 => ?_) (fun hp844 => ?_)
          · replace hF := if_t hp844 hF
            refine wp_skip ?_; refine e_sq ?_; obtain rfl := Option.some.inj hF
            exact ⟨decide (x786.1 = 1), ha.sub ⟨rfl, rfl, rfl, rfl, rfl, rfl, rfl, rfl, trivial⟩, hE829, h394, z395, hB827, q824, q822, q823, rfl⟩
          replace hF := if_f hp844 hF; refine wp_region_lit ?_; refine op_g ha rfl (g_eql rfl rfl) ?_; clear ha a; intro a ha; refine op_g ha rfl (g_assign rfl) ?_; clear ha a; intro a ha; refine wpList_nil ?_; replace ha := ha.sub (σ' := [(3, v397), (5, (.pointer (some ⟨b816, 0, none⟩))), (6, (.int .u32 (BitVec.toNat (0#32) : Int))), (9, va0_0), (10, (.int .i64 (a0_0.length : Int))), (11, (.int .i64 i399)), (16, (.int .i64 x786.1)), (17, (.bool (decide (x786.1 = 2))))]) ⟨rfl, rfl, rfl, rfl, rfl, rfl, rfl, rfl, trivial⟩; refine e_sq ?_; obtain rfl := Option.some.inj hF
          exact ⟨decide (x786.1 = 2), ha.sub ⟨rfl, rfl, rfl, rfl, rfl, rfl, rfl, rfl, trivial⟩, hE829, h394, z395, hB827, q824, q822, q823, rfl⟩
        rintro a w834 ⟨t840, ha, hE843, h836, z837, hB838, z839, q841, q842, rfl⟩
        have hF : F_impl_freeIn_k2 l396 i399 x786 t840 = some _ := hK833; clear hK833; unfold F_impl_freeIn_k2 at hF
        refine c_cond (t840 = true) ha rfl (Iff.rfl) (fun hp845 => ?_) (fun hp845 => ?_)
        · replace hF := if_t hp845 hF
          refine d_quiet hmix (by kernel_rfl) ?_; refine q_g ha rfl (g_field0 st71_1 rfl) ?_; clear ha a; intro a ha; refine q_g ha rfl (g_load Try.isAgg2 rfl (hB838.cell rfl)) ?_; clear ha a; intro a ha; obtain ⟨x848, hc849, hF⟩ := cal_some hF; refine q_call (.int .u32 (BitVec.toNat x848 : Int)) ha rfl rfl Try.call53 (fun w847 hx846 => W_impl_one hI814 hc849) (fun _ _ _ h => ⟨h.1, h.2⟩) ?_; clear ha a; intro a ha; refine q_g ha rfl (g_field0 st71_2 rfl) ?_; clear ha a; intro a ha; refine q_g ha rfl (g_load Try.isAgg2 rfl (hB838.cell rfl)) ?_; clear ha a; intro a ha; obtain ⟨x852, hc853, hF⟩ := cal_some hF
          refine q_call (.int .u32 (BitVec.toNat x852 : Int)) ha rfl rfl Try.call53 (fun w851 hx850 => W_impl_one hI815 hc853) (fun _ _ _ h => ⟨h.1, h.2⟩) ?_; clear ha a; intro a ha; refine q_g ha rfl (g32_or (m := x848) (n := x852) rfl rfl) ?_; clear ha a; intro a ha; refine q_g ha rfl (g_assign rfl) ?_; clear ha a; intro a ha
          refine q_nil ?_; intro w854 hx855
          replace h836 := h836.ext hx855
          replace hB838 := hB838.ext hx855
          have hE856 := Ext.trans hE843 hx855
          replace ha := ha.sub (σ' := [(3, v397), (6, (.int .u32 (BitVec.toNat (x848 ||| x852) : Int))), (9, va0_0), (10, (.int .i64 (a0_0.length : Int))), (11, (.int .i64 i399))]) ⟨rfl, rfl, rfl, rfl, rfl, trivial⟩; refine e_blk ?_; refine e_then ?_; refine wp_region_lit ?_; (iterate 2 refine op_g ha rfl (g_move rfl) ?_; clear ha a; intro a ha)
          refine o_lit1 (o := true) (y := x848 ||| x852) Rp.u32 ha rfl sl74 rfl rfl rfl ⟨rfl, rfl⟩ ?_; clear ha a; intro v857 w858 h859 hx860 a ha
          obtain ⟨b862, hb862⟩ : ∃ b : Int, b = w854.heap.size := ⟨_, rfl⟩; rw [← hb862] at h859
          have q863 := zn_of hb862
          have q864 := Nq.new h836.fpb q863
          have q865 := Nq.madeO q863 h836.blt
          have q866 := Zn.upD q863 hE856
          replace h836 := h836.ext hx860
          have hE867 := Ext.trans hE856 hx860
          obtain ⟨hl868, hF⟩ := app_some hF
          refine o_append ha rfl sl74 rfl rfl rfl h836 h859.src (Nq.nil _) hl868 ?_; clear ha a; intro v869 w870 b871 h872 hc873 hb874 a ha
          replace h872 : Ow Rp.u32 56 true w870 [] b871 v869 _ := h872
          have q876 := Nq.appY q865 h859.fpb hb874
          have q877 := Nq.appX q864 (Nq.nil _) hb874 h859.blt
          have q878 := Zn.appD z837 hb874 hE867
          replace h859 := h859.nq hc873 q865
          have hE879 := Ext.then hE867 hc873 (Zn.bl z837)
          refine op_g ha rfl (g_assign rfl) ?_; clear ha a; intro a ha; refine wpList_nil ?_; replace ha := ha.sub (σ' := [(3, v869), (9, va0_0), (10, (.int .i64 (a0_0.length : Int))), (11, (.int .i64 i399))]) ⟨rfl, rfl, rfl, rfl, trivial⟩; refine e_blk ?_; refine e_then ?_; refine wp_region_lit ?_; obtain ⟨hI880, hF⟩ := ck_some hF; refine op_g ha rfl (g_add rfl rfl hI880) ?_; clear ha a; intro a ha; refine op_g ha rfl (g_move rfl) ?_; clear ha a; intro a ha; refine wpList_nil ?_; replace ha := ha.sub (σ' := [(3, v869), (9, va0_0), (10, (.int .i64 (a0_0.length : Int))), (11, (.int .i64 (i399 + 1)))]) ⟨rfl, rfl, rfl, rfl, trivial⟩
          refine e_lq ?_; obtain rfl := Option.some.inj hF
          exact ⟨_, Nat.lt_succ_self _, (l396 ++ ([x848 ||| x852])), i399 + 1, v869, b871, ha.sub ⟨rfl, rfl, rfl, rfl, trivial⟩, hE879, hI880, h872, q878, hN782⟩
        replace hF := if_f hp845 hF; refine wp_seq ?_; refine wp_region_lit ?_; refine op_g ha rfl (g_eql rfl rfl) ?_; clear ha a; intro a ha; refine op_g ha rfl (g_assign rfl) ?_; clear ha a; intro a ha; refine wpList_nil ?_; replace ha := ha.sub (σ' := [(3, v397), (5, (.pointer (some ⟨b816, 0, none⟩))), (6, (.int .u32 (BitVec.toNat (0#32) : Int))), (9, va0_0), (10, (.int .i64 (a0_0.length : Int))), (11, (.int .i64 i399)), (16, (.int .i64 x786.1)), (27, (.bool (decide (x786.1 = 3))))]) ⟨rfl, rfl, rfl, rfl, rfl, rfl, rfl, rfl, trivial⟩; refine e_then ?_; refine c_cond (x786.1 = 3) ha rfl (decide_eq_true_iff) (fun hp882 => ?_) (fun hp882 => ?_)
        · replace hF := if_t hp882 hF
          refine d_quiet hmix (by kernel_rfl) ?_; refine q_g ha rfl (g_field0 st71_1 rfl) ?_; clear ha a; intro a ha; refine q_g ha rfl (g_load Try.isAgg2 rfl (hB838.cell rfl)) ?_; clear ha a; intro a ha; obtain ⟨x885, hc886, hF⟩ := cal_some hF; refine q_call (.int .u32 (BitVec.toNat x885 : Int)) ha rfl rfl Try.call53 (fun w884 hx883 => W_impl_one hI814 hc886) (fun _ _ _ h => ⟨h.1, h.2⟩) ?_; clear ha a; intro a ha; refine q_g ha rfl (g_field0 st71_2 rfl) ?_; clear ha a; intro a ha; refine q_g ha rfl (g_load Try.isAgg2 rfl (hB838.cell rfl)) ?_; clear ha a; intro a ha; obtain ⟨hI887, hF⟩ := ck_some hF
          refine q_g ha rfl (g_add rfl rfl hI887) ?_; clear ha a; intro a ha; obtain ⟨x891, hc892, hF⟩ := cal_some hF; refine q_call (.int .u32 (BitVec.toNat x891 : Int)) ha rfl rfl Try.call53 (fun w890 hx889 => W_impl_one hI887 hc892) (fun _ _ _ h => ⟨h.1, h.2⟩) ?_; clear ha a; intro a ha; refine q_g ha rfl (g32_or (m := x885) (n := x891) rfl rfl) ?_; clear ha a; intro a ha; refine q_g ha rfl (g_assign rfl) ?_; clear ha a; intro a ha
          refine q_nil ?_; intro w893 hx894
          replace h836 := h836.ext hx894
          replace hB838 := hB838.ext hx894
          have hE895 := Ext.trans hE843 hx894
          replace ha := ha.sub (σ' := [(3, v397), (6, (.int .u32 (BitVec.toNat (x885 ||| x891) : Int))), (9, va0_0), (10, (.int .i64 (a0_0.length : Int))), (11, (.int .i64 i399))]) ⟨rfl, rfl, rfl, rfl, rfl, trivial⟩; refine e_blk ?_; refine e_then ?_; refine wp_region_lit ?_; (iterate 2 refine op_g ha rfl (g_move rfl) ?_; clear ha a; intro a ha)
          refine o_lit1 (o := true) (y := x885 ||| x891) Rp.u32 ha rfl sl74 rfl rfl rfl ⟨rfl, rfl⟩ ?_; clear ha a; intro v896 w897 h898 hx899 a ha
          obtain ⟨b901, hb901⟩ : ∃ b : Int, b = w893.heap.size := ⟨_, rfl⟩; rw [← hb901] at h898
          have q902 := zn_of hb901
          have q903 := Nq.new h836.fpb q902
          have q904 := Nq.madeO q902 h836.blt
          have q905 := Zn.upD q902 hE895
          replace h836 := h836.ext hx899
          have hE906 := Ext.trans hE895 hx899
          obtain ⟨hl907, hF⟩ := app_some hF
          refine o_append ha rfl sl74 rfl rfl rfl h836 h898.src (Nq.nil _) hl907 ?_; clear ha a; intro v908 w909 b910 h911 hc912 hb913 a ha
          replace h911 : Ow Rp.u32 56 true w909 [] b910 v908 _ := h911
          have q915 := Nq.appY q904 h898.fpb hb913
          have q916 := Nq.appX q903 (Nq.nil _) hb913 h898.blt
          have q917 := Zn.appD z837 hb913 hE906
          replace h898 := h898.nq hc912 q904
          have hE918 := Ext.then hE906 hc912 (Zn.bl z837)
          refine op_g ha rfl (g_assign rfl) ?_; clear ha a; intro a ha; refine wpList_nil ?_; replace ha := ha.sub (σ' := [(3, v908), (9, va0_0), (10, (.int .i64 (a0_0.length : Int))), (11, (.int .i64 i399))]) ⟨rfl, rfl, rfl, rfl, trivial⟩; refine e_blk ?_; refine e_then ?_; refine wp_region_lit ?_; obtain ⟨hI919, hF⟩ := ck_some hF; refine op_g ha rfl (g_add rfl rfl hI919) ?_; clear ha a; intro a ha; refine op_g ha rfl (g_move rfl) ?_; clear ha a; intro a ha; refine wpList_nil ?_; replace ha := ha.sub (σ' := [(3, v908), (9, va0_0), (10, (.int .i64 (a0_0.length : Int))), (11, (.int .i64 (i399 + 1)))]) ⟨rfl, rfl, rfl, rfl, trivial⟩
          refine e_lq ?_; obtain rfl := Option.some.inj hF
          exact ⟨_, Nat.lt_succ_self _, (l396 ++ ([x885 ||| x891])), i399 + 1, v908, b910, ha.sub ⟨rfl, rfl, rfl, rfl, trivial⟩, hE918, hI919, h911, q917, hN782⟩
        replace hF := if_f hp882 hF; refine wp_seq ?_; refine wp_region_lit ?_; refine op_g ha rfl (g_eql rfl rfl) ?_; clear ha a; intro a ha; refine op_g ha rfl (g_assign rfl) ?_; clear ha a; intro a ha; refine wpList_nil ?_; replace ha := ha.sub (σ' := [(3, v397), (5, (.pointer (some ⟨b816, 0, none⟩))), (6, (.int .u32 (BitVec.toNat (0#32) : Int))), (9, va0_0), (10, (.int .i64 (a0_0.length : Int))), (11, (.int .i64 i399)), (16, (.int .i64 x786.1)), (37, (.bool (decide (x786.1 = 4))))]) ⟨rfl, rfl, rfl, rfl, rfl, rfl, rfl, rfl, trivial⟩; refine e_then ?_; refine c_cond (x786.1 = 4) ha rfl (decide_eq_true_iff) (fun hp921 => ?_) (fun hp921 => ?_)
        · replace hF := if_t hp921 hF
          refine wp_region_lit ?_; refine op_g ha rfl (g_move rfl) ?_; clear ha a; intro a ha; refine op_g ha rfl (g_field0 st71_1 rfl) ?_; clear ha a; intro a ha; refine op_g ha rfl (g_load Try.isAgg2 rfl (hB838.cell rfl)) ?_; clear ha a; intro a ha; obtain ⟨x922, g923, gx924, hF⟩ := idx_some hF
          obtain ⟨p925, cs926, f927, hf928, hpb929, hat930, hr931, hi932⟩ := h836.at g923 gx924
          obtain ⟨rfl, rfl⟩ := hr931
          refine op_g ha rfl (hi932.gives sl74 rfl rfl) ?_; clear ha a; intro a ha; refine op_g ha rfl (g_load Try.isAgg56 rfl hat930.one) ?_; clear ha a; intro a ha; refine op_g ha rfl (g_assign rfl) ?_; clear ha a; intro a ha; refine wpList_nil ?_; replace ha := ha.sub (σ' := [(3, v397), (6, (.int .u32 (BitVec.toNat x922 : Int))), (9, va0_0), (10, (.int .i64 (a0_0.length : Int))), (11, (.int .i64 i399))]) ⟨rfl, rfl, rfl, rfl, rfl, trivial⟩; refine e_blk ?_; refine e_then ?_; refine wp_region_lit ?_; (iterate 2 refine op_g ha rfl (g_move rfl) ?_; clear ha a; intro a ha)
          refine o_lit1 (o := true) (y := x922) Rp.u32 ha rfl sl74 rfl rfl rfl ⟨rfl, rfl⟩ ?_; clear ha a; intro v933 w934 h935 hx936 a ha
          obtain ⟨b938, hb938⟩ : ∃ b : Int, b = w834.heap.size := ⟨_, rfl⟩; rw [← hb938] at h935
          have q939 := zn_of hb938
          have q940 := Nq.new h836.fpb q939
          have q941 := Nq.madeO q939 h836.blt
          have q942 := Zn.upD q939 hE843
          replace h836 := h836.ext hx936
          have hE943 := Ext.trans hE843 hx936
          obtain ⟨hl944, hF⟩ := app_some hF
          refine o_append ha rfl sl74 rfl rfl rfl h836 h935.src (Nq.nil _) hl944 ?_; clear ha a; intro v945 w946 b947 h948 hc949 hb950 a ha
          replace h948 : Ow Rp.u32 56 true w946 [] b947 v945 _ := h948
          have q952 := Nq.appY q941 h935.fpb hb950
          have q953 := Nq.appX q940 (Nq.nil _) hb950 h935.blt
          have q954 := Zn.appD z837 hb950 hE943
          replace h935 := h935.nq hc949 q941
          have hE955 := Ext.then hE943 hc949 (Zn.bl z837)
          refine op_g ha rfl (g_assign rfl) ?_; clear ha a; intro a ha; refine wpList_nil ?_; replace ha := ha.sub (σ' := [(3, v945), (9, va0_0), (10, (.int .i64 (a0_0.length : Int))), (11, (.int .i64 i399))]) ⟨rfl, rfl, rfl, rfl, trivial⟩; refine e_blk ?_; refine e_then ?_; refine wp_region_lit ?_; obtain ⟨hI956, hF⟩ := ck_some hF; refine op_g ha rfl (g_add rfl rfl hI956) ?_; clear ha a; intro a ha; refine op_g ha rfl (g_move rfl) ?_; clear ha a; intro a ha; refine wpList_nil ?_; replace ha := ha.sub (σ' := [(3, v945), (9, va0_0), (10, (.int .i64 (a0_0.length : Int))), (11, (.int .i64 (i399 + 1)))]) ⟨rfl, rfl, rfl, rfl, trivial⟩
          refine e_lq ?_; obtain rfl := Option.some.inj hF
          exact ⟨_, Nat.lt_succ_self _, (l396 ++ ([x922])), i399 + 1, v945, b947, ha.sub ⟨rfl, rfl, rfl, rfl, trivial⟩, hE955, hI956, h948, q954, hN782⟩
        replace hF := if_f hp921 hF; obtain ⟨o959, ho960, hK961⟩ := bnd_some hF
        have hF := ho960; clear ho960
        refine s_cut (fun a w => ∃ (t968 : Bool), Fr 87 [(3, v397), (5, (.pointer (some ⟨b816, 0, none⟩))), (6, (.int .u32 (BitVec.toNat (0#32) : Int))), (9, va0_0), (10, (.int .i64 (a0_0.length : Int))), (11, (.int .i64 i399)), (16, (.int .i64 x786.1)), (44, (.bool t968))] a ∧ Chg [] W w ∧ Ow Rp.u32 56 true w [] b398 v397 l396 ∧ Zn W b398 ∧ Bx w b816 [(.int .i64 x786.1), (.int .i64 x786.2.1), (.int .i64 x786.2.2)] 71 ∧ Zn W (b816 : Int) ∧ Nq (bl b398 ++ []) (b816 : Int) ∧ Nq ([b816]) b398 ∧ o959 = .inl t968) ?_ ?_
        · skip
          refine wp_seq ?_; refine wp_region_lit ?_; refine op_g ha rfl (g_eql rfl rfl) ?_; clear ha a; intro a ha; refine op_g ha rfl (g_assign rfl) ?_; clear ha a; intro a ha; refine wpList_nil ?_; replace ha := ha.sub (σ' := [(3, v397), (5, (.pointer (some ⟨b816, 0, none⟩))), (6, (.int .u32 (BitVec.toNat (0#32) : Int))), (9, va0_0), (10, (.int .i64 (a0_0.length : Int))), (11, (.int .i64 i399)), (16, (.int .i64 x786.1)), (44, (.bool (decide (x786.1 = 5))))]) ⟨rfl, rfl, rfl, rfl, rfl, rfl, rfl, rfl, trivial⟩; refine e_then ?_; refine c_cond (x786.1 = 5) ha rfl (decide_eq_true_iff) (fun hp972 => ?_) (fun hp972 => ?_)
          · replace hF := if_t hp972 hF
            refine wp_skip ?_; refine e_sq ?_; obtain rfl := Option.some.inj hF
            exact ⟨decide (x786.1 = 5), ha.sub ⟨rfl, rfl, rfl, rfl, rfl, rfl, rfl, rfl, trivial⟩, hE843, h836, z837, hB838, z839, q841, q842, rfl⟩
          replace hF := if_f hp972 hF; refine wp_region_lit ?_; refine op_g ha rfl (g_eql rfl rfl) ?_; clear ha a; intro a ha; refine op_g ha rfl (g_assign rfl) ?_; clear ha a; intro a ha; refine wpList_nil ?_; replace ha := ha.sub (σ' := [(3, v397), (5, (.pointer (some ⟨b816, 0, none⟩))), (6, (.int .u32 (BitVec.toNat (0#32) : Int))), (9, va0_0), (10, (.int .i64 (a0_0.length : Int))), (11, (.int .i64 i399)), (16, (.int .i64 x786.1)), (44, (.bool (decide (x786.1 = 6))))]) ⟨rfl, rfl, rfl, rfl, rfl, rfl, rfl, rfl, trivial⟩; refine e_sq ?_; obtain rfl := Option.some.inj hF
          exact ⟨decide (x786.1 = 6), ha.sub ⟨rfl, rfl, rfl, rfl, rfl, rfl, rfl, rfl, trivial⟩, hE843, h836, z837, hB838, z839, q841, q842, rfl⟩
        rintro a w962 ⟨t968, ha, hE971, h964, z965, hB966, z967, q969, q970, rfl⟩
        have hF : F_impl_freeIn_k3 l396 i399 x786 t968 = some _ := hK961; clear hK961; unfold F_impl_freeIn_k3 at hF
        refine c_cond (t968 = true) ha rfl (Iff.rfl) (fun hp973 => ?_) (fun hp973 => ?_)
        · replace hF := if_t hp973 hF
          refine d_quiet hmix (by kernel_rfl) ?_; refine q_g ha rfl (g_move rfl) ?_; clear ha a; intro a ha; refine q_g ha rfl (g_field0 st71_1 rfl) ?_; clear ha a; intro a ha; refine q_g ha rfl (g_load Try.isAgg2 rfl (hB966.cell rfl)) ?_; clear ha a; intro a ha; obtain ⟨x974, g975, gx976, hF⟩ := idx_some hF
          obtain ⟨p977, cs978, f979, hf980, hpb981, hat982, hr983, hi984⟩ := h964.at g975 gx976
          obtain ⟨rfl, rfl⟩ := hr983
          refine q_g ha rfl (hi984.gives sl74 rfl rfl) ?_; clear ha a; intro a ha; refine q_g ha rfl (g_load Try.isAgg56 rfl hat982.one) ?_; clear ha a; intro a ha; refine q_g ha rfl (g_move rfl) ?_; clear ha a; intro a ha; refine q_g ha rfl (g_field0 st71_2 rfl) ?_; clear ha a; intro a ha; refine q_g ha rfl (g_load Try.isAgg2 rfl (hB966.cell rfl)) ?_; clear ha a; intro a ha; obtain ⟨x985, g986, gx987, hF⟩ := idx_some hF
          obtain ⟨p988, cs989, f990, hf991, hpb992, hat993, hr994, hi995⟩ := h964.at g986 gx987
          obtain ⟨rfl, rfl⟩ := hr994
          refine q_g ha rfl (hi995.gives sl74 rfl rfl) ?_; clear ha a; intro a ha; refine q_g ha rfl (g_load Try.isAgg56 rfl hat993.one) ?_; clear ha a; intro a ha; refine q_g ha rfl (g32_or (m := x974) (n := x985) rfl rfl) ?_; clear ha a; intro a ha; refine q_g ha rfl (g_assign rfl) ?_; clear ha a; intro a ha
          refine q_nil ?_; intro w996 hx997
          replace h964 := h964.ext hx997
          replace hB966 := hB966.ext hx997
          have hE998 := Ext.trans hE971 hx997
          replace ha := ha.sub (σ' := [(3, v397), (6, (.int .u32 (BitVec.toNat (x974 ||| x985) : Int))), (9, va0_0), (10, (.int .i64 (a0_0.length : Int))), (11, (.int .i64 i399))]) ⟨rfl, rfl, rfl, rfl, rfl, trivial⟩; refine e_blk ?_; refine e_then ?_; refine wp_region_lit ?_; (iterate 2 refine op_g ha rfl (g_move rfl) ?_; clear ha a; intro a ha)
          refine o_lit1 (o := true) (y := x974 ||| x985) Rp.u32 ha rfl sl74 rfl rfl rfl ⟨rfl, rfl⟩ ?_; clear ha a; intro v999 w1000 h1001 hx1002 a ha
          obtain ⟨b1004, hb1004⟩ : ∃ b : Int, b = w996.heap.size := ⟨_, rfl⟩; rw [← hb1004] at h1001
          have q1005 := zn_of hb1004
          have q1006 := Nq.new h964.fpb q1005
          have q1007 := Nq.madeO q1005 h964.blt
          have q1008 := Zn.upD q1005 hE998
          replace h964 := h964.ext hx1002
          have hE1009 := Ext.trans hE998 hx1002
          obtain ⟨hl1010, hF⟩ := app_some hF
          refine o_append ha rfl sl74 rfl rfl rfl h964 h1001.src (Nq.nil _) hl1010 ?_; clear ha a; intro v1011 w1012 b1013 h1014 hc1015 hb1016 a ha
          replace h1014 : Ow Rp.u32 56 true w1012 [] b1013 v1011 _ := h1014
          have q1018 := Nq.appY q1007 h1001.fpb hb1016
          have q1019 := Nq.appX q1006 (Nq.nil _) hb1016 h1001.blt
          have q1020 := Zn.appD z965 hb1016 hE1009
          replace h1001 := h1001.nq hc1015 q1007
          have hE1021 := Ext.then hE1009 hc1015 (Zn.bl z965)
          refine op_g ha rfl (g_assign rfl) ?_; clear ha a; intro a ha; refine wpList_nil ?_; replace ha := ha.sub (σ' := [(3, v1011), (9, va0_0), (10, (.int .i64 (a0_0.length : Int))), (11, (.int .i64 i399))]) ⟨rfl, rfl, rfl, rfl, trivial⟩; refine e_blk ?_; refine e_then ?_; refine wp_region_lit ?_; obtain ⟨hI1022, hF⟩ := ck_some hF; refine op_g ha rfl (g_add rfl rfl hI1022) ?_; clear ha a; intro a ha; refine op_g ha rfl (g_move rfl) ?_; clear ha a; intro a ha; refine wpList_nil ?_; replace ha := ha.sub (σ' := [(3, v1011), (9, va0_0), (10, (.int .i64 (a0_0.length : Int))), (11, (.int .i64 (i399 + 1)))]) ⟨rfl, rfl, rfl, rfl, trivial⟩
          refine e_lq ?_; obtain rfl := Option.some.inj hF
          exact ⟨_, Nat.lt_succ_self _, (l396 ++ ([x974 ||| x985])), i399 + 1, v1011, b1013, ha.sub ⟨rfl, rfl, rfl, rfl, trivial⟩, hE1021, hI1022, h1014, q1020, hN782⟩
        replace hF := if_f hp973 hF; refine wp_seq ?_; refine wp_region_lit ?_; refine op_g ha rfl (g_eql rfl rfl) ?_; clear ha a; intro a ha; refine op_g ha rfl (g_assign rfl) ?_; clear ha a; intro a ha; refine wpList_nil ?_; replace ha := ha.sub (σ' := [(3, v397), (5, (.pointer (some ⟨b816, 0, none⟩))), (6, (.int .u32 (BitVec.toNat (0#32) : Int))), (9, va0_0), (10, (.int .i64 (a0_0.length : Int))), (11, (.int .i64 i399)), (16, (.int .i64 x786.1)), (58, (.bool (decide (x786.1 = 7))))]) ⟨rfl, rfl, rfl, rfl, rfl, rfl, rfl, rfl, trivial⟩; refine e_then ?_; refine c_cond (x786.1 = 7) ha rfl (decide_eq_true_iff) (fun hp1024 => ?_) (fun hp1024 => ?_)
        · replace hF := if_t hp1024 hF
          refine d_quiet hmix (by kernel_rfl) ?_; refine q_g ha rfl (g_move rfl) ?_; clear ha a; intro a ha; refine q_g ha rfl (g_field0 st71_2 rfl) ?_; clear ha a; intro a ha; refine q_g ha rfl (g_load Try.isAgg2 rfl (hB966.cell rfl)) ?_; clear ha a; intro a ha; obtain ⟨x1025, g1026, gx1027, hF⟩ := idx_some hF
          obtain ⟨p1028, cs1029, f1030, hf1031, hpb1032, hat1033, hr1034, hi1035⟩ := h964.at g1026 gx1027
          obtain ⟨rfl, rfl⟩ := hr1034
          refine q_g ha rfl (hi1035.gives sl74 rfl rfl) ?_; clear ha a; intro a ha; refine q_g ha rfl (g_load Try.isAgg56 rfl hat1033.one) ?_; clear ha a; intro a ha; refine q_g ha rfl (g_field0 st71_1 rfl) ?_; clear ha a; intro a ha; refine q_g ha rfl (g_load Try.isAgg2 rfl (hB966.cell rfl)) ?_; clear ha a; intro a ha; obtain ⟨x1038, hc1039, hF⟩ := cal_some hF; refine q_call (.int .u32 (BitVec.toNat x1038 : Int)) ha rfl rfl Try.call53 (fun w1037 hx1036 => W_impl_one hI814 hc1039) (fun _ _ _ h => ⟨h.1, h.2⟩) ?_; clear ha a; intro a ha; refine q_g ha rfl (g32_andNot (m := x1025) (n := x1038) rfl rfl) ?_; clear ha a; intro a ha
          refine q_g ha rfl (g_assign rfl) ?_; clear ha a; intro a ha
          refine q_nil ?_; intro w1040 hx1041
          replace h964 := h964.ext hx1041
          replace hB966 := hB966.ext hx1041
          have hE1042 := Ext.trans hE971 hx1041
          replace ha := ha.sub (σ' := [(3, v397), (6, (.int .u32 (BitVec.toNat (x1025 &&& ~~~x1038) : Int))), (9, va0_0), (10, (.int .i64 (a0_0.length : Int))), (11, (.int .i64 i399))]) ⟨rfl, rfl, rfl, rfl, rfl, trivial⟩; refine e_blk ?_; refine e_then ?_; refine wp_region_lit ?_; (iterate 2 refine op_g ha rfl (g_move rfl) ?_; clear ha a; intro a ha)
          refine o_lit1 (o := true) (y := x1025 &&& ~~~x1038) Rp.u32 ha rfl sl74 rfl rfl rfl ⟨rfl, rfl⟩ ?_; clear ha a; intro v1043 w1044 h1045 hx1046 a ha
          obtain ⟨b1048, hb1048⟩ : ∃ b : Int, b = w1040.heap.size := ⟨_, rfl⟩; rw [← hb1048] at h1045
          have q1049 := zn_of hb1048
          have q1050 := Nq.new h964.fpb q1049
          have q1051 := Nq.madeO q1049 h964.blt
          have q1052 := Zn.upD q1049 hE1042
          replace h964 := h964.ext hx1046
          have hE1053 := Ext.trans hE1042 hx1046
          obtain ⟨hl1054, hF⟩ := app_some hF
          refine o_append ha rfl sl74 rfl rfl rfl h964 h1045.src (Nq.nil _) hl1054 ?_; clear ha a; intro v1055 w1056 b1057 h1058 hc1059 hb1060 a ha
          replace h1058 : Ow Rp.u32 56 true w1056 [] b1057 v1055 _ := h1058
          have q1062 := Nq.appY q1051 h1045.fpb hb1060
          have q1063 := Nq.appX q1050 (Nq.nil _) hb1060 h1045.blt
          have q1064 := Zn.appD z965 hb1060 hE1053
          replace h1045 := h1045.nq hc1059 q1051
          have hE1065 := Ext.then hE1053 hc1059 (Zn.bl z965)
          refine op_g ha rfl (g_assign rfl) ?_; clear ha a; intro a ha; refine wpList_nil ?_; replace ha := ha.sub (σ' := [(3, v1055), (9, va0_0), (10, (.int .i64 (a0_0.length : Int))), (11, (.int .i64 i399))]) ⟨rfl, rfl, rfl, rfl, trivial⟩; refine e_blk ?_; refine e_then ?_; refine wp_region_lit ?_; obtain ⟨hI1066, hF⟩ := ck_some hF; refine op_g ha rfl (g_add rfl rfl hI1066) ?_; clear ha a; intro a ha; refine op_g ha rfl (g_move rfl) ?_; clear ha a; intro a ha; refine wpList_nil ?_; replace ha := ha.sub (σ' := [(3, v1055), (9, va0_0), (10, (.int .i64 (a0_0.length : Int))), (11, (.int .i64 (i399 + 1)))]) ⟨rfl, rfl, rfl, rfl, trivial⟩
          refine e_lq ?_; obtain rfl := Option.some.inj hF
          exact ⟨_, Nat.lt_succ_self _, (l396 ++ ([x1025 &&& ~~~x1038])), i399 + 1, v1055, b1057, ha.sub ⟨rfl, rfl, rfl, rfl, trivial⟩, hE1065, hI1066, h1058, q1064, hN782⟩
        replace hF := if_f hp1024 hF; refine wp_seq ?_; refine wp_region_lit ?_; refine op_g ha rfl (g_eql rfl rfl) ?_; clear ha a; intro a ha; refine op_g ha rfl (g_assign rfl) ?_; clear ha a; intro a ha; refine wpList_nil ?_; replace ha := ha.sub (σ' := [(3, v397), (5, (.pointer (some ⟨b816, 0, none⟩))), (6, (.int .u32 (BitVec.toNat (0#32) : Int))), (9, va0_0), (10, (.int .i64 (a0_0.length : Int))), (11, (.int .i64 i399)), (69, (.bool (decide (x786.1 = 8))))]) ⟨rfl, rfl, rfl, rfl, rfl, rfl, rfl, trivial⟩; refine e_then ?_; refine c_cond (x786.1 = 8) ha rfl (decide_eq_true_iff) (fun hp1068 => ?_) (fun hp1068 => ?_)
        · replace hF := if_t hp1068 hF
          refine d_quiet hmix (by kernel_rfl) ?_; refine q_g ha rfl (g_move rfl) ?_; clear ha a; intro a ha; refine q_g ha rfl (g_field0 st71_2 rfl) ?_; clear ha a; intro a ha; refine q_g ha rfl (g_load Try.isAgg2 rfl (hB966.cell rfl)) ?_; clear ha a; intro a ha; obtain ⟨x1069, g1070, gx1071, hF⟩ := idx_some hF
          obtain ⟨p1072, cs1073, f1074, hf1075, hpb1076, hat1077, hr1078, hi1079⟩ := h964.at g1070 gx1071
          obtain ⟨rfl, rfl⟩ := hr1078
          refine q_g ha rfl (hi1079.gives sl74 rfl rfl) ?_; clear ha a; intro a ha; refine q_g ha rfl (g_load Try.isAgg56 rfl hat1077.one) ?_; clear ha a; intro a ha; refine q_g ha rfl (g_field0 st71_1 rfl) ?_; clear ha a; intro a ha; refine q_g ha rfl (g_load Try.isAgg2 rfl (hB966.cell rfl)) ?_; clear ha a; intro a ha; obtain ⟨hI1080, hF⟩ := ck_some hF; refine q_g ha rfl (g_add rfl rfl hI1080) ?_; clear ha a; intro a ha; obtain ⟨x1084, hc1085, hF⟩ := cal_some hF; refine q_call (.int .u32 (BitVec.toNat x1084 : Int)) ha rfl rfl Try.call53 (fun w1083 hx1082 => W_impl_one hI1080 hc1085) (fun _ _ _ h => ⟨h.1, h.2⟩) ?_; clear ha a; intro a ha
          refine q_g ha rfl (g32_andNot (m := x1069) (n := x1084) rfl rfl) ?_; clear ha a; intro a ha; refine q_g ha rfl (g_assign rfl) ?_; clear ha a; intro a ha
          refine q_nil ?_; intro w1086 hx1087
          replace h964 := h964.ext hx1087
          replace hB966 := hB966.ext hx1087
          have hE1088 := Ext.trans hE971 hx1087
          replace ha := ha.sub (σ' := [(3, v397), (6, (.int .u32 (BitVec.toNat (x1069 &&& ~~~x1084) : Int))), (9, va0_0), (10, (.int .i64 (a0_0.length : Int))), (11, (.int .i64 i399))]) ⟨rfl, rfl, rfl, rfl, rfl, trivial⟩; refine e_blk ?_; refine e_then ?_; refine wp_region_lit ?_; (iterate 2 refine op_g ha rfl (g_move rfl) ?_; clear ha a; intro a ha)
          refine o_lit1 (o := true) (y := x1069 &&& ~~~x1084) Rp.u32 ha rfl sl74 rfl rfl rfl ⟨rfl, rfl⟩ ?_; clear ha a; intro v1089 w1090 h1091 hx1092 a ha
          obtain ⟨b1094, hb1094⟩ : ∃ b : Int, b = w1086.heap.size := ⟨_, rfl⟩; rw [← hb1094] at h1091
          have q1095 := zn_of hb1094
          have q1096 := Nq.new h964.fpb q1095
          have q1097 := Nq.madeO q1095 h964.blt
          have q1098 := Zn.upD q1095 hE1088
          replace h964 := h964.ext hx1092
          have hE1099 := Ext.trans hE1088 hx1092
          obtain ⟨hl1100, hF⟩ := app_some hF
          refine o_append ha rfl sl74 rfl rfl rfl h964 h1091.src (Nq.nil _) hl1100 ?_; clear ha a; intro v1101 w1102 b1103 h1104 hc1105 hb1106 a ha
          replace h1104 : Ow Rp.u32 56 true w1102 [] b1103 v1101 _ := h1104
          have q1108 := Nq.appY q1097 h1091.fpb hb1106
          have q1109 := Nq.appX q1096 (Nq.nil _) hb1106 h1091.blt
          have q1110 := Zn.appD z965 hb1106 hE1099
          replace h1091 := h1091.nq hc1105 q1097
          have hE1111 := Ext.then hE1099 hc1105 (Zn.bl z965)
          refine op_g ha rfl (g_assign rfl) ?_; clear ha a; intro a ha; refine wpList_nil ?_; replace ha := ha.sub (σ' := [(3, v1101), (9, va0_0), (10, (.int .i64 (a0_0.length : Int))), (11, (.int .i64 i399))]) ⟨rfl, rfl, rfl, rfl, trivial⟩; refine e_blk ?_; refine e_then ?_; refine wp_region_lit ?_; obtain ⟨hI1112, hF⟩ := ck_some hF; refine op_g ha rfl (g_add rfl rfl hI1112) ?_; clear ha a; intro a ha; refine op_g ha rfl (g_move rfl) ?_; clear ha a; intro a ha; refine wpList_nil ?_; replace ha := ha.sub (σ' := [(3, v1101), (9, va0_0), (10, (.int .i64 (a0_0.length : Int))), (11, (.int .i64 (i399 + 1)))]) ⟨rfl, rfl, rfl, rfl, trivial⟩
          refine e_lq ?_; obtain rfl := Option.some.inj hF
          exact ⟨_, Nat.lt_succ_self _, (l396 ++ ([x1069 &&& ~~~x1084])), i399 + 1, v1101, b1103, ha.sub ⟨rfl, rfl, rfl, rfl, trivial⟩, hE1111, hI1112, h1104, q1110, hN782⟩
        replace hF := if_f hp1068 hF; refine wp_skip ?_; refine e_blk ?_; refine e_then ?_; refine wp_region_lit ?_; (iterate 2 refine op_g ha rfl (g_move rfl) ?_; clear ha a; intro a ha)
        refine o_lit1 (o := true) (y := 0#32) Rp.u32 ha rfl sl74 rfl rfl rfl ⟨rfl, rfl⟩ ?_; clear ha a; intro v1114 w1115 h1116 hx1117 a ha
        obtain ⟨b1119, hb1119⟩ : ∃ b : Int, b = w962.heap.size := ⟨_, rfl⟩; rw [← hb1119] at h1116
        have q1120 := zn_of hb1119
        have q1121 := Nq.new h964.fpb q1120
        have q1122 := Nq.madeO q1120 h964.blt
        have q1123 := Nq.new hB966.fpb q1120
        have q1124 := Nq.madeO q1120 hB966.bi
        have q1125 := Zn.upD q1120 hE971
        replace h964 := h964.ext hx1117
        replace hB966 := hB966.ext hx1117
        have hE1126 := Ext.trans hE971 hx1117
        obtain ⟨hl1127, hF⟩ := app_some hF
        refine o_append ha rfl sl74 rfl rfl rfl h964 h1116.src (Nq.nil _) hl1127 ?_; clear ha a; intro v1128 w1129 b1130 h1131 hc1132 hb1133 a ha
        replace h1131 : Ow Rp.u32 56 true w1129 [] b1130 v1128 _ := h1131
        have q1135 := Nq.appY q970 hB966.fpb hb1133
        have q1136 := Nq.appX q969 (Nq.nil _) hb1133 hB966.bi
        have q1137 := Nq.appY q1122 h1116.fpb hb1133
        have q1138 := Nq.appX q1121 (Nq.nil _) hb1133 h1116.blt
        have q1139 := Zn.appD z965 hb1133 hE1126
        replace hB966 := hB966.nq hc1132 q970
        replace h1116 := h1116.nq hc1132 q1122
        have hE1140 := Ext.then hE1126 hc1132 (Zn.bl z965)
        refine op_g ha rfl (g_assign rfl) ?_; clear ha a; intro a ha; refine wpList_nil ?_; replace ha := ha.sub (σ' := [(3, v1128), (9, va0_0), (10, (.int .i64 (a0_0.length : Int))), (11, (.int .i64 i399))]) ⟨rfl, rfl, rfl, rfl, trivial⟩; refine e_blk ?_; refine e_then ?_; refine wp_region_lit ?_; obtain ⟨hI1141, hF⟩ := ck_some hF; refine op_g ha rfl (g_add rfl rfl hI1141) ?_; clear ha a; intro a ha; refine op_g ha rfl (g_move rfl) ?_; clear ha a; intro a ha; refine wpList_nil ?_; replace ha := ha.sub (σ' := [(3, v1128), (9, va0_0), (10, (.int .i64 (a0_0.length : Int))), (11, (.int .i64 (i399 + 1)))]) ⟨rfl, rfl, rfl, rfl, trivial⟩
        refine e_lq ?_; obtain rfl := Option.some.inj hF
        exact ⟨_, Nat.lt_succ_self _, (l396 ++ ([0#32])), i399 + 1, v1128, b1130, ha.sub ⟨rfl, rfl, rfl, rfl, trivial⟩, hE1140, hI1141, h1131, q1139, hN782⟩
      replace hF := if_f hp785 hF; refine wp_exit ?_; refine e_then_exit ?_; refine e_lq_eq ?_; obtain rfl := Option.some.inj hF
      exact ⟨l396, v397, b398, ha.sub ⟨rfl, trivial⟩, hE401, h394, z395, (LK_inr hN782).symm⟩
  rintro a w769 ⟨l773, v774, b775, ha, hE781, h771, z772, rfl⟩
  have hF : F_impl_freeIn_k4 l773 = some _ := hK778; clear hK778; unfold F_impl_freeIn_k4 at hF
  refine e_then ?_; refine wp_seq ?_; refine wp_region_lit ?_; refine op_g ha rfl (g_move rfl) ?_; clear ha a; intro a ha; refine op_g ha rfl (g_assign rfl) ?_; clear ha a; intro a ha; refine wpList_nil ?_; replace ha := ha.sub (σ' := [(2, v774)]) ⟨rfl, trivial⟩; refine e_then ?_; refine wp_ret ?_; obtain rfl := Option.some.inj hF
  exact f_ret1 ha rfl rfl ⟨_, h771, z772, hE781⟩
set_option maxHeartbeats 2000000 in
theorem W_impl_largeIn {W : World} {va0_0 : Value} {fa0_0 : List Nat} {a0_0 : (List (Int × (Int × Int)))} (ha0_0 : Ro (Rp.prod Rp.int (Rp.prod Rp.int Rp.int)) W fa0_0 va0_0 a0_0) {r : (List Bool)} (hF : F_impl_largeIn a0_0 = some r) :
    Calls Try.prog 43 [.agg #[va0_0]].toArray W (Ret fun u w' => ∃ (b_u : Int), Ow Rp.bool 4 true w' [] b_u u r ∧ Zn W b_u ∧ Ext W w') := by
  refine f_enter Try.func43 rfl Try.ntmps43 rfl ?_
  intro a ha
  replace ha : Fr 56 [(0, (.agg #[va0_0]))] a := ha
  have hE : Chg [] W W := Chg.refl _ _
  unfold F_impl_largeIn at hF
  refine wp_seq ?_; refine wp_region_lit ?_
  refine o_box ha rfl rfl rfl ?_; clear ha a; intro b1 w2 hB3 hx4 hlo5 a ha
  have q6 := Zn.one hlo5
  have q7 := Zn.upD q6 hE
  have hE8 := Ext.trans hE hx4
  refine op_g ha rfl (g_assign rfl) ?_; clear ha a; intro a ha; refine wpList_nil ?_; replace ha := ha.sub (σ' := [(1, (.pointer (some ⟨b1, 0, none⟩)))]) ⟨rfl, trivial⟩; refine e_then ?_; refine wp_seq ?_; refine wp_region_lit ?_
  refine o_lit0 Rp.bool ha rfl sl78 ?_; clear ha a; intro v9 w10 h11 hx12 a ha
  obtain ⟨b14, hb14⟩ : ∃ b : Int, b = w2.heap.size := ⟨_, rfl⟩; rw [← hb14] at h11
  have q15 := zn_of hb14
  have q16 := Nq.new hB3.fpb q15
  have q17 := Nq.madeO q15 hB3.bi
  have q18 := Zn.upD q15 hE8
  replace hB3 := hB3.ext hx12
  have hE19 := Ext.trans hE8 hx12
  refine o_lit0 Rp.int ha rfl sl93 ?_; clear ha a; intro v20 w21 h22 hx23 a ha
  obtain ⟨b25, hb25⟩ : ∃ b : Int, b = w10.heap.size := ⟨_, rfl⟩; rw [← hb25] at h22
  have q26 := zn_of hb25
  have q27 := Nq.new hB3.fpb q26
  have q28 := Nq.madeO q26 hB3.bi
  have q29 := Nq.new h11.fpb q26
  have q30 := Nq.madeO q26 h11.blt
  have q31 := Zn.upD q26 hE19
  replace hB3 := hB3.ext hx23
  replace h11 := h11.ext hx23
  have hE32 := Ext.trans hE19 hx23
  (iterate 2 refine op_g ha rfl (g_assign rfl) ?_; clear ha a; intro a ha); refine wpList_nil ?_; replace ha := ha.sub (σ' := [(1, (.pointer (some ⟨b1, 0, none⟩))), (3, v9), (4, v20)]) ⟨rfl, rfl, rfl, trivial⟩; refine e_then ?_; refine wp_seq ?_; refine wp_seq ?_; refine wp_region_lit ?_; refine op_g ha rfl (g_field0 st35_0 rfl) ?_; clear ha a; intro a ha; refine op_g ha rfl (g_load Try.isAgg33 rfl (hB3.cell rfl)) ?_; clear ha a; intro a ha; refine op_g ha rfl (g_lenR sl33.und ha0_0 rfl) ?_; clear ha a; intro a ha; refine op_g ha rfl (g_move rfl) ?_; clear ha a; intro a ha; refine wpList_nil ?_
  replace ha := ha.sub (σ' := [(3, v9), (4, v20), (11, va0_0), (12, (.int .i64 (a0_0.length : Int))), (13, (.int .i64 0))]) ⟨rfl, rfl, rfl, rfl, rfl, trivial⟩; refine e_then ?_; obtain ⟨o678, ho679, hK680⟩ := bnd_some hF
  obtain ⟨n681, hn682⟩ := lp_some ho679; clear ho679
  refine c_loop (fun a w => ∃ (l675 : (List Bool)) (v676 : Value) (b677 : Int), Fr 56 [(3, v676)] a ∧ Chg [] W w ∧ Ow Rp.bool 4 true w [] b677 v676 l675 ∧ Zn W b677 ∧ o678 = .inl l675) (fun n a w => ∃ (l352 : (List Bool)) (l358 : (List Int)) (i361 : Int) (v353 : Value) (b354 : Int) (v359 : Value) (b360 : Int), Fr 56 [(3, v353), (4, v359), (11, va0_0), (12, (.int .i64 (a0_0.length : Int))), (13, (.int .i64 i361))] a ∧ Chg [] W w ∧ InI i361 ∧ Ow Rp.bool 4 true w [] b354 v353 l352 ∧ Zn W b354 ∧ Ow Rp.int 3 true w [] b360 v359 l358 ∧ Zn W b360 ∧ Nq (bl b354 ++ []) b360 ∧ Nq (bl b360 ++ []) b354 ∧ lpN (fun s => F_impl_largeIn_l1 a0_0 s.1 s.2.1 s.2.2) n (l352, l358, i361) = some o678) n681 ⟨([] : (List Bool)), ([] : (List Int)), 0, v9, b14, v20, b25, ha.sub ⟨rfl, rfl, rfl, rfl, rfl, trivial⟩, hE32, (show InI 0 from by decide), h11, q18, h22, q31, q29, q30, hn682⟩ ?_ ?_
  · rintro m686 a w348 ⟨l352, l358, i361, v353, b354, v359, b360, ha, hE365, hI362, h350, z351, h356, z357, q363, q364, hF⟩
    cases m686 with
    | zero => exact (lpN_zero hF).elim
    | succ m686 =>
      obtain ⟨z685, hF, hN684⟩ := lpN_succ hF
      have hF : F_impl_largeIn_l1 a0_0 l352 l358 i361 = some z685 := hF; unfold F_impl_largeIn_l1 at hF
      refine wp_seq ?_; refine wp_region_lit ?_; refine op_g ha rfl (g_lss rfl rfl) ?_; clear ha a; intro a ha; refine wpList_nil ?_; replace ha := ha.sub (σ' := [(3, v353), (4, v359), (11, va0_0), (12, (.int .i64 (a0_0.length : Int))), (13, (.int .i64 i361)), (14, (.bool (decide (i361 < (a0_0.length : Int)))))]) ⟨rfl, rfl, rfl, rfl, rfl, rfl, trivial⟩; refine e_then ?_; refine wp_seq ?_; refine c_cond (i361 < (a0_0.length : Int)) ha rfl (decide_eq_true_iff) (fun hp687 => ?_) (fun hp687 => ?_)
      · replace hF := if_t hp687 hF
        refine wp_skip ?_; refine e_then ?_; refine wp_seq ?_; refine wp_block ?_; refine wp_seq ?_; refine wp_region_lit ?_; obtain ⟨x688, g689, gx690, hF⟩ := idx_some hF
        obtain ⟨p691, cs692, f693, hf694, hpb695, hat696, hr697, hi698⟩ := ha0_0.at g689 gx690
        obtain ⟨f699, f700, c701, c702, rfl, rfl, h703, h704⟩ := hr697
        obtain ⟨rfl, hI707, rfl⟩ := h703
        obtain ⟨f708, f709, c710, c711, rfl, rfl, h712, h713⟩ := h704
        obtain ⟨rfl, hI716, rfl⟩ := h712
        obtain ⟨rfl, hI717, rfl⟩ := h713
        refine op_g ha rfl (hi698.gives sl33 rfl rfl) ?_; clear ha a; intro a ha; refine op_g ha rfl (g_loadA0 (cs := [(.int .i64 x688.1), (.int .i64 x688.2.1), (.int .i64 x688.2.2)]) hE365 Try.isAgg71 Try.sizeOf71 rfl (by simp) hat696) ?_; clear ha a; intro a ha
        refine o_alloc (cs := [(.int .i64 0), (.int .i64 0), (.int .i64 0)]) ha rfl Try.zeroValue71 rfl ?_; clear ha a; intro b718 w719 hB720 hx721 hlo722 a ha
        have q723 := Zn.one hlo722
        have q724 := Nq.new h350.fpb q723
        have q725 := Nq.made1 hlo722 h350.blt
        have q726 := Nq.new h356.fpb q723
        have q727 := Nq.made1 hlo722 h356.blt
        have q728 := Zn.upD q723 hE365
        replace h350 := h350.ext hx721
        replace h356 := h356.ext hx721
        have hE729 := Ext.trans hE365 hx721
        refine o_storeA (vs := [(.int .i64 x688.1), (.int .i64 x688.2.1), (.int .i64 x688.2.2)]) ha hB720 Try.sizeOf71 rfl rfl (by intro c hc; simp only [List.mem_cons, List.not_mem_nil, or_false] at hc; rcases hc with hc | hc | hc <;> subst hc <;> first | rfl | exact rfl | exact rfl | exact rfl) rfl ?_; intro w730 hB731 hc732
        replace hc732 := hc732.bl
        replace hB731 : Bx w730 b718 [(.int .i64 x688.1), (.int .i64 x688.2.1), (.int .i64 x688.2.2)] 71 := hB731
        replace h350 := h350.nq hc732 q724
        replace h356 := h356.nq hc732 q726
        have hE733 := Ext.then hE729 hc732 (Zn.bl q728)
        refine wpList_nil ?_; replace ha := ha.sub (σ' := [(3, v353), (4, v359), (6, (.pointer (some ⟨b718, 0, none⟩))), (11, va0_0), (12, (.int .i64 (a0_0.length : Int))), (13, (.int .i64 i361))]) ⟨rfl, rfl, rfl, rfl, rfl, rfl, trivial⟩; refine e_then ?_; refine wp_seq ?_; refine wp_region_lit ?_; refine op_g ha rfl (g_assign rfl) ?_; clear ha a; intro a ha; refine wpList_nil ?_; replace ha := ha.sub (σ' := [(3, v353), (4, v359), (6, (.pointer (some ⟨b718, 0, none⟩))), (7, (.int .i64 1)), (11, va0_0), (12, (.int .i64 (a0_0.length : Int))), (13, (.int .i64 i361))]) ⟨rfl, rfl, rfl, rfl, rfl, rfl, rfl, trivial⟩
        refine e_then ?_; refine wp_seq ?_; refine wp_seq ?_; refine wp_region_lit ?_; refine op_g ha rfl (g_field0 st71_0 rfl) ?_; clear ha a; intro a ha; refine op_g ha rfl (g_load Try.isAgg2 rfl (hB731.cell rfl)) ?_; clear ha a; intro a ha; refine wpList_nil ?_; replace ha := ha.sub (σ' := [(3, v353), (4, v359), (6, (.pointer (some ⟨b718, 0, none⟩))), (7, (.int .i64 1)), (11, va0_0), (12, (.int .i64 (a0_0.length : Int))), (13, (.int .i64 i361)), (18, (.int .i64 x688.1))]) ⟨rfl, rfl, rfl, rfl, rfl, rfl, rfl, rfl, trivial⟩; refine e_then ?_; refine wp_block ?_; refine wp_seq ?_; refine wp_region_lit ?_
        refine op_g ha rfl (g_eql rfl rfl) ?_; clear ha a; intro a ha; refine op_g ha rfl (g_assign rfl) ?_; clear ha a; intro a ha; refine wpList_nil ?_; replace ha := ha.sub (σ' := [(3, v353), (4, v359), (6, (.pointer (some ⟨b718, 0, none⟩))), (7, (.int .i64 1)), (11, va0_0), (12, (.int .i64 (a0_0.length : Int))), (13, (.int .i64 i361)), (18, (.int .i64 x688.1)), (19, (.bool (decide (x688.1 = 4))))]) ⟨rfl, rfl, rfl, rfl, rfl, rfl, rfl, rfl, rfl, trivial⟩; refine e_then ?_; refine c_cond (x688.1 = 4) ha rfl (decide_eq_true_iff) (fun hp734 => ?_) (fun hp734 => ?_)
        · replace hF := if_t hp734 hF
          refine wp_region_lit ?_; (iterate 2 refine op_g ha rfl (g_move rfl) ?_; clear ha a; intro a ha); refine op_g ha rfl (g_field0 st71_1 rfl) ?_; clear ha a; intro a ha; refine op_g ha rfl (g_load Try.isAgg2 rfl (hB731.cell rfl)) ?_; clear ha a; intro a ha; obtain ⟨x735, g736, gx737, hF⟩ := idx_some hF
          obtain ⟨p738, cs739, f740, hf741, hpb742, hat743, hr744, hi745⟩ := h356.at g736 gx737
          obtain ⟨rfl, hI746, rfl⟩ := hr744
          refine op_g ha rfl (hi745.gives sl93 rfl rfl) ?_; clear ha a; intro a ha; refine op_g ha rfl (g_load Try.isAgg3 rfl hat743.one) ?_; clear ha a; intro a ha; obtain ⟨hI747, hF⟩ := ck_some hF; refine op_g ha rfl (g_add rfl rfl hI747) ?_; clear ha a; intro a ha; refine op_g ha rfl (g_assign rfl) ?_; clear ha a; intro a ha; refine wpList_nil ?_; replace ha := ha.sub (σ' := [(3, v353), (4, v359), (7, (.int .i64 (1 + x735))), (11, va0_0), (12, (.int .i64 (a0_0.length : Int))), (13, (.int .i64 i361))]) ⟨rfl, rfl, rfl, rfl, rfl, rfl, trivial⟩; refine e_blk ?_; refine e_then ?_; refine wp_seq ?_
          refine wp_region_lit ?_; (iterate 2 refine op_g ha rfl (g_move rfl) ?_; clear ha a; intro a ha); refine op_g ha rfl (g_min rfl rfl) ?_; clear ha a; intro a ha
          refine o_lit1 (o := true) (y := min (1 + x735) 10000) Rp.int ha rfl sl93 rfl rfl rfl ⟨rfl, (in_min hI747 (show InI 10000 from by decide)), rfl⟩ ?_; clear ha a; intro v749 w750 h751 hx752 a ha
          obtain ⟨b754, hb754⟩ : ∃ b : Int, b = w730.heap.size := ⟨_, rfl⟩; rw [← hb754] at h751
          have q755 := zn_of hb754
          have q756 := Nq.new h350.fpb q755
          have q757 := Nq.madeO q755 h350.blt
          have q758 := Nq.new h356.fpb q755
          have q759 := Nq.madeO q755 h356.blt
          have q760 := Zn.upD q755 hE733
          replace h350 := h350.ext hx752
          replace h356 := h356.ext hx752
          have hE761 := Ext.trans hE733 hx752
          obtain ⟨hl762, hF⟩ := app_some hF
          refine o_append ha rfl sl93 rfl rfl rfl h356 h751.src (Nq.nil _) hl762 ?_; clear ha a; intro v763 w764 b765 h766 hc767 hb768 a ha
          replace h766 : Ow Rp.int 3 true w764 [] b765 v763 _ := h766
          have q770 := Nq.appY q363 h350.fpb hb768
          have q771 := Nq.appX q364 (Nq.nil _) hb768 h350.blt
          have q772 := Nq.appY q759 h751.fpb hb768
          have q773 := Nq.appX q758 (Nq.nil _) hb768 h751.blt
          have q774 := Zn.appD z357 hb768 hE761
          replace h350 := h350.nq hc767 q363
          replace h751 := h751.nq hc767 q759
          have hE775 := Ext.then hE761 hc767 (Zn.bl z357)
          refine op_g ha rfl (g_assign rfl) ?_; clear ha a; intro a ha; refine wpList_nil ?_; replace ha := ha.sub (σ' := [(3, v353), (4, v763), (7, (.int .i64 (1 + x735))), (11, va0_0), (12, (.int .i64 (a0_0.length : Int))), (13, (.int .i64 i361))]) ⟨rfl, rfl, rfl, rfl, rfl, rfl, trivial⟩; refine e_then ?_; refine wp_region_lit ?_; (iterate 2 refine op_g ha rfl (g_move rfl) ?_; clear ha a; intro a ha); refine op_g ha rfl (g_geq rfl rfl) ?_; clear ha a; intro a ha
          refine o_lit1 (o := true) (y := decide (10000 ≤ (1 + x735))) Rp.bool ha rfl sl78 rfl rfl rfl ⟨rfl, rfl⟩ ?_; clear ha a; intro v776 w777 h778 hx779 a ha
          obtain ⟨b781, hb781⟩ : ∃ b : Int, b = w764.heap.size := ⟨_, rfl⟩; rw [← hb781] at h778
          have q782 := zn_of hb781
          have q783 := Nq.new h350.fpb q782
          have q784 := Nq.madeO q782 h350.blt
          have q785 := Nq.new h766.fpb q782
          have q786 := Nq.madeO q782 h766.blt
          have q787 := Zn.upD q782 hE775
          replace h350 := h350.ext hx779
          replace h766 := h766.ext hx779
          have hE788 := Ext.trans hE775 hx779
          obtain ⟨hl789, hF⟩ := app_some hF
          refine o_append ha rfl sl78 rfl rfl rfl h350 h778.src (Nq.nil _) hl789 ?_; clear ha a; intro v790 w791 b792 h793 hc794 hb795 a ha
          replace h793 : Ow Rp.bool 4 true w791 [] b792 v790 _ := h793
          have q797 := Nq.appY q771 h766.fpb hb795
          have q798 := Nq.appX q770 (Nq.nil _) hb795 h766.blt
          have q799 := Nq.appY q784 h778.fpb hb795
          have q800 := Nq.appX q783 (Nq.nil _) hb795 h778.blt
          have q801 := Zn.appD z351 hb795 hE788
          replace h766 := h766.nq hc794 q771
          replace h778 := h778.nq hc794 q784
          have hE802 := Ext.then hE788 hc794 (Zn.bl z351)
          refine op_g ha rfl (g_assign rfl) ?_; clear ha a; intro a ha; refine wpList_nil ?_; replace ha := ha.sub (σ' := [(3, v790), (4, v763), (11, va0_0), (12, (.int .i64 (a0_0.length : Int))), (13, (.int .i64 i361))]) ⟨rfl, rfl, rfl, rfl, rfl, trivial⟩; refine e_blk ?_; refine e_then ?_; refine wp_region_lit ?_; obtain ⟨hI803, hF⟩ := ck_some hF; refine op_g ha rfl (g_add rfl rfl hI803) ?_; clear ha a; intro a ha; refine op_g ha rfl (g_move rfl) ?_; clear ha a; intro a ha; refine wpList_nil ?_; replace ha := ha.sub (σ' := [(3, v790), (4, v763), (11, va0_0), (12, (.int .i64 (a0_0.length : Int))), (13, (.int .i64 (i361 + 1)))]) ⟨rfl, rfl, rfl, rfl, rfl, trivial⟩
          refine e_lq ?_; obtain rfl := Option.some.inj hF
          exact ⟨_, Nat.lt_succ_self _, (l352 ++ ([decide (10000 ≤ (1 + x735))])), (l358 ++ ([min (1 + x735) 10000])), i361 + 1, v790, b792, v763, b765, ha.sub ⟨rfl, rfl, rfl, rfl, rfl, trivial⟩, hE802, hI803, h793, q801, h766, q774, q798, q797, hN684⟩
        replace hF := if_f hp734 hF; obtain ⟨o806, ho807, hK808⟩ := bnd_some hF
        have hF := ho807; clear ho807
        refine s_cut (fun a w => ∃ (t818 : Bool), Fr 56 [(3, v353), (4, v359), (6, (.pointer (some ⟨b718, 0, none⟩))), (7, (.int .i64 1)), (11, va0_0), (12, (.int .i64 (a0_0.length : Int))), (13, (.int .i64 i361)), (28, (.bool t818))] a ∧ Chg [] W w ∧ Ow Rp.bool 4 true w [] b354 v353 l352 ∧ Zn W b354 ∧ Ow Rp.int 3 true w [] b360 v359 l358 ∧ Zn W b360 ∧ Bx w b718 [(.int .i64 x688.1), (.int .i64 x688.2.1), (.int .i64 x688.2.2)] 71 ∧ Zn W (b718 : Int) ∧ Nq (bl b354 ++ []) b360 ∧ Nq (bl b354 ++ []) (b718 : Int) ∧ Nq (bl b360 ++ []) b354 ∧ Nq (bl b360 ++ []) (b718 : Int) ∧ Nq ([b718]) b354 ∧ Nq ([b718]) b360 ∧ o806 = .inl t818) ?_ ?_
        · skip
          refine wp_seq ?_; refine wp_region_lit ?_; refine op_g ha rfl (g_eql rfl rfl) ?_; clear ha a; intro a ha; refine op_g ha rfl (g_assign rfl) ?_; clear ha a; intro a ha; refine wpList_nil ?_; replace ha := ha.sub (σ' := [(3, v353), (4, v359), (6, (.pointer (some ⟨b718, 0, none⟩))), (7, (.int .i64 1)), (11, va0_0), (12, (.int .i64 (a0_0.length : Int))), (13, (.int .i64 i361)), (18, (.int .i64 x688.1)), (28, (.bool (decide (x688.1 = 5))))]) ⟨rfl, rfl, rfl, rfl, rfl, rfl, rfl, rfl, rfl, trivial⟩; refine e_then ?_; refine c_cond (x688.1 = 5) ha rfl (decide_eq_true_iff) (fun hp826 => ?_) (fun hp826 => ?_)
          · replace hF := if_t hp826 hF
            refine wp_skip ?_; refine e_sq ?_; obtain rfl := Option.some.inj hF
            exact ⟨decide (x688.1 = 5), ha.sub ⟨rfl, rfl, rfl, rfl, rfl, rfl, rfl, rfl, trivial⟩, hE733, h350, z351, h356, z357, hB731, q728, q363, q724, q364, q726, q725, q727, rfl⟩
          replace hF := if_f hp826 hF; refine wp_region_lit ?_; refine op_g ha rfl (g_eql rfl rfl) ?_; clear ha a; intro a ha; refine op_g ha rfl (g_assign rfl) ?_; clear ha a; intro a ha; refine wpList_nil ?_; replace ha := ha.sub (σ' := [(3, v353), (4, v359), (6, (.pointer (some ⟨b718, 0, none⟩))), (7, (.int .i64 1)), (11, va0_0), (12, (.int .i64 (a0_0.length : Int))), (13, (.int .i64 i361)), (28, (.bool (decide (x688.1 = 6))))]) ⟨rfl, rfl, rfl, rfl, rfl, rfl, rfl, rfl, trivial⟩; refine e_sq ?_; obtain rfl := Option.some.inj hF
          exact ⟨decide (x688.1 = 6), ha.sub ⟨rfl, rfl, rfl, rfl, rfl, rfl, rfl, rfl, trivial⟩, hE733, h350, z351, h356, z357, hB731, q728, q363, q724, q364, q726, q725, q727, rfl⟩
        rintro a w809 ⟨t818, ha, hE825, h811, z812, h814, z815, hB816, z817, q819, q820, q821, q822, q823, q824, rfl⟩
        have hF : F_impl_largeIn_k2 l352 l358 i361 x688 t818 = some _ := hK808; clear hK808; unfold F_impl_largeIn_k2 at hF
        refine c_cond (t818 = true) ha rfl (Iff.rfl) (fun hp827 => ?_) (fun hp827 => ?_)
        · replace hF := if_t hp827 hF
          refine d_quiet hmix (by kernel_rfl) ?_; (iterate 2 refine q_g ha rfl (g_move rfl) ?_; clear ha a; intro a ha); refine q_g ha rfl (g_field0 st71_1 rfl) ?_; clear ha a; intro a ha; refine q_g ha rfl (g_load Try.isAgg2 rfl (hB816.cell rfl)) ?_; clear ha a; intro a ha; obtain ⟨x828, g829, gx830, hF⟩ := idx_some hF
          obtain ⟨p831, cs832, f833, hf834, hpb835, hat836, hr837, hi838⟩ := h814.at g829 gx830
          obtain ⟨rfl, hI839, rfl⟩ := hr837
          refine q_g ha rfl (hi838.gives sl93 rfl rfl) ?_; clear ha a; intro a ha; refine q_g ha rfl (g_load Try.isAgg3 rfl hat836.one) ?_; clear ha a; intro a ha; refine q_g ha rfl (g_move rfl) ?_; clear ha a; intro a ha; refine q_g ha rfl (g_field0 st71_2 rfl) ?_; clear ha a; intro a ha; refine q_g ha rfl (g_load Try.isAgg2 rfl (hB816.cell rfl)) ?_; clear ha a; intro a ha; obtain ⟨x840, g841, gx842, hF⟩ := idx_some hF
          obtain ⟨p843, cs844, f845, hf846, hpb847, hat848, hr849, hi850⟩ := h814.at g841 gx842
          obtain ⟨rfl, hI851, rfl⟩ := hr849
          refine q_g ha rfl (hi850.gives sl93 rfl rfl) ?_; clear ha a; intro a ha; refine q_g ha rfl (g_load Try.isAgg3 rfl hat848.one) ?_; clear ha a; intro a ha; obtain ⟨hI852, hF⟩ := ck_some hF; refine q_g ha rfl (g_add rfl rfl hI852) ?_; clear ha a; intro a ha; obtain ⟨hI854, hF⟩ := ck_some hF; refine q_g ha rfl (g_add rfl rfl hI854) ?_; clear ha a; intro a ha; refine q_g ha rfl (g_assign rfl) ?_; clear ha a; intro a ha
          refine q_nil ?_; intro w856 hx857
          replace h811 := h811.ext hx857
          replace h814 := h814.ext hx857
          replace hB816 := hB816.ext hx857
          have hE858 := Ext.trans hE825 hx857
          replace ha := ha.sub (σ' := [(3, v353), (4, v359), (7, (.int .i64 (1 + (x828 + x840)))), (11, va0_0), (12, (.int .i64 (a0_0.length : Int))), (13, (.int .i64 i361))]) ⟨rfl, rfl, rfl, rfl, rfl, rfl, trivial⟩; refine e_blk ?_; refine e_then ?_; refine wp_seq ?_; refine wp_region_lit ?_; (iterate 2 refine op_g ha rfl (g_move rfl) ?_; clear ha a; intro a ha); refine op_g ha rfl (g_min rfl rfl) ?_; clear ha a; intro a ha
          refine o_lit1 (o := true) (y := min (1 + (x828 + x840)) 10000) Rp.int ha rfl sl93 rfl rfl rfl ⟨rfl, (in_min hI854 (show InI 10000 from by decide)), rfl⟩ ?_; clear ha a; intro v859 w860 h861 hx862 a ha
          obtain ⟨b864, hb864⟩ : ∃ b : Int, b = w856.heap.size := ⟨_, rfl⟩; rw [← hb864] at h861
          have q865 := zn_of hb864
          have q866 := Nq.new h811.fpb q865
          have q867 := Nq.madeO q865 h811.blt
          have q868 := Nq.new h814.fpb q865
          have q869 := Nq.madeO q865 h814.blt
          have q870 := Zn.upD q865 hE858
          replace h811 := h811.ext hx862
          replace h814 := h814.ext hx862
          have hE871 := Ext.trans hE858 hx862
          obtain ⟨hl872, hF⟩ := app_some hF
          refine o_append ha rfl sl93 rfl rfl rfl h814 h861.src (Nq.nil _) hl872 ?_; clear ha a; intro v873 w874 b875 h876 hc877 hb878 a ha
          replace h876 : Ow Rp.int 3 true w874 [] b875 v873 _ := h876
          have q880 := Nq.appY q819 h811.fpb hb878
          have q881 := Nq.appX q821 (Nq.nil _) hb878 h811.blt
          have q882 := Nq.appY q869 h861.fpb hb878
          have q883 := Nq.appX q868 (Nq.nil _) hb878 h861.blt
          have q884 := Zn.appD z815 hb878 hE871
          replace h811 := h811.nq hc877 q819
          replace h861 := h861.nq hc877 q869
          have hE885 := Ext.then hE871 hc877 (Zn.bl z815)
          refine op_g ha rfl (g_assign rfl) ?_; clear ha a; intro a ha; refine wpList_nil ?_; replace ha := ha.sub (σ' := [(3, v353), (4, v873), (7, (.int .i64 (1 + (x828 + x840)))), (11, va0_0), (12, (.int .i64 (a0_0.length : Int))), (13, (.int .i64 i361))]) ⟨rfl, rfl, rfl, rfl, rfl, rfl, trivial⟩; refine e_then ?_; refine wp_region_lit ?_; (iterate 2 refine op_g ha rfl (g_move rfl) ?_; clear ha a; intro a ha); refine op_g ha rfl (g_geq rfl rfl) ?_; clear ha a; intro a ha
          refine o_lit1 (o := true) (y := decide (10000 ≤ (1 + (x828 + x840)))) Rp.bool ha rfl sl78 rfl rfl rfl ⟨rfl, rfl⟩ ?_; clear ha a; intro v886 w887 h888 hx889 a ha
          obtain ⟨b891, hb891⟩ : ∃ b : Int, b = w874.heap.size := ⟨_, rfl⟩; rw [← hb891] at h888
          have q892 := zn_of hb891
          have q893 := Nq.new h811.fpb q892
          have q894 := Nq.madeO q892 h811.blt
          have q895 := Nq.new h876.fpb q892
          have q896 := Nq.madeO q892 h876.blt
          have q897 := Zn.upD q892 hE885
          replace h811 := h811.ext hx889
          replace h876 := h876.ext hx889
          have hE898 := Ext.trans hE885 hx889
          obtain ⟨hl899, hF⟩ := app_some hF
          refine o_append ha rfl sl78 rfl rfl rfl h811 h888.src (Nq.nil _) hl899 ?_; clear ha a; intro v900 w901 b902 h903 hc904 hb905 a ha
          replace h903 : Ow Rp.bool 4 true w901 [] b902 v900 _ := h903
          have q907 := Nq.appY q881 h876.fpb hb905
          have q908 := Nq.appX q880 (Nq.nil _) hb905 h876.blt
          have q909 := Nq.appY q894 h888.fpb hb905
          have q910 := Nq.appX q893 (Nq.nil _) hb905 h888.blt
          have q911 := Zn.appD z812 hb905 hE898
          replace h876 := h876.nq hc904 q881
          replace h888 := h888.nq hc904 q894
          have hE912 := Ext.then hE898 hc904 (Zn.bl z812)
          refine op_g ha rfl (g_assign rfl) ?_; clear ha a; intro a ha; refine wpList_nil ?_; replace ha := ha.sub (σ' := [(3, v900), (4, v873), (11, va0_0), (12, (.int .i64 (a0_0.length : Int))), (13, (.int .i64 i361))]) ⟨rfl, rfl, rfl, rfl, rfl, trivial⟩; refine e_blk ?_; refine e_then ?_; refine wp_region_lit ?_; obtain ⟨hI913, hF⟩ := ck_some hF; refine op_g ha rfl (g_add rfl rfl hI913) ?_; clear ha a; intro a ha; refine op_g ha rfl (g_move rfl) ?_; clear ha a; intro a ha; refine wpList_nil ?_; replace ha := ha.sub (σ' := [(3, v900), (4, v873), (11, va0_0), (12, (.int .i64 (a0_0.length : Int))), (13, (.int .i64 (i361 + 1)))]) ⟨rfl, rfl, rfl, rfl, rfl, trivial⟩
          refine e_lq ?_; obtain rfl := Option.some.inj hF
          exact ⟨_, Nat.lt_succ_self _, (l352 ++ ([decide (10000 ≤ (1 + (x828 + x840)))])), (l358 ++ ([min (1 + (x828 + x840)) 10000])), i361 + 1, v900, b902, v873, b875, ha.sub ⟨rfl, rfl, rfl, rfl, rfl, trivial⟩, hE912, hI913, h903, q911, h876, q884, q908, q907, hN684⟩
        replace hF := if_f hp827 hF; refine wp_skip ?_; refine e_blk ?_; refine e_then ?_; refine wp_seq ?_; refine wp_region_lit ?_; (iterate 2 refine op_g ha rfl (g_move rfl) ?_; clear ha a; intro a ha); refine op_g ha rfl (g_min rfl rfl) ?_; clear ha a; intro a ha
        refine o_lit1 (o := true) (y := min 1 10000) Rp.int ha rfl sl93 rfl rfl rfl ⟨rfl, (in_min (show InI 1 from by decide) (show InI 10000 from by decide)), rfl⟩ ?_; clear ha a; intro v915 w916 h917 hx918 a ha
        obtain ⟨b920, hb920⟩ : ∃ b : Int, b = w809.heap.size := ⟨_, rfl⟩; rw [← hb920] at h917
        have q921 := zn_of hb920
        have q922 := Nq.new h811.fpb q921
        have q923 := Nq.madeO q921 h811.blt
        have q924 := Nq.new h814.fpb q921
        have q925 := Nq.madeO q921 h814.blt
        have q926 := Nq.new hB816.fpb q921
        have q927 := Nq.madeO q921 hB816.bi
        have q928 := Zn.upD q921 hE825
        replace h811 := h811.ext hx918
        replace h814 := h814.ext hx918
        replace hB816 := hB816.ext hx918
        have hE929 := Ext.trans hE825 hx918
        obtain ⟨hl930, hF⟩ := app_some hF
        refine o_append ha rfl sl93 rfl rfl rfl h814 h917.src (Nq.nil _) hl930 ?_; clear ha a; intro v931 w932 b933 h934 hc935 hb936 a ha
        replace h934 : Ow Rp.int 3 true w932 [] b933 v931 _ := h934
        have q938 := Nq.appY q819 h811.fpb hb936
        have q939 := Nq.appX q821 (Nq.nil _) hb936 h811.blt
        have q940 := Nq.appY q824 hB816.fpb hb936
        have q941 := Nq.appX q822 (Nq.nil _) hb936 hB816.bi
        have q942 := Nq.appY q925 h917.fpb hb936
        have q943 := Nq.appX q924 (Nq.nil _) hb936 h917.blt
        have q944 := Zn.appD z815 hb936 hE929
        replace h811 := h811.nq hc935 q819
        replace hB816 := hB816.nq hc935 q824
        replace h917 := h917.nq hc935 q925
        have hE945 := Ext.then hE929 hc935 (Zn.bl z815)
        refine op_g ha rfl (g_assign rfl) ?_; clear ha a; intro a ha; refine wpList_nil ?_; replace ha := ha.sub (σ' := [(3, v353), (4, v931), (7, (.int .i64 1)), (11, va0_0), (12, (.int .i64 (a0_0.length : Int))), (13, (.int .i64 i361))]) ⟨rfl, rfl, rfl, rfl, rfl, rfl, trivial⟩; refine e_then ?_; refine wp_region_lit ?_; (iterate 2 refine op_g ha rfl (g_move rfl) ?_; clear ha a; intro a ha); refine op_g ha rfl (g_geq rfl rfl) ?_; clear ha a; intro a ha
        refine o_lit1 (o := true) (y := decide (10000 ≤ 1)) Rp.bool ha rfl sl78 rfl rfl rfl ⟨rfl, rfl⟩ ?_; clear ha a; intro v946 w947 h948 hx949 a ha
        obtain ⟨b951, hb951⟩ : ∃ b : Int, b = w932.heap.size := ⟨_, rfl⟩; rw [← hb951] at h948
        have q952 := zn_of hb951
        have q953 := Nq.new h811.fpb q952
        have q954 := Nq.madeO q952 h811.blt
        have q955 := Nq.new h934.fpb q952
        have q956 := Nq.madeO q952 h934.blt
        have q957 := Zn.upD q952 hE945
        replace h811 := h811.ext hx949
        replace h934 := h934.ext hx949
        have hE958 := Ext.trans hE945 hx949
        obtain ⟨hl959, hF⟩ := app_some hF
        refine o_append ha rfl sl78 rfl rfl rfl h811 h948.src (Nq.nil _) hl959 ?_; clear ha a; intro v960 w961 b962 h963 hc964 hb965 a ha
        replace h963 : Ow Rp.bool 4 true w961 [] b962 v960 _ := h963
        have q967 := Nq.appY q939 h934.fpb hb965
        have q968 := Nq.appX q938 (Nq.nil _) hb965 h934.blt
        have q969 := Nq.appY q954 h948.fpb hb965
        have q970 := Nq.appX q953 (Nq.nil _) hb965 h948.blt
        have q971 := Zn.appD z812 hb965 hE958
        replace h934 := h934.nq hc964 q939
        replace h948 := h948.nq hc964 q954
        have hE972 := Ext.then hE958 hc964 (Zn.bl z812)
        refine op_g ha rfl (g_assign rfl) ?_; clear ha a; intro a ha; refine wpList_nil ?_; replace ha := ha.sub (σ' := [(3, v960), (4, v931), (11, va0_0), (12, (.int .i64 (a0_0.length : Int))), (13, (.int .i64 i361))]) ⟨rfl, rfl, rfl, rfl, rfl, trivial⟩; refine e_blk ?_; refine e_then ?_; refine wp_region_lit ?_; obtain ⟨hI973, hF⟩ := ck_some hF; refine op_g ha rfl (g_add rfl rfl hI973) ?_; clear ha a; intro a ha; refine op_g ha rfl (g_move rfl) ?_; clear ha a; intro a ha; refine wpList_nil ?_; replace ha := ha.sub (σ' := [(3, v960), (4, v931), (11, va0_0), (12, (.int .i64 (a0_0.length : Int))), (13, (.int .i64 (i361 + 1)))]) ⟨rfl, rfl, rfl, rfl, rfl, trivial⟩
        refine e_lq ?_; obtain rfl := Option.some.inj hF
        exact ⟨_, Nat.lt_succ_self _, (l352 ++ ([decide (10000 ≤ 1)])), (l358 ++ ([min 1 10000])), i361 + 1, v960, b962, v931, b933, ha.sub ⟨rfl, rfl, rfl, rfl, rfl, trivial⟩, hE972, hI973, h963, q971, h934, q944, q968, q967, hN684⟩
      replace hF := if_f hp687 hF; refine wp_exit ?_; refine e_then_exit ?_; refine e_lq_eq ?_; obtain rfl := Option.some.inj hF
      exact ⟨l352, v353, b354, ha.sub ⟨rfl, trivial⟩, hE365, h350, z351, (LK_inr hN684).symm⟩
  rintro a w671 ⟨l675, v676, b677, ha, hE683, h673, z674, rfl⟩
  have hF : F_impl_largeIn_k3 l675 = some _ := hK680; clear hK680; unfold F_impl_largeIn_k3 at hF
  refine e_then ?_; refine wp_seq ?_; refine wp_region_lit ?_; refine op_g ha rfl (g_move rfl) ?_; clear ha a; intro a ha; refine op_g ha rfl (g_assign rfl) ?_; clear ha a; intro a ha; refine wpList_nil ?_; replace ha := ha.sub (σ' := [(2, v676)]) ⟨rfl, trivial⟩; refine e_then ?_; refine wp_ret ?_; obtain rfl := Option.some.inj hF
  exact f_ret1 ha rfl rfl ⟨_, h673, z674, hE683⟩
set_option maxHeartbeats 2000000 in
theorem W_impl_newJudge {W : World} {va0_0 : Value} {fa0_0 : List Nat} {a0_0 : (List (List Int))} (ha0_0 : Ro (Rp.sl 2 Rp.int) W fa0_0 va0_0 a0_0) {va1_0 : Value} {fa1_0 : List Nat} {a1_0 : (List (Int × (Int × Int)))} (ha1_0 : Ro (Rp.prod Rp.int (Rp.prod Rp.int Rp.int)) W fa1_0 va1_0 a1_0) {r : (Bool × JD)} (hF : F_impl_newJudge a0_0 a1_0 = some r) :
    Calls Try.prog 24 [.agg #[va0_0], .agg #[va1_0]].toArray W (Ret fun u w' => ∃ (fs_u : List Nat) (b_u : Int), Jn Try.prog 82 97 w' fs_u b_u u r ∧ Zn W b_u ∧ Pv (fa0_0 ++ fa1_0) W.heap.size fs_u ∧ Ext W w') := by
  refine f_enter Try.func24 rfl Try.ntmps24 rfl ?_
  intro a ha
  replace ha : Fr 23 [(0, (.agg #[va0_0])), (1, (.agg #[va1_0]))] a := ha
  have hE : Chg [] W W := Chg.refl _ _
  unfold F_impl_newJudge at hF
  refine wp_seq ?_; refine wp_region_lit ?_
  refine o_box ha rfl rfl rfl ?_; clear ha a; intro b1 w2 hB3 hx4 hlo5 a ha
  have q6 := Zn.one hlo5
  have q7 := Zn.upD q6 hE
  have hE8 := Ext.trans hE hx4
  refine o_box ha rfl rfl rfl ?_; clear ha a; intro b9 w10 hB11 hx12 hlo13 a ha
  have q14 := Zn.one hlo13
  have q15 := Nq.new hB3.fpb q14
  have q16 := Nq.made1 hlo13 hB3.bi
  have q17 := Zn.upD q14 hE8
  replace hB3 := hB3.ext hx12
  have hE18 := Ext.trans hE8 hx12
  refine op_g ha rfl (g_assign rfl) ?_; clear ha a; intro a ha; refine wpList_nil ?_; replace ha := ha.sub (σ' := [(2, (.pointer (some ⟨b1, 0, none⟩))), (3, (.pointer (some ⟨b9, 0, none⟩)))]) ⟨rfl, rfl, trivial⟩; refine e_then ?_; refine wp_seq ?_; refine wp_seq ?_; refine wp_region_lit ?_; refine op_g ha rfl (g_loadA (cs := [va0_0]) Try.isAgg31 Try.sizeOf31 rfl (by simp) hB3.all) ?_; clear ha a; intro a ha; obtain ⟨x19, hc20, hF⟩ := cal_some hF
  refine o_call ha rfl rfl Try.call39 (W_impl_isSmall (ha0_0.ext hE18) hc20) ?_; clear ha a; rintro v21 w22 ⟨rfl, hx23⟩ a ha
  replace hB3 := hB3.ext hx23
  replace hB11 := hB11.ext hx23
  have hE24 := Ext.trans hE18 hx23
  refine op_g ha rfl (g_not rfl) ?_; clear ha a; intro a ha; refine op_g ha rfl (g_move rfl) ?_; clear ha a; intro a ha
  by_cases hp25 : ¬ (x19 = true)
  · replace hF := if_t hp25 hF
    rw [show (!x19) = true from (n_iff (Iff.rfl)).2 hp25] at ha
    (iterate 3 refine op_unwant ha rfl (yields ha rfl rfl) rfl ?_; clear ha a; intro a ha); refine op_g ha rfl (g_pick rfl rfl) ?_; clear ha a; intro a ha; refine wpList_nil ?_; replace ha := ha.sub (σ' := [(2, (.pointer (some ⟨b1, 0, none⟩))), (3, (.pointer (some ⟨b9, 0, none⟩))), (12, (.bool true))]) ⟨rfl, rfl, rfl, trivial⟩; refine e_then ?_; refine c_true ha rfl ?_; refine wp_seq ?_; refine wp_region_lit ?_; refine op_g ha rfl (g_assign rfl) ?_; clear ha a; intro a ha; refine wpList_nil ?_; replace ha := ha.sub (σ' := [(4, (.pointer none))]) ⟨rfl, trivial⟩; refine e_then ?_; refine wp_ret ?_
    refine e_then_ret ?_; obtain rfl := Option.some.inj hF
    exact f_ret1 ha rfl rfl ⟨[], -1, (.inl ⟨rfl, rfl⟩), (.inl (by decide)), Pv.nil, hE24⟩
  replace hF := if_f hp25 hF
  rw [show (!x19) = false from b_false (n_iff (Iff.rfl)) hp25] at ha
  refine op_want (yields ha rfl rfl) ?_; refine op_g ha rfl (g_loadA (cs := [va1_0]) Try.isAgg35 Try.sizeOf35 rfl (by simp) hB11.all) ?_; clear ha a; intro a ha; refine op_want (yields ha rfl rfl) ?_; obtain ⟨x26, hc27, hF⟩ := cal_some hF
  refine o_call ha rfl rfl Try.call40 (W_impl_FormulaOk (ha1_0.ext hE24) hc27) ?_; clear ha a; rintro v28 w29 ⟨rfl, hx30⟩ a ha
  replace hB3 := hB3.ext hx30
  replace hB11 := hB11.ext hx30
  have hE31 := Ext.trans hE24 hx30
  refine op_want (yields ha rfl rfl) ?_; refine op_g ha rfl (g_not rfl) ?_; clear ha a; intro a ha; refine op_g ha rfl (g_pick rfl rfl) ?_; clear ha a; intro a ha; refine wpList_nil ?_; replace ha := ha.sub (σ' := [(2, (.pointer (some ⟨b1, 0, none⟩))), (3, (.pointer (some ⟨b9, 0, none⟩))), (12, (.bool (!x26)))]) ⟨rfl, rfl, rfl, trivial⟩; refine e_then ?_; refine c_cond (¬ (x26 = true)) ha rfl (n_iff (Iff.rfl)) (fun hp32 => ?_) (fun hp32 => ?_)
  · replace hF := if_t hp32 hF
    refine wp_seq ?_; refine wp_region_lit ?_; refine op_g ha rfl (g_assign rfl) ?_; clear ha a; intro a ha; refine wpList_nil ?_; replace ha := ha.sub (σ' := [(4, (.pointer none))]) ⟨rfl, trivial⟩; refine e_then ?_; refine wp_ret ?_; refine e_then_ret ?_; obtain rfl := Option.some.inj hF
    exact f_ret1 ha rfl rfl ⟨[], -1, (.inl ⟨rfl, rfl⟩), (.inl (by decide)), Pv.nil, hE31⟩
  replace hF := if_f hp32 hF; refine wp_skip ?_; refine e_then ?_; refine wp_seq ?_; refine d_region [0, 1, 2, 3, 4, 5, 6, 7, 8, 9, 10] hmix ?_; refine u_g 0 rfl (by kernel_rfl) (want0 _) ha rfl (g_loadA (cs := [va0_0]) Try.isAgg31 Try.sizeOf31 rfl (by simp) hB3.all) ?_; clear ha a; intro a ha; refine u_g 2 rfl (by kernel_rfl) (want0 _) ha rfl (g_loadA (cs := [va1_0]) Try.isAgg35 Try.sizeOf35 rfl (by simp) hB11.all) ?_; clear ha a; intro a ha; refine u_g 3 rfl (by kernel_rfl) (want0 _) ha rfl (g_loadA (cs := [va1_0]) Try.isAgg35 Try.sizeOf35 rfl (by simp) hB11.all) ?_; clear ha a; intro a ha; refine u_g 5 rfl (by kernel_rfl) (want0 _) ha rfl (g_loadA (cs := [va1_0]) Try.isAgg35 Try.sizeOf35 rfl (by simp) hB11.all) ?_; clear ha a; intro a ha
  obtain ⟨xqr1o1_1, hcqr1o1_1, hF⟩ := cal_some hF; obtain ⟨xqr1o4_1, hcqr1o4_1, hF⟩ := cal_some hF; obtain ⟨xqr1o6_1, hcqr1o6_1, hF⟩ := cal_some hF; refine u_many [1, 7] (by kernel_rfl) rfl fun wqr1_1 hxqr1_1 => ⟨⟨_, rfl, ?_⟩, ⟨_, rfl, ?_⟩, trivial⟩
  · skip
    replace hB3 := hB3.ext hxqr1_1
    replace hB11 := hB11.ext hxqr1_1
    have hEqr1o1_1 := Ext.trans hE31 hxqr1_1
    refine o_call ha rfl rfl Try.call41 (W_impl_netsOf (ha0_0.ext hEqr1o1_1) hcqr1o1_1) ?_; clear ha a; rintro vqr1o1_1 wqr1o1_1 ⟨bqr1o1_1, hqr1o1_1, zqr1o1_1, hxqr1o1_1⟩ a ha
    have qqr1o1_1 := Nq.new hB3.fpb zqr1o1_1
    have qqr1o1_2 := Nq.madeO zqr1o1_1 hB3.bi
    have qqr1o1_3 := Nq.new hB11.fpb zqr1o1_1
    have qqr1o1_4 := Nq.madeO zqr1o1_1 hB11.bi
    replace hB3 := hB3.ext hxqr1o1_1
    replace hB11 := hB11.ext hxqr1o1_1
    have hEqr1o1_2 := Ext.trans hEqr1o1_1 hxqr1o1_1
    have qqr1o1_5 := Zn.upD zqr1o1_1 hEqr1o1_1
    refine wpList_nil (e_sq ?_)
    refine ⟨fun _ => hxqr1o1_1, ?_⟩
    refine u_many [4, 7] (by kernel_rfl) rfl fun wqr1o1_2 hxqr1o1_2 => ⟨⟨_, rfl, ?_⟩, ⟨_, rfl, ?_⟩, trivial⟩
    · skip
      replace hB3 := hB3.ext hxqr1o1_2
      replace hB11 := hB11.ext hxqr1o1_2
      replace hqr1o1_1 := hqr1o1_1.ext hxqr1o1_2
      have hEqr1o4_1 := Ext.trans hEqr1o1_2 hxqr1o1_2
      refine o_call ha rfl rfl Try.call42 (W_impl_freeIn (ha1_0.ext hEqr1o4_1) hcqr1o4_1) ?_; clear ha a; rintro vqr1o4_1 wqr1o4_1 ⟨bqr1o4_1, hqr1o4_1, zqr1o4_1, hxqr1o4_1⟩ a ha
      have qqr1o4_1 := Nq.new hB3.fpb zqr1o4_1
      have qqr1o4_2 := Nq.madeO zqr1o4_1 hB3.bi
      have qqr1o4_3 := Nq.new hB11.fpb zqr1o4_1
      have qqr1o4_4 := Nq.madeO zqr1o4_1 hB11.bi
      have qqr1o4_5 := Nq.new hqr1o1_1.fpb zqr1o4_1
      have qqr1o4_6 := Nq.madeO zqr1o4_1 hqr1o1_1.blt
      replace hB3 := hB3.ext hxqr1o4_1
      replace hB11 := hB11.ext hxqr1o4_1
      replace hqr1o1_1 := hqr1o1_1.ext hxqr1o4_1
      have hEqr1o4_2 := Ext.trans hEqr1o4_1 hxqr1o4_1
      have qqr1o4_7 := Zn.upD zqr1o4_1 hEqr1o4_1
      refine wpList_nil (e_sq ?_)
      refine ⟨fun _ => hxqr1o4_1, ?_⟩
      refine u_many [6, 7] (by kernel_rfl) rfl fun wqr1o4_2 hxqr1o4_2 => ⟨⟨_, rfl, ?_⟩, ⟨_, rfl, ?_⟩, trivial⟩
      · skip
        replace hB3 := hB3.ext hxqr1o4_2
        replace hB11 := hB11.ext hxqr1o4_2
        replace hqr1o1_1 := hqr1o1_1.ext hxqr1o4_2
        replace hqr1o4_1 := hqr1o4_1.ext hxqr1o4_2
        have hEqr1o6_1 := Ext.trans hEqr1o4_2 hxqr1o4_2
        refine o_call ha rfl rfl Try.call43 (W_impl_largeIn (ha1_0.ext hEqr1o6_1) hcqr1o6_1) ?_; clear ha a; rintro vqr1o6_1 wqr1o6_1 ⟨bqr1o6_1, hqr1o6_1, zqr1o6_1, hxqr1o6_1⟩ a ha
        have qqr1o6_1 := Nq.new hB3.fpb zqr1o6_1
        have qqr1o6_2 := Nq.madeO zqr1o6_1 hB3.bi
        have qqr1o6_3 := Nq.new hB11.fpb zqr1o6_1
        have qqr1o6_4 := Nq.madeO zqr1o6_1 hB11.bi
        have qqr1o6_5 := Nq.new hqr1o1_1.fpb zqr1o6_1
        have qqr1o6_6 := Nq.madeO zqr1o6_1 hqr1o1_1.blt
        have qqr1o6_7 := Nq.new hqr1o4_1.fpb zqr1o6_1
        have qqr1o6_8 := Nq.madeO zqr1o6_1 hqr1o4_1.blt
        replace hB3 := hB3.ext hxqr1o6_1
        replace hB11 := hB11.ext hxqr1o6_1
        replace hqr1o1_1 := hqr1o1_1.ext hxqr1o6_1
        replace hqr1o4_1 := hqr1o4_1.ext hxqr1o6_1
        have hEqr1o6_2 := Ext.trans hEqr1o6_1 hxqr1o6_1
        have qqr1o6_9 := Zn.upD zqr1o6_1 hEqr1o6_1
        refine wpList_nil (e_sq ?_)
        refine ⟨fun _ => hxqr1o6_1, ?_⟩
        refine u_only 7 rfl (by kernel_rfl) ?_; intro wqr1o7_1 hxqr1o7_1
        replace hB3 := hB3.ext hxqr1o7_1
        replace hB11 := hB11.ext hxqr1o7_1
        replace hqr1o1_1 := hqr1o1_1.ext hxqr1o7_1
        replace hqr1o4_1 := hqr1o4_1.ext hxqr1o7_1
        replace hqr1o6_1 := hqr1o6_1.ext hxqr1o7_1
        have hEqr1o7_1 := Ext.trans hEqr1o6_2 hxqr1o7_1
        refine o_makeMap ha rfl 97 (fun _ _ => False) ?_; clear ha a; intro mqr1o7_1 wqr1o7_2 hMqr1o7_1 hxqr1o7_2 hloqr1o7_1 a ha
        have qqr1o7_1 := Zn.one hloqr1o7_1
        have qqr1o7_2 := Nq.new hB3.fpb qqr1o7_1
        have qqr1o7_3 := Nq.made1 hloqr1o7_1 hB3.bi
        have qqr1o7_4 := Nq.new hB11.fpb qqr1o7_1
        have qqr1o7_5 := Nq.made1 hloqr1o7_1 hB11.bi
        have qqr1o7_6 := Nq.new hqr1o1_1.fpb qqr1o7_1
        have qqr1o7_7 := Nq.made1 hloqr1o7_1 hqr1o1_1.blt
        have qqr1o7_8 := Nq.new hqr1o4_1.fpb qqr1o7_1
        have qqr1o7_9 := Nq.made1 hloqr1o7_1 hqr1o4_1.blt
        have qqr1o7_10 := Nq.new hqr1o6_1.fpb qqr1o7_1
        have qqr1o7_11 := Nq.made1 hloqr1o7_1 hqr1o6_1.blt
        have qqr1o7_12 := Zn.upD qqr1o7_1 hEqr1o7_1
        replace hB3 := hB3.ext hxqr1o7_2
        replace hB11 := hB11.ext hxqr1o7_2
        replace hqr1o1_1 := hqr1o1_1.ext hxqr1o7_2
        replace hqr1o4_1 := hqr1o4_1.ext hxqr1o7_2
        replace hqr1o6_1 := hqr1o6_1.ext hxqr1o7_2
        have hEqr1o7_2 := Ext.trans hEqr1o7_1 hxqr1o7_2
        refine wpList_nil (e_sq ?_)
        refine ⟨fun _ => hxqr1o7_2, ?_⟩
        refine u_g 8 rfl (by kernel_rfl) (want0 _) ha rfl (g_build (vs := [(0, vqr1o1_1), (1, (.agg #[va1_0])), (2, vqr1o4_1), (3, vqr1o6_1), (4, (.map (some mqr1o7_1)))]) (cells := #[vqr1o1_1, va1_0, vqr1o4_1, vqr1o6_1, (.map (some mqr1o7_1))]) rfl (by obtain ⟨_, _, rfl⟩ := hqr1o1_1.shape; obtain ⟨_, _, rfl⟩ := ha1_0.shape; obtain ⟨_, _, rfl⟩ := hqr1o4_1.shape; obtain ⟨_, _, rfl⟩ := hqr1o6_1.shape; rfl)) ?_; clear ha a; intro a ha
        refine u_only 9 rfl (by kernel_rfl) ?_; intro wqr1o9_1 hxqr1o9_1
        replace hB3 := hB3.ext hxqr1o9_1
        replace hB11 := hB11.ext hxqr1o9_1
        replace hqr1o1_1 := hqr1o1_1.ext hxqr1o9_1
        replace hqr1o4_1 := hqr1o4_1.ext hxqr1o9_1
        replace hqr1o6_1 := hqr1o6_1.ext hxqr1o9_1
        replace hMqr1o7_1 := hMqr1o7_1.ext hxqr1o9_1
        have hEqr1o9_1 := Ext.trans hEqr1o7_2 hxqr1o9_1
        refine o_box ha rfl rfl rfl ?_; clear ha a; intro bqr1o9_1 wqr1o9_2 hBqr1o9_1 hxqr1o9_2 hloqr1o9_1 a ha
        have qqr1o9_1 := Zn.one hloqr1o9_1
        have qqr1o9_2 := Nq.new hB3.fpb qqr1o9_1
        have qqr1o9_3 := Nq.made1 hloqr1o9_1 hB3.bi
        have qqr1o9_4 := Nq.new hB11.fpb qqr1o9_1
        have qqr1o9_5 := Nq.made1 hloqr1o9_1 hB11.bi
        have qqr1o9_6 := Nq.new hqr1o1_1.fpb qqr1o9_1
        have qqr1o9_7 := Nq.made1 hloqr1o9_1 hqr1o1_1.blt
        have qqr1o9_8 := Nq.new hqr1o4_1.fpb qqr1o9_1
        have qqr1o9_9 := Nq.made1 hloqr1o9_1 hqr1o4_1.blt
        have qqr1o9_10 := Nq.new hqr1o6_1.fpb qqr1o9_1
        have qqr1o9_11 := Nq.made1 hloqr1o9_1 hqr1o6_1.blt
        have qqr1o9_12 := Nq.new hMqr1o7_1.fpb qqr1o9_1
        have qqr1o9_13 := Nq.made1 hloqr1o9_1 hMqr1o7_1.bi
        have qqr1o9_14 := Zn.upD qqr1o9_1 hEqr1o9_1
        replace hB3 := hB3.ext hxqr1o9_2
        replace hB11 := hB11.ext hxqr1o9_2
        replace hqr1o1_1 := hqr1o1_1.ext hxqr1o9_2
        replace hqr1o4_1 := hqr1o4_1.ext hxqr1o9_2
        replace hqr1o6_1 := hqr1o6_1.ext hxqr1o9_2
        replace hMqr1o7_1 := hMqr1o7_1.ext hxqr1o9_2
        have hEqr1o9_2 := Ext.trans hEqr1o9_1 hxqr1o9_2
        refine wpList_nil (e_sq ?_)
        refine ⟨fun _ => hxqr1o9_2, ?_⟩
        refine u_g 10 rfl (by kernel_rfl) (want0 _) ha rfl (g_assign rfl) ?_; clear ha a; intro a ha
        refine u_done (by kernel_rfl) ?_; intro w33 hx34
        replace hB3 := hB3.ext hx34
        replace hB11 := hB11.ext hx34
        replace hqr1o1_1 := hqr1o1_1.ext hx34
        replace hqr1o4_1 := hqr1o4_1.ext hx34
        replace hqr1o6_1 := hqr1o6_1.ext hx34
        replace hMqr1o7_1 := hMqr1o7_1.ext hx34
        replace hBqr1o9_1 := hBqr1o9_1.ext hx34
        have hE35 := Ext.trans hEqr1o9_2 hx34
        replace ha := ha.sub (σ' := [(4, (.pointer (some ⟨bqr1o9_1, 0, none⟩)))]) ⟨rfl, trivial⟩; refine e_then ?_; refine wp_ret ?_
        obtain ⟨fp36, hro37, hs38⟩ := hqr1o1_1.roF
        obtain ⟨fp39, hro40, hs41⟩ := hqr1o4_1.roF
        obtain ⟨fp42, hro43, hs44⟩ := hqr1o6_1.roF
        have hJ45 := Jq.make hBqr1o9_1 hro37 (ha1_0.ext hE35) hro40 hro43 hMqr1o7_1 (jq_apart qqr1o9_13 (Nq.mono qqr1o7_6 hs38) (Nq.new ha1_0.bnd qqr1o7_12) (Nq.mono qqr1o7_8 hs41) (Nq.mono qqr1o7_10 hs44))
        obtain rfl := Option.some.inj hF
        exact f_ret1 ha rfl rfl ⟨_, _, (.inr ⟨rfl, hJ45⟩), qqr1o7_12, (pv_cons qqr1o9_14 (Pv.mono (Pv.own qqr1o1_5 (zf_nil _)) hs38) (Pv.par (fun _ h => List.mem_append_right _ h)) (Pv.mono (Pv.own qqr1o4_7 (zf_nil _)) hs41) (Pv.mono (Pv.own qqr1o6_9 (zf_nil _)) hs44)), hE35⟩
      skip
      replace hB3 := hB3.ext hxqr1o4_2
      replace hB11 := hB11.ext hxqr1o4_2
      replace hqr1o1_1 := hqr1o1_1.ext hxqr1o4_2
      replace hqr1o4_1 := hqr1o4_1.ext hxqr1o4_2
      have hEqr1o7_1 := Ext.trans hEqr1o4_2 hxqr1o4_2
      refine o_makeMap ha rfl 97 (fun _ _ => False) ?_; clear ha a; intro mqr1o7_1 wqr1o7_1 hMqr1o7_1 hxqr1o7_1 hloqr1o7_1 a ha
      have qqr1o7_1 := Zn.one hloqr1o7_1
      have qqr1o7_2 := Nq.new hB3.fpb qqr1o7_1
      have qqr1o7_3 := Nq.made1 hloqr1o7_1 hB3.bi
      have qqr1o7_4 := Nq.new hB11.fpb qqr1o7_1
      have qqr1o7_5 := Nq.made1 hloqr1o7_1 hB11.bi
      have qqr1o7_6 := Nq.new hqr1o1_1.fpb qqr1o7_1
      have qqr1o7_7 := Nq.made1 hloqr1o7_1 hqr1o1_1.blt
      have qqr1o7_8 := Nq.new hqr1o4_1.fpb qqr1o7_1
      have qqr1o7_9 := Nq.made1 hloqr1o7_1 hqr1o4_1.blt
      have qqr1o7_10 := Zn.upD qqr1o7_1 hEqr1o7_1
      replace hB3 := hB3.ext hxqr1o7_1
      replace hB11 := hB11.ext hxqr1o7_1
      replace hqr1o1_1 := hqr1o1_1.ext hxqr1o7_1
      replace hqr1o4_1 := hqr1o4_1.ext hxqr1o7_1
      have hEqr1o7_2 := Ext.trans hEqr1o7_1 hxqr1o7_1
      refine wpList_nil (e_sq ?_)
      refine ⟨fun _ => hxqr1o7_1, ?_⟩
      refine u_only 6 rfl (by kernel_rfl) ?_; intro wqr1o6_1 hxqr1o6_1
      replace hB3 := hB3.ext hxqr1o6_1
      replace hB11 := hB11.ext hxqr1o6_1
      replace hqr1o1_1 := hqr1o1_1.ext hxqr1o6_1
      replace hqr1o4_1 := hqr1o4_1.ext hxqr1o6_1
      replace hMqr1o7_1 := hMqr1o7_1.ext hxqr1o6_1
      have hEqr1o6_1 := Ext.trans hEqr1o7_2 hxqr1o6_1
      refine o_call ha rfl rfl Try.call43 (W_impl_largeIn (ha1_0.ext hEqr1o6_1) hcqr1o6_1) ?_; clear ha a; rintro vqr1o6_1 wqr1o6_2 ⟨bqr1o6_1, hqr1o6_1, zqr1o6_1, hxqr1o6_2⟩ a ha
      have qqr1o6_1 := Nq.new hB3.fpb zqr1o6_1
      have qqr1o6_2 := Nq.madeO zqr1o6_1 hB3.bi
      have qqr1o6_3 := Nq.new hB11.fpb zqr1o6_1
      have qqr1o6_4 := Nq.madeO zqr1o6_1 hB11.bi
      have qqr1o6_5 := Nq.new hqr1o1_1.fpb zqr1o6_1
      have qqr1o6_6 := Nq.madeO zqr1o6_1 hqr1o1_1.blt
      have qqr1o6_7 := Nq.new hqr1o4_1.fpb zqr1o6_1
      have qqr1o6_8 := Nq.madeO zqr1o6_1 hqr1o4_1.blt
      have qqr1o6_9 := Nq.new hMqr1o7_1.fpb zqr1o6_1
      have qqr1o6_10 := Nq.madeO zqr1o6_1 hMqr1o7_1.bi
      replace hB3 := hB3.ext hxqr1o6_2
      replace hB11 := hB11.ext hxqr1o6_2
      replace hqr1o1_1 := hqr1o1_1.ext hxqr1o6_2
      replace hqr1o4_1 := hqr1o4_1.ext hxqr1o6_2
      replace hMqr1o7_1 := hMqr1o7_1.ext hxqr1o6_2
      have hEqr1o6_2 := Ext.trans hEqr1o6_1 hxqr1o6_2
      have qqr1o6_11 := Zn.upD zqr1o6_1 hEqr1o6_1
      refine wpList_nil (e_sq ?_)
      refine ⟨fun _ => hxqr1o6_2, ?_⟩
      refine u_g 8 rfl (by kernel_rfl) (want0 _) ha rfl (g_build (vs := [(0, vqr1o1_1), (1, (.agg #[va1_0])), (2, vqr1o4_1), (3, vqr1o6_1), (4, (.map (some mqr1o7_1)))]) (cells := #[vqr1o1_1, va1_0, vqr1o4_1, vqr1o6_1, (.map (some mqr1o7_1))]) rfl (by obtain ⟨_, _, rfl⟩ := hqr1o1_1.shape; obtain ⟨_, _, rfl⟩ := ha1_0.shape; obtain ⟨_, _, rfl⟩ := hqr1o4_1.shape; obtain ⟨_, _, rfl⟩ := hqr1o6_1.shape; rfl)) ?_; clear ha a; intro a ha
      refine u_only 9 rfl (by kernel_rfl) ?_; intro wqr1o9_1 hxqr1o9_1
      replace hB3 := hB3.ext hxqr1o9_1
      replace hB11 := hB11.ext hxqr1o9_1
      replace hqr1o1_1 := hqr1o1_1.ext hxqr1o9_1
      replace hqr1o4_1 := hqr1o4_1.ext hxqr1o9_1
      replace hMqr1o7_1 := hMqr1o7_1.ext hxqr1o9_1
      replace hqr1o6_1 := hqr1o6_1.ext hxqr1o9_1
      have hEqr1o9_1 := Ext.trans hEqr1o6_2 hxqr1o9_1
      refine o_box ha rfl rfl rfl ?_; clear ha a; intro bqr1o9_1 wqr1o9_2 hBqr1o9_1 hxqr1o9_2 hloqr1o9_1 a ha
      have qqr1o9_1 := Zn.one hloqr1o9_1
      have qqr1o9_2 := Nq.new hB3.fpb qqr1o9_1
      have qqr1o9_3 := Nq.made1 hloqr1o9_1 hB3.bi
      have qqr1o9_4 := Nq.new hB11.fpb qqr1o9_1
      have qqr1o9_5 := Nq.made1 hloqr1o9_1 hB11.bi
      have qqr1o9_6 := Nq.new hqr1o1_1.fpb qqr1o9_1
      have qqr1o9_7 := Nq.made1 hloqr1o9_1 hqr1o1_1.blt
      have qqr1o9_8 := Nq.new hqr1o4_1.fpb qqr1o9_1
      have qqr1o9_9 := Nq.made1 hloqr1o9_1 hqr1o4_1.blt
      have qqr1o9_10 := Nq.new hMqr1o7_1.fpb qqr1o9_1
      have qqr1o9_11 := Nq.made1 hloqr1o9_1 hMqr1o7_1.bi
      have qqr1o9_12 := Nq.new hqr1o6_1.fpb qqr1o9_1
      have qqr1o9_13 := Nq.made1 hloqr1o9_1 hqr1o6_1.blt
      have qqr1o9_14 := Zn.upD qqr1o9_1 hEqr1o9_1
      replace hB3 := hB3.ext hxqr1o9_2
      replace hB11 := hB11.ext hxqr1o9_2
      replace hqr1o1_1 := hqr1o1_1.ext hxqr1o9_2
      replace hqr1o4_1 := hqr1o4_1.ext hxqr1o9_2
      replace hMqr1o7_1 := hMqr1o7_1.ext hxqr1o9_2
      replace hqr1o6_1 := hqr1o6_1.ext hxqr1o9_2
      have hEqr1o9_2 := Ext.trans hEqr1o9_1 hxqr1o9_2
      refine wpList_nil (e_sq ?_)
      refine ⟨fun _ => hxqr1o9_2, ?_⟩
      refine u_g 10 rfl (by kernel_rfl) (want0 _) ha rfl (g_assign rfl) ?_; clear ha a; intro a ha
      refine u_done (by kernel_rfl) ?_; intro w33 hx34
      replace hB3 := hB3.ext hx34
      replace hB11 := hB11.ext hx34
      replace hqr1o1_1 := hqr1o1_1.ext hx34
      replace hqr1o4_1 := hqr1o4_1.ext hx34
      replace hMqr1o7_1 := hMqr1o7_1.ext hx34
      replace hqr1o6_1 := hqr1o6_1.ext hx34
      replace hBqr1o9_1 := hBqr1o9_1.ext hx34
      have hE35 := Ext.trans hEqr1o9_2 hx34
      replace ha := ha.sub (σ' := [(4, (.pointer (some ⟨bqr1o9_1, 0, none⟩)))]) ⟨rfl, trivial⟩; refine e_then ?_; refine wp_ret ?_
      obtain ⟨fp36, hro37, hs38⟩ := hqr1o1_1.roF
      obtain ⟨fp39, hro40, hs41⟩ := hqr1o4_1.roF
      obtain ⟨fp42, hro43, hs44⟩ := hqr1o6_1.roF
      have hJ45 := Jq.make hBqr1o9_1 hro37 (ha1_0.ext hE35) hro40 hro43 hMqr1o7_1 (jq_apart qqr1o9_11 (Nq.mono qqr1o7_6 hs38) (Nq.new ha1_0.bnd qqr1o7_10) (Nq.mono qqr1o7_8 hs41) (Nq.mono qqr1o6_10 hs44))
      obtain rfl := Option.some.inj hF
      exact f_ret1 ha rfl rfl ⟨_, _, (.inr ⟨rfl, hJ45⟩), qqr1o7_10, (pv_cons qqr1o9_14 (Pv.mono (Pv.own qqr1o1_5 (zf_nil _)) hs38) (Pv.par (fun _ h => List.mem_append_right _ h)) (Pv.mono (Pv.own qqr1o4_7 (zf_nil _)) hs41) (Pv.mono (Pv.own qqr1o6_11 (zf_nil _)) hs44)), hE35⟩
    skip
    replace hB3 := hB3.ext hxqr1o1_2
    replace hB11 := hB11.ext hxqr1o1_2
    replace hqr1o1_1 := hqr1o1_1.ext hxqr1o1_2
    have hEqr1o7_1 := Ext.trans hEqr1o1_2 hxqr1o1_2
    refine o_makeMap ha rfl 97 (fun _ _ => False) ?_; clear ha a; intro mqr1o7_1 wqr1o7_1 hMqr1o7_1 hxqr1o7_1 hloqr1o7_1 a ha
    have qqr1o7_1 := Zn.one hloqr1o7_1
    have qqr1o7_2 := Nq.new hB3.fpb qqr1o7_1
    have qqr1o7_3 := Nq.made1 hloqr1o7_1 hB3.bi
    have qqr1o7_4 := Nq.new hB11.fpb qqr1o7_1
    have qqr1o7_5 := Nq.made1 hloqr1o7_1 hB11.bi
    have qqr1o7_6 := Nq.new hqr1o1_1.fpb qqr1o7_1
    have qqr1o7_7 := Nq.made1 hloqr1o7_1 hqr1o1_1.blt
    have qqr1o7_8 := Zn.upD qqr1o7_1 hEqr1o7_1
    replace hB3 := hB3.ext hxqr1o7_1
    replace hB11 := hB11.ext hxqr1o7_1
    replace hqr1o1_1 := hqr1o1_1.ext hxqr1o7_1
    have hEqr1o7_2 := Ext.trans hEqr1o7_1 hxqr1o7_1
    refine wpList_nil (e_sq ?_)
    refine ⟨fun _ => hxqr1o7_1, ?_⟩
    refine u_only 4 rfl (by kernel_rfl) ?_; intro wqr1o4_1 hxqr1o4_1
    replace hB3 := hB3.ext hxqr1o4_1
    replace hB11 := hB11.ext hxqr1o4_1
    replace hqr1o1_1 := hqr1o1_1.ext hxqr1o4_1
    replace hMqr1o7_1 := hMqr1o7_1.ext hxqr1o4_1
    have hEqr1o4_1 := Ext.trans hEqr1o7_2 hxqr1o4_1
    refine o_call ha rfl rfl Try.call42 (W_impl_freeIn (ha1_0.ext hEqr1o4_1) hcqr1o4_1) ?_; clear ha a; rintro vqr1o4_1 wqr1o4_2 ⟨bqr1o4_1, hqr1o4_1, zqr1o4_1, hxqr1o4_2⟩ a ha
    have qqr1o4_1 := Nq.new hB3.fpb zqr1o4_1
    have qqr1o4_2 := Nq.madeO zqr1o4_1 hB3.bi
    have qqr1o4_3 := Nq.new hB11.fpb zqr1o4_1
    have qqr1o4_4 := Nq.madeO zqr1o4_1 hB11.bi
    have qqr1o4_5 := Nq.new hqr1o1_1.fpb zqr1o4_1
    have qqr1o4_6 := Nq.madeO zqr1o4_1 hqr1o1_1.blt
    have qqr1o4_7 := Nq.new hMqr1o7_1.fpb zqr1o4_1
    have qqr1o4_8 := Nq.madeO zqr1o4_1 hMqr1o7_1.bi
    replace hB3 := hB3.ext hxqr1o4_2
    replace hB11 := hB11.ext hxqr1o4_2
    replace hqr1o1_1 := hqr1o1_1.ext hxqr1o4_2
    replace hMqr1o7_1 := hMqr1o7_1.ext hxqr1o4_2
    have hEqr1o4_2 := Ext.trans hEqr1o4_1 hxqr1o4_2
    have qqr1o4_9 := Zn.upD zqr1o4_1 hEqr1o4_1
    refine wpList_nil (e_sq ?_)
    refine ⟨fun _ => hxqr1o4_2, ?_⟩
    refine u_only 6 rfl (by kernel_rfl) ?_; intro wqr1o6_1 hxqr1o6_1
    replace hB3 := hB3.ext hxqr1o6_1
    replace hB11 := hB11.ext hxqr1o6_1
    replace hqr1o1_1 := hqr1o1_1.ext hxqr1o6_1
    replace hMqr1o7_1 := hMqr1o7_1.ext hxqr1o6_1
    replace hqr1o4_1 := hqr1o4_1.ext hxqr1o6_1
    have hEqr1o6_1 := Ext.trans hEqr1o4_2 hxqr1o6_1
    refine o_call ha rfl rfl Try.call43 (W_impl_largeIn (ha1_0.ext hEqr1o6_1) hcqr1o6_1) ?_; clear ha a; rintro vqr1o6_1 wqr1o6_2 ⟨bqr1o6_1, hqr1o6_1, zqr1o6_1, hxqr1o6_2⟩ a ha
    have qqr1o6_1 := Nq.new hB3.fpb zqr1o6_1
    have qqr1o6_2 := Nq.madeO zqr1o6_1 hB3.bi
    have qqr1o6_3 := Nq.new hB11.fpb zqr1o6_1
    have qqr1o6_4 := Nq.madeO zqr1o6_1 hB11.bi
    have qqr1o6_5 := Nq.new hqr1o1_1.fpb zqr1o6_1
    have qqr1o6_6 := Nq.madeO zqr1o6_1 hqr1o1_1.blt
    have qqr1o6_7 := Nq.new hMqr1o7_1.fpb zqr1o6_1
    have qqr1o6_8 := Nq.madeO zqr1o6_1 hMqr1o7_1.bi
    have qqr1o6_9 := Nq.new hqr1o4_1.fpb zqr1o6_1
    have qqr1o6_10 := Nq.madeO zqr1o6_1 hqr1o4_1.blt
    replace hB3 := hB3.ext hxqr1o6_2
    replace hB11 := hB11.ext hxqr1o6_2
    replace hqr1o1_1 := hqr1o1_1.ext hxqr1o6_2
    replace hMqr1o7_1 := hMqr1o7_1.ext hxqr1o6_2
    replace hqr1o4_1 := hqr1o4_1.ext hxqr1o6_2
    have hEqr1o6_2 := Ext.trans hEqr1o6_1 hxqr1o6_2
    have qqr1o6_11 := Zn.upD zqr1o6_1 hEqr1o6_1
    refine wpList_nil (e_sq ?_)
    refine ⟨fun _ => hxqr1o6_2, ?_⟩
    refine u_g 8 rfl (by kernel_rfl) (want0 _) ha rfl (g_build (vs := [(0, vqr1o1_1), (1, (.agg #[va1_0])), (2, vqr1o4_1), (3, vqr1o6_1), (4, (.map (some mqr1o7_1)))]) (cells := #[vqr1o1_1, va1_0, vqr1o4_1, vqr1o6_1, (.map (some mqr1o7_1))]) rfl (by obtain ⟨_, _, rfl⟩ := hqr1o1_1.shape; obtain ⟨_, _, rfl⟩ := ha1_0.shape; obtain ⟨_, _, rfl⟩ := hqr1o4_1.shape; obtain ⟨_, _, rfl⟩ := hqr1o6_1.shape; rfl)) ?_; clear ha a; intro a ha
    refine u_only 9 rfl (by kernel_rfl) ?_; intro wqr1o9_1 hxqr1o9_1
    replace hB3 := hB3.ext hxqr1o9_1
    replace hB11 := hB11.ext hxqr1o9_1
    replace hqr1o1_1 := hqr1o1_1.ext hxqr1o9_1
    replace hMqr1o7_1 := hMqr1o7_1.ext hxqr1o9_1
    replace hqr1o4_1 := hqr1o4_1.ext hxqr1o9_1
    replace hqr1o6_1 := hqr1o6_1.ext hxqr1o9_1
    have hEqr1o9_1 := Ext.trans hEqr1o6_2 hxqr1o9_1
    refine o_box ha rfl rfl rfl ?_; clear ha a; intro bqr1o9_1 wqr1o9_2 hBqr1o9_1 hxqr1o9_2 hloqr1o9_1 a ha
    have qqr1o9_1 := Zn.one hloqr1o9_1
    have qqr1o9_2 := Nq.new hB3.fpb qqr1o9_1
    have qqr1o9_3 := Nq.made1 hloqr1o9_1 hB3.bi
    have qqr1o9_4 := Nq.new hB11.fpb qqr1o9_1
    have qqr1o9_5 := Nq.made1 hloqr1o9_1 hB11.bi
    have qqr1o9_6 := Nq.new hqr1o1_1.fpb qqr1o9_1
    have qqr1o9_7 := Nq.made1 hloqr1o9_1 hqr1o1_1.blt
    have qqr1o9_8 := Nq.new hMqr1o7_1.fpb qqr1o9_1
    have qqr1o9_9 := Nq.made1 hloqr1o9_1 hMqr1o7_1.bi
    have qqr1o9_10 := Nq.new hqr1o4_1.fpb qqr1o9_1
    have qqr1o9_11 := Nq.made1 hloqr1o9_1 hqr1o4_1.blt
    have qqr1o9_12 := Nq.new hqr1o6_1.fpb qqr1o9_1
    have qqr1o9_13 := Nq.made1 hloqr1o9_1 hqr1o6_1.blt
    have qqr1o9_14 := Zn.upD qqr1o9_1 hEqr1o9_1
    replace hB3 := hB3.ext hxqr1o9_2
    replace hB11 := hB11.ext hxqr1o9_2
    replace hqr1o1_1 := hqr1o1_1.ext hxqr1o9_2
    replace hMqr1o7_1 := hMqr1o7_1.ext hxqr1o9_2
    replace hqr1o4_1 := hqr1o4_1.ext hxqr1o9_2
    replace hqr1o6_1 := hqr1o6_1.ext hxqr1o9_2
    have hEqr1o9_2 := Ext.trans hEqr1o9_1 hxqr1o9_2
    refine wpList_nil (e_sq ?_)
    refine ⟨fun _ => hxqr1o9_2, ?_⟩
    refine u_g 10 rfl (by kernel_rfl) (want0 _) ha rfl (g_assign rfl) ?_; clear ha a; intro a ha
    refine u_done (by kernel_rfl) ?_; intro w33 hx34
    replace hB3 := hB3.ext hx34
    replace hB11 := hB11.ext hx34
    replace hqr1o1_1 := hqr1o1_1.ext hx34
    replace hMqr1o7_1 := hMqr1o7_1.ext hx34
    replace hqr1o4_1 := hqr1o4_1.ext hx34
    replace hqr1o6_1 := hqr1o6_1.ext hx34
    replace hBqr1o9_1 := hBqr1o9_1.ext hx34
    have hE35 := Ext.trans hEqr1o9_2 hx34
    replace ha := ha.sub (σ' := [(4, (.pointer (some ⟨bqr1o9_1, 0, none⟩)))]) ⟨rfl, trivial⟩; refine e_then ?_; refine wp_ret ?_
    obtain ⟨fp36, hro37, hs38⟩ := hqr1o1_1.roF
    obtain ⟨fp39, hro40, hs41⟩ := hqr1o4_1.roF
    obtain ⟨fp42, hro43, hs44⟩ := hqr1o6_1.roF
    have hJ45 := Jq.make hBqr1o9_1 hro37 (ha1_0.ext hE35) hro40 hro43 hMqr1o7_1 (jq_apart qqr1o9_9 (Nq.mono qqr1o7_6 hs38) (Nq.new ha1_0.bnd qqr1o7_8) (Nq.mono qqr1o4_8 hs41) (Nq.mono qqr1o6_8 hs44))
    obtain rfl := Option.some.inj hF
    exact f_ret1 ha rfl rfl ⟨_, _, (.inr ⟨rfl, hJ45⟩), qqr1o7_8, (pv_cons qqr1o9_14 (Pv.mono (Pv.own qqr1o1_5 (zf_nil _)) hs38) (Pv.par (fun _ h => List.mem_append_right _ h)) (Pv.mono (Pv.own qqr1o4_9 (zf_nil _)) hs41) (Pv.mono (Pv.own qqr1o6_11 (zf_nil _)) hs44)), hE35⟩
  skip
  replace hB3 := hB3.ext hxqr1_1
  replace hB11 := hB11.ext hxqr1_1
  have hEqr1o7_1 := Ext.trans hE31 hxqr1_1
  refine o_makeMap ha rfl 97 (fun _ _ => False) ?_; clear ha a; intro mqr1o7_1 wqr1o7_1 hMqr1o7_1 hxqr1o7_1 hloqr1o7_1 a ha
  have qqr1o7_1 := Zn.one hloqr1o7_1
  have qqr1o7_2 := Nq.new hB3.fpb qqr1o7_1
  have qqr1o7_3 := Nq.made1 hloqr1o7_1 hB3.bi
  have qqr1o7_4 := Nq.new hB11.fpb qqr1o7_1
  have qqr1o7_5 := Nq.made1 hloqr1o7_1 hB11.bi
  have qqr1o7_6 := Zn.upD qqr1o7_1 hEqr1o7_1
  replace hB3 := hB3.ext hxqr1o7_1
  replace hB11 := hB11.ext hxqr1o7_1
  have hEqr1o7_2 := Ext.trans hEqr1o7_1 hxqr1o7_1
  refine wpList_nil (e_sq ?_)
  refine ⟨fun _ => hxqr1o7_1, ?_⟩
  refine u_only 1 rfl (by kernel_rfl) ?_; intro wqr1o1_1 hxqr1o1_1
  replace hB3 := hB3.ext hxqr1o1_1
  replace hB11 := hB11.ext hxqr1o1_1
  replace hMqr1o7_1 := hMqr1o7_1.ext hxqr1o1_1
  have hEqr1o1_1 := Ext.trans hEqr1o7_2 hxqr1o1_1
  refine o_call ha rfl rfl Try.call41 (W_impl_netsOf (ha0_0.ext hEqr1o1_1) hcqr1o1_1) ?_; clear ha a; rintro vqr1o1_1 wqr1o1_2 ⟨bqr1o1_1, hqr1o1_1, zqr1o1_1, hxqr1o1_2⟩ a ha
  have qqr1o1_1 := Nq.new hB3.fpb zqr1o1_1
  have qqr1o1_2 := Nq.madeO zqr1o1_1 hB3.bi
  have qqr1o1_3 := Nq.new hB11.fpb zqr1o1_1
  have qqr1o1_4 := Nq.madeO zqr1o1_1 hB11.bi
  have qqr1o1_5 := Nq.new hMqr1o7_1.fpb zqr1o1_1
  have qqr1o1_6 := Nq.madeO zqr1o1_1 hMqr1o7_1.bi
  replace hB3 := hB3.ext hxqr1o1_2
  replace hB11 := hB11.ext hxqr1o1_2
  replace hMqr1o7_1 := hMqr1o7_1.ext hxqr1o1_2
  have hEqr1o1_2 := Ext.trans hEqr1o1_1 hxqr1o1_2
  have qqr1o1_7 := Zn.upD zqr1o1_1 hEqr1o1_1
  refine wpList_nil (e_sq ?_)
  refine ⟨fun _ => hxqr1o1_2, ?_⟩
  refine u_only 4 rfl (by kernel_rfl) ?_; intro wqr1o4_1 hxqr1o4_1
  replace hB3 := hB3.ext hxqr1o4_1
  replace hB11 := hB11.ext hxqr1o4_1
  replace hMqr1o7_1 := hMqr1o7_1.ext hxqr1o4_1
  replace hqr1o1_1 := hqr1o1_1.ext hxqr1o4_1
  have hEqr1o4_1 := Ext.trans hEqr1o1_2 hxqr1o4_1
  refine o_call ha rfl rfl Try.call42 (W_impl_freeIn (ha1_0.ext hEqr1o4_1) hcqr1o4_1) ?_; clear ha a; rintro vqr1o4_1 wqr1o4_2 ⟨bqr1o4_1, hqr1o4_1, zqr1o4_1, hxqr1o4_2⟩ a ha
  have qqr1o4_1 := Nq.new hB3.fpb zqr1o4_1
  have qqr1o4_2 := Nq.madeO zqr1o4_1 hB3.bi
  have qqr1o4_3 := Nq.new hB11.fpb zqr1o4_1
  have qqr1o4_4 := Nq.madeO zqr1o4_1 hB11.bi
  have qqr1o4_5 := Nq.new hMqr1o7_1.fpb zqr1o4_1
  have qqr1o4_6 := Nq.madeO zqr1o4_1 hMqr1o7_1.bi
  have qqr1o4_7 := Nq.new hqr1o1_1.fpb zqr1o4_1
  have qqr1o4_8 := Nq.madeO zqr1o4_1 hqr1o1_1.blt
  replace hB3 := hB3.ext hxqr1o4_2
  replace hB11 := hB11.ext hxqr1o4_2
  replace hMqr1o7_1 := hMqr1o7_1.ext hxqr1o4_2
  replace hqr1o1_1 := hqr1o1_1.ext hxqr1o4_2
  have hEqr1o4_2 := Ext.trans hEqr1o4_1 hxqr1o4_2
  have qqr1o4_9 := Zn.upD zqr1o4_1 hEqr1o4_1
  refine wpList_nil (e_sq ?_)
  refine ⟨fun _ => hxqr1o4_2, ?_⟩
  refine u_only 6 rfl (by kernel_rfl) ?_; intro wqr1o6_1 hxqr1o6_1
  replace hB3 := hB3.ext hxqr1o6_1
  replace hB11 := hB11.ext hxqr1o6_1
  replace hMqr1o7_1 := hMqr1o7_1.ext hxqr1o6_1
  replace hqr1o1_1 := hqr1o1_1.ext hxqr1o6_1
  replace hqr1o4_1 := hqr1o4_1.ext hxqr1o6_1
  have hEqr1o6_1 := Ext.trans hEqr1o4_2 hxqr1o6_1
  refine o_call ha rfl rfl Try.call43 (W_impl_largeIn (ha1_0.ext hEqr1o6_1) hcqr1o6_1) ?_; clear ha a; rintro vqr1o6_1 wqr1o6_2 ⟨bqr1o6_1, hqr1o6_1, zqr1o6_1, hxqr1o6_2⟩ a ha
  have qqr1o6_1 := Nq.new hB3.fpb zqr1o6_1
  have qqr1o6_2 := Nq.madeO zqr1o6_1 hB3.bi
  have qqr1o6_3 := Nq.new hB11.fpb zqr1o6_1
  have qqr1o6_4 := Nq.madeO zqr1o6_1 hB11.bi
  have qqr1o6_5 := Nq.new hMqr1o7_1.fpb zqr1o6_1
  have qqr1o6_6 := Nq.madeO zqr1o6_1 hMqr1o7_1.bi
  have qqr1o6_7 := Nq.new hqr1o1_1.fpb zqr1o6_1
  have qqr1o6_8 := Nq.madeO zqr1o6_1 hqr1o1_1.blt
  have qqr1o6_9 := Nq.new hqr1o4_1.fpb zqr1o6_1
  have qqr1o6_10 := Nq.madeO zqr1o6_1 hqr1o4_1.blt
  replace hB3 := hB3.ext hxqr1o6_2
  replace hB11 := hB11.ext hxqr1o6_2
  replace hMqr1o7_1 := hMqr1o7_1.ext hxqr1o6_2
  replace hqr1o1_1 := hqr1o1_1.ext hxqr1o6_2
  replace hqr1o4_1 := hqr1o4_1.ext hxqr1o6_2
  have hEqr1o6_2 := Ext.trans hEqr1o6_1 hxqr1o6_2
  have qqr1o6_11 := Zn.upD zqr1o6_1 hEqr1o6_1
  refine wpList_nil (e_sq ?_)
  refine ⟨fun _ => hxqr1o6_2, ?_⟩
  refine u_g 8 rfl (by kernel_rfl) (want0 _) ha rfl (g_build (vs := [(0, vqr1o1_1), (1, (.agg #[va1_0])), (2, vqr1o4_1), (3, vqr1o6_1), (4, (.map (some mqr1o7_1)))]) (cells := #[vqr1o1_1, va1_0, vqr1o4_1, vqr1o6_1, (.map (some mqr1o7_1))]) rfl (by obtain ⟨_, _, rfl⟩ := hqr1o1_1.shape; obtain ⟨_, _, rfl⟩ := ha1_0.shape; obtain ⟨_, _, rfl⟩ := hqr1o4_1.shape; obtain ⟨_, _, rfl⟩ := hqr1o6_1.shape; rfl)) ?_; clear ha a; intro a ha
  refine u_only 9 rfl (by kernel_rfl) ?_; intro wqr1o9_1 hxqr1o9_1
  replace hB3 := hB3.ext hxqr1o9_1
  replace hB11 := hB11.ext hxqr1o9_1
  replace hMqr1o7_1 := hMqr1o7_1.ext hxqr1o9_1
  replace hqr1o1_1 := hqr1o1_1.ext hxqr1o9_1
  replace hqr1o4_1 := hqr1o4_1.ext hxqr1o9_1
  replace hqr1o6_1 := hqr1o6_1.ext hxqr1o9_1
  have hEqr1o9_1 := Ext.trans hEqr1o6_2 hxqr1o9_1
  refine o_box ha rfl rfl rfl ?_; clear ha a; intro bqr1o9_1 wqr1o9_2 hBqr1o9_1 hxqr1o9_2 hloqr1o9_1 a ha
  have qqr1o9_1 := Zn.one hloqr1o9_1
  have qqr1o9_2 := Nq.new hB3.fpb qqr1o9_1
  have qqr1o9_3 := Nq.made1 hloqr1o9_1 hB3.bi
  have qqr1o9_4 := Nq.new hB11.fpb qqr1o9_1
  have qqr1o9_5 := Nq.made1 hloqr1o9_1 hB11.bi
  have qqr1o9_6 := Nq.new hMqr1o7_1.fpb qqr1o9_1
  have qqr1o9_7 := Nq.made1 hloqr1o9_1 hMqr1o7_1.bi
  have qqr1o9_8 := Nq.new hqr1o1_1.fpb qqr1o9_1
  have qqr1o9_9 := Nq.made1 hloqr1o9_1 hqr1o1_1.blt
  have qqr1o9_10 := Nq.new hqr1o4_1.fpb qqr1o9_1
  have qqr1o9_11 := Nq.made1 hloqr1o9_1 hqr1o4_1.blt
  have qqr1o9_12 := Nq.new hqr1o6_1.fpb qqr1o9_1
  have qqr1o9_13 := Nq.made1 hloqr1o9_1 hqr1o6_1.blt
  have qqr1o9_14 := Zn.upD qqr1o9_1 hEqr1o9_1
  replace hB3 := hB3.ext hxqr1o9_2
  replace hB11 := hB11.ext hxqr1o9_2
  replace hMqr1o7_1 := hMqr1o7_1.ext hxqr1o9_2
  replace hqr1o1_1 := hqr1o1_1.ext hxqr1o9_2
  replace hqr1o4_1 := hqr1o4_1.ext hxqr1o9_2
  replace hqr1o6_1 := hqr1o6_1.ext hxqr1o9_2
  have hEqr1o9_2 := Ext.trans hEqr1o9_1 hxqr1o9_2
  refine wpList_nil (e_sq ?_)
  refine ⟨fun _ => hxqr1o9_2, ?_⟩
  refine u_g 10 rfl (by kernel_rfl) (want0 _) ha rfl (g_assign rfl) ?_; clear ha a; intro a ha
  refine u_done (by kernel_rfl) ?_; intro w33 hx34
  replace hB3 := hB3.ext hx34
  replace hB11 := hB11.ext hx34
  replace hMqr1o7_1 := hMqr1o7_1.ext hx34
  replace hqr1o1_1 := hqr1o1_1.ext hx34
  replace hqr1o4_1 := hqr1o4_1.ext hx34
  replace hqr1o6_1 := hqr1o6_1.ext hx34
  replace hBqr1o9_1 := hBqr1o9_1.ext hx34
  have hE35 := Ext.trans hEqr1o9_2 hx34
  replace ha := ha.sub (σ' := [(4, (.pointer (some ⟨bqr1o9_1, 0, none⟩)))]) ⟨rfl, trivial⟩; refine e_then ?_; refine wp_ret ?_
  obtain ⟨fp36, hro37, hs38⟩ := hqr1o1_1.roF
  obtain ⟨fp39, hro40, hs41⟩ := hqr1o4_1.roF
  obtain ⟨fp42, hro43, hs44⟩ := hqr1o6_1.roF
  have hJ45 := Jq.make hBqr1o9_1 hro37 (ha1_0.ext hE35) hro40 hro43 hMqr1o7_1 (jq_apart qqr1o9_7 (Nq.mono qqr1o1_6 hs38) (Nq.new ha1_0.bnd qqr1o7_6) (Nq.mono qqr1o4_6 hs41) (Nq.mono qqr1o6_6 hs44))
  obtain rfl := Option.some.inj hF
  exact f_ret1 ha rfl rfl ⟨_, _, (.inr ⟨rfl, hJ45⟩), qqr1o7_6, (pv_cons qqr1o9_14 (Pv.mono (Pv.own qqr1o1_7 (zf_nil _)) hs38) (Pv.par (fun _ h => List.mem_append_right _ h)) (Pv.mono (Pv.own qqr1o4_9 (zf_nil _)) hs41) (Pv.mono (Pv.own qqr1o6_11 (zf_nil _)) hs44)), hE35⟩
set_option maxHeartbeats 2000000 in
theorem W_impl_judge_root {W : World} {va0 : Value} {ba0 : Int} {fa0 : List Nat} {a0 : JD} (ha0 : Jq Try.prog 82 97 W fa0 ba0 va0 a0) {a1_0 : Int} (ha1_0 : InI a1_0) {a1_1 : Int} (ha1_1 : InI a1_1) {a1_2 : Int} (ha1_2 : InI a1_2) {a1_3 : BitVec 32} {a1_4 : BitVec 32} {r : (Bool × JD)} (hF : F_impl_judge_root a0 a1_0 a1_1 a1_2 a1_3 a1_4 = some r) :
    Calls Try.prog 25 [va0, .agg #[.int .i64 a1_0, .int .i64 a1_1, .int .i64 a1_2, .int .u32 (BitVec.toNat a1_3 : Int), .int .u32 (BitVec.toNat a1_4 : Int)]].toArray W (Ret fun u w' => u = .bool r.1 ∧ Jq Try.prog 82 97 w' fa0 ba0 va0 r.2 ∧ Chg (bl ba0) W w') := by
  have dlta0 := ha0.fpb
  obtain ⟨j1, rfl⟩ := ha0.ptr
  refine f_enter Try.func25 rfl Try.ntmps25 rfl ?_
  intro a ha
  replace ha : Fr 15 [(0, (.pointer (some ⟨j1, 0, none⟩))), (1, (.agg #[(.int .i64 a1_0), (.int .i64 a1_1), (.int .i64 a1_2), (.int .u32 (BitVec.toNat a1_3 : Int)), (.int .u32 (BitVec.toNat a1_4 : Int))]))] a := ha
  have hE : Chg (bl ba0) W W := Chg.refl _ _
  unfold F_impl_judge_root at hF
  refine wp_seq ?_; refine wp_region_lit ?_
  refine o_box ha rfl rfl rfl ?_; clear ha a; intro b2 w3 hB4 hx5 hlo6 a ha
  have q7 := Zn.one hlo6
  have q8 := Nq.new ha0.fpb q7
  have q9 := Nq.made1 hlo6 ha0.blt
  have q10 := Zn.upD q7 hE
  replace ha0 := ha0.ext hx5
  have hE11 := Chg.more hE hx5
  refine op_g ha rfl (g_assign rfl) ?_; clear ha a; intro a ha; refine wpList_nil ?_; replace ha := ha.sub (σ' := [(0, (.pointer (some ⟨j1, 0, none⟩))), (3, (.pointer (some ⟨b2, 0, none⟩)))]) ⟨rfl, rfl, trivial⟩; refine e_then ?_; refine wp_seq ?_; refine d_region [0, 1, 2, 3, 4, 5, 6, 7, 8] hmix ?_; refine u_g 0 rfl (by kernel_rfl) (want0 _) ha rfl (g_move rfl) ?_; clear ha a; intro a ha; refine u_g 1 rfl (by kernel_rfl) (want0 _) ha rfl (g_move rfl) ?_; clear ha a; intro a ha; refine u_g 2 rfl (by kernel_rfl) (want0 _) ha rfl (g_nilCheck rfl) ?_; clear ha a; intro a ha; refine u_g 3 rfl (by kernel_rfl) (want0 _) ha rfl (g_field0 st82_1 rfl) ?_; clear ha a; intro a ha
  refine u_g 4 rfl (by kernel_rfl) (want0 _) ha rfl (g_field0 st35_0 rfl) ?_; clear ha a; intro a ha
  obtain ⟨u12, f13, h14, hc15, q16, hs17⟩ := ha0.get1
  have q19 := Nq.mono q8 hs17
  refine u_g 5 rfl (by kernel_rfl) (want0 _) ha rfl (g_load Try.isAgg33 rfl hc15) ?_; clear ha a; intro a ha; refine u_g 6 rfl (by kernel_rfl) (want0 _) ha rfl (g_lenR sl33.und h14 rfl) ?_; clear ha a; intro a ha; obtain ⟨hI20, hF⟩ := ck_some hF; refine u_g 7 rfl (by kernel_rfl) (want0 _) ha rfl (g_sub rfl rfl hI20) ?_; clear ha a; intro a ha; refine u_g 8 rfl (by kernel_rfl) (want0 _) ha rfl (g_loadA (cs := [(.int .i64 a1_0), (.int .i64 a1_1), (.int .i64 a1_2), (.int .u32 (BitVec.toNat a1_3 : Int)), (.int .u32 (BitVec.toNat a1_4 : Int))]) Try.isAgg59 Try.sizeOf59 rfl (by simp) hB4.all) ?_; clear ha a; intro a ha
  refine u_only 9 rfl (by kernel_rfl) ?_; intro w22 hx23
  replace ha0 := ha0.ext hx23
  replace hB4 := hB4.ext hx23
  replace h14 := h14.ext hx23
  have hE24 := Chg.more hE11 hx23
  obtain ⟨x25, hc26, hF⟩ := cal_some hF
  refine o_call ha rfl rfl Try.call44 (W_F_judge ha0 hI20 ha1_0 ha1_1 ha1_2 hc26) ?_; clear ha a; rintro v27 w28 ⟨rfl, h30, hx29⟩ a ha
  replace hB4 := hB4.nq hx29 q9
  replace h14 := h14.nq hx29 q16
  have hE31 := Chg.same hE24 hx29
  refine wpList_nil (e_sq ?_)
  refine ⟨fun h => absurd h (by decide), ?_⟩
  refine u_only 10 rfl (by kernel_rfl) ?_; intro w32 hx33
  replace h30 := h30.ext hx33
  replace hB4 := hB4.ext hx33
  replace h14 := h14.ext hx33
  have hE34 := Chg.more hE31 hx33
  refine op_g ha rfl (g_assign rfl) ?_; clear ha a; intro a ha; refine wpList_nil (e_sq ?_)
  refine ⟨fun h => absurd h (by decide), ?_⟩
  refine u_done (by kernel_rfl) ?_; intro w35 hx36
  replace h30 := h30.ext hx36
  replace hB4 := hB4.ext hx36
  replace h14 := h14.ext hx36
  have hE37 := Chg.more hE34 hx36
  replace ha := ha.sub (σ' := [(4, (.bool x25.1))]) ⟨rfl, trivial⟩; refine e_then ?_; refine wp_ret ?_; obtain rfl := Option.some.inj hF
  exact f_ret1 ha rfl rfl ⟨rfl, h30, hE37⟩
set_option maxHeartbeats 2000000 in
theorem W_impl_SaysOf {W : World} {va0_0 : Value} {fa0_0 : List Nat} {a0_0 : (List (List Int))} (ha0_0 : Ro (Rp.sl 2 Rp.int) W fa0_0 va0_0 a0_0) {va1_0 : Value} {fa1_0 : List Nat} {a1_0 : (List (Int × (Int × Int)))} (ha1_0 : Ro (Rp.prod Rp.int (Rp.prod Rp.int Rp.int)) W fa1_0 va1_0 a1_0) {r : Bool} (hF : F_impl_SaysOf a0_0 a1_0 = some r) :
    Calls Try.prog 10 [.agg #[va0_0], .agg #[va1_0]].toArray W (Ret fun u w' => u = .bool r ∧ Ext W w') := by
  refine f_enter Try.func10 rfl Try.ntmps10 rfl ?_
  intro a ha
  replace ha : Fr 16 [(0, (.agg #[va0_0])), (1, (.agg #[va1_0]))] a := ha
  have hE : Chg [] W W := Chg.refl _ _
  unfold F_impl_SaysOf at hF
  refine wp_seq ?_; refine wp_region_lit ?_
  refine o_box ha rfl rfl rfl ?_; clear ha a; intro b1 w2 hB3 hx4 hlo5 a ha
  have q6 := Zn.one hlo5
  have q7 := Zn.upD q6 hE
  have hE8 := Ext.trans hE hx4
  refine o_box ha rfl rfl rfl ?_; clear ha a; intro b9 w10 hB11 hx12 hlo13 a ha
  have q14 := Zn.one hlo13
  have q15 := Nq.new hB3.fpb q14
  have q16 := Nq.made1 hlo13 hB3.bi
  have q17 := Zn.upD q14 hE8
  replace hB3 := hB3.ext hx12
  have hE18 := Ext.trans hE8 hx12
  refine op_g ha rfl (g_assign rfl) ?_; clear ha a; intro a ha; refine wpList_nil ?_; replace ha := ha.sub (σ' := [(2, (.pointer (some ⟨b1, 0, none⟩))), (3, (.pointer (some ⟨b9, 0, none⟩)))]) ⟨rfl, rfl, trivial⟩; refine e_then ?_; refine wp_seq ?_; refine wp_region_lit ?_; refine op_g ha rfl (g_loadA (cs := [va0_0]) Try.isAgg31 Try.sizeOf31 rfl (by simp) hB3.all) ?_; clear ha a; intro a ha; refine op_g ha rfl (g_loadA (cs := [va1_0]) Try.isAgg35 Try.sizeOf35 rfl (by simp) hB11.all) ?_; clear ha a; intro a ha; obtain ⟨x19, hc20, hF⟩ := cal_some hF
  refine o_call ha rfl rfl Try.call24 (W_impl_newJudge (ha0_0.ext hE18) (ha1_0.ext hE18) hc20) ?_; clear ha a; rintro v21 w22 ⟨fs24, b25, h26, z27, pv29, hx23⟩ a ha
  have q30 := Nq.new hB3.fpb z27
  have q31 := (Nq.append (Nq.madeB z27 hB3.bi) (Nq.rd pv29 (Nq.append (Nq.new ha0_0.bnd q7) (Nq.new ha1_0.bnd q7)) hB3.bi) : Nq (bl b25 ++ fs24) (b1 : Int))
  have q32 := Nq.new hB11.fpb z27
  have q33 := (Nq.append (Nq.madeB z27 hB11.bi) (Nq.rd pv29 (Nq.append (Nq.new ha0_0.bnd q17) (Nq.new ha1_0.bnd q17)) hB11.bi) : Nq (bl b25 ++ fs24) (b9 : Int))
  replace hB3 := hB3.ext hx23
  replace hB11 := hB11.ext hx23
  have hE34 := Ext.trans hE18 hx23
  have q35 := Zn.upD z27 hE18
  by_cases hp36 : x19.1 = true
  · replace hF := if_t hp36 hF
    obtain rfl := Jn.isnil h26 hp36
    refine op_g ha rfl (g_assign rfl) ?_; clear ha a; intro a ha; refine wpList_nil ?_; replace ha := ha.sub (σ' := [(5, (.pointer none))]) ⟨rfl, trivial⟩; refine e_then ?_; refine wp_seq ?_; refine wp_region_lit ?_; refine op_g ha rfl (g_move rfl) ?_; clear ha a; intro a ha; refine op_g ha rfl (g_pneq un51 rfl rfl) ?_; clear ha a; intro a ha; refine op_g ha rfl (g_move rfl) ?_; clear ha a; intro a ha; (iterate 3 refine op_unwant ha rfl (yields ha rfl rfl) rfl ?_; clear ha a; intro a ha); refine op_g ha rfl (g_pick rfl rfl) ?_; clear ha a; intro a ha; refine op_g ha rfl (g_assign rfl) ?_; clear ha a; intro a ha
    refine wpList_nil ?_; replace ha := ha.sub (σ' := [(4, (.bool false))]) ⟨rfl, trivial⟩; refine e_then ?_; refine wp_ret ?_; obtain rfl := Option.some.inj hF
    exact f_ret1 ha rfl rfl ⟨rfl, hE34⟩
  replace hF := if_f hp36 hF
  have hJ37 := Jn.jq h26 hp36
  obtain ⟨j38, rfl⟩ := hJ37.ptr
  refine op_g ha rfl (g_assign rfl) ?_; clear ha a; intro a ha; refine wpList_nil ?_; replace ha := ha.sub (σ' := [(5, (.pointer (some ⟨j38, 0, none⟩)))]) ⟨rfl, trivial⟩; refine e_then ?_; refine wp_seq ?_; refine wp_region_lit ?_; refine op_g ha rfl (g_move rfl) ?_; clear ha a; intro a ha; refine op_g ha rfl (g_pneq un51 rfl rfl) ?_; clear ha a; intro a ha; refine op_g ha rfl (g_move rfl) ?_; clear ha a; intro a ha; refine op_want (yields ha rfl rfl) ?_; refine op_g ha rfl (g_move rfl) ?_; clear ha a; intro a ha; refine op_want (yields ha rfl rfl) ?_; refine op_g ha rfl (g_build (vs := []) (cells := #[(.int .i64 0), (.int .i64 0), (.int .i64 0), (.int .u32 (BitVec.toNat (0#32) : Int)), (.int .u32 (BitVec.toNat (0#32) : Int))]) rfl (by rfl)) ?_; clear ha a; intro a ha
  refine op_want (yields ha rfl rfl) ?_; obtain ⟨x39, hc40, hF⟩ := cal_some hF
  refine o_call ha rfl rfl Try.call25 (W_impl_judge_root hJ37 (show InI 0 from by decide) (show InI 0 from by decide) (show InI 0 from by decide) hc40) ?_; clear ha a; rintro v41 w42 ⟨rfl, h44, hx43⟩ a ha
  have hE45 := Ext.then hE34 hx43 (Zn.bl q35)
  refine op_g ha rfl (g_pick rfl rfl) ?_; clear ha a; intro a ha; refine op_g ha rfl (g_assign rfl) ?_; clear ha a; intro a ha; refine wpList_nil ?_; replace ha := ha.sub (σ' := [(4, (.bool x39.1))]) ⟨rfl, trivial⟩; refine e_then ?_; refine wp_ret ?_; obtain rfl := Option.some.inj hF
  exact f_ret1 ha rfl rfl ⟨rfl, hE45⟩
set_option maxHeartbeats 2000000 in
theorem W_laws_eqInt64S {W : World} {va0 : Value} {fa0 : List Nat} {a0 : (List Int)} (ha0 : Ro Rp.int W fa0 va0 a0) {va1 : Value} {fa1 : List Nat} {a1 : (List Int)} (ha1 : Ro Rp.int W fa1 va1 a1) {r : Bool} (hF : F_laws_eqInt64S a0 a1 = some r) :
    Calls Try.prog 18 [va0, va1].toArray W (Ret fun u w' => u = .bool r ∧ Ext W w') := by
  refine f_enter Try.func18 rfl Try.ntmps18 rfl ?_
  intro a ha
  replace ha : Fr 26 [(0, va0), (1, va1)] a := ha
  have hE : Chg [] W W := Chg.refl _ _
  unfold F_laws_eqInt64S at hF
  refine wp_seq ?_; refine wp_region_lit ?_; refine op_g ha rfl (g_assign rfl) ?_; clear ha a; intro a ha; refine wpList_nil ?_; replace ha := ha.sub (σ' := [(0, va0), (1, va1)]) ⟨rfl, rfl, trivial⟩; refine e_then ?_; refine wp_seq ?_; refine wp_seq ?_; refine wp_region_lit ?_; refine op_g ha rfl (g_move rfl) ?_; clear ha a; intro a ha; refine op_g ha rfl (g_lenR sl40.und ha0 rfl) ?_; clear ha a; intro a ha; refine op_g ha rfl (g_move rfl) ?_; clear ha a; intro a ha; refine op_g ha rfl (g_lenR sl40.und ha1 rfl) ?_; clear ha a; intro a ha; refine op_g ha rfl (g_neq rfl rfl) ?_; clear ha a; intro a ha
  refine wpList_nil ?_; replace ha := ha.sub (σ' := [(0, va0), (1, va1), (10, (.bool (decide ((a0.length : Int) ≠ (a1.length : Int)))))]) ⟨rfl, rfl, rfl, trivial⟩; refine e_then ?_; refine c_cond ((a0.length : Int) ≠ (a1.length : Int)) ha rfl (decide_eq_true_iff) (fun hp1 => ?_) (fun hp1 => ?_)
  · replace hF := if_t hp1 hF
    refine wp_seq ?_; refine wp_region_lit ?_; refine op_g ha rfl (g_assign rfl) ?_; clear ha a; intro a ha; refine wpList_nil ?_; replace ha := ha.sub (σ' := [(4, (.bool false))]) ⟨rfl, trivial⟩; refine e_then ?_; refine wp_ret ?_; refine e_then_ret ?_; obtain rfl := Option.some.inj hF
    exact f_ret1 ha rfl rfl ⟨rfl, hE⟩
  replace hF := if_f hp1 hF; refine wp_skip ?_; refine e_then ?_; refine wp_seq ?_; refine wp_seq ?_; refine wp_region_lit ?_; refine op_g ha rfl (g_assign rfl) ?_; clear ha a; intro a ha; refine wpList_nil ?_; replace ha := ha.sub (σ' := [(0, va0), (1, va1), (5, (.int .i64 0))]) ⟨rfl, rfl, rfl, trivial⟩; refine e_then ?_; obtain ⟨o77, ho78, hK79⟩ := bnd_some hF
  obtain ⟨n80, hn81⟩ := lp_some ho78; clear ho78
  refine c_loop (fun a w => Fr 26 [] a ∧ Chg [] W w ∧ o77 = .inl ()) (fun n a w => ∃ (i39 : Int), Fr 26 [(0, va0), (1, va1), (5, (.int .i64 i39))] a ∧ Chg [] W w ∧ InI i39 ∧ lpN (fun s => F_laws_eqInt64S_l1 a0 a1 s) n i39 = some o77) n80 ⟨0, ha.sub ⟨rfl, rfl, rfl, trivial⟩, hE, (show InI 0 from by decide), hn81⟩ ?_ ?_
  · rintro m85 a w38 ⟨i39, ha, hE41, hI40, hF⟩
    cases m85 with
    | zero => exact (lpN_zero hF).elim
    | succ m85 =>
      obtain ⟨z84, hF, hN83⟩ := lpN_succ hF
      have hF : F_laws_eqInt64S_l1 a0 a1 i39 = some z84 := hF; unfold F_laws_eqInt64S_l1 at hF
      refine wp_seq ?_; refine wp_seq ?_; refine wp_region_lit ?_; (iterate 2 refine op_g ha rfl (g_move rfl) ?_; clear ha a; intro a ha); refine op_g ha rfl (g_lenR sl40.und ha0 rfl) ?_; clear ha a; intro a ha; refine op_g ha rfl (g_lss rfl rfl) ?_; clear ha a; intro a ha; refine wpList_nil ?_; replace ha := ha.sub (σ' := [(0, va0), (1, va1), (5, (.int .i64 i39)), (14, (.bool (decide (i39 < (a0.length : Int)))))]) ⟨rfl, rfl, rfl, rfl, trivial⟩; refine e_then ?_; refine c_cond (i39 < (a0.length : Int)) ha rfl (decide_eq_true_iff) (fun hp86 => ?_) (fun hp86 => ?_)
      · replace hF := if_t hp86 hF
        refine wp_skip ?_; refine e_then ?_; refine wp_seq ?_; refine wp_block ?_; refine wp_seq ?_; refine d_quiet hmix (by kernel_rfl) ?_; (iterate 2 refine q_g ha rfl (g_move rfl) ?_; clear ha a; intro a ha); obtain ⟨x87, g88, gx89, hF⟩ := idx_some hF
        obtain ⟨p90, cs91, f92, hf93, hpb94, hat95, hr96, hi97⟩ := ha0.at g88 gx89
        obtain ⟨rfl, hI98, rfl⟩ := hr96
        refine q_g ha rfl (hi97.gives sl40 rfl rfl) ?_; clear ha a; intro a ha; refine q_g ha rfl (g_load0 hE41 Try.isAgg2 rfl hat95.one) ?_; clear ha a; intro a ha; (iterate 2 refine q_g ha rfl (g_move rfl) ?_; clear ha a; intro a ha); obtain ⟨x99, g100, gx101, hF⟩ := idx_some hF
        obtain ⟨p102, cs103, f104, hf105, hpb106, hat107, hr108, hi109⟩ := ha1.at g100 gx101
        obtain ⟨rfl, hI110, rfl⟩ := hr108
        refine q_g ha rfl (hi109.gives sl40 rfl rfl) ?_; clear ha a; intro a ha; refine q_g ha rfl (g_load0 hE41 Try.isAgg2 rfl hat107.one) ?_; clear ha a; intro a ha; refine q_g ha rfl (g_neq rfl rfl) ?_; clear ha a; intro a ha
        refine q_nil ?_; intro w111 hx112
        have hE113 := Ext.trans hE41 hx112
        replace ha := ha.sub (σ' := [(0, va0), (1, va1), (5, (.int .i64 i39)), (25, (.bool (decide (x87 ≠ x99))))]) ⟨rfl, rfl, rfl, rfl, trivial⟩; refine e_then ?_; refine c_cond (x87 ≠ x99) ha rfl (decide_eq_true_iff) (fun hp114 => ?_) (fun hp114 => ?_)
        · replace hF := if_t hp114 hF
          refine wp_seq ?_; refine wp_region_lit ?_; refine op_g ha rfl (g_assign rfl) ?_; clear ha a; intro a ha; refine wpList_nil ?_; replace ha := ha.sub (σ' := [(4, (.bool false))]) ⟨rfl, trivial⟩; refine e_then ?_; refine wp_ret ?_; refine e_blk_ret ?_; refine e_then_ret ?_; refine e_lq_ret ?_; refine e_then_ret ?_; obtain rfl := Option.some.inj hF
          have e115 := LK_inr hN83; subst e115
          have e116 := BK_inr hK79; subst e116
          exact f_ret1 ha rfl rfl ⟨rfl, hE113⟩
        replace hF := if_f hp114 hF; refine wp_skip ?_; refine e_blk ?_; refine e_then ?_; refine wp_region_lit ?_; refine op_g ha rfl (g_move rfl) ?_; clear ha a; intro a ha; obtain ⟨hI117, hF⟩ := ck_some hF; refine op_g ha rfl (g_add rfl rfl hI117) ?_; clear ha a; intro a ha; refine op_g ha rfl (g_assign rfl) ?_; clear ha a; intro a ha; refine wpList_nil ?_; replace ha := ha.sub (σ' := [(0, va0), (1, va1), (5, (.int .i64 (i39 + 1)))]) ⟨rfl, rfl, rfl, trivial⟩; refine e_lq ?_; obtain rfl := Option.some.inj hF
        exact ⟨_, Nat.lt_succ_self _, i39 + 1, ha.sub ⟨rfl, rfl, rfl, trivial⟩, hE113, hI117, hN83⟩
      replace hF := if_f hp86 hF; refine wp_exit ?_; refine e_then_exit ?_; refine e_lq_eq ?_; obtain rfl := Option.some.inj hF
      exact ⟨ha.sub trivial, hE41, (LK_inr hN83).symm⟩
  rintro a w76 ⟨ha, hE82, rfl⟩
  have hF : F_laws_eqInt64S_k2 = some _ := hK79; clear hK79; unfold F_laws_eqInt64S_k2 at hF
  refine e_then ?_; refine wp_seq ?_; refine wp_region_lit ?_; refine op_g ha rfl (g_assign rfl) ?_; clear ha a; intro a ha; refine wpList_nil ?_; refine e_then ?_; refine wp_ret ?_; obtain rfl := Option.some.inj hF
  exact f_ret1 ha rfl rfl ⟨rfl, hE82⟩
set_option maxHeartbeats 2000000 in
theorem W_laws_eqInt64SS {W : World} {va0 : Value} {fa0 : List Nat} {a0 : (List (List Int))} (ha0 : Ro (Rp.sl 2 Rp.int) W fa0 va0 a0) {va1 : Value} {fa1 : List Nat} {a1 : (List (List Int))} (ha1 : Ro (Rp.sl 2 Rp.int) W fa1 va1 a1) {r : Bool} (hF : F_laws_eqInt64SS a0 a1 = some r) :
    Calls Try.prog 19 [va0, va1].toArray W (Ret fun u w' => u = .bool r ∧ Ext W w') := by
  refine f_enter Try.func19 rfl Try.ntmps19 rfl ?_
  intro a ha
  replace ha : Fr 27 [(0, va0), (1, va1)] a := ha
  have hE : Chg [] W W := Chg.refl _ _
  unfold F_laws_eqInt64SS at hF
  refine wp_seq ?_; refine wp_region_lit ?_; refine op_g ha rfl (g_assign rfl) ?_; clear ha a; intro a ha; refine wpList_nil ?_; replace ha := ha.sub (σ' := [(0, va0), (1, va1)]) ⟨rfl, rfl, trivial⟩; refine e_then ?_; refine wp_seq ?_; refine wp_seq ?_; refine wp_region_lit ?_; refine op_g ha rfl (g_move rfl) ?_; clear ha a; intro a ha; refine op_g ha rfl (g_lenR sl22.und ha0 rfl) ?_; clear ha a; intro a ha; refine op_g ha rfl (g_move rfl) ?_; clear ha a; intro a ha; refine op_g ha rfl (g_lenR sl22.und ha1 rfl) ?_; clear ha a; intro a ha; refine op_g ha rfl (g_neq rfl rfl) ?_; clear ha a; intro a ha
  refine wpList_nil ?_; replace ha := ha.sub (σ' := [(0, va0), (1, va1), (10, (.bool (decide ((a0.length : Int) ≠ (a1.length : Int)))))]) ⟨rfl, rfl, rfl, trivial⟩; refine e_then ?_; refine c_cond ((a0.length : Int) ≠ (a1.length : Int)) ha rfl (decide_eq_true_iff) (fun hp1 => ?_) (fun hp1 => ?_)
  · replace hF := if_t hp1 hF
    refine wp_seq ?_; refine wp_region_lit ?_; refine op_g ha rfl (g_assign rfl) ?_; clear ha a; intro a ha; refine wpList_nil ?_; replace ha := ha.sub (σ' := [(4, (.bool false))]) ⟨rfl, trivial⟩; refine e_then ?_; refine wp_ret ?_; refine e_then_ret ?_; obtain rfl := Option.some.inj hF
    exact f_ret1 ha rfl rfl ⟨rfl, hE⟩
  replace hF := if_f hp1 hF; refine wp_skip ?_; refine e_then ?_; refine wp_seq ?_; refine wp_seq ?_; refine wp_region_lit ?_; refine op_g ha rfl (g_assign rfl) ?_; clear ha a; intro a ha; refine wpList_nil ?_; replace ha := ha.sub (σ' := [(0, va0), (1, va1), (5, (.int .i64 0))]) ⟨rfl, rfl, rfl, trivial⟩; refine e_then ?_; obtain ⟨o93, ho94, hK95⟩ := bnd_some hF
  obtain ⟨n96, hn97⟩ := lp_some ho94; clear ho94
  refine c_loop (fun a w => Fr 27 [] a ∧ Chg [] W w ∧ o93 = .inl ()) (fun n a w => ∃ (i47 : Int), Fr 27 [(0, va0), (1, va1), (5, (.int .i64 i47))] a ∧ Chg [] W w ∧ InI i47 ∧ lpN (fun s => F_laws_eqInt64SS_l1 a0 a1 s) n i47 = some o93) n96 ⟨0, ha.sub ⟨rfl, rfl, rfl, trivial⟩, hE, (show InI 0 from by decide), hn97⟩ ?_ ?_
  · rintro m101 a w46 ⟨i47, ha, hE49, hI48, hF⟩
    cases m101 with
    | zero => exact (lpN_zero hF).elim
    | succ m101 =>
      obtain ⟨z100, hF, hN99⟩ := lpN_succ hF
      have hF : F_laws_eqInt64SS_l1 a0 a1 i47 = some z100 := hF; unfold F_laws_eqInt64SS_l1 at hF
      refine wp_seq ?_; refine wp_seq ?_; refine wp_region_lit ?_; (iterate 2 refine op_g ha rfl (g_move rfl) ?_; clear ha a; intro a ha); refine op_g ha rfl (g_lenR sl22.und ha0 rfl) ?_; clear ha a; intro a ha; refine op_g ha rfl (g_lss rfl rfl) ?_; clear ha a; intro a ha; refine wpList_nil ?_; replace ha := ha.sub (σ' := [(0, va0), (1, va1), (5, (.int .i64 i47)), (14, (.bool (decide (i47 < (a0.length : Int)))))]) ⟨rfl, rfl, rfl, rfl, trivial⟩; refine e_then ?_; refine c_cond (i47 < (a0.length : Int)) ha rfl (decide_eq_true_iff) (fun hp102 => ?_) (fun hp102 => ?_)
      · replace hF := if_t hp102 hF
        refine wp_skip ?_; refine e_then ?_; refine wp_seq ?_; refine wp_block ?_; refine wp_seq ?_; refine d_quiet hmix (by kernel_rfl) ?_; (iterate 2 refine q_g ha rfl (g_move rfl) ?_; clear ha a; intro a ha); obtain ⟨x103, g104, gx105, hF⟩ := idx_some hF
        obtain ⟨p106, cs107, f108, hf109, hpb110, hat111, hr112, hi113⟩ := ha0.at g104 gx105
        obtain ⟨v114, rfl, h115⟩ := hr112
        have h115 : Ro Rp.int W f108 v114 x103 := h115
        refine q_g ha rfl (hi113.gives sl22 rfl rfl) ?_; clear ha a; intro a ha; refine q_g ha rfl (g_load0 hE49 Try.isAgg40 rfl hat111.one) ?_; clear ha a; intro a ha; (iterate 2 refine q_g ha rfl (g_move rfl) ?_; clear ha a; intro a ha); obtain ⟨x117, g118, gx119, hF⟩ := idx_some hF
        obtain ⟨p120, cs121, f122, hf123, hpb124, hat125, hr126, hi127⟩ := ha1.at g118 gx119
        obtain ⟨v128, rfl, h129⟩ := hr126
        have h129 : Ro Rp.int W f122 v128 x117 := h129
        refine q_g ha rfl (hi127.gives sl22 rfl rfl) ?_; clear ha a; intro a ha; refine q_g ha rfl (g_load0 hE49 Try.isAgg40 rfl hat125.one) ?_; clear ha a; intro a ha; obtain ⟨x133, hc134, hF⟩ := cal_some hF; refine q_call (.bool x133) ha rfl rfl Try.call18 (fun w132 hx131 => W_laws_eqInt64S (h115.ext (Ext.trans hE49 hx131)) (h129.ext (Ext.trans hE49 hx131)) hc134) (fun _ _ _ h => ⟨h.1, h.2⟩) ?_; clear ha a; intro a ha; refine q_g ha rfl (g_not rfl) ?_; clear ha a; intro a ha
        refine q_nil ?_; intro w135 hx136
        have hE137 := Ext.trans hE49 hx136
        replace ha := ha.sub (σ' := [(0, va0), (1, va1), (5, (.int .i64 i47)), (26, (.bool (!x133)))]) ⟨rfl, rfl, rfl, rfl, trivial⟩; refine e_then ?_; refine c_cond (¬ (x133 = true)) ha rfl (n_iff (Iff.rfl)) (fun hp138 => ?_) (fun hp138 => ?_)
        · replace hF := if_t hp138 hF
          refine wp_seq ?_; refine wp_region_lit ?_; refine op_g ha rfl (g_assign rfl) ?_; clear ha a; intro a ha; refine wpList_nil ?_; replace ha := ha.sub (σ' := [(4, (.bool false))]) ⟨rfl, trivial⟩; refine e_then ?_; refine wp_ret ?_; refine e_blk_ret ?_; refine e_then_ret ?_; refine e_lq_ret ?_; refine e_then_ret ?_; obtain rfl := Option.some.inj hF
          have e139 := LK_inr hN99; subst e139
          have e140 := BK_inr hK95; subst e140
          exact f_ret1 ha rfl rfl ⟨rfl, hE137⟩
        replace hF := if_f hp138 hF; refine wp_skip ?_; refine e_blk ?_; refine e_then ?_; refine wp_region_lit ?_; refine op_g ha rfl (g_move rfl) ?_; clear ha a; intro a ha; obtain ⟨hI141, hF⟩ := ck_some hF; refine op_g ha rfl (g_add rfl rfl hI141) ?_; clear ha a; intro a ha; refine op_g ha rfl (g_assign rfl) ?_; clear ha a; intro a ha; refine wpList_nil ?_; replace ha := ha.sub (σ' := [(0, va0), (1, va1), (5, (.int .i64 (i47 + 1)))]) ⟨rfl, rfl, rfl, trivial⟩; refine e_lq ?_; obtain rfl := Option.some.inj hF
        exact ⟨_, Nat.lt_succ_self _, i47 + 1, ha.sub ⟨rfl, rfl, rfl, trivial⟩, hE137, hI141, hN99⟩
      replace hF := if_f hp102 hF; refine wp_exit ?_; refine e_then_exit ?_; refine e_lq_eq ?_; obtain rfl := Option.some.inj hF
      exact ⟨ha.sub trivial, hE49, (LK_inr hN99).symm⟩
  rintro a w92 ⟨ha, hE98, rfl⟩
  have hF : F_laws_eqInt64SS_k2 = some _ := hK95; clear hK95; unfold F_laws_eqInt64SS_k2 at hF
  refine e_then ?_; refine wp_seq ?_; refine wp_region_lit ?_; refine op_g ha rfl (g_assign rfl) ?_; clear ha a; intro a ha; refine wpList_nil ?_; refine e_then ?_; refine wp_ret ?_; obtain rfl := Option.some.inj hF
  exact f_ret1 ha rfl rfl ⟨rfl, hE98⟩
set_option maxHeartbeats 2000000 in
theorem W_laws_eqGraph {W : World} {va0_0 : Value} {fa0_0 : List Nat} {a0_0 : (List (List Int))} (ha0_0 : Ro (Rp.sl 2 Rp.int) W fa0_0 va0_0 a0_0) {va1_0 : Value} {fa1_0 : List Nat} {a1_0 : (List (List Int))} (ha1_0 : Ro (Rp.sl 2 Rp.int) W fa1_0 va1_0 a1_0) {r : Bool} (hF : F_laws_eqGraph a0_0 a1_0 = some r) :
    Calls Try.prog 11 [.agg #[va0_0], .agg #[va1_0]].toArray W (Ret fun u w' => u = .bool r ∧ Ext W w') := by
  refine f_enter Try.func11 rfl Try.ntmps11 rfl ?_
  intro a ha
  replace ha : Fr 11 [(0, (.agg #[va0_0])), (1, (.agg #[va1_0]))] a := ha
  have hE : Chg [] W W := Chg.refl _ _
  unfold F_laws_eqGraph at hF
  refine wp_seq ?_; refine wp_region_lit ?_
  refine o_box ha rfl rfl rfl ?_; clear ha a; intro b1 w2 hB3 hx4 hlo5 a ha
  have q6 := Zn.one hlo5
  have q7 := Zn.upD q6 hE
  have hE8 := Ext.trans hE hx4
  refine o_box ha rfl rfl rfl ?_; clear ha a; intro b9 w10 hB11 hx12 hlo13 a ha
  have q14 := Zn.one hlo13
  have q15 := Nq.new hB3.fpb q14
  have q16 := Nq.made1 hlo13 hB3.bi
  have q17 := Zn.upD q14 hE8
  replace hB3 := hB3.ext hx12
  have hE18 := Ext.trans hE8 hx12
  refine op_g ha rfl (g_assign rfl) ?_; clear ha a; intro a ha; refine wpList_nil ?_; replace ha := ha.sub (σ' := [(2, (.pointer (some ⟨b1, 0, none⟩))), (3, (.pointer (some ⟨b9, 0, none⟩)))]) ⟨rfl, rfl, trivial⟩; refine e_then ?_; refine wp_seq ?_; refine wp_seq ?_; refine wp_region_lit ?_; refine op_g ha rfl (g_field0 st31_0 rfl) ?_; clear ha a; intro a ha; refine op_g ha rfl (g_load Try.isAgg22 rfl (hB3.cell rfl)) ?_; clear ha a; intro a ha; refine op_g ha rfl (g_field0 st31_0 rfl) ?_; clear ha a; intro a ha; refine op_g ha rfl (g_load Try.isAgg22 rfl (hB11.cell rfl)) ?_; clear ha a; intro a ha
  obtain ⟨x19, hc20, hF⟩ := cal_some hF
  refine o_call ha rfl rfl Try.call19 (W_laws_eqInt64SS (ha0_0.ext hE18) (ha1_0.ext hE18) hc20) ?_; clear ha a; rintro v21 w22 ⟨rfl, hx23⟩ a ha
  replace hB3 := hB3.ext hx23
  replace hB11 := hB11.ext hx23
  have hE24 := Ext.trans hE18 hx23
  refine op_g ha rfl (g_not rfl) ?_; clear ha a; intro a ha; refine wpList_nil ?_; replace ha := ha.sub (σ' := [(10, (.bool (!x19)))]) ⟨rfl, trivial⟩; refine e_then ?_; refine c_cond (¬ (x19 = true)) ha rfl (n_iff (Iff.rfl)) (fun hp25 => ?_) (fun hp25 => ?_)
  · replace hF := if_t hp25 hF
    refine wp_seq ?_; refine wp_region_lit ?_; refine op_g ha rfl (g_assign rfl) ?_; clear ha a; intro a ha; refine wpList_nil ?_; replace ha := ha.sub (σ' := [(4, (.bool false))]) ⟨rfl, trivial⟩; refine e_then ?_; refine wp_ret ?_; refine e_then_ret ?_; obtain rfl := Option.some.inj hF
    exact f_ret1 ha rfl rfl ⟨rfl, hE24⟩
  replace hF := if_f hp25 hF; refine wp_skip ?_; refine e_then ?_; refine wp_seq ?_; refine wp_region_lit ?_; refine op_g ha rfl (g_assign rfl) ?_; clear ha a; intro a ha; refine wpList_nil ?_; replace ha := ha.sub (σ' := [(4, (.bool true))]) ⟨rfl, trivial⟩; refine e_then ?_; refine wp_ret ?_; obtain rfl := Option.some.inj hF
  exact f_ret1 ha rfl rfl ⟨rfl, hE24⟩
set_option maxHeartbeats 2000000 in
theorem W_laws_eqFact {W : World} {a0_0 : Int} (ha0_0 : InI a0_0) {a0_1 : Int} (ha0_1 : InI a0_1) {a0_2 : Int} (ha0_2 : InI a0_2) {a1_0 : Int} (ha1_0 : InI a1_0) {a1_1 : Int} (ha1_1 : InI a1_1) {a1_2 : Int} (ha1_2 : InI a1_2) {r : Bool} (hF : F_laws_eqFact a0_0 a0_1 a0_2 a1_0 a1_1 a1_2 = some r) :
    Calls Try.prog 45 [.agg #[.int .i64 a0_0, .int .i64 a0_1, .int .i64 a0_2], .agg #[.int .i64 a1_0, .int .i64 a1_1, .int .i64 a1_2]].toArray W (Ret fun u w' => u = .bool r ∧ Ext W w') := by
  refine f_enter Try.func45 rfl Try.ntmps45 rfl ?_
  intro a ha
  replace ha : Fr 20 [(0, (.agg #[(.int .i64 a0_0), (.int .i64 a0_1), (.int .i64 a0_2)])), (1, (.agg #[(.int .i64 a1_0), (.int .i64 a1_1), (.int .i64 a1_2)]))] a := ha
  have hE : Chg [] W W := Chg.refl _ _
  unfold F_laws_eqFact at hF
  refine wp_seq ?_; refine wp_region_lit ?_
  refine o_box ha rfl rfl rfl ?_; clear ha a; intro b1 w2 hB3 hx4 hlo5 a ha
  have q6 := Zn.one hlo5
  have q7 := Zn.upD q6 hE
  have hE8 := Ext.trans hE hx4
  refine o_box ha rfl rfl rfl ?_; clear ha a; intro b9 w10 hB11 hx12 hlo13 a ha
  have q14 := Zn.one hlo13
  have q15 := Nq.new hB3.fpb q14
  have q16 := Nq.made1 hlo13 hB3.bi
  have q17 := Zn.upD q14 hE8
  replace hB3 := hB3.ext hx12
  have hE18 := Ext.trans hE8 hx12
  refine op_g ha rfl (g_assign rfl) ?_; clear ha a; intro a ha; refine wpList_nil ?_; replace ha := ha.sub (σ' := [(2, (.pointer (some ⟨b1, 0, none⟩))), (3, (.pointer (some ⟨b9, 0, none⟩)))]) ⟨rfl, rfl, trivial⟩; refine e_then ?_; refine wp_seq ?_; refine wp_seq ?_; refine wp_region_lit ?_; refine op_g ha rfl (g_field0 st71_0 rfl) ?_; clear ha a; intro a ha; refine op_g ha rfl (g_load Try.isAgg2 rfl (hB3.cell rfl)) ?_; clear ha a; intro a ha; refine op_g ha rfl (g_field0 st71_0 rfl) ?_; clear ha a; intro a ha; refine op_g ha rfl (g_load Try.isAgg2 rfl (hB11.cell rfl)) ?_; clear ha a; intro a ha
  refine op_g ha rfl (g_neq rfl rfl) ?_; clear ha a; intro a ha; refine wpList_nil ?_; replace ha := ha.sub (σ' := [(2, (.pointer (some ⟨b1, 0, none⟩))), (3, (.pointer (some ⟨b9, 0, none⟩))), (9, (.bool (decide (a0_0 ≠ a1_0))))]) ⟨rfl, rfl, rfl, trivial⟩; refine e_then ?_; refine c_cond (a0_0 ≠ a1_0) ha rfl (decide_eq_true_iff) (fun hp19 => ?_) (fun hp19 => ?_)
  · replace hF := if_t hp19 hF
    refine wp_seq ?_; refine wp_region_lit ?_; refine op_g ha rfl (g_assign rfl) ?_; clear ha a; intro a ha; refine wpList_nil ?_; replace ha := ha.sub (σ' := [(4, (.bool false))]) ⟨rfl, trivial⟩; refine e_then ?_; refine wp_ret ?_; refine e_then_ret ?_; obtain rfl := Option.some.inj hF
    exact f_ret1 ha rfl rfl ⟨rfl, hE18⟩
  replace hF := if_f hp19 hF; refine wp_skip ?_; refine e_then ?_; refine wp_seq ?_; refine wp_seq ?_; refine wp_region_lit ?_; refine op_g ha rfl (g_field0 st71_1 rfl) ?_; clear ha a; intro a ha; refine op_g ha rfl (g_load Try.isAgg2 rfl (hB3.cell rfl)) ?_; clear ha a; intro a ha; refine op_g ha rfl (g_field0 st71_1 rfl) ?_; clear ha a; intro a ha; refine op_g ha rfl (g_load Try.isAgg2 rfl (hB11.cell rfl)) ?_; clear ha a; intro a ha; refine op_g ha rfl (g_neq rfl rfl) ?_; clear ha a; intro a ha; refine wpList_nil ?_; replace ha := ha.sub (σ' := [(2, (.pointer (some ⟨b1, 0, none⟩))), (3, (.pointer (some ⟨b9, 0, none⟩))), (14, (.bool (decide (a0_1 ≠ a1_1))))]) ⟨rfl, rfl, rfl, trivial⟩
  refine e_then ?_; refine c_cond (a0_1 ≠ a1_1) ha rfl (decide_eq_true_iff) (fun hp20 => ?_) (fun hp20 => ?_)
  · replace hF := if_t hp20 hF
    refine wp_seq ?_; refine wp_region_lit ?_; refine op_g ha rfl (g_assign rfl) ?_; clear ha a; intro a ha; refine wpList_nil ?_; replace ha := ha.sub (σ' := [(4, (.bool false))]) ⟨rfl, trivial⟩; refine e_then ?_; refine wp_ret ?_; refine e_then_ret ?_; obtain rfl := Option.some.inj hF
    exact f_ret1 ha rfl rfl ⟨rfl, hE18⟩
  replace hF := if_f hp20 hF; refine wp_skip ?_; refine e_then ?_; refine wp_seq ?_; refine wp_seq ?_; refine wp_region_lit ?_; refine op_g ha rfl (g_field0 st71_2 rfl) ?_; clear ha a; intro a ha; refine op_g ha rfl (g_load Try.isAgg2 rfl (hB3.cell rfl)) ?_; clear ha a; intro a ha; refine op_g ha rfl (g_field0 st71_2 rfl) ?_; clear ha a; intro a ha; refine op_g ha rfl (g_load Try.isAgg2 rfl (hB11.cell rfl)) ?_; clear ha a; intro a ha; refine op_g ha rfl (g_neq rfl rfl) ?_; clear ha a; intro a ha; refine wpList_nil ?_; replace ha := ha.sub (σ' := [(19, (.bool (decide (a0_2 ≠ a1_2))))]) ⟨rfl, trivial⟩
  refine e_then ?_; refine c_cond (a0_2 ≠ a1_2) ha rfl (decide_eq_true_iff) (fun hp21 => ?_) (fun hp21 => ?_)
  · replace hF := if_t hp21 hF
    refine wp_seq ?_; refine wp_region_lit ?_; refine op_g ha rfl (g_assign rfl) ?_; clear ha a; intro a ha; refine wpList_nil ?_; replace ha := ha.sub (σ' := [(4, (.bool false))]) ⟨rfl, trivial⟩; refine e_then ?_; refine wp_ret ?_; refine e_then_ret ?_; obtain rfl := Option.some.inj hF
    exact f_ret1 ha rfl rfl ⟨rfl, hE18⟩
  replace hF := if_f hp21 hF; refine wp_skip ?_; refine e_then ?_; refine wp_seq ?_; refine wp_region_lit ?_; refine op_g ha rfl (g_assign rfl) ?_; clear ha a; intro a ha; refine wpList_nil ?_; replace ha := ha.sub (σ' := [(4, (.bool true))]) ⟨rfl, trivial⟩; refine e_then ?_; refine wp_ret ?_; obtain rfl := Option.some.inj hF
  exact f_ret1 ha rfl rfl ⟨rfl, hE18⟩
set_option maxHeartbeats 2000000 in
theorem W_laws_eqFactS {W : World} {va0 : Value} {fa0 : List Nat} {a0 : (List (Int × (Int × Int)))} (ha0 : Ro (Rp.prod Rp.int (Rp.prod Rp.int Rp.int)) W fa0 va0 a0) {va1 : Value} {fa1 : List Nat} {a1 : (List (Int × (Int × Int)))} (ha1 : Ro (Rp.prod Rp.int (Rp.prod Rp.int Rp.int)) W fa1 va1 a1) {r : Bool} (hF : F_laws_eqFactS a0 a1 = some r) :
    Calls Try.prog 26 [va0, va1].toArray W (Ret fun u w' => u = .bool r ∧ Ext W w') := by
  refine f_enter Try.func26 rfl Try.ntmps26 rfl ?_
  intro a ha
  replace ha : Fr 27 [(0, va0), (1, va1)] a := ha
  have hE : Chg [] W W := Chg.refl _ _
  unfold F_laws_eqFactS at hF
  refine wp_seq ?_; refine wp_region_lit ?_; refine op_g ha rfl (g_assign rfl) ?_; clear ha a; intro a ha; refine wpList_nil ?_; replace ha := ha.sub (σ' := [(0, va0), (1, va1)]) ⟨rfl, rfl, trivial⟩; refine e_then ?_; refine wp_seq ?_; refine wp_seq ?_; refine wp_region_lit ?_; refine op_g ha rfl (g_move rfl) ?_; clear ha a; intro a ha; refine op_g ha rfl (g_lenR sl33.und ha0 rfl) ?_; clear ha a; intro a ha; refine op_g ha rfl (g_move rfl) ?_; clear ha a; intro a ha; refine op_g ha rfl (g_lenR sl33.und ha1 rfl) ?_; clear ha a; intro a ha; refine op_g ha rfl (g_neq rfl rfl) ?_; clear ha a; intro a ha
  refine wpList_nil ?_; replace ha := ha.sub (σ' := [(0, va0), (1, va1), (10, (.bool (decide ((a0.length : Int) ≠ (a1.length : Int)))))]) ⟨rfl, rfl, rfl, trivial⟩; refine e_then ?_; refine c_cond ((a0.length : Int) ≠ (a1.length : Int)) ha rfl (decide_eq_true_iff) (fun hp1 => ?_) (fun hp1 => ?_)
  · replace hF := if_t hp1 hF
    refine wp_seq ?_; refine wp_region_lit ?_; refine op_g ha rfl (g_assign rfl) ?_; clear ha a; intro a ha; refine wpList_nil ?_; replace ha := ha.sub (σ' := [(4, (.bool false))]) ⟨rfl, trivial⟩; refine e_then ?_; refine wp_ret ?_; refine e_then_ret ?_; obtain rfl := Option.some.inj hF
    exact f_ret1 ha rfl rfl ⟨rfl, hE⟩
  replace hF := if_f hp1 hF; refine wp_skip ?_; refine e_then ?_; refine wp_seq ?_; refine wp_seq ?_; refine wp_region_lit ?_; refine op_g ha rfl (g_assign rfl) ?_; clear ha a; intro a ha; refine wpList_nil ?_; replace ha := ha.sub (σ' := [(0, va0), (1, va1), (5, (.int .i64 0))]) ⟨rfl, rfl, rfl, trivial⟩; refine e_then ?_; obtain ⟨o157, ho158, hK159⟩ := bnd_some hF
  obtain ⟨n160, hn161⟩ := lp_some ho158; clear ho158
  refine c_loop (fun a w => Fr 27 [] a ∧ Chg [] W w ∧ o157 = .inl ()) (fun n a w => ∃ (i79 : Int), Fr 27 [(0, va0), (1, va1), (5, (.int .i64 i79))] a ∧ Chg [] W w ∧ InI i79 ∧ lpN (fun s => F_laws_eqFactS_l1 a0 a1 s) n i79 = some o157) n160 ⟨0, ha.sub ⟨rfl, rfl, rfl, trivial⟩, hE, (show InI 0 from by decide), hn161⟩ ?_ ?_
  · rintro m165 a w78 ⟨i79, ha, hE81, hI80, hF⟩
    cases m165 with
    | zero => exact (lpN_zero hF).elim
    | succ m165 =>
      obtain ⟨z164, hF, hN163⟩ := lpN_succ hF
      have hF : F_laws_eqFactS_l1 a0 a1 i79 = some z164 := hF; unfold F_laws_eqFactS_l1 at hF
      refine wp_seq ?_; refine wp_seq ?_; refine wp_region_lit ?_; (iterate 2 refine op_g ha rfl (g_move rfl) ?_; clear ha a; intro a ha); refine op_g ha rfl (g_lenR sl33.und ha0 rfl) ?_; clear ha a; intro a ha; refine op_g ha rfl (g_lss rfl rfl) ?_; clear ha a; intro a ha; refine wpList_nil ?_; replace ha := ha.sub (σ' := [(0, va0), (1, va1), (5, (.int .i64 i79)), (14, (.bool (decide (i79 < (a0.length : Int)))))]) ⟨rfl, rfl, rfl, rfl, trivial⟩; refine e_then ?_; refine c_cond (i79 < (a0.length : Int)) ha rfl (decide_eq_true_iff) (fun hp166 => ?_) (fun hp166 => ?_)
      · replace hF := if_t hp166 hF
        refine wp_skip ?_; refine e_then ?_; refine wp_seq ?_; refine wp_block ?_; refine wp_seq ?_; refine d_quiet hmix (by kernel_rfl) ?_; (iterate 2 refine q_g ha rfl (g_move rfl) ?_; clear ha a; intro a ha); obtain ⟨x167, g168, gx169, hF⟩ := idx_some hF
        obtain ⟨p170, cs171, f172, hf173, hpb174, hat175, hr176, hi177⟩ := ha0.at g168 gx169
        obtain ⟨f178, f179, c180, c181, rfl, rfl, h182, h183⟩ := hr176
        obtain ⟨rfl, hI186, rfl⟩ := h182
        obtain ⟨f187, f188, c189, c190, rfl, rfl, h191, h192⟩ := h183
        obtain ⟨rfl, hI195, rfl⟩ := h191
        obtain ⟨rfl, hI196, rfl⟩ := h192
        refine q_g ha rfl (hi177.gives sl33 rfl rfl) ?_; clear ha a; intro a ha; refine q_g ha rfl (g_loadA0 (cs := [(.int .i64 x167.1), (.int .i64 x167.2.1), (.int .i64 x167.2.2)]) hE81 Try.isAgg71 Try.sizeOf71 rfl (by simp) hat175) ?_; clear ha a; intro a ha; (iterate 2 refine q_g ha rfl (g_move rfl) ?_; clear ha a; intro a ha); obtain ⟨x197, g198, gx199, hF⟩ := idx_some hF
        obtain ⟨p200, cs201, f202, hf203, hpb204, hat205, hr206, hi207⟩ := ha1.at g198 gx199
        obtain ⟨f208, f209, c210, c211, rfl, rfl, h212, h213⟩ := hr206
        obtain ⟨rfl, hI216, rfl⟩ := h212
        obtain ⟨f217, f218, c219, c220, rfl, rfl, h221, h222⟩ := h213
        obtain ⟨rfl, hI225, rfl⟩ := h221
        obtain ⟨rfl, hI226, rfl⟩ := h222
        refine q_g ha rfl (hi207.gives sl33 rfl rfl) ?_; clear ha a; intro a ha; refine q_g ha rfl (g_loadA0 (cs := [(.int .i64 x197.1), (.int .i64 x197.2.1), (.int .i64 x197.2.2)]) hE81 Try.isAgg71 Try.sizeOf71 rfl (by simp) hat205) ?_; clear ha a; intro a ha; obtain ⟨x229, hc230, hF⟩ := cal_some hF; refine q_call (.bool x229) ha rfl rfl Try.call45 (fun w228 hx227 => W_laws_eqFact hI186 hI195 hI196 hI216 hI225 hI226 hc230) (fun _ _ _ h => ⟨h.1, h.2⟩) ?_; clear ha a; intro a ha; refine q_g ha rfl (g_not rfl) ?_; clear ha a; intro a ha
        refine q_nil ?_; intro w231 hx232
        have hE233 := Ext.trans hE81 hx232
        replace ha := ha.sub (σ' := [(0, va0), (1, va1), (5, (.int .i64 i79)), (26, (.bool (!x229)))]) ⟨rfl, rfl, rfl, rfl, trivial⟩; refine e_then ?_; refine c_cond (¬ (x229 = true)) ha rfl (n_iff (Iff.rfl)) (fun hp234 => ?_) (fun hp234 => ?_)
        · replace hF := if_t hp234 hF
          refine wp_seq ?_; refine wp_region_lit ?_; refine op_g ha rfl (g_assign rfl) ?_; clear ha a; intro a ha; refine wpList_nil ?_; replace ha := ha.sub (σ' := [(4, (.bool false))]) ⟨rfl, trivial⟩; refine e_then ?_; refine wp_ret ?_; refine e_blk_ret ?_; refine e_then_ret ?_; refine e_lq_ret ?_; refine e_then_ret ?_; obtain rfl := Option.some.inj hF
          have e235 := LK_inr hN163; subst e235
          have e236 := BK_inr hK159; subst e236
          exact f_ret1 ha rfl rfl ⟨rfl, hE233⟩
        replace hF := if_f hp234 hF; refine wp_skip ?_; refine e_blk ?_; refine e_then ?_; refine wp_region_lit ?_; refine op_g ha rfl (g_move rfl) ?_; clear ha a; intro a ha; obtain ⟨hI237, hF⟩ := ck_some hF; refine op_g ha rfl (g_add rfl rfl hI237) ?_; clear ha a; intro a ha; refine op_g ha rfl (g_assign rfl) ?_; clear ha a; intro a ha; refine wpList_nil ?_; replace ha := ha.sub (σ' := [(0, va0), (1, va1), (5, (.int .i64 (i79 + 1)))]) ⟨rfl, rfl, rfl, trivial⟩; refine e_lq ?_; obtain rfl := Option.some.inj hF
        exact ⟨_, Nat.lt_succ_self _, i79 + 1, ha.sub ⟨rfl, rfl, rfl, trivial⟩, hE233, hI237, hN163⟩
      replace hF := if_f hp166 hF; refine wp_exit ?_; refine e_then_exit ?_; refine e_lq_eq ?_; obtain rfl := Option.some.inj hF
      exact ⟨ha.sub trivial, hE81, (LK_inr hN163).symm⟩
  rintro a w156 ⟨ha, hE162, rfl⟩
  have hF : F_laws_eqFactS_k2 = some _ := hK159; clear hK159; unfold F_laws_eqFactS_k2 at hF
  refine e_then ?_; refine wp_seq ?_; refine wp_region_lit ?_; refine op_g ha rfl (g_assign rfl) ?_; clear ha a; intro a ha; refine wpList_nil ?_; refine e_then ?_; refine wp_ret ?_; obtain rfl := Option.some.inj hF
  exact f_ret1 ha rfl rfl ⟨rfl, hE162⟩
set_option maxHeartbeats 2000000 in
theorem W_laws_eqFormula {W : World} {va0_0 : Value} {fa0_0 : List Nat} {a0_0 : (List (Int × (Int × Int)))} (ha0_0 : Ro (Rp.prod Rp.int (Rp.prod Rp.int Rp.int)) W fa0_0 va0_0 a0_0) {va1_0 : Value} {fa1_0 : List Nat} {a1_0 : (List (Int × (Int × Int)))} (ha1_0 : Ro (Rp.prod Rp.int (Rp.prod Rp.int Rp.int)) W fa1_0 va1_0 a1_0) {r : Bool} (hF : F_laws_eqFormula a0_0 a1_0 = some r) :
    Calls Try.prog 12 [.agg #[va0_0], .agg #[va1_0]].toArray W (Ret fun u w' => u = .bool r ∧ Ext W w') := by
  refine f_enter Try.func12 rfl Try.ntmps12 rfl ?_
  intro a ha
  replace ha : Fr 11 [(0, (.agg #[va0_0])), (1, (.agg #[va1_0]))] a := ha
  have hE : Chg [] W W := Chg.refl _ _
  unfold F_laws_eqFormula at hF
  refine wp_seq ?_; refine wp_region_lit ?_
  refine o_box ha rfl rfl rfl ?_; clear ha a; intro b1 w2 hB3 hx4 hlo5 a ha
  have q6 := Zn.one hlo5
  have q7 := Zn.upD q6 hE
  have hE8 := Ext.trans hE hx4
  refine o_box ha rfl rfl rfl ?_; clear ha a; intro b9 w10 hB11 hx12 hlo13 a ha
  have q14 := Zn.one hlo13
  have q15 := Nq.new hB3.fpb q14
  have q16 := Nq.made1 hlo13 hB3.bi
  have q17 := Zn.upD q14 hE8
  replace hB3 := hB3.ext hx12
  have hE18 := Ext.trans hE8 hx12
  refine op_g ha rfl (g_assign rfl) ?_; clear ha a; intro a ha; refine wpList_nil ?_; replace ha := ha.sub (σ' := [(2, (.pointer (some ⟨b1, 0, none⟩))), (3, (.pointer (some ⟨b9, 0, none⟩)))]) ⟨rfl, rfl, trivial⟩; refine e_then ?_; refine wp_seq ?_; refine wp_seq ?_; refine wp_region_lit ?_; refine op_g ha rfl (g_field0 st35_0 rfl) ?_; clear ha a; intro a ha; refine op_g ha rfl (g_load Try.isAgg33 rfl (hB3.cell rfl)) ?_; clear ha a; intro a ha; refine op_g ha rfl (g_field0 st35_0 rfl) ?_; clear ha a; intro a ha; refine op_g ha rfl (g_load Try.isAgg33 rfl (hB11.cell rfl)) ?_; clear ha a; intro a ha
  obtain ⟨x19, hc20, hF⟩ := cal_some hF
  refine o_call ha rfl rfl Try.call26 (W_laws_eqFactS (ha0_0.ext hE18) (ha1_0.ext hE18) hc20) ?_; clear ha a; rintro v21 w22 ⟨rfl, hx23⟩ a ha
  replace hB3 := hB3.ext hx23
  replace hB11 := hB11.ext hx23
  have hE24 := Ext.trans hE18 hx23
  refine op_g ha rfl (g_not rfl) ?_; clear ha a; intro a ha; refine wpList_nil ?_; replace ha := ha.sub (σ' := [(10, (.bool (!x19)))]) ⟨rfl, trivial⟩; refine e_then ?_; refine c_cond (¬ (x19 = true)) ha rfl (n_iff (Iff.rfl)) (fun hp25 => ?_) (fun hp25 => ?_)
  · replace hF := if_t hp25 hF
    refine wp_seq ?_; refine wp_region_lit ?_; refine op_g ha rfl (g_assign rfl) ?_; clear ha a; intro a ha; refine wpList_nil ?_; replace ha := ha.sub (σ' := [(4, (.bool false))]) ⟨rfl, trivial⟩; refine e_then ?_; refine wp_ret ?_; refine e_then_ret ?_; obtain rfl := Option.some.inj hF
    exact f_ret1 ha rfl rfl ⟨rfl, hE24⟩
  replace hF := if_f hp25 hF; refine wp_skip ?_; refine e_then ?_; refine wp_seq ?_; refine wp_region_lit ?_; refine op_g ha rfl (g_assign rfl) ?_; clear ha a; intro a ha; refine wpList_nil ?_; replace ha := ha.sub (σ' := [(4, (.bool true))]) ⟨rfl, trivial⟩; refine e_then ?_; refine wp_ret ?_; obtain rfl := Option.some.inj hF
  exact f_ret1 ha rfl rfl ⟨rfl, hE24⟩
set_option maxHeartbeats 2000000 in
theorem W_laws_FnExactSaysOf {W : World} {va0_0 : Value} {fa0_0 : List Nat} {a0_0 : (List (List Int))} (ha0_0 : Ro (Rp.sl 2 Rp.int) W fa0_0 va0_0 a0_0) {va1_0 : Value} {fa1_0 : List Nat} {a1_0 : (List (Int × (Int × Int)))} (ha1_0 : Ro (Rp.prod Rp.int (Rp.prod Rp.int Rp.int)) W fa1_0 va1_0 a1_0) {r : Bool} (hF : F_laws_FnExactSaysOf a0_0 a1_0 = some r) :
    Calls Try.prog 3 [.agg #[va0_0], .agg #[va1_0]].toArray W (Ret fun u w' => u = .bool r ∧ Ext W w') := by
  refine f_enter Try.func3 rfl Try.ntmps3 rfl ?_
  intro a ha
  replace ha : Fr 45 [(0, (.agg #[va0_0])), (1, (.agg #[va1_0]))] a := ha
  have hE : Chg [] W W := Chg.refl _ _
  unfold F_laws_FnExactSaysOf at hF
  refine wp_seq ?_; refine wp_region_lit ?_
  refine o_box ha rfl rfl rfl ?_; clear ha a; intro b1 w2 hB3 hx4 hlo5 a ha
  have q6 := Zn.one hlo5
  have q7 := Zn.upD q6 hE
  have hE8 := Ext.trans hE hx4
  refine o_box ha rfl rfl rfl ?_; clear ha a; intro b9 w10 hB11 hx12 hlo13 a ha
  have q14 := Zn.one hlo13
  have q15 := Nq.new hB3.fpb q14
  have q16 := Nq.made1 hlo13 hB3.bi
  have q17 := Zn.upD q14 hE8
  replace hB3 := hB3.ext hx12
  have hE18 := Ext.trans hE8 hx12
  refine op_g ha rfl (g_assign rfl) ?_; clear ha a; intro a ha; refine wpList_nil ?_; replace ha := ha.sub (σ' := [(2, (.pointer (some ⟨b1, 0, none⟩))), (3, (.pointer (some ⟨b9, 0, none⟩)))]) ⟨rfl, rfl, trivial⟩; refine e_then ?_; refine wp_seq ?_; refine wp_region_lit ?_; refine op_g ha rfl (g_assign rfl) ?_; clear ha a; intro a ha; refine wpList_nil ?_; refine e_then ?_; refine wp_seq ?_; refine wp_region_lit ?_; refine op_g ha rfl (g_loadA (cs := [va0_0]) Try.isAgg24 Try.sizeOf24 rfl (by simp) hB3.all) ?_; clear ha a; intro a ha; refine op_g ha rfl (g_move rfl) ?_; clear ha a; intro a ha; obtain ⟨x19, hc20, hF⟩ := cal_some hF
  refine o_call ha rfl rfl Try.call5 (W_laws_szGraph (ha0_0.ext hE18) (show InI 1048576 from by decide) hc20) ?_; clear ha a; rintro v21 w22 ⟨⟨rfl, hI24⟩, hx23⟩ a ha
  replace hB3 := hB3.ext hx23
  replace hB11 := hB11.ext hx23
  have hE25 := Ext.trans hE18 hx23
  refine op_g ha rfl (g_assign rfl) ?_; clear ha a; intro a ha; refine wpList_nil ?_; replace ha := ha.sub (σ' := [(2, (.pointer (some ⟨b1, 0, none⟩))), (3, (.pointer (some ⟨b9, 0, none⟩))), (5, (.int .i64 x19))]) ⟨rfl, rfl, rfl, trivial⟩; refine e_then ?_; refine wp_seq ?_; refine wp_seq ?_; refine wp_region_lit ?_; refine op_g ha rfl (g_move rfl) ?_; clear ha a; intro a ha; refine op_g ha rfl (g_lss rfl rfl) ?_; clear ha a; intro a ha; refine wpList_nil ?_; replace ha := ha.sub (σ' := [(2, (.pointer (some ⟨b1, 0, none⟩))), (3, (.pointer (some ⟨b9, 0, none⟩))), (5, (.int .i64 x19)), (14, (.bool (decide (x19 < 0))))]) ⟨rfl, rfl, rfl, rfl, trivial⟩
  refine e_then ?_; refine c_cond (x19 < 0) ha rfl (decide_eq_true_iff) (fun hp26 => ?_) (fun hp26 => ?_)
  · replace hF := if_t hp26 hF
    refine wp_seq ?_; refine wp_region_lit ?_; refine op_g ha rfl (g_assign rfl) ?_; clear ha a; intro a ha; refine wpList_nil ?_; replace ha := ha.sub (σ' := [(4, (.bool true))]) ⟨rfl, trivial⟩; refine e_then ?_; refine wp_ret ?_; refine e_then_ret ?_; obtain rfl := Option.some.inj hF
    exact f_ret1 ha rfl rfl ⟨rfl, hE25⟩
  replace hF := if_f hp26 hF; refine wp_skip ?_; refine e_then ?_; refine wp_seq ?_; refine wp_region_lit ?_; refine op_g ha rfl (g_loadA (cs := [va1_0]) Try.isAgg27 Try.sizeOf27 rfl (by simp) hB11.all) ?_; clear ha a; intro a ha; refine op_g ha rfl (g_move rfl) ?_; clear ha a; intro a ha; obtain ⟨x27, hc28, hF⟩ := cal_some hF
  refine o_call ha rfl rfl Try.call6 (W_laws_szFormula (ha1_0.ext hE25) hI24 hc28) ?_; clear ha a; rintro v29 w30 ⟨⟨rfl, hI32⟩, hx31⟩ a ha
  replace hB3 := hB3.ext hx31
  replace hB11 := hB11.ext hx31
  have hE33 := Ext.trans hE25 hx31
  refine op_g ha rfl (g_assign rfl) ?_; clear ha a; intro a ha; refine wpList_nil ?_; replace ha := ha.sub (σ' := [(2, (.pointer (some ⟨b1, 0, none⟩))), (3, (.pointer (some ⟨b9, 0, none⟩))), (5, (.int .i64 x27))]) ⟨rfl, rfl, rfl, trivial⟩; refine e_then ?_; refine wp_seq ?_; refine wp_seq ?_; refine wp_region_lit ?_; refine op_g ha rfl (g_move rfl) ?_; clear ha a; intro a ha; refine op_g ha rfl (g_lss rfl rfl) ?_; clear ha a; intro a ha; refine wpList_nil ?_; replace ha := ha.sub (σ' := [(2, (.pointer (some ⟨b1, 0, none⟩))), (3, (.pointer (some ⟨b9, 0, none⟩))), (19, (.bool (decide (x27 < 0))))]) ⟨rfl, rfl, rfl, trivial⟩
  refine e_then ?_; refine c_cond (x27 < 0) ha rfl (decide_eq_true_iff) (fun hp34 => ?_) (fun hp34 => ?_)
  · replace hF := if_t hp34 hF
    refine wp_seq ?_; refine wp_region_lit ?_; refine op_g ha rfl (g_assign rfl) ?_; clear ha a; intro a ha; refine wpList_nil ?_; replace ha := ha.sub (σ' := [(4, (.bool true))]) ⟨rfl, trivial⟩; refine e_then ?_; refine wp_ret ?_; refine e_then_ret ?_; obtain rfl := Option.some.inj hF
    exact f_ret1 ha rfl rfl ⟨rfl, hE33⟩
  replace hF := if_f hp34 hF; refine wp_skip ?_; refine e_then ?_; refine wp_seq ?_; refine d_region [0, 1, 2, 3, 4, 5] hmix ?_; refine u_g 0 rfl (by kernel_rfl) (want0 _) ha rfl (g_loadA (cs := [va0_0]) Try.isAgg24 Try.sizeOf24 rfl (by simp) hB3.all) ?_; clear ha a; intro a ha; refine u_g 2 rfl (by kernel_rfl) (want0 _) ha rfl (g_loadA (cs := [va1_0]) Try.isAgg27 Try.sizeOf27 rfl (by simp) hB11.all) ?_; clear ha a; intro a ha
  refine u_only 1 rfl (by kernel_rfl) ?_; intro w35 hx36
  replace hB3 := hB3.ext hx36
  replace hB11 := hB11.ext hx36
  have hE37 := Ext.trans hE33 hx36
  obtain ⟨x38, hc39, hF⟩ := cal_some hF
  refine o_call ha rfl rfl Try.call8 (W_laws_toGraph (ha0_0.ext hE37) hc39) ?_; clear ha a; rintro v40 w41 ⟨u43, b44, fs48, rfl, h45, z46, zf49, nd50, hx42⟩ a ha
  have q51 := Nq.new hB3.fpb z46
  have q52 := Nq.madeF z46 zf49 hB3.bi
  have q53 := Nq.new hB11.fpb z46
  have q54 := Nq.madeF z46 zf49 hB11.bi
  have q55 := Nf.new hB3.fpb zf49
  have q56 := Nf.new hB11.fpb zf49
  replace hB3 := hB3.ext hx42
  replace hB11 := hB11.ext hx42
  have hE57 := Ext.trans hE37 hx42
  have q58 := Zn.upD z46 hE37
  have q59 := zf_up zf49 hE37
  refine wpList_nil (e_sq ?_)
  refine ⟨fun _ => hx42, ?_⟩
  refine u_only 3 rfl (by kernel_rfl) ?_; intro w60 hx61
  replace hB3 := hB3.ext hx61
  replace hB11 := hB11.ext hx61
  replace h45 := h45.ext hx61
  have hE62 := Ext.trans hE57 hx61
  obtain ⟨x63, hc64, hF⟩ := cal_some hF
  refine o_call ha rfl rfl Try.call9 (W_laws_toFormula (ha1_0.ext hE62) hc64) ?_; clear ha a; rintro v65 w66 ⟨u68, b69, rfl, h70, z71, hx67⟩ a ha
  have q73 := Nq.new hB3.fpb z71
  have q74 := Nq.madeO z71 hB3.bi
  have q75 := Nq.new hB11.fpb z71
  have q76 := Nq.madeO z71 hB11.bi
  have q77 := Nq.new h45.fpb z71
  have q78 := Nq.madeO z71 h45.blt
  have q79 := Nf.old z71 (zf_nil _) h45.bnd
  replace hB3 := hB3.ext hx67
  replace hB11 := hB11.ext hx67
  replace h45 := h45.ext hx67
  have hE80 := Ext.trans hE62 hx67
  have q81 := Zn.upD z71 hE62
  refine wpList_nil (e_sq ?_)
  refine ⟨fun _ => hx67, ?_⟩
  obtain ⟨fp84, hro85, hs86⟩ := h45.roF
  obtain ⟨fp87, hro88, hs89⟩ := h70.roF
  obtain ⟨x90, hc91, hF⟩ := cal_some hF; refine u_call (.bool x90) 4 rfl (by kernel_rfl) (want0 _) ha rfl rfl Try.call7 (fun w83 hx82 => W_spec_SaysOf (hro85.ext hx82) (hro88.ext hx82) hc91) (fun _ _ _ h => ⟨h.1, h.2⟩) ?_; clear ha a; intro a ha; refine u_g 5 rfl (by kernel_rfl) (want0 _) ha rfl (g_assign rfl) ?_; clear ha a; intro a ha
  refine u_done (by kernel_rfl) ?_; intro w92 hx93
  replace hB3 := hB3.ext hx93
  replace hB11 := hB11.ext hx93
  replace h45 := h45.ext hx93
  replace h70 := h70.ext hx93
  have hE94 := Ext.trans hE80 hx93
  replace ha := ha.sub (σ' := [(2, (.pointer (some ⟨b1, 0, none⟩))), (3, (.pointer (some ⟨b9, 0, none⟩))), (6, (.bool x90))]) ⟨rfl, rfl, rfl, trivial⟩; refine e_then ?_; refine wp_seq ?_; refine wp_region_lit ?_; refine op_g ha rfl (g_loadA (cs := [va0_0]) Try.isAgg24 Try.sizeOf24 rfl (by simp) hB3.all) ?_; clear ha a; intro a ha; obtain ⟨x95, hc96, hF⟩ := cal_some hF
  refine o_call ha rfl rfl Try.call8 (W_laws_toGraph (ha0_0.ext hE94) hc96) ?_; clear ha a; rintro v97 w98 ⟨u100, b101, fs105, rfl, h102, z103, zf106, nd107, hx99⟩ a ha
  have q108 := Nq.new hB3.fpb z103
  have q109 := Nq.madeF z103 zf106 hB3.bi
  have q110 := Nq.new hB11.fpb z103
  have q111 := Nq.madeF z103 zf106 hB11.bi
  have q112 := Nf.new hB3.fpb zf106
  have q113 := Nf.new hB11.fpb zf106
  replace hB3 := hB3.ext hx99
  replace hB11 := hB11.ext hx99
  have hE114 := Ext.trans hE94 hx99
  have q115 := Zn.upD z103 hE94
  have q116 := zf_up zf106 hE94
  refine o_alloc (cs := [(.slice none 0 0)]) ha rfl Try.zeroValue31 rfl ?_; clear ha a; intro b117 w118 hB119 hx120 hlo121 a ha
  have q122 := Zn.one hlo121
  have q123 := Nq.new hB3.fpb q122
  have q124 := Nq.made1 hlo121 hB3.bi
  have q125 := Nq.new hB11.fpb q122
  have q126 := Nq.made1 hlo121 hB11.bi
  have q127 := Nq.new h102.fpb q122
  have q128 := Nq.made1 hlo121 h102.blt
  have q129 := Nf.old1 q122 h102.bnd
  have q130 := Zn.upD q122 hE114
  replace hB3 := hB3.ext hx120
  replace hB11 := hB11.ext hx120
  replace h102 := h102.ext hx120
  have hE131 := Ext.trans hE114 hx120
  refine o_storeA (vs := [u100]) ha hB119 Try.sizeOf31 rfl rfl (by intro c hc; simp only [List.mem_cons, List.not_mem_nil, or_false] at hc; rcases hc with hc <;> subst hc <;> first | rfl | exact h102.oneC) rfl ?_; intro w132 hB133 hc134
  replace hc134 := hc134.bl
  replace hB133 : Bx w132 b117 [u100] 31 := hB133
  replace hB3 := hB3.nq hc134 q123
  replace hB11 := hB11.nq hc134 q125
  replace h102 := h102.nq hc134 q127
  have hE135 := Ext.then hE131 hc134 (Zn.bl q130)
  refine wpList_nil ?_; replace ha := ha.sub (σ' := [(2, (.pointer (some ⟨b1, 0, none⟩))), (3, (.pointer (some ⟨b9, 0, none⟩))), (6, (.bool x90)), (7, (.pointer (some ⟨b117, 0, none⟩)))]) ⟨rfl, rfl, rfl, rfl, trivial⟩; refine e_then ?_; refine wp_seq ?_; refine wp_region_lit ?_; refine op_g ha rfl (g_loadA (cs := [va1_0]) Try.isAgg27 Try.sizeOf27 rfl (by simp) hB11.all) ?_; clear ha a; intro a ha; obtain ⟨x136, hc137, hF⟩ := cal_some hF
  refine o_call ha rfl rfl Try.call9 (W_laws_toFormula (ha1_0.ext hE135) hc137) ?_; clear ha a; rintro v138 w139 ⟨u141, b142, rfl, h143, z144, hx140⟩ a ha
  have q146 := Nq.new hB3.fpb z144
  have q147 := Nq.madeO z144 hB3.bi
  have q148 := Nq.new hB11.fpb z144
  have q149 := Nq.madeO z144 hB11.bi
  have q150 := Nq.new h102.fpb z144
  have q151 := Nq.madeO z144 h102.blt
  have q152 := Nq.new hB133.fpb z144
  have q153 := Nq.madeO z144 hB133.bi
  have q154 := Nf.old z144 (zf_nil _) h102.bnd
  replace hB3 := hB3.ext hx140
  replace hB11 := hB11.ext hx140
  replace h102 := h102.ext hx140
  replace hB133 := hB133.ext hx140
  have hE155 := Ext.trans hE135 hx140
  have q156 := Zn.upD z144 hE135
  refine o_alloc (cs := [(.slice none 0 0)]) ha rfl Try.zeroValue35 rfl ?_; clear ha a; intro b157 w158 hB159 hx160 hlo161 a ha
  have q162 := Zn.one hlo161
  have q163 := Nq.new hB3.fpb q162
  have q164 := Nq.made1 hlo161 hB3.bi
  have q165 := Nq.new hB11.fpb q162
  have q166 := Nq.made1 hlo161 hB11.bi
  have q167 := Nq.new h102.fpb q162
  have q168 := Nq.made1 hlo161 h102.blt
  have q169 := Nf.old1 q162 h102.bnd
  have q170 := Nq.new hB133.fpb q162
  have q171 := Nq.made1 hlo161 hB133.bi
  have q172 := Nq.new h143.fpb q162
  have q173 := Nq.made1 hlo161 h143.blt
  have q174 := Zn.upD q162 hE155
  replace hB3 := hB3.ext hx160
  replace hB11 := hB11.ext hx160
  replace h102 := h102.ext hx160
  replace hB133 := hB133.ext hx160
  replace h143 := h143.ext hx160
  have hE175 := Ext.trans hE155 hx160
  refine o_storeA (vs := [u141]) ha hB159 Try.sizeOf35 rfl rfl (by intro c hc; simp only [List.mem_cons, List.not_mem_nil, or_false] at hc; rcases hc with hc <;> subst hc <;> first | rfl | exact h143.oneC) rfl ?_; intro w176 hB177 hc178
  replace hc178 := hc178.bl
  replace hB177 : Bx w176 b157 [u141] 35 := hB177
  replace hB3 := hB3.nq hc178 q163
  replace hB11 := hB11.nq hc178 q165
  replace h102 := h102.nq hc178 q167
  replace hB133 := hB133.nq hc178 q170
  replace h143 := h143.nq hc178 q172
  have hE179 := Ext.then hE175 hc178 (Zn.bl q174)
  refine wpList_nil ?_; replace ha := ha.sub (σ' := [(2, (.pointer (some ⟨b1, 0, none⟩))), (3, (.pointer (some ⟨b9, 0, none⟩))), (6, (.bool x90)), (7, (.pointer (some ⟨b117, 0, none⟩))), (8, (.pointer (some ⟨b157, 0, none⟩)))]) ⟨rfl, rfl, rfl, rfl, rfl, trivial⟩; refine e_then ?_; refine wp_seq ?_; refine wp_region_lit ?_; refine op_g ha rfl (g_loadA (cs := [u100]) Try.isAgg31 Try.sizeOf31 rfl (by simp) hB133.all) ?_; clear ha a; intro a ha; refine op_g ha rfl (g_loadA (cs := [u141]) Try.isAgg35 Try.sizeOf35 rfl (by simp) hB177.all) ?_; clear ha a; intro a ha
  obtain ⟨fp180, hro181, hs182⟩ := h102.roF
  obtain ⟨fp183, hro184, hs185⟩ := h143.roF
  obtain ⟨x186, hc187, hF⟩ := cal_some hF
  refine o_call ha rfl rfl Try.call10 (W_impl_SaysOf hro181 hro184 hc187) ?_; clear ha a; rintro v188 w189 ⟨rfl, hx190⟩ a ha
  replace hB3 := hB3.ext hx190
  replace hB11 := hB11.ext hx190
  replace h102 := h102.ext hx190
  replace hB133 := hB133.ext hx190
  replace h143 := h143.ext hx190
  replace hB177 := hB177.ext hx190
  have hE191 := Ext.trans hE179 hx190
  refine op_g ha rfl (g_assign rfl) ?_; clear ha a; intro a ha; refine wpList_nil ?_; replace ha := ha.sub (σ' := [(2, (.pointer (some ⟨b1, 0, none⟩))), (3, (.pointer (some ⟨b9, 0, none⟩))), (6, (.bool x90)), (7, (.pointer (some ⟨b117, 0, none⟩))), (8, (.pointer (some ⟨b157, 0, none⟩))), (9, (.bool x186))]) ⟨rfl, rfl, rfl, rfl, rfl, rfl, trivial⟩; refine e_then ?_; refine wp_seq ?_; refine wp_seq ?_; refine wp_region_lit ?_; (iterate 2 refine op_g ha rfl (g_move rfl) ?_; clear ha a; intro a ha); refine op_g ha rfl (gB_neq un4 rfl rfl) ?_; clear ha a; intro a ha; refine wpList_nil ?_; replace ha := ha.sub (σ' := [(2, (.pointer (some ⟨b1, 0, none⟩))), (3, (.pointer (some ⟨b9, 0, none⟩))), (7, (.pointer (some ⟨b117, 0, none⟩))), (8, (.pointer (some ⟨b157, 0, none⟩))), (34, (.bool (x186 != x90)))]) ⟨rfl, rfl, rfl, rfl, rfl, trivial⟩
  refine e_then ?_; refine c_cond ((x186 != x90) = true) ha rfl (Iff.rfl) (fun hp192 => ?_) (fun hp192 => ?_)
  · replace hF := if_t hp192 hF
    refine wp_seq ?_; refine wp_region_lit ?_; refine op_g ha rfl (g_assign rfl) ?_; clear ha a; intro a ha; refine wpList_nil ?_; replace ha := ha.sub (σ' := [(4, (.bool false))]) ⟨rfl, trivial⟩; refine e_then ?_; refine wp_ret ?_; refine e_then_ret ?_; obtain rfl := Option.some.inj hF
    exact f_ret1 ha rfl rfl ⟨rfl, hE191⟩
  replace hF := if_f hp192 hF; refine wp_skip ?_; refine e_then ?_; refine wp_seq ?_; refine wp_seq ?_; refine d_region [0, 1, 2, 3, 4] hmix ?_; refine u_g 0 rfl (by kernel_rfl) (want0 _) ha rfl (g_loadA (cs := [u100]) Try.isAgg31 Try.sizeOf31 rfl (by simp) hB133.all) ?_; clear ha a; intro a ha; refine u_g 1 rfl (by kernel_rfl) (want0 _) ha rfl (g_loadA (cs := [va0_0]) Try.isAgg24 Try.sizeOf24 rfl (by simp) hB3.all) ?_; clear ha a; intro a ha
  refine u_only 2 rfl (by kernel_rfl) ?_; intro w193 hx194
  replace hB3 := hB3.ext hx194
  replace hB11 := hB11.ext hx194
  replace h102 := h102.ext hx194
  replace hB133 := hB133.ext hx194
  replace h143 := h143.ext hx194
  replace hB177 := hB177.ext hx194
  have hE195 := Ext.trans hE191 hx194
  obtain ⟨x196, hc197, hF⟩ := cal_some hF
  refine o_call ha rfl rfl Try.call8 (W_laws_toGraph (ha0_0.ext hE195) hc197) ?_; clear ha a; rintro v198 w199 ⟨u201, b202, fs206, rfl, h203, z204, zf207, nd208, hx200⟩ a ha
  have q209 := Nq.new hB3.fpb z204
  have q210 := Nq.madeF z204 zf207 hB3.bi
  have q211 := Nq.new hB11.fpb z204
  have q212 := Nq.madeF z204 zf207 hB11.bi
  have q213 := Nq.new h102.fpb z204
  have q214 := Nq.madeF z204 zf207 h102.blt
  have q215 := Nq.new hB133.fpb z204
  have q216 := Nq.madeF z204 zf207 hB133.bi
  have q217 := Nq.new h143.fpb z204
  have q218 := Nq.madeF z204 zf207 h143.blt
  have q219 := Nq.new hB177.fpb z204
  have q220 := Nq.madeF z204 zf207 hB177.bi
  have q221 := Nf.new hB3.fpb zf207
  have q222 := Nf.new hB11.fpb zf207
  have q223 := Nf.new h102.fpb zf207
  have q224 := Nf.old z204 zf207 h102.bnd
  have q225 := Nf.new hB133.fpb zf207
  have q226 := Nf.new h143.fpb zf207
  have q227 := Nf.new hB177.fpb zf207
  replace hB3 := hB3.ext hx200
  replace hB11 := hB11.ext hx200
  replace h102 := h102.ext hx200
  replace hB133 := hB133.ext hx200
  replace h143 := h143.ext hx200
  replace hB177 := hB177.ext hx200
  have hE228 := Ext.trans hE195 hx200
  have q229 := Zn.upD z204 hE195
  have q230 := zf_up zf207 hE195
  refine wpList_nil (e_sq ?_)
  refine ⟨fun _ => hx200, ?_⟩
  obtain ⟨fp233, hro234, hs235⟩ := h102.roF
  obtain ⟨fp236, hro237, hs238⟩ := h203.roF
  obtain ⟨x239, hc240, hF⟩ := cal_some hF; refine u_call (.bool x239) 3 rfl (by kernel_rfl) (want0 _) ha rfl rfl Try.call11 (fun w232 hx231 => W_laws_eqGraph (hro234.ext hx231) (hro237.ext hx231) hc240) (fun _ _ _ h => ⟨h.1, h.2⟩) ?_; clear ha a; intro a ha; refine u_g 4 rfl (by kernel_rfl) (want0 _) ha rfl (g_not rfl) ?_; clear ha a; intro a ha
  refine u_done (by kernel_rfl) ?_; intro w241 hx242
  replace hB3 := hB3.ext hx242
  replace hB11 := hB11.ext hx242
  replace h102 := h102.ext hx242
  replace hB133 := hB133.ext hx242
  replace h143 := h143.ext hx242
  replace hB177 := hB177.ext hx242
  replace h203 := h203.ext hx242
  have hE243 := Ext.trans hE228 hx242
  replace ha := ha.sub (σ' := [(3, (.pointer (some ⟨b9, 0, none⟩))), (8, (.pointer (some ⟨b157, 0, none⟩))), (39, (.bool (!x239)))]) ⟨rfl, rfl, rfl, trivial⟩; refine e_then ?_; refine c_cond (¬ (x239 = true)) ha rfl (n_iff (Iff.rfl)) (fun hp244 => ?_) (fun hp244 => ?_)
  · replace hF := if_t hp244 hF
    refine wp_seq ?_; refine wp_region_lit ?_; refine op_g ha rfl (g_assign rfl) ?_; clear ha a; intro a ha; refine wpList_nil ?_; replace ha := ha.sub (σ' := [(4, (.bool false))]) ⟨rfl, trivial⟩; refine e_then ?_; refine wp_ret ?_; refine e_then_ret ?_; obtain rfl := Option.some.inj hF
    exact f_ret1 ha rfl rfl ⟨rfl, hE243⟩
  replace hF := if_f hp244 hF; refine wp_skip ?_; refine e_then ?_; refine wp_seq ?_; refine wp_seq ?_; refine d_region [0, 1, 2, 3, 4] hmix ?_; refine u_g 0 rfl (by kernel_rfl) (want0 _) ha rfl (g_loadA (cs := [u141]) Try.isAgg35 Try.sizeOf35 rfl (by simp) hB177.all) ?_; clear ha a; intro a ha; refine u_g 1 rfl (by kernel_rfl) (want0 _) ha rfl (g_loadA (cs := [va1_0]) Try.isAgg27 Try.sizeOf27 rfl (by simp) hB11.all) ?_; clear ha a; intro a ha
  refine u_only 2 rfl (by kernel_rfl) ?_; intro w245 hx246
  replace hB11 := hB11.ext hx246
  replace h143 := h143.ext hx246
  replace hB177 := hB177.ext hx246
  have hE247 := Ext.trans hE243 hx246
  obtain ⟨x248, hc249, hF⟩ := cal_some hF
  refine o_call ha rfl rfl Try.call9 (W_laws_toFormula (ha1_0.ext hE247) hc249) ?_; clear ha a; rintro v250 w251 ⟨u253, b254, rfl, h255, z256, hx252⟩ a ha
  have q258 := Nq.new hB11.fpb z256
  have q259 := Nq.madeO z256 hB11.bi
  have q260 := Nq.new h143.fpb z256
  have q261 := Nq.madeO z256 h143.blt
  have q262 := Nq.new hB177.fpb z256
  have q263 := Nq.madeO z256 hB177.bi
  replace hB11 := hB11.ext hx252
  replace h143 := h143.ext hx252
  replace hB177 := hB177.ext hx252
  have hE264 := Ext.trans hE247 hx252
  have q265 := Zn.upD z256 hE247
  refine wpList_nil (e_sq ?_)
  refine ⟨fun _ => hx252, ?_⟩
  obtain ⟨fp268, hro269, hs270⟩ := h143.roF
  obtain ⟨fp271, hro272, hs273⟩ := h255.roF
  obtain ⟨x274, hc275, hF⟩ := cal_some hF; refine u_call (.bool x274) 3 rfl (by kernel_rfl) (want0 _) ha rfl rfl Try.call12 (fun w267 hx266 => W_laws_eqFormula (hro269.ext hx266) (hro272.ext hx266) hc275) (fun _ _ _ h => ⟨h.1, h.2⟩) ?_; clear ha a; intro a ha; refine u_g 4 rfl (by kernel_rfl) (want0 _) ha rfl (g_not rfl) ?_; clear ha a; intro a ha
  refine u_done (by kernel_rfl) ?_; intro w276 hx277
  replace hB11 := hB11.ext hx277
  replace h143 := h143.ext hx277
  replace hB177 := hB177.ext hx277
  replace h255 := h255.ext hx277
  have hE278 := Ext.trans hE264 hx277
  replace ha := ha.sub (σ' := [(44, (.bool (!x274)))]) ⟨rfl, trivial⟩; refine e_then ?_; refine c_cond (¬ (x274 = true)) ha rfl (n_iff (Iff.rfl)) (fun hp279 => ?_) (fun hp279 => ?_)
  · replace hF := if_t hp279 hF
    refine wp_seq ?_; refine wp_region_lit ?_; refine op_g ha rfl (g_assign rfl) ?_; clear ha a; intro a ha; refine wpList_nil ?_; replace ha := ha.sub (σ' := [(4, (.bool false))]) ⟨rfl, trivial⟩; refine e_then ?_; refine wp_ret ?_; refine e_then_ret ?_; obtain rfl := Option.some.inj hF
    exact f_ret1 ha rfl rfl ⟨rfl, hE278⟩
  replace hF := if_f hp279 hF; refine wp_skip ?_; refine e_then ?_; refine wp_seq ?_; refine wp_region_lit ?_; refine op_g ha rfl (g_assign rfl) ?_; clear ha a; intro a ha; refine wpList_nil ?_; replace ha := ha.sub (σ' := [(4, (.bool true))]) ⟨rfl, trivial⟩; refine e_then ?_; refine wp_ret ?_; obtain rfl := Option.some.inj hF
  exact f_ret1 ha rfl rfl ⟨rfl, hE278⟩
end Go.Proofs.Ytjcnkijmbjhcnaa
