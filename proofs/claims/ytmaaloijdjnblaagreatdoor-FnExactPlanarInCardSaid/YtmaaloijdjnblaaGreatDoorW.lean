/- Walks, printed by gen.py. -/
import Derived.Test.YtmaaloijdjnblaaGreatDoorF
import Derived.Test.YtmaaloijdjnblaaGreatDoorW3
import Derived.Test.YtmaaloijdjnblaaGreatDoorProg
import Derived.KernelRfl
set_option maxRecDepth 100000
namespace Go.Proofs.YtmaaloijdjnblaaGreatDoor
open Go Go.RowKit

set_option maxHeartbeats 2000000 in
theorem nin_fb {G : Nat → Prop} {bX bT bF bB : Nat} (hS : EmS G bX bT bF bB) : bX ∉ [bF, bB] ∧ bT ∉ [bF, bB] ∧ (∀ k, G k → k ∉ [bF, bB]) ∧ (∀ k, G k → k ∉ [bT]) ∧ bX ∉ [bT] ∧ bF ∉ [bT] ∧ bB ∉ [bT] := by
  simp only [List.mem_cons, List.not_mem_nil, or_false, not_or]
  exact ⟨⟨hS.xf, hS.xb⟩, ⟨hS.tf, hS.tb⟩, fun k h => ((hS.g k).1 h).2, fun k h => ((hS.g k).1 h).1, hS.xt, fun e => hS.tf e.symm, fun e => hS.tb e.symm⟩
section
variable {G : Nat → Prop} {bX bT bF bB : Nat}
set_option maxHeartbeats 2000000 in
theorem W_impl_embedding_put (hS : EmS G bX bT bF bB) {W : World} {ve vf : Value} {cs : List Value} {t : List (List Int)} (hX : Bx W bX [ve, tv bT cs t.length, vf] 61) (hT : Tn 66 G W bT cs t) (hGn : ∀ k, W.heap.size ≤ k → G k)
    {v u i : Int} (hv : InI v) (hu : InI u) (hi : InI i) {r : List (List Int)} (hF : F_impl_embedding_put t v u i = some r) :
    Calls Tryz.prog 53 [.pointer (some ⟨bX, 0, none⟩), .int .i64 v, .int .i64 u, .int .i64 i].toArray W (Ret fun z w' => z = .tuple #[] ∧ (∃ x, Tn 66 G w' bT (cs.set v.toNat x) r) ∧ r.length = t.length ∧ Chg [bT] W w') := by
  refine f_enter Tryz.func53 rfl Tryz.ntmps53 rfl ?_
  intro a ha
  replace ha : Fr 36 [(0, (.pointer (some ⟨bX, 0, none⟩))), (1, (.int .i64 v)), (2, (.int .i64 u)), (3, (.int .i64 i))] a := ha
  obtain ⟨fT, ha1, hfT⟩ := hT.ro 3
  unfold F_impl_embedding_put at hF
  refine x_region [0, 1, 2, 3, 4, 5, 6, 7, 8, 9, 10, 11, 12, 13, 14, 15, 16, 17, 18, 19, 20, 21, 22, 23, 24, 25, 26] hmix ?_
  have hS9 := RowKit.Below.refl W.heap.size W
  refine x_g 0 rfl (by kernel_rfl) (want0 _) ha rfl hS9 (g_move rfl) ?_; clear ha a; intro a ha; refine x_g 1 rfl (by kernel_rfl) (want0 _) ha rfl hS9 (g_nilP rfl) ?_; clear ha a; intro a ha; refine x_g 2 rfl (by kernel_rfl) (want0 _) ha rfl hS9 (g_field0 st61_1 rfl) ?_; clear ha a; intro a ha; refine x_g 3 rfl (by kernel_rfl) (want0 _) ha rfl hS9 (g_load Tryz.isAgg49 rfl (hX.cell rfl)) ?_; clear ha a; intro a ha; refine x_g 4 rfl (by kernel_rfl) (want0 _) ha rfl hS9 (g_move rfl) ?_; clear ha a; intro a ha; refine x_g 5 rfl (by kernel_rfl) (want0 _) ha rfl hS9 (g_move rfl) ?_; clear ha a; intro a ha; refine x_g 6 rfl (by kernel_rfl) (want0 _) ha rfl hS9 (g_nilP rfl) ?_; clear ha a; intro a ha; refine x_g 7 rfl (by kernel_rfl) (want0 _) ha rfl hS9 (g_field0 st61_1 rfl) ?_; clear ha a; intro a ha; refine x_g 8 rfl (by kernel_rfl) (want0 _) ha rfl hS9 (g_load Tryz.isAgg49 rfl (hX.cell rfl)) ?_; clear ha a; intro a ha; refine x_g 9 rfl (by kernel_rfl) (want0 _) ha rfl hS9 (g_move rfl) ?_; clear ha a; intro a ha
  obtain ⟨x10, g11, gx12, hF⟩ := idx_some hF
  obtain ⟨p13, cs14, f15, hf16, hpb17, hat18, hr19, hi20⟩ := ha1.at g11 gx12
  obtain ⟨v21, rfl, h22⟩ := hr19
  have h22 : Ro Rp.int W f15 v21 x10 := h22
  refine x_g 10 rfl (by kernel_rfl) (want0 _) ha rfl hS9 (hi20.gives sl49 rfl rfl) ?_; clear ha a; intro a ha; refine x_g 11 rfl (by kernel_rfl) (want0 _) ha rfl hS9 (g_load Tryz.isAgg66 rfl hat18.one) ?_; clear ha a; intro a ha; refine x_g 13 rfl (by kernel_rfl) (want0 _) ha rfl hS9 (g_move rfl) ?_; clear ha a; intro a ha; obtain ⟨hI24, hF⟩ := ck_some hF; refine x_g 14 rfl (by kernel_rfl) (want0 _) ha rfl hS9 (g_add rfl rfl hI24) ?_; clear ha a; intro a ha; refine x_g 15 rfl (by kernel_rfl) (want0 _) ha rfl hS9 (g_move rfl) ?_; clear ha a; intro a ha; refine x_g 16 rfl (by kernel_rfl) (want0 _) ha rfl hS9 (g_nilP rfl) ?_; clear ha a; intro a ha; refine x_g 17 rfl (by kernel_rfl) (want0 _) ha rfl hS9 (g_field0 st61_1 rfl) ?_; clear ha a; intro a ha; refine x_g 18 rfl (by kernel_rfl) (want0 _) ha rfl hS9 (g_load Tryz.isAgg49 rfl (hX.cell rfl)) ?_; clear ha a; intro a ha; refine x_g 19 rfl (by kernel_rfl) (want0 _) ha rfl hS9 (g_move rfl) ?_; clear ha a; intro a ha
  obtain ⟨x26, g27, gx28, hF⟩ := idx_some hF
  obtain ⟨p29, cs30, f31, hf32, hpb33, hat34, hr35, hi36⟩ := ha1.at g27 gx28
  obtain ⟨v37, rfl, h38⟩ := hr35
  have h38 : Ro Rp.int W f31 v37 x26 := h38
  refine x_g 20 rfl (by kernel_rfl) (want0 _) ha rfl hS9 (hi36.gives sl49 rfl rfl) ?_; clear ha a; intro a ha; refine x_g 21 rfl (by kernel_rfl) (want0 _) ha rfl hS9 (g_load Tryz.isAgg66 rfl hat34.one) ?_; clear ha a; intro a ha; refine x_g 22 rfl (by kernel_rfl) (want0 _) ha rfl hS9 (g_lenR sl66.und h38 rfl) ?_; clear ha a; intro a ha; refine x_g 23 rfl (by kernel_rfl) (want0 _) ha rfl hS9 (g_min rfl rfl) ?_; clear ha a; intro a ha; refine x_g 24 rfl (by kernel_rfl) (want0 _) ha rfl hS9 (g_move rfl) ?_; clear ha a; intro a ha; obtain ⟨cl, hcl, hF⟩ := cal_some hF; obtain ⟨ri, hri, hF⟩ := cal_some hF; obtain rfl := Option.some.inj hF
  obtain ⟨rfl, hv0, hvl⟩ := tv_idx hi20
  refine x_many [12, 25] (by kernel_rfl) rfl fun w0 hx0 => ⟨⟨_, rfl, ?_⟩, ⟨_, rfl, ?_⟩, trivial⟩
  all_goals have qb0 := bel_step hS9 hx0
  · skip
    refine o_call ha rfl rfl Tryz.call72 (W_slices_Clone_int (h22.ext hx0) hcl) ?_; clear ha a; rintro v12 w12 ⟨b12, h12, z12, hx12⟩ a ha
    have zB12 := Zn.upB z12 qb0
    have hE1 := Ext.trans hx0 hx12
    refine wpList_nil (e_sq ?_)
    have hSt1 : RowKit.Below W.heap.size w0 w12 := ext_bel qb0.size hx12
    refine ⟨fun _ => hSt1, ?_⟩
    have qb1 := RowKit.Below.trans qb0 hSt1
    refine x_only 25 rfl (by kernel_rfl) ?_; intro w2 hx2
    replace h12 := h12.ext hx2
    have hE2 := Ext.trans hE1 hx2
    have qb2 := bel_step qb1 hx2
    refine o_lit1 (o := true) (y := u) Rp.int ha rfl sl66 rfl rfl rfl ⟨rfl, hu, rfl⟩ ?_; clear ha a; intro v25 w25 h25 hx25 a ha
    have hE3 := Ext.trans hE2 hx25
    refine wpList_nil (e_sq ?_)
    have hSt3 : RowKit.Below W.heap.size w2 w25 := ext_bel qb2.size hx25
    refine ⟨fun _ => hSt3, ?_⟩
    have qb3 := RowKit.Below.trans qb2 hSt3
    have hne : ((w2.heap.size : Nat) : Int) ≠ b12 := by have := h12.blt; omega
    replace h12 := h12.ext hx25
    refine x_only 26 rfl (by kernel_rfl) ?_; intro w5 hx5
    replace h12 := h12.ext hx5
    replace h25 := h25.ext hx5
    have hE5 := Ext.trans hE3 hx5
    have qb5 := bel_step qb3 hx5
    skip
    refine o_call ha rfl rfl Tryz.call71 (W_slices_Insert_int h12 h25 hne hri) ?_; clear ha a; rintro v26 w26 ⟨b26, hI26, hc26, hb26⟩ a ha
    have hE6 := Ext.then hE5 hc26 (Zn.bl zB12)
    have zB26 : Zn W b26 := Zn.appD zB12 hb26 hE5
    refine wpList_nil (e_sq ?_)
    have hSt6 : RowKit.Below W.heap.size w5 w26 := chg_bel hc26 qb5.size (Zn.bl zB12)
    refine ⟨fun _ => hSt6, ?_⟩
    have qb6 := RowKit.Below.trans qb5 hSt6
    refine x_only 27 rfl (by kernel_rfl) ?_; intro w7 hx7
    replace hI26 := hI26.ext hx7
    have hE7 := Ext.trans hE6 hx7
    refine op_g ha rfl (hi20.gives sl49 rfl rfl) ?_; clear ha a; intro a ha; refine wpList_nil (e_sq ?_)
    refine ⟨fun h => absurd h (by decide), ?_⟩
    refine x_only 28 rfl (by kernel_rfl) ?_; intro w8 hx8
    replace hI26 := hI26.ext hx8
    have hE8 := Ext.trans hE7 hx8
    have hT8 := hT.ext hE8
    refine o_storeB ha hT8.bx Tryz.sizeOf66 rfl rfl hI26.cells hI26.oneC (Nat.lt_of_lt_of_le hvl hT.le) ?_; intro w9 hB9 hc9
    obtain ⟨fp, hro, hs⟩ := hI26.roF
    have hTn := hT8.put (row := ri) hB9 hc9 hro (fun k hk => hGn k (by
      have := hs k hk
      rw [List.append_nil, mem_bl] at this
      rcases zB26 with h | h <;> omega)) (fun k hk => ((hS.g k).1 hk).1)
    refine wpList_nil (e_sq ?_)
    refine ⟨fun h => absurd h (by decide), ?_⟩
    refine x_done (by kernel_rfl) ?_; intro w10 hx10
    exact f_end0 ha rfl ⟨rfl, ⟨_, hTn.ext hx10⟩, by rw [List.length_set], (hE8.chg.same hc9).more hx10⟩
  skip
  refine o_lit1 (o := true) (y := u) Rp.int ha rfl sl66 rfl rfl rfl ⟨rfl, hu, rfl⟩ ?_; clear ha a; intro v25 w25 h25 hx25 a ha
  have hE1 := Ext.trans hx0 hx25
  refine wpList_nil (e_sq ?_)
  have hSt1 : RowKit.Below W.heap.size w0 w25 := ext_bel qb0.size hx25
  refine ⟨fun _ => hSt1, ?_⟩
  have qb1 := RowKit.Below.trans qb0 hSt1
  refine x_only 12 rfl (by kernel_rfl) ?_; intro w2 hx2
  replace h25 := h25.ext hx2
  have hE2 := Ext.trans hE1 hx2
  have qb2 := bel_step qb1 hx2
  refine o_call ha rfl rfl Tryz.call72 (W_slices_Clone_int (h22.ext hE2) hcl) ?_; clear ha a; rintro v12 w12 ⟨b12, h12, z12, hx12⟩ a ha
  have zB12 := Zn.upB z12 qb2
  have hE3 := Ext.trans hE2 hx12
  refine wpList_nil (e_sq ?_)
  have hSt3 : RowKit.Below W.heap.size w2 w12 := ext_bel qb2.size hx12
  refine ⟨fun _ => hSt3, ?_⟩
  have qb3 := RowKit.Below.trans qb2 hSt3
  have hne : ((w0.heap.size : Nat) : Int) ≠ b12 := by have := h25.blt; rcases z12 with h | h <;> omega
  replace h25 := h25.ext hx12
  refine x_only 26 rfl (by kernel_rfl) ?_; intro w5 hx5
  replace h12 := h12.ext hx5
  replace h25 := h25.ext hx5
  have hE5 := Ext.trans hE3 hx5
  have qb5 := bel_step qb3 hx5
  skip
  refine o_call ha rfl rfl Tryz.call71 (W_slices_Insert_int h12 h25 hne hri) ?_; clear ha a; rintro v26 w26 ⟨b26, hI26, hc26, hb26⟩ a ha
  have hE6 := Ext.then hE5 hc26 (Zn.bl zB12)
  have zB26 : Zn W b26 := Zn.appD zB12 hb26 hE5
  refine wpList_nil (e_sq ?_)
  have hSt6 : RowKit.Below W.heap.size w5 w26 := chg_bel hc26 qb5.size (Zn.bl zB12)
  refine ⟨fun _ => hSt6, ?_⟩
  have qb6 := RowKit.Below.trans qb5 hSt6
  refine x_only 27 rfl (by kernel_rfl) ?_; intro w7 hx7
  replace hI26 := hI26.ext hx7
  have hE7 := Ext.trans hE6 hx7
  refine op_g ha rfl (hi20.gives sl49 rfl rfl) ?_; clear ha a; intro a ha; refine wpList_nil (e_sq ?_)
  refine ⟨fun h => absurd h (by decide), ?_⟩
  refine x_only 28 rfl (by kernel_rfl) ?_; intro w8 hx8
  replace hI26 := hI26.ext hx8
  have hE8 := Ext.trans hE7 hx8
  have hT8 := hT.ext hE8
  refine o_storeB ha hT8.bx Tryz.sizeOf66 rfl rfl hI26.cells hI26.oneC (Nat.lt_of_lt_of_le hvl hT.le) ?_; intro w9 hB9 hc9
  obtain ⟨fp, hro, hs⟩ := hI26.roF
  have hTn := hT8.put (row := ri) hB9 hc9 hro (fun k hk => hGn k (by
    have := hs k hk
    rw [List.append_nil, mem_bl] at this
    rcases zB26 with h | h <;> omega)) (fun k hk => ((hS.g k).1 hk).1)
  refine wpList_nil (e_sq ?_)
  refine ⟨fun h => absurd h (by decide), ?_⟩
  refine x_done (by kernel_rfl) ?_; intro w10 hx10
  exact f_end0 ha rfl ⟨rfl, ⟨_, hTn.ext hx10⟩, by rw [List.length_set], (hE8.chg.same hc9).more hx10⟩
set_option maxHeartbeats 2000000 in
theorem W_emb_each (hS : EmS G bX bT bF bB) {W : World} {vt : Value} {ft : List Nat} {t : List (List Int)} (ha0 : Ro (Rp.sl 3 Rp.int) W ft vt t) (hbT : bT < W.heap.size) {s : EmA} (hs : EmI 4 33 2 G bF bB W s) {r : EmA} (hF : F_emb_each t s = some r) :
    Calls Tryz.prog 21 [vt, .pointer (some ⟨bF, 0, none⟩), .pointer (some ⟨bB, 0, none⟩)].toArray W (Ret fun u w' => u = .tuple #[] ∧ EmI 4 33 2 G bF bB w' r ∧ Chg [bF, bB] W w') := by
  refine f_enter Tryz.func21 rfl Tryz.ntmps21 rfl ?_
  intro a ha
  replace ha : Fr 18 [(0, vt), (1, (.pointer (some ⟨bF, 0, none⟩))), (2, (.pointer (some ⟨bB, 0, none⟩)))] a := ha
  unfold F_emb_each at hF
  obtain ⟨x, hx, hF⟩ := cal_some hF
  have hbF := hs.bf.blt
  obtain ⟨vb, fb, hbb, hrb, hGb⟩ := hs.bb
  have hbB := hbb.blt
  refine wp_seq ?_; refine wp_region_lit ?_; refine op_g ha rfl (g_move rfl) ?_; clear ha a; intro a ha
  refine o_call ha rfl rfl Tryz.call22 (W_impl_aroundOf ha0 hx) ?_; clear ha a; rintro v6 w6 ⟨u0, b0, fs0, rfl, h0, z0, zf0, nd0, hx6⟩ a ha
  obtain ⟨fp0, hr0, hs0⟩ := h0.roF
  have hG0 : ∀ k ∈ fp0, G k := fun k hk => by
    have hk' : W.heap.size ≤ k := by
      rcases List.mem_append.1 (hs0 k hk) with h | h
      · rw [mem_bl] at h; rcases z0 with q | q <;> omega
      exact zf0 k h
    exact (hS.g k).2 ⟨by omega, by omega, by omega⟩
  refine o_alloc (cs := [(.slice none 0 0)]) ha rfl Tryz.zeroValue33 rfl ?_; clear ha a; intro b4 w4 hB4 hx4 hlo4 a ha
  have hn4 : ∀ k ∈ fp0, k ∉ [b4] := fun k hk hm => by have := hr0.bnd k hk; rw [List.mem_singleton] at hm; omega
  replace hr0 := hr0.ext hx4
  have hE4 := Ext.trans hx6 hx4
  refine o_storeA (vs := [u0]) ha hB4 Tryz.sizeOf33 rfl rfl (by intro c hc; simp only [List.mem_cons, List.not_mem_nil, or_false] at hc; subst hc; exact hr0.oneC) rfl ?_; intro w5 hB5 hc5
  have hr1 := hr0.chg hc5 hn4
  have hE5 : Ext W w5 := Ext.then hE4 hc5 (fun i hi => by rw [List.mem_singleton] at hi; have := hx6.size; omega)
  have hs5 := hs.ext hE5
  replace hrb := hrb.ext hE5
  replace hbb := hbb.ext hE5
  clear hr0 hB4 h0
  refine wpList_nil ?_; replace ha := ha.sub (σ' := [(1, (.pointer (some ⟨bF, 0, none⟩))), (2, (.pointer (some ⟨bB, 0, none⟩))), (4, (.pointer (some ⟨b4, 0, none⟩)))]) ⟨rfl, rfl, rfl, trivial⟩; refine e_then ?_; refine wp_seq ?_; refine wp_region_lit ?_; refine op_g ha rfl (g_load Tryz.isAgg4 rfl (hs5.bf.cell rfl)) ?_; clear ha a; intro a ha; refine op_g ha rfl (g_not rfl) ?_; clear ha a; intro a ha; refine op_g ha rfl (g_move rfl) ?_; clear ha a; intro a ha
  obtain ⟨fd, best⟩ := s
  cases fd with
  | false =>
    replace hF := if_f (by simp) hF; obtain rfl := Option.some.inj hF; replace ha := ha.sub (σ' := [(1, (.pointer (some ⟨bF, 0, none⟩))), (2, (.pointer (some ⟨bB, 0, none⟩))), (4, (.pointer (some ⟨b4, 0, none⟩))), (9, (.bool true))]) ⟨rfl, rfl, rfl, rfl, trivial⟩; (iterate 6 refine op_unwant ha rfl (yields ha rfl rfl) rfl ?_; clear ha a; intro a ha); refine op_g ha rfl (g_pick rfl rfl) ?_; clear ha a; intro a ha; refine wpList_nil ?_; replace ha := ha.sub (σ' := [(1, (.pointer (some ⟨bF, 0, none⟩))), (2, (.pointer (some ⟨bB, 0, none⟩))), (4, (.pointer (some ⟨b4, 0, none⟩))), (16, (.bool true))]) ⟨rfl, rfl, rfl, rfl, trivial⟩
    refine e_then ?_; refine c_true ha rfl ?_; refine wp_region_lit ?_; refine op_g ha rfl (g_loadA (cs := [u0]) Tryz.isAgg33 Tryz.sizeOf33 rfl (by simp) hB5.all) ?_; clear ha a; intro a ha
    refine o_storeA (vs := [u0]) ha hbb Tryz.sizeOf33 rfl rfl (by intro c hc; simp only [List.mem_cons, List.not_mem_nil, or_false] at hc; subst hc; exact hr1.oneC) rfl ?_; intro w7 hB7 hc7
    have hf7 := hs5.bf.chg hc7 (by rw [List.mem_singleton]; exact hS.fb)
    have hr7 := hr1.chg hc7 (fun k hk hm => by rw [List.mem_singleton] at hm; exact ((hS.g k).1 (hG0 k hk)).2.2 hm)
    refine o_storeB ha hf7 Tryz.sizeOf4 rfl rfl rfl rfl (Nat.le_of_ble_eq_true rfl) ?_; intro w8 hB8 hc8
    have hb8 := hB7.chg hc8 (by rw [List.mem_singleton]; exact fun e => hS.fb e.symm)
    have hr8 := hr7.chg hc8 (fun k hk hm => by rw [List.mem_singleton] at hm; exact ((hS.g k).1 (hG0 k hk)).2.1 hm)
    refine wpList_nil ?_
    have hC : Chg [bF, bB] W w8 := Chg.trans (Chg.trans hE5.chg hc7 (fun i hi => .inl (by rw [List.mem_singleton] at hi; simp [hi]))) hc8 (fun i hi => .inl (by rw [List.mem_singleton] at hi; simp [hi]))
    exact f_end0 ha rfl ⟨rfl, ⟨hB8, u0, fp0, hb8, hr8, hG0⟩, hC⟩
  | true =>
    replace hF := if_t rfl hF; obtain ⟨c, hc, hF⟩ := cal_some hF; replace ha := ha.sub (σ' := [(1, (.pointer (some ⟨bF, 0, none⟩))), (2, (.pointer (some ⟨bB, 0, none⟩))), (4, (.pointer (some ⟨b4, 0, none⟩))), (9, (.bool false))]) ⟨rfl, rfl, rfl, rfl, trivial⟩; refine op_want (yields ha rfl rfl) ?_; refine op_g ha rfl (g_field0 st33_0 rfl) ?_; clear ha a; intro a ha; refine op_want (yields ha rfl rfl) ?_; refine op_g ha rfl (g_load Tryz.isAgg22 rfl (hB5.cell rfl)) ?_; clear ha a; intro a ha; refine op_want (yields ha rfl rfl) ?_; refine op_g ha rfl (g_field0 st33_0 rfl) ?_; clear ha a; intro a ha; refine op_want (yields ha rfl rfl) ?_; refine op_g ha rfl (g_load Tryz.isAgg22 rfl (hbb.cell rfl)) ?_; clear ha a; intro a ha
    have hcmp := W_slices_CompareFunc_Sint64 (W := w5) hr1 hrb (ga2 := 24) (ga2c := []) (a2 := fun z0 z1 => F_slices_Compare_int64 z0 z1) (fun w' hx {vz0 fz0 z0} hz0 {vz1 fz1 z1} hz1 {r} hr => W_slices_Compare_int64 hz0 hz1 hr) Tryz.call24 hc
    refine op_want (yields ha rfl rfl) ?_; refine o_call ha rfl rfl Tryz.call23 hcmp ?_; clear ha a; rintro v14 w14 ⟨⟨rfl, hI14⟩, hx14⟩ a ha
    replace hr1 := hr1.ext hx14
    replace hB5 := hB5.ext hx14
    replace hs5 := hs5.ext hx14
    replace hbb := hbb.ext hx14
    replace hE5 := Ext.trans hE5 hx14
    refine op_want (yields ha rfl rfl) ?_; refine op_g ha rfl (g_lss rfl rfl) ?_; clear ha a; intro a ha; refine op_g ha rfl (g_pick rfl rfl) ?_; clear ha a; intro a ha; refine wpList_nil ?_; replace ha := ha.sub (σ' := [(1, (.pointer (some ⟨bF, 0, none⟩))), (2, (.pointer (some ⟨bB, 0, none⟩))), (4, (.pointer (some ⟨b4, 0, none⟩))), (16, (.bool (decide (c < 0))))]) ⟨rfl, rfl, rfl, rfl, trivial⟩; refine e_then ?_; refine c_cond (c < 0) ha rfl (decide_eq_true_iff) (fun hp => ?_) (fun hp => ?_)
    · replace hF := if_t hp hF; obtain rfl := Option.some.inj hF
      refine wp_region_lit ?_; refine op_g ha rfl (g_loadA (cs := [u0]) Tryz.isAgg33 Tryz.sizeOf33 rfl (by simp) hB5.all) ?_; clear ha a; intro a ha
      refine o_storeA (vs := [u0]) ha hbb Tryz.sizeOf33 rfl rfl (by intro c hc; simp only [List.mem_cons, List.not_mem_nil, or_false] at hc; subst hc; exact hr1.oneC) rfl ?_; intro w7 hB7 hc7
      have hf7 := hs5.bf.chg hc7 (by rw [List.mem_singleton]; exact hS.fb)
      have hr7 := hr1.chg hc7 (fun k hk hm => by rw [List.mem_singleton] at hm; exact ((hS.g k).1 (hG0 k hk)).2.2 hm)
      refine o_storeB ha hf7 Tryz.sizeOf4 rfl rfl rfl rfl (Nat.le_of_ble_eq_true rfl) ?_; intro w8 hB8 hc8
      have hb8 := hB7.chg hc8 (by rw [List.mem_singleton]; exact fun e => hS.fb e.symm)
      have hr8 := hr7.chg hc8 (fun k hk hm => by rw [List.mem_singleton] at hm; exact ((hS.g k).1 (hG0 k hk)).2.1 hm)
      refine wpList_nil ?_
      have hC : Chg [bF, bB] W w8 := Chg.trans (Chg.trans hE5.chg hc7 (fun i hi => .inl (by rw [List.mem_singleton] at hi; simp [hi]))) hc8 (fun i hi => .inl (by rw [List.mem_singleton] at hi; simp [hi]))
      exact f_end0 ha rfl ⟨rfl, ⟨hB8, u0, fp0, hb8, hr8, hG0⟩, hC⟩
    replace hF := if_f hp hF; obtain rfl := Option.some.inj hF; refine wp_skip ?_
    exact f_end0 ha rfl ⟨rfl, hs5, hE5.chg⟩
set_option maxHeartbeats 4000000 in
theorem W_emb_step (hS : EmS G bX bT bF bB) {ve : Value} {fe : List Nat} {es : List (Int × Int)} (hGe : ∀ k ∈ fe, G k) {rc : List (List Int) → Int → EmA → Option EmA}
    (ih : ∀ {W : World} (he : Ro (Rp.prod Rp.int Rp.int) W fe ve es) {cs : List Value} {t : List (List Int)} (hX : Bx W bX [ve, tv bT cs t.length, (.func (.func 21) #[] #[(.pointer (some ⟨bF, 0, none⟩)), (.pointer (some ⟨bB, 0, none⟩))])] 61) (hT : Tn 66 G W bT cs t) (hGn : ∀ k, W.heap.size ≤ k → G k) {k : Int} (hk : InI k) {s : EmA} (hs : EmI 4 33 2 G bF bB W s) {r : EmA}, rc t k s = some r → Calls Tryz.prog 31 [.pointer (some ⟨bX, 0, none⟩), .int .i64 k].toArray W (Ret fun u w' => u = .tuple #[] ∧ EmI 4 33 2 G bF bB w' r ∧ Chg [bF, bB] W w'))
    {W : World} (he : Ro (Rp.prod Rp.int Rp.int) W fe ve es) {cs : List Value} {t : List (List Int)} (hX : Bx W bX [ve, tv bT cs t.length, (.func (.func 21) #[] #[(.pointer (some ⟨bF, 0, none⟩)), (.pointer (some ⟨bB, 0, none⟩))])] 61) (hT : Tn 66 G W bT cs t) (hGn : ∀ k, W.heap.size ≤ k → G k) {k : Int} (hk : InI k) {s : EmA} (hs : EmI 4 33 2 G bF bB W s) {r : EmA} (hF : F_impl_embedding_grow_body es rc t k s = some r) :
    Calls Tryz.prog 31 [.pointer (some ⟨bX, 0, none⟩), .int .i64 k].toArray W (Ret fun u w' => u = .tuple #[] ∧ EmI 4 33 2 G bF bB w' r ∧ Chg [bF, bB] W w') := by
  refine f_enter Tryz.func31 rfl Tryz.ntmps31 rfl ?_
  intro a ha
  replace ha : Fr 135 [(0, (.pointer (some ⟨bX, 0, none⟩))), (1, (.int .i64 k))] a := ha
  obtain ⟨nXf, nTf, nGf, nGt, nXt, nFt, nBt⟩ := nin_fb hS
  have hbT := hT.bx.blt
  have hbF := hs.bf.blt
  have hbB : bB < W.heap.size := by obtain ⟨_, _, h, _⟩ := hs.bb; exact h.blt
  obtain ⟨fT, ha1, hfT⟩ := hT.ro 3
  unfold F_impl_embedding_grow_body at hF
  refine wp_seq ?_; refine wp_seq ?_; refine wp_region_lit ?_; refine op_g ha rfl (g_move rfl) ?_; clear ha a; intro a ha; refine op_g ha rfl (g_move rfl) ?_; clear ha a; intro a ha; refine op_g ha rfl (g_nilP rfl) ?_; clear ha a; intro a ha; refine op_g ha rfl (g_field0 st61_0 rfl) ?_; clear ha a; intro a ha; refine op_g ha rfl (g_load Tryz.isAgg58 rfl (hX.cell rfl)) ?_; clear ha a; intro a ha; refine op_g ha rfl (g_lenR sl58.und he rfl) ?_; clear ha a; intro a ha; refine op_g ha rfl (g_eql rfl rfl) ?_; clear ha a; intro a ha; refine wpList_nil ?_; replace ha := ha.sub (σ' := [(0, (.pointer (some ⟨bX, 0, none⟩))), (1, (.int .i64 k)), (18, (.bool (decide (k = (es.length : Int)))))]) ⟨rfl, rfl, rfl, trivial⟩
  refine e_then ?_; refine c_cond (k = (es.length : Int)) ha rfl (decide_eq_true_iff) (fun hp9 => ?_) (fun hp9 => ?_)
  · replace hF := if_t hp9 hF
    refine wp_seq ?_; refine d_region [0, 1, 2, 3, 4, 5, 6, 7] hmix ?_; refine u_g 0 rfl (by kernel_rfl) (want0 _) ha rfl (g_move rfl) ?_; clear ha a; intro a ha; refine u_g 1 rfl (by kernel_rfl) (want0 _) ha rfl (g_nilP rfl) ?_; clear ha a; intro a ha; refine u_g 2 rfl (by kernel_rfl) (want0 _) ha rfl (g_field0 st61_2 rfl) ?_; clear ha a; intro a ha; refine u_g 3 rfl (by kernel_rfl) (want0 _) ha rfl (g_load Tryz.isAgg53 rfl (hX.cell rfl)) ?_; clear ha a; intro a ha; refine u_g 4 rfl (by kernel_rfl) (want0 _) ha rfl (g_move rfl) ?_; clear ha a; intro a ha; refine u_g 5 rfl (by kernel_rfl) (want0 _) ha rfl (g_nilP rfl) ?_; clear ha a; intro a ha; refine u_g 6 rfl (by kernel_rfl) (want0 _) ha rfl (g_field0 st61_1 rfl) ?_; clear ha a; intro a ha; refine u_g 7 rfl (by kernel_rfl) (want0 _) ha rfl (g_load Tryz.isAgg49 rfl (hX.cell rfl)) ?_; clear ha a; intro a ha
    refine u_only 8 rfl (by kernel_rfl) ?_; intro w8 hx8
    refine o_callv (cap := [(.pointer (some ⟨bF, 0, none⟩)), (.pointer (some ⟨bB, 0, none⟩))]) ha rfl rfl rfl Tryz.call21 (W_emb_each hS (ha1.ext hx8) (Nat.lt_of_lt_of_le hbT hx8.size) (hs.ext hx8) hF) ?_; clear ha a; rintro v9 w9 ⟨rfl, hs9, hc9⟩ a ha
    refine wpList_nil (e_sq ?_)
    refine ⟨fun h => absurd h (by decide), ?_⟩
    refine u_done (by kernel_rfl) ?_; intro w10 hx10
    refine e_then ?_; refine wp_ret ?_; refine e_then_ret ?_
    exact f_ret0 ha rfl ⟨rfl, hs9.ext hx10, (Chg.trans hx8.chg hc9 (fun i hi => .inl hi)).more hx10⟩
  replace hF := if_f hp9 hF; refine wp_skip ?_; refine e_then ?_; refine wp_seq ?_; refine d_quiet hmix (by kernel_rfl) ?_; refine q_g ha rfl (g_move rfl) ?_; clear ha a; intro a ha; refine q_g ha rfl (g_nilP rfl) ?_; clear ha a; intro a ha; refine q_g ha rfl (g_field0 st61_0 rfl) ?_; clear ha a; intro a ha; refine q_g ha rfl (g_load Tryz.isAgg58 rfl (hX.cell rfl)) ?_; clear ha a; intro a ha; refine q_g ha rfl (g_move rfl) ?_; clear ha a; intro a ha; obtain ⟨x13, g14, gx15, hF⟩ := idx_some hF
  obtain ⟨p16, cs17, f18, hf19, hpb20, hat21, hr22, hi23⟩ := he.at g14 gx15
  obtain ⟨f24, f25, c26, c27, rfl, rfl, h28, h29⟩ := hr22
  obtain ⟨rfl, hI32, rfl⟩ := h28
  obtain ⟨rfl, hI33, rfl⟩ := h29
  refine q_g ha rfl (hi23.gives sl58 rfl rfl) ?_; clear ha a; intro a ha; refine q_g ha rfl (g_field st82_0 rfl) ?_; clear ha a; intro a ha; refine q_g ha rfl (g_load Tryz.isAgg3 rfl (hat21 0 _ rfl)) ?_; clear ha a; intro a ha; refine q_g ha rfl (g_move rfl) ?_; clear ha a; intro a ha; refine q_g ha rfl (g_nilP rfl) ?_; clear ha a; intro a ha; refine q_g ha rfl (g_field0 st61_0 rfl) ?_; clear ha a; intro a ha; refine q_g ha rfl (g_load Tryz.isAgg58 rfl (hX.cell rfl)) ?_; clear ha a; intro a ha; refine q_g ha rfl (g_move rfl) ?_; clear ha a; intro a ha; obtain ⟨x34, g35, gx36, hF⟩ := idx_some hF
  obtain ⟨p37, cs38, f39, hf40, hpb41, hat42, hr43, hi44⟩ := he.at g35 gx36
  obtain ⟨f45, f46, c47, c48, rfl, rfl, h49, h50⟩ := hr43
  obtain ⟨rfl, hI53, rfl⟩ := h49
  obtain ⟨rfl, hI54, rfl⟩ := h50
  refine q_g ha rfl (hi44.gives sl58 rfl rfl) ?_; clear ha a; intro a ha; refine q_g ha rfl (g_field st82_1 rfl) ?_; clear ha a; intro a ha; refine q_g ha rfl (g_load Tryz.isAgg3 rfl (hat42 1 _ rfl)) ?_; clear ha a; intro a ha; refine q_g ha rfl (g_assign rfl) ?_; clear ha a; intro a ha; refine q_g ha rfl (g_assign rfl) ?_; clear ha a; intro a ha
  refine q_nil ?_; intro w55 hx55
  replace hX := hX.ext hx55
  replace ha := ha.sub (σ' := [(0, (.pointer (some ⟨bX, 0, none⟩))), (1, (.int .i64 k)), (4, (.int .i64 x13.1)), (5, (.int .i64 x34.2))]) ⟨rfl, rfl, rfl, rfl, trivial⟩; refine e_then ?_; refine wp_seq ?_; refine wp_region_lit ?_; refine op_g ha rfl (g_move rfl) ?_; clear ha a; intro a ha; refine op_g ha rfl (g_nilP rfl) ?_; clear ha a; intro a ha; refine op_g ha rfl (g_field0 st61_1 rfl) ?_; clear ha a; intro a ha; refine op_g ha rfl (g_load Tryz.isAgg49 rfl (hX.cell rfl)) ?_; clear ha a; intro a ha; obtain ⟨x58, hc59, hF⟩ := cal_some hF
  refine o_call ha rfl rfl Tryz.call52 (W_impl_turns_faces (ha1.ext hx55) hc59) ?_; clear ha a; rintro v60 w61 ⟨u63, u64, b65, fs69, m72, rfl, h66, z67, zf70, nd71, rfl, hM73, z74, hx62⟩ a ha
  clear h66 z67 zf70 nd71
  have zm : W.heap.size ≤ m72 := by have := hx55.size; rcases z74 with h | h <;> omega
  replace hX := hX.ext hx62
  have hE61 := Ext.trans hx55 hx62
  have hT61 := hT.ext hE61
  refine op_g ha rfl (g_move rfl) ?_; clear ha a; intro a ha; refine op_g ha rfl (g_extract rfl rfl) ?_; clear ha a; intro a ha; refine op_g ha rfl (g_extract rfl rfl) ?_; clear ha a; intro a ha; refine op_g ha rfl (g_assign rfl) ?_; clear ha a; intro a ha; refine op_g ha rfl (g_assign rfl) ?_; clear ha a; intro a ha; refine wpList_nil ?_; replace ha := ha.sub (σ' := [(0, (.pointer (some ⟨bX, 0, none⟩))), (1, (.int .i64 k)), (4, (.int .i64 x13.1)), (5, (.int .i64 x34.2)), (7, (.map (some m72)))]) ⟨rfl, rfl, rfl, rfl, rfl, trivial⟩; refine e_then ?_; refine wp_seq ?_; refine d_quiet hmix (by kernel_rfl) ?_
  refine q_g ha rfl (g_move rfl) ?_; clear ha a; intro a ha; refine q_g ha rfl (g_nilP rfl) ?_; clear ha a; intro a ha; refine q_g ha rfl (g_field0 st61_1 rfl) ?_; clear ha a; intro a ha; refine q_g ha rfl (g_load Tryz.isAgg49 rfl (hX.cell rfl)) ?_; clear ha a; intro a ha; refine q_g ha rfl (g_move rfl) ?_; clear ha a; intro a ha; obtain ⟨x84, g85, gx86, hF⟩ := idx_some hF
  obtain ⟨v95, f89, hcu, h96, hG96⟩ := hT.rw _ _ gx86
  obtain ⟨p87, cs88, f90, hf90, hpb91, hat92, hr93, hi94⟩ := ha1.at g85 gx86
  clear hat92 hr93 hpb91 hf90
  obtain ⟨rfl, hu0, hul⟩ := tv_idx hi94
  refine q_g ha rfl (hi94.gives sl49 rfl rfl) ?_; clear ha a; intro a ha; refine q_g ha rfl (g_load Tryz.isAgg66 rfl (hT61.bx.cell hcu)) ?_; clear ha a; intro a ha; refine q_g ha rfl (g_move rfl) ?_; clear ha a; intro a ha; refine q_g ha rfl (g_nilP rfl) ?_; clear ha a; intro a ha; refine q_g ha rfl (g_field0 st61_1 rfl) ?_; clear ha a; intro a ha; refine q_g ha rfl (g_load Tryz.isAgg49 rfl (hX.cell rfl)) ?_; clear ha a; intro a ha; refine q_g ha rfl (g_move rfl) ?_; clear ha a; intro a ha; obtain ⟨x98, g99, gx100, hF⟩ := idx_some hF
  obtain ⟨v109, f103, hcv, h110, hG110⟩ := hT.rw _ _ gx100
  obtain ⟨p101, cs102, f104, hf104, hpb105, hat106, hr107, hi108⟩ := ha1.at g99 gx100
  clear hat106 hr107 hpb105 hf104
  obtain ⟨rfl, hv0, hvl⟩ := tv_idx hi108
  refine q_g ha rfl (hi108.gives sl49 rfl rfl) ?_; clear ha a; intro a ha; refine q_g ha rfl (g_load Tryz.isAgg66 rfl (hT61.bx.cell hcv)) ?_; clear ha a; intro a ha; refine q_g ha rfl (g_assign rfl) ?_; clear ha a; intro a ha; refine q_g ha rfl (g_assign rfl) ?_; clear ha a; intro a ha
  refine q_nil ?_; intro w112 hx113
  replace hM73 := hM73.ext hx113
  have hE114 := Ext.trans hE61 hx113
  replace hX := hX.ext hx113
  have hs114 := hs.ext hE114
  replace ha := ha.sub (σ' := [(0, (.pointer (some ⟨bX, 0, none⟩))), (1, (.int .i64 k)), (4, (.int .i64 x13.1)), (5, (.int .i64 x34.2)), (7, (.map (some m72))), (8, v95), (9, v109)]) ⟨rfl, rfl, rfl, rfl, rfl, rfl, rfl, trivial⟩; refine e_then ?_; refine wp_seq ?_; refine wp_region_lit ?_; refine op_g ha rfl (g_move rfl) ?_; clear ha a; intro a ha; refine op_g ha rfl (g_lenR sl66.und h96 rfl) ?_; clear ha a; intro a ha; refine op_g ha rfl (g_max rfl rfl) ?_; clear ha a; intro a ha; refine op_g ha rfl (g_move rfl) ?_; clear ha a; intro a ha; refine wpList_nil ?_; replace ha := ha.sub (σ' := [(0, (.pointer (some ⟨bX, 0, none⟩))), (1, (.int .i64 k)), (4, (.int .i64 x13.1)), (5, (.int .i64 x34.2)), (7, (.map (some m72))), (8, v95), (9, v109), (68, (.int .i64 (max (x84.length : Int) 1))), (69, (.int .i64 0))]) ⟨rfl, rfl, rfl, rfl, rfl, rfl, rfl, rfl, rfl, trivial⟩
  refine e_then ?_; obtain ⟨o892, ho893, hK894⟩ := bnd_some hF
  obtain ⟨n895, hn896⟩ := lp_some ho893; clear ho893
  have hup : ∀ {w : World}, Chg [bF, bB] W w → Ro (Rp.prod Rp.int Rp.int) w fe ve es ∧ Tn 66 G w bT cs t := fun {w} h => ⟨he.chg h (fun k hk => nGf k (hGe k hk)), hT.chg h nTf nGf⟩
  refine c_loop (fun a w => ∃ s' : EmA, Fr 135 [] a ∧ Chg [bF, bB] W w ∧ EmI 4 33 2 G bF bB w s' ∧ o892 = .inl s')
    (fun n a w => ∃ (s' : EmA) (i : Int), Fr 135 [(0, (.pointer (some ⟨bX, 0, none⟩))), (1, (.int .i64 k)), (4, (.int .i64 x13.1)), (5, (.int .i64 x34.2)), (7, (.map (some m72))), (8, v95), (9, v109), (68, (.int .i64 (max (x84.length : Int) 1))), (69, (.int .i64 i))] a ∧ Chg [bF, bB] W w ∧ InI i ∧ EmI 4 33 2 G bF bB w s' ∧ MtP KP82 w m72 x58.2 ∧ Bx w bX [ve, tv bT cs t.length, (.func (.func 21) #[] #[(.pointer (some ⟨bF, 0, none⟩)), (.pointer (some ⟨bB, 0, none⟩))])] 61 ∧ lpN (fun q => F_emb_l1 x58.2 x84 x98 x13.1 x34.2 t k rc q.1 q.2) n (s', i) = some o892)
    n895 ⟨s, 0, ha.sub ⟨rfl, rfl, rfl, rfl, rfl, rfl, rfl, rfl, rfl, trivial⟩, hE114.chg, (show InI 0 from by decide), hs114, hM73, hX, hn896⟩ ?_ ?_
  · rintro m900 a w502 ⟨s5, i5, ha, hE5, hI5, hs5, hM5, hX5, hF⟩
    cases m900 with
    | zero => exact (lpN_zero hF).elim
    | succ m900 =>
      obtain ⟨z899, hF, hN898⟩ := lpN_succ hF
      have hF : F_emb_l1 x58.2 x84 x98 x13.1 x34.2 t k rc s5 i5 = some z899 := hF; unfold F_emb_l1 at hF
      refine wp_seq ?_; refine wp_region_lit ?_; refine op_g ha rfl (g_lss rfl rfl) ?_; clear ha a; intro a ha; refine wpList_nil ?_; replace ha := ha.sub (σ' := [(0, (.pointer (some ⟨bX, 0, none⟩))), (1, (.int .i64 k)), (4, (.int .i64 x13.1)), (5, (.int .i64 x34.2)), (7, (.map (some m72))), (8, v95), (9, v109), (68, (.int .i64 (max (x84.length : Int) 1))), (69, (.int .i64 i5)), (70, (.bool (decide (i5 < (max (x84.length : Int) 1)))))]) ⟨rfl, rfl, rfl, rfl, rfl, rfl, rfl, rfl, rfl, rfl, trivial⟩; refine e_then ?_; refine wp_seq ?_; refine c_cond (i5 < (max (x84.length : Int) 1)) ha rfl (decide_eq_true_iff) (fun hp901 => ?_) (fun hp901 => ?_)
      · replace hF := if_t hp901 hF
        refine wp_skip ?_; refine e_then ?_; refine wp_seq ?_; refine wp_block ?_; refine wp_seq ?_; refine wp_region_lit ?_; refine op_g ha rfl (g_move rfl) ?_; clear ha a; intro a ha; refine op_g ha rfl (g_assign rfl) ?_; clear ha a; intro a ha; refine wpList_nil ?_; replace ha := ha.sub (σ' := [(0, (.pointer (some ⟨bX, 0, none⟩))), (1, (.int .i64 k)), (4, (.int .i64 x13.1)), (5, (.int .i64 x34.2)), (7, (.map (some m72))), (8, v95), (9, v109), (10, (.int .i64 i5)), (68, (.int .i64 (max (x84.length : Int) 1))), (69, (.int .i64 i5))]) ⟨rfl, rfl, rfl, rfl, rfl, rfl, rfl, rfl, rfl, rfl, trivial⟩
        refine e_then ?_; refine wp_seq ?_; refine wp_region_lit ?_; refine op_g ha rfl (g_move rfl) ?_; clear ha a; intro a ha; refine op_g ha rfl (g_lenR sl66.und h110 rfl) ?_; clear ha a; intro a ha; refine op_g ha rfl (g_max rfl rfl) ?_; clear ha a; intro a ha; refine op_g ha rfl (g_move rfl) ?_; clear ha a; intro a ha; refine wpList_nil ?_; replace ha := ha.sub (σ' := [(0, (.pointer (some ⟨bX, 0, none⟩))), (1, (.int .i64 k)), (4, (.int .i64 x13.1)), (5, (.int .i64 x34.2)), (7, (.map (some m72))), (8, v95), (9, v109), (10, (.int .i64 i5)), (68, (.int .i64 (max (x84.length : Int) 1))), (69, (.int .i64 i5)), (74, (.int .i64 (max (x98.length : Int) 1))), (75, (.int .i64 0))]) ⟨rfl, rfl, rfl, rfl, rfl, rfl, rfl, rfl, rfl, rfl, rfl, rfl, trivial⟩
        refine e_then ?_; obtain ⟨o1155, ho1156, hK1157⟩ := bnd_some hF
        obtain ⟨n1158, hn1159⟩ := lp_some ho1156; clear ho1156
        refine c_loop (fun a w => ∃ s' : EmA, Fr 135 [(0, (.pointer (some ⟨bX, 0, none⟩))), (1, (.int .i64 k)), (4, (.int .i64 x13.1)), (5, (.int .i64 x34.2)), (7, (.map (some m72))), (8, v95), (9, v109), (68, (.int .i64 (max (x84.length : Int) 1))), (69, (.int .i64 i5))] a ∧ Chg [bF, bB] W w ∧ EmI 4 33 2 G bF bB w s' ∧ MtP KP82 w m72 x58.2 ∧ Bx w bX [ve, tv bT cs t.length, (.func (.func 21) #[] #[(.pointer (some ⟨bF, 0, none⟩)), (.pointer (some ⟨bB, 0, none⟩))])] 61 ∧ o1155 = .inl s')
          (fun n a w => ∃ (s' : EmA) (m : Int), Fr 135 [(0, (.pointer (some ⟨bX, 0, none⟩))), (1, (.int .i64 k)), (4, (.int .i64 x13.1)), (5, (.int .i64 x34.2)), (7, (.map (some m72))), (8, v95), (9, v109), (10, (.int .i64 i5)), (68, (.int .i64 (max (x84.length : Int) 1))), (69, (.int .i64 i5)), (74, (.int .i64 (max (x98.length : Int) 1))), (75, (.int .i64 m))] a ∧ Chg [bF, bB] W w ∧ InI m ∧ EmI 4 33 2 G bF bB w s' ∧ MtP KP82 w m72 x58.2 ∧ Bx w bX [ve, tv bT cs t.length, (.func (.func 21) #[] #[(.pointer (some ⟨bF, 0, none⟩)), (.pointer (some ⟨bB, 0, none⟩))])] 61 ∧ lpN (fun q => F_emb_l2 x58.2 x84 x98 x13.1 x34.2 t k rc i5 q.1 q.2) n (s', m) = some o1155)
          n1158 ⟨s5, 0, ha.sub ⟨rfl, rfl, rfl, rfl, rfl, rfl, rfl, rfl, rfl, rfl, rfl, rfl, trivial⟩, hE5, (show InI 0 from by decide), hs5, hM5, hX5, hn1159⟩ ?_ ?_
        · rintro m1163 a w7 ⟨s7, m7, ha, hE7, hI7, hs7, hM7, hX7, hF⟩
          cases m1163 with
          | zero => exact (lpN_zero hF).elim
          | succ m1163 =>
            obtain ⟨z1162, hF, hN1161⟩ := lpN_succ hF
            have hF : F_emb_l2 x58.2 x84 x98 x13.1 x34.2 t k rc i5 s7 m7 = some z1162 := hF; unfold F_emb_l2 at hF
            refine wp_seq ?_; refine wp_region_lit ?_; refine op_g ha rfl (g_lss rfl rfl) ?_; clear ha a; intro a ha; refine wpList_nil ?_; replace ha := ha.sub (σ' := [(0, (.pointer (some ⟨bX, 0, none⟩))), (1, (.int .i64 k)), (4, (.int .i64 x13.1)), (5, (.int .i64 x34.2)), (7, (.map (some m72))), (8, v95), (9, v109), (10, (.int .i64 i5)), (68, (.int .i64 (max (x84.length : Int) 1))), (69, (.int .i64 i5)), (74, (.int .i64 (max (x98.length : Int) 1))), (75, (.int .i64 m7)), (76, (.bool (decide (m7 < (max (x98.length : Int) 1)))))]) ⟨rfl, rfl, rfl, rfl, rfl, rfl, rfl, rfl, rfl, rfl, rfl, rfl, rfl, trivial⟩
            refine e_then ?_; refine wp_seq ?_; refine c_cond (m7 < (max (x98.length : Int) 1)) ha rfl (decide_eq_true_iff) (fun hp1164 => ?_) (fun hp1164 => ?_)
            · replace hF := if_t hp1164 hF
              refine wp_skip ?_; refine e_then ?_; refine wp_seq ?_; refine wp_block ?_; refine wp_seq ?_; refine wp_region_lit ?_; refine op_g ha rfl (g_move rfl) ?_; clear ha a; intro a ha; refine op_g ha rfl (g_assign rfl) ?_; clear ha a; intro a ha; refine wpList_nil ?_; replace ha := ha.sub (σ' := [(0, (.pointer (some ⟨bX, 0, none⟩))), (1, (.int .i64 k)), (4, (.int .i64 x13.1)), (5, (.int .i64 x34.2)), (7, (.map (some m72))), (8, v95), (9, v109), (10, (.int .i64 i5)), (11, (.int .i64 m7)), (68, (.int .i64 (max (x84.length : Int) 1))), (69, (.int .i64 i5)), (74, (.int .i64 (max (x98.length : Int) 1))), (75, (.int .i64 m7))]) ⟨rfl, rfl, rfl, rfl, rfl, rfl, rfl, rfl, rfl, rfl, rfl, rfl, rfl, trivial⟩
              refine e_then ?_; obtain ⟨cc, hcc, hF⟩ := cal_some hF; refine wp_seq ?_; refine s_cut (fun a w' => Fr 135 [(0, (.pointer (some ⟨bX, 0, none⟩))), (1, (.int .i64 k)), (4, (.int .i64 x13.1)), (5, (.int .i64 x34.2)), (7, (.map (some m72))), (8, v95), (9, v109), (10, (.int .i64 i5)), (11, (.int .i64 m7)), (68, (.int .i64 (max (x84.length : Int) 1))), (69, (.int .i64 i5)), (74, (.int .i64 (max (x98.length : Int) 1))), (75, (.int .i64 m7)), (104, (.bool cc))] a ∧ Ext w7 w') ?_ ?_
              · clear hF; unfold F_emb_corner at hcc
                refine d_quiet hmix (by kernel_rfl) ?_; refine q_g ha rfl (g_move rfl) ?_; clear ha a; intro a ha; refine q_g ha rfl (g_lenR sl66.und h96 rfl) ?_; clear ha a; intro a ha; refine q_g ha rfl (g_gtr rfl rfl) ?_; clear ha a; intro a ha; refine q_g ha rfl (g_move rfl) ?_; clear ha a; intro a ha
                by_cases hp1 : 0 < (x84.length : Int)
                · replace hcc := if_t hp1 hcc
                  rw [show (decide (0 < (x84.length : Int))) = true from (decide_eq_true_iff).2 hp1] at ha
                  refine q_want (yields ha rfl rfl) ?_; refine q_g ha rfl (g_move rfl) ?_; clear ha a; intro a ha; refine q_want (yields ha rfl rfl) ?_; refine q_g ha rfl (g_lenR sl66.und h110 rfl) ?_; clear ha a; intro a ha; refine q_want (yields ha rfl rfl) ?_; refine q_g ha rfl (g_gtr rfl rfl) ?_; clear ha a; intro a ha; refine q_g ha rfl (g_pick rfl rfl) ?_; clear ha a; intro a ha; refine q_g ha rfl (g_move rfl) ?_; clear ha a; intro a ha
                  by_cases hp2 : 0 < (x98.length : Int)
                  · replace hcc := if_t hp2 hcc
                    rw [show (decide (0 < (x98.length : Int))) = true from (decide_eq_true_iff).2 hp2] at ha
                    refine q_want (yields ha rfl rfl) ?_; refine q_g ha rfl (g_move rfl) ?_; clear ha a; intro a ha; refine q_want (yields ha rfl rfl) ?_; refine q_g ha rfl (g_move rfl) ?_; clear ha a; intro a ha; refine q_want (yields ha rfl rfl) ?_; refine q_g ha rfl (g_move rfl) ?_; clear ha a; intro a ha
                    refine q_want (yields ha rfl rfl) ?_; obtain ⟨x1167, g1168, gx1169, hcc⟩ := idx_some hcc
                    obtain ⟨p1170, cs1171, f1172, hf1173, hpb1174, hat1175, hr1176, hi1177⟩ := (h96.chg hE7 (fun k hk => nGf k (hG96 k hk))).at g1168 gx1169
                    obtain ⟨rfl, hI1178, rfl⟩ := hr1176
                    refine q_g ha rfl (hi1177.gives sl66 rfl rfl) ?_; clear ha a; intro a ha; refine q_want (yields ha rfl rfl) ?_; refine q_g ha rfl (g_load Tryz.isAgg3 rfl hat1175.one) ?_; clear ha a; intro a ha; refine q_want (yields ha rfl rfl) ?_; refine q_g ha rfl (g_move rfl) ?_; clear ha a; intro a ha; refine q_want (yields ha rfl rfl) ?_; refine q_g ha rfl (g_build (vs := [(0, (.int .i64 x1167)), (1, (.int .i64 x13.1))]) (cells := #[(.int .i64 x1167), (.int .i64 x13.1)]) rfl (by rfl)) ?_; clear ha a; intro a ha; refine q_want (yields ha rfl rfl) ?_; refine q_g ha rfl (g_lookup1 rfl rfl (hM7.look1 uM84 Tryz.zeroValue3 hI1178 hI32)) ?_; clear ha a; intro a ha; refine q_want (yields ha rfl rfl) ?_; refine q_g ha rfl (g_move rfl) ?_; clear ha a; intro a ha; refine q_want (yields ha rfl rfl) ?_; refine q_g ha rfl (g_move rfl) ?_; clear ha a; intro a ha; refine q_want (yields ha rfl rfl) ?_; refine q_g ha rfl (g_move rfl) ?_; clear ha a; intro a ha
                    refine q_want (yields ha rfl rfl) ?_; obtain ⟨x1179, g1180, gx1181, hcc⟩ := idx_some hcc
                    obtain ⟨p1182, cs1183, f1184, hf1185, hpb1186, hat1187, hr1188, hi1189⟩ := (h110.chg hE7 (fun k hk => nGf k (hG110 k hk))).at g1180 gx1181
                    obtain ⟨rfl, hI1190, rfl⟩ := hr1188
                    refine q_g ha rfl (hi1189.gives sl66 rfl rfl) ?_; clear ha a; intro a ha; refine q_want (yields ha rfl rfl) ?_; refine q_g ha rfl (g_load Tryz.isAgg3 rfl hat1187.one) ?_; clear ha a; intro a ha; refine q_want (yields ha rfl rfl) ?_; refine q_g ha rfl (g_move rfl) ?_; clear ha a; intro a ha; refine q_want (yields ha rfl rfl) ?_; refine q_g ha rfl (g_build (vs := [(0, (.int .i64 x1179)), (1, (.int .i64 x34.2))]) (cells := #[(.int .i64 x1179), (.int .i64 x34.2)]) rfl (by rfl)) ?_; clear ha a; intro a ha; refine q_want (yields ha rfl rfl) ?_; refine q_g ha rfl (g_lookup1 rfl rfl (hM7.look1 uM84 Tryz.zeroValue3 hI1190 hI54)) ?_; clear ha a; intro a ha; refine q_want (yields ha rfl rfl) ?_; refine q_g ha rfl (g_neq rfl rfl) ?_; clear ha a; intro a ha
                    refine q_g ha rfl (g_pick rfl rfl) ?_; clear ha a; intro a ha
                    obtain rfl := Option.some.inj hcc
                    refine q_nil ?_; intro w8 hx8
                    refine e_sq ?_
                    exact ⟨ha.sub ⟨rfl, rfl, rfl, rfl, rfl, rfl, rfl, rfl, rfl, rfl, rfl, rfl, rfl, rfl, trivial⟩, hx8⟩
                  replace hcc := if_f hp2 hcc
                  rw [show (decide (0 < (x98.length : Int))) = false from b_false (decide_eq_true_iff) hp2] at ha
                  (iterate 17 refine q_unwant ha rfl (yields ha rfl rfl) rfl ?_; clear ha a; intro a ha); refine q_g ha rfl (g_pick rfl rfl) ?_; clear ha a; intro a ha
                  obtain rfl := Option.some.inj hcc
                  refine q_nil ?_; intro w8 hx8
                  refine e_sq ?_
                  exact ⟨ha.sub ⟨rfl, rfl, rfl, rfl, rfl, rfl, rfl, rfl, rfl, rfl, rfl, rfl, rfl, rfl, trivial⟩, hx8⟩
                replace hcc := if_f hp1 hcc
                rw [show (decide (0 < (x84.length : Int))) = false from b_false (decide_eq_true_iff) hp1] at ha
                (iterate 3 refine q_unwant ha rfl (yields ha rfl rfl) rfl ?_; clear ha a; intro a ha); refine q_g ha rfl (g_pick rfl rfl) ?_; clear ha a; intro a ha; refine q_g ha rfl (g_move rfl) ?_; clear ha a; intro a ha; (iterate 17 refine q_unwant ha rfl (yields ha rfl rfl) rfl ?_; clear ha a; intro a ha); refine q_g ha rfl (g_pick rfl rfl) ?_; clear ha a; intro a ha
                obtain rfl := Option.some.inj hcc
                refine q_nil ?_; intro w8 hx8
                refine e_sq ?_
                exact ⟨ha.sub ⟨rfl, rfl, rfl, rfl, rfl, rfl, rfl, rfl, rfl, rfl, rfl, rfl, rfl, rfl, trivial⟩, hx8⟩
              rintro a w8 ⟨ha, hx8⟩
              replace hM7 := hM7.ext hx8; replace hX7 := hX7.ext hx8; replace hs7 := hs7.ext hx8; replace hE7 := hE7.more hx8
              refine c_cond (cc = true) ha rfl Iff.rfl (fun hp3 => ?_) (fun hp3 => ?_)
              · replace hF := if_t hp3 hF
                refine wp_exit ?_; refine e_then_exit ?_; refine e_blk_eq ?_; refine e_then ?_; refine wp_region_lit ?_; obtain ⟨hI9, hF⟩ := ck_some hF; refine op_g ha rfl (g_add rfl rfl hI9) ?_; clear ha a; intro a ha; refine op_g ha rfl (g_move rfl) ?_; clear ha a; intro a ha; refine wpList_nil ?_; replace ha := ha.sub (σ' := [(0, (.pointer (some ⟨bX, 0, none⟩))), (1, (.int .i64 k)), (4, (.int .i64 x13.1)), (5, (.int .i64 x34.2)), (7, (.map (some m72))), (8, v95), (9, v109), (10, (.int .i64 i5)), (68, (.int .i64 (max (x84.length : Int) 1))), (69, (.int .i64 i5)), (74, (.int .i64 (max (x98.length : Int) 1))), (75, (.int .i64 (m7 + 1)))]) ⟨rfl, rfl, rfl, rfl, rfl, rfl, rfl, rfl, rfl, rfl, rfl, rfl, trivial⟩
                refine e_lq ?_; obtain rfl := Option.some.inj hF
                exact ⟨_, Nat.lt_succ_self _, s7, m7 + 1, ha.sub ⟨rfl, rfl, rfl, rfl, rfl, rfl, rfl, rfl, rfl, rfl, rfl, rfl, trivial⟩, hE7, hI9, hs7, hM7, hX7, hN1161⟩
              replace hF := if_f hp3 hF; refine wp_skip ?_; refine e_then ?_
              obtain ⟨he7, hT7⟩ := hup hE7
              obtain ⟨t1, ht1, hF⟩ := cal_some hF; obtain ⟨t2, ht2, hF⟩ := cal_some hF; obtain ⟨hIk, hF⟩ := ck_some hF; obtain ⟨s9, hs9, hF⟩ := cal_some hF
              have hGn7 : ∀ k, w8.heap.size ≤ k → G k := fun k hk => hGn k (Nat.le_trans hE7.size hk)
              clear he
              refine wp_seq ?_; refine wp_region_lit ?_; refine op_g ha rfl (g_move rfl) ?_; clear ha a; intro a ha; refine op_g ha rfl (g_move rfl) ?_; clear ha a; intro a ha; refine op_g ha rfl (g_move rfl) ?_; clear ha a; intro a ha; refine op_g ha rfl (g_move rfl) ?_; clear ha a; intro a ha
              refine o_call ha rfl rfl Tryz.call53 (W_impl_embedding_put hS hX7 hT7 hGn7 hI32 hI54 hI5 ht1) ?_; clear ha a; rintro v10 w10 ⟨rfl, ⟨y1, hT10⟩, hl1, hc10⟩ a ha
              refine wpList_nil ?_; replace ha := ha.sub (σ' := [(0, (.pointer (some ⟨bX, 0, none⟩))), (1, (.int .i64 k)), (4, (.int .i64 x13.1)), (5, (.int .i64 x34.2)), (7, (.map (some m72))), (8, v95), (9, v109), (10, (.int .i64 i5)), (11, (.int .i64 m7)), (68, (.int .i64 (max (x84.length : Int) 1))), (69, (.int .i64 i5)), (74, (.int .i64 (max (x98.length : Int) 1))), (75, (.int .i64 m7))]) ⟨rfl, rfl, rfl, rfl, rfl, rfl, rfl, rfl, rfl, rfl, rfl, rfl, rfl, trivial⟩; refine e_then ?_
              have e10 : tv bT (cs.set x13.1.toNat y1) t1.length = tv bT cs t.length := by unfold tv; rw [List.length_set, hl1]
              have hX10 := hX7.chg hc10 nXt
              refine wp_seq ?_; refine wp_region_lit ?_; refine op_g ha rfl (g_move rfl) ?_; clear ha a; intro a ha; refine op_g ha rfl (g_move rfl) ?_; clear ha a; intro a ha; refine op_g ha rfl (g_move rfl) ?_; clear ha a; intro a ha; refine op_g ha rfl (g_move rfl) ?_; clear ha a; intro a ha
              refine o_call ha rfl rfl Tryz.call53 (W_impl_embedding_put hS (by rw [e10]; exact hX10) hT10 (fun k hk => hGn7 k (Nat.le_trans hc10.size hk)) hI54 hI32 hI7 ht2) ?_; clear ha a; rintro v11 w11 ⟨rfl, ⟨y2, hT11⟩, hl2, hc11⟩ a ha
              refine wpList_nil ?_; replace ha := ha.sub (σ' := [(0, (.pointer (some ⟨bX, 0, none⟩))), (1, (.int .i64 k)), (4, (.int .i64 x13.1)), (5, (.int .i64 x34.2)), (7, (.map (some m72))), (8, v95), (9, v109), (10, (.int .i64 i5)), (11, (.int .i64 m7)), (68, (.int .i64 (max (x84.length : Int) 1))), (69, (.int .i64 i5)), (74, (.int .i64 (max (x98.length : Int) 1))), (75, (.int .i64 m7))]) ⟨rfl, rfl, rfl, rfl, rfl, rfl, rfl, rfl, rfl, rfl, rfl, rfl, rfl, trivial⟩; refine e_then ?_
              have e11 : tv bT ((cs.set x13.1.toNat y1).set x34.2.toNat y2) t2.length = tv bT cs t.length := by unfold tv; rw [List.length_set, List.length_set, hl2, hl1]
              have hX11 := hX10.chg hc11 nXt
              have hc8 := hc10.same hc11
              refine wp_seq ?_; refine wp_region_lit ?_; refine op_g ha rfl (g_move rfl) ?_; clear ha a; intro a ha; refine op_g ha rfl (g_move rfl) ?_; clear ha a; intro a ha; refine op_g ha rfl (g_add rfl rfl hIk) ?_; clear ha a; intro a ha
              refine o_call ha rfl rfl Tryz.call31 (ih (he7.chg hc8 (fun k hk => nGt k (hGe k hk))) (by rw [e11]; exact hX11) hT11 (fun k hk => hGn7 k (Nat.le_trans hc8.size hk)) hIk (hs7.chg hc8 nFt nBt nGt) hs9) ?_; clear ha a; rintro v12 w12 ⟨rfl, hs12, hc12⟩ a ha
              refine wpList_nil ?_; replace ha := ha.sub (σ' := [(0, (.pointer (some ⟨bX, 0, none⟩))), (1, (.int .i64 k)), (4, (.int .i64 x13.1)), (5, (.int .i64 x34.2)), (7, (.map (some m72))), (8, v95), (9, v109), (10, (.int .i64 i5)), (11, (.int .i64 m7)), (68, (.int .i64 (max (x84.length : Int) 1))), (69, (.int .i64 i5)), (74, (.int .i64 (max (x98.length : Int) 1))), (75, (.int .i64 m7))]) ⟨rfl, rfl, rfl, rfl, rfl, rfl, rfl, rfl, rfl, rfl, rfl, rfl, rfl, trivial⟩
              have hX12 := hX11.chg hc12 nXf
              have hB12 := hT11.bx.chg hc12 nTf
              have hM12 := (hM7.chg hc8 (by rw [List.mem_singleton]; omega)).chg hc12 (by simp only [List.mem_cons, List.not_mem_nil, or_false, not_or]; omega)
              refine e_then ?_; refine d_region [0, 1, 2, 3, 4, 5, 6, 7, 8, 10, 12] hmix ?_; refine u_p 9 rfl (by kernel_rfl) (want0 _) ha rfl (fun _ => g_move rfl) ?_; clear ha a; intro a ha; refine u_p 11 rfl (by kernel_rfl) (want0 _) ha rfl (fun _ => g_move rfl) ?_; clear ha a; intro a ha; refine u_g 0 rfl (by kernel_rfl) (want0 _) ha rfl (g_move rfl) ?_; clear ha a; intro a ha; refine u_g 1 rfl (by kernel_rfl) (want0 _) ha rfl (g_nilP rfl) ?_; clear ha a; intro a ha; refine u_g 2 rfl (by kernel_rfl) (want0 _) ha rfl (g_field0 st61_1 rfl) ?_; clear ha a; intro a ha; refine u_g 3 rfl (by kernel_rfl) (want0 _) ha rfl (g_load Tryz.isAgg49 rfl (hX12.cell rfl)) ?_; clear ha a; intro a ha; refine u_g 4 rfl (by kernel_rfl) (want0 _) ha rfl (g_move rfl) ?_; clear ha a; intro a ha; refine u_g 5 rfl (by kernel_rfl) (want0 _) ha rfl (g_move rfl) ?_; clear ha a; intro a ha; refine u_g 6 rfl (by kernel_rfl) (want0 _) ha rfl (g_nilP rfl) ?_; clear ha a; intro a ha; refine u_g 7 rfl (by kernel_rfl) (want0 _) ha rfl (g_field0 st61_1 rfl) ?_; clear ha a; intro a ha; refine u_g 8 rfl (by kernel_rfl) (want0 _) ha rfl (g_load Tryz.isAgg49 rfl (hX12.cell rfl)) ?_; clear ha a; intro a ha; refine u_g 10 rfl (by kernel_rfl) (want0 _) ha rfl (g_move rfl) ?_; clear ha a; intro a ha; refine u_g 12 rfl (by kernel_rfl) (want0 _) ha rfl (hi94.gives sl49 rfl rfl) ?_; clear ha a; intro a ha
              refine u_only 13 rfl (by kernel_rfl) ?_; intro w13 hx13
              have hul2 : x13.1.toNat < cs.length := Nat.lt_of_lt_of_le hul hT.le
              have hvl2 : x34.2.toNat < cs.length := Nat.lt_of_lt_of_le hvl hT.le
              refine o_storeB ha (hB12.ext hx13) Tryz.sizeOf66 rfl rfl h96.cells h96.oneC (by simpa using hul2) ?_; intro w14 hB14 hc14
              refine wpList_nil (e_sq ?_)
              refine ⟨fun h => absurd h (by decide), ?_⟩
              refine u_only 14 rfl (by kernel_rfl) ?_; intro w15 hx15
              refine op_g ha rfl (hi108.gives sl49 rfl rfl) ?_; clear ha a; intro a ha; refine wpList_nil (e_sq ?_)
              refine ⟨fun h => absurd h (by decide), ?_⟩
              refine u_only 15 rfl (by kernel_rfl) ?_; intro w16 hx16
              refine o_storeB ha ((hB14.ext hx15).ext hx16) Tryz.sizeOf66 rfl rfl h110.cells h110.oneC (by simpa using hvl2) ?_; intro w17 hB17 hc17
              refine wpList_nil (e_sq ?_)
              refine ⟨fun h => absurd h (by decide), ?_⟩
              refine u_done (by kernel_rfl) ?_; intro w18 hx18
              replace ha := ha.sub (σ' := [(0, (.pointer (some ⟨bX, 0, none⟩))), (1, (.int .i64 k)), (4, (.int .i64 x13.1)), (5, (.int .i64 x34.2)), (7, (.map (some m72))), (8, v95), (9, v109), (10, (.int .i64 i5)), (11, (.int .i64 m7)), (68, (.int .i64 (max (x84.length : Int) 1))), (69, (.int .i64 i5)), (74, (.int .i64 (max (x98.length : Int) 1))), (75, (.int .i64 m7))]) ⟨rfl, rfl, rfl, rfl, rfl, rfl, rfl, rfl, rfl, rfl, rfl, rfl, rfl, trivial⟩
              rw [set_back cs hcu hcv] at hB17
              have hc18 : Chg [bT] w12 w18 := ((((Chg.trans hx13.chg hc14 (fun i hi => .inl hi)).more (hx15.trans hx16)).same hc17)).more hx18
              have hcA : Chg [bT, bF, bB] w8 w18 := Chg.trans (Chg.trans (Chg.trans (Chg.refl _ _) hc8 (fun i hi => .inl (by rw [List.mem_singleton] at hi; simp [hi]))) hc12 (fun i hi => .inl (List.mem_cons_of_mem _ hi))) hc18 (fun i hi => .inl (by rw [List.mem_singleton] at hi; simp [hi]))
              have hc19 := hcA.back (hT7.bx.sameAs (hB17.ext hx18))
              have hE18 := hE7.same hc19
              have hs18 := hs12.chg hc18 nFt nBt nGt
              have hM18 := hM12.chg hc18 (by rw [List.mem_singleton]; omega)
              have hX18 := hX12.chg hc18 nXt
              refine e_blk ?_; refine e_then ?_; refine wp_region_lit ?_; obtain ⟨hI9, hF⟩ := ck_some hF; refine op_g ha rfl (g_add rfl rfl hI9) ?_; clear ha a; intro a ha; refine op_g ha rfl (g_move rfl) ?_; clear ha a; intro a ha; refine wpList_nil ?_; replace ha := ha.sub (σ' := [(0, (.pointer (some ⟨bX, 0, none⟩))), (1, (.int .i64 k)), (4, (.int .i64 x13.1)), (5, (.int .i64 x34.2)), (7, (.map (some m72))), (8, v95), (9, v109), (10, (.int .i64 i5)), (68, (.int .i64 (max (x84.length : Int) 1))), (69, (.int .i64 i5)), (74, (.int .i64 (max (x98.length : Int) 1))), (75, (.int .i64 (m7 + 1)))]) ⟨rfl, rfl, rfl, rfl, rfl, rfl, rfl, rfl, rfl, rfl, rfl, rfl, trivial⟩
              refine e_lq ?_; obtain rfl := Option.some.inj hF
              exact ⟨_, Nat.lt_succ_self _, s9, m7 + 1, ha.sub ⟨rfl, rfl, rfl, rfl, rfl, rfl, rfl, rfl, rfl, rfl, rfl, rfl, trivial⟩, hE18, hI9, hs18, hM18, hX18, hN1161⟩
            replace hF := if_f hp1164 hF; refine wp_exit ?_; refine e_then_exit ?_; refine e_lq_eq ?_; obtain rfl := Option.some.inj hF
            exact ⟨s7, ha.sub ⟨rfl, rfl, rfl, rfl, rfl, rfl, rfl, rfl, rfl, trivial⟩, hE7, hs7, hM7, hX7, (LK_inr hN1161).symm⟩
        rintro a w20 ⟨s20, ha, hE20, hs20, hM20, hX20, rfl⟩
        have hF : F_emb_k3 i5 s20 = some _ := hK1157; clear hK1157; unfold F_emb_k3 at hF
        refine e_blk ?_; refine e_then ?_; refine wp_region_lit ?_; obtain ⟨hI21, hF⟩ := ck_some hF; refine op_g ha rfl (g_add rfl rfl hI21) ?_; clear ha a; intro a ha; refine op_g ha rfl (g_move rfl) ?_; clear ha a; intro a ha; refine wpList_nil ?_; replace ha := ha.sub (σ' := [(0, (.pointer (some ⟨bX, 0, none⟩))), (1, (.int .i64 k)), (4, (.int .i64 x13.1)), (5, (.int .i64 x34.2)), (7, (.map (some m72))), (8, v95), (9, v109), (68, (.int .i64 (max (x84.length : Int) 1))), (69, (.int .i64 (i5 + 1)))]) ⟨rfl, rfl, rfl, rfl, rfl, rfl, rfl, rfl, rfl, trivial⟩; refine e_lq ?_; obtain rfl := Option.some.inj hF
        exact ⟨_, Nat.lt_succ_self _, s20, i5 + 1, ha.sub ⟨rfl, rfl, rfl, rfl, rfl, rfl, rfl, rfl, rfl, trivial⟩, hE20, hI21, hs20, hM20, hX20, hN898⟩
      replace hF := if_f hp901 hF; refine wp_exit ?_; refine e_then_exit ?_; refine e_lq_eq ?_; obtain rfl := Option.some.inj hF
      exact ⟨s5, ha.sub trivial, hE5, hs5, (LK_inr hN898).symm⟩
  rintro a w891 ⟨s22, ha, hE22, hs22, rfl⟩
  have hF : F_emb_k4 s22 = some _ := hK894; clear hK894; unfold F_emb_k4 at hF
  obtain rfl := Option.some.inj hF
  exact f_end0 ha rfl ⟨rfl, hs22, hE22⟩
theorem W_impl_embedding_grow (hS : EmS G bX bT bF bB) {ve : Value} {fe : List Nat} {es : List (Int × Int)} (hGe : ∀ k ∈ fe, G k) {W : World} (he : Ro (Rp.prod Rp.int Rp.int) W fe ve es) {cs : List Value} {t : List (List Int)} (hX : Bx W bX [ve, tv bT cs t.length, (.func (.func 21) #[] #[(.pointer (some ⟨bF, 0, none⟩)), (.pointer (some ⟨bB, 0, none⟩))])] 61) (hT : Tn 66 G W bT cs t) (hGn : ∀ k, W.heap.size ≤ k → G k) {k : Int} (hk : InI k) {s : EmA} (hs : EmI 4 33 2 G bF bB W s) {r : EmA} (hF : F_impl_embedding_grow es t k s = some r) :
    Calls Tryz.prog 31 [.pointer (some ⟨bX, 0, none⟩), .int .i64 k].toArray W (Ret fun u w' => u = .tuple #[] ∧ EmI 4 33 2 G bF bB w' r ∧ Chg [bF, bB] W w') := by
  obtain ⟨n, hn⟩ := fixO_some hF
  clear hF
  have key : ∀ (n : Nat) {W : World} (he : Ro (Rp.prod Rp.int Rp.int) W fe ve es) {cs : List Value} {t : List (List Int)} (hX : Bx W bX [ve, tv bT cs t.length, (.func (.func 21) #[] #[(.pointer (some ⟨bF, 0, none⟩)), (.pointer (some ⟨bB, 0, none⟩))])] 61) (hT : Tn 66 G W bT cs t) (hGn : ∀ k, W.heap.size ≤ k → G k) {k : Int} (hk : InI k) {s : EmA} (hs : EmI 4 33 2 G bF bB W s) {r : EmA} (hF : itN (F_impl_embedding_grow_B es) n (t, k, s) = some r), Calls Tryz.prog 31 [.pointer (some ⟨bX, 0, none⟩), .int .i64 k].toArray W (Ret fun u w' => u = .tuple #[] ∧ EmI 4 33 2 G bF bB w' r ∧ Chg [bF, bB] W w') := by
    intro n
    induction n with
    | zero => intro W he cs t hX hT hGn k hk s hs r hF; cases hF
    | succ n ih => intro W he cs t hX hT hGn k hk s hs r hF; exact W_emb_step hS hGe (rc := fun z0 z1 z2 => itN (F_impl_embedding_grow_B es) n (z0, z1, z2)) @ih he hX hT hGn hk hs hF
  exact key n he hX hT hGn hk hs hn
end
set_option maxHeartbeats 2000000 in
theorem W_impl_embeddings {bF bB : Nat} (hfb : bF ≠ bB) {W : World} {va0 : Value} {fa0 : List Nat} {a0 : List (BitVec 32)} (ha0 : Ro Rp.u32 W fa0 va0 a0) (hG : GT 0 W) {s : EmA} (hs : EmI 4 33 2 (fun k => k ≠ bF ∧ k ≠ bB) bF bB W s) {r : EmA} (hF : F_impl_embeddings a0 s = some r) :
    Calls Tryz.prog 19 [va0, (.func (.func 21) #[] #[(.pointer (some ⟨bF, 0, none⟩)), (.pointer (some ⟨bB, 0, none⟩))])].toArray W (Ret fun u w' => u = .tuple #[] ∧ (∃ G, EmI 4 33 2 G bF bB w' r) ∧ Chg [bF, bB] W w') := by
  refine f_enter Tryz.func19 rfl Tryz.ntmps19 rfl ?_
  intro a ha
  replace ha : Fr 15 [(0, va0), (1, (.func (.func 21) #[] #[(.pointer (some ⟨bF, 0, none⟩)), (.pointer (some ⟨bB, 0, none⟩))]))] a := ha
  have hE : Chg [] W W := Chg.refl _ _
  unfold F_impl_embeddings at hF
  have hbF := hs.bf.blt
  have hbB : bB < W.heap.size := by obtain ⟨_, _, h, _⟩ := hs.bb; exact h.blt
  obtain ⟨es, hes, hF⟩ := cal_some hF; obtain ⟨hm1, hm2, hF⟩ := mkS_some hF; refine s_cut (fun a w => ∃ (v1 v4 : Value) (b1 : Int) (g b7 : Nat), Fr 15 [(4, (.pointer (some ⟨b7, 0, none⟩)))] a ∧ Ext W w ∧ Ow (Rp.prod Rp.int Rp.int) 82 true w [] b1 v1 es ∧ Zn W b1 ∧ Ow (Rp.sl 3 Rp.int) 66 true w [] (g : Int) v4 (List.replicate (a0.length : Int).toNat ([] : List Int)) ∧ W.heap.size ≤ g ∧ Bx w b7 [v1, v4, (.func (.func 21) #[] #[(.pointer (some ⟨bF, 0, none⟩)), (.pointer (some ⟨bB, 0, none⟩))])] 61 ∧ W.heap.size ≤ b7 ∧ b1 ≠ g ∧ b7 ≠ g ∧ (b7 : Int) ≠ b1) ?_ ?_
  · refine d_region [0, 1, 2, 3, 4, 5, 6, 7, 8] hmix ?_
    refine u_g 0 rfl (by kernel_rfl) (want0 _) ha rfl (g_move rfl) ?_; clear ha a; intro a ha; refine u_g 2 rfl (by kernel_rfl) (want0 _) ha rfl (g_move rfl) ?_; clear ha a; intro a ha; refine u_g 3 rfl (by kernel_rfl) (want0 _) ha rfl (g_lenR sl46.und ha0 rfl) ?_; clear ha a; intro a ha; refine u_g 5 rfl (by kernel_rfl) (want0 _) ha rfl (g_move rfl) ?_; clear ha a; intro a ha; refine u_many [1, 4] (by kernel_rfl) rfl fun w0 hx0 => ⟨⟨_, rfl, ?_⟩, ⟨_, rfl, ?_⟩, trivial⟩
    · skip
      refine o_call ha rfl rfl Tryz.call30 (W_impl_growthOf (ha0.ext hx0) (hG.ext hx0) hes) ?_; clear ha a; rintro v1 w1 ⟨b1, h1, z1, hx1⟩ a ha
      have hE1 := Ext.trans hx0 hx1
      have zW1 := Zn.upD z1 hx0
      refine wpList_nil (e_sq ?_)
      refine ⟨fun _ => hx1, ?_⟩
      refine u_only 4 rfl (by kernel_rfl) ?_; intro w2 hx2
      replace h1 := h1.ext hx2
      have hE2 := Ext.trans hE1 hx2
      refine o_make (z0 := ([] : (List Int))) (Rp.sl 3 Rp.int) ha rfl sl49 rfl (fun w => nil_rep w) rfl hm1 hm2 ?_; clear ha a; intro v4 w4 h4 hx4 a ha
      have hg4 : W.heap.size ≤ w2.heap.size := (hE2).size
      have hE3 := Ext.trans hE2 hx4
      refine wpList_nil (e_sq ?_)
      refine ⟨fun _ => hx4, ?_⟩
      have hne : b1 ≠ (w2.heap.size : Nat) := by have := h1.blt; omega
      replace h1 := h1.ext hx4
      refine u_g 6 rfl (by kernel_rfl) (want0 _) ha rfl (g_build (vs := [(0, v1), (1, v4), (2, (.func (.func 21) #[] #[(.pointer (some ⟨bF, 0, none⟩)), (.pointer (some ⟨bB, 0, none⟩))]))]) (cells := #[v1, v4, (.func (.func 21) #[] #[(.pointer (some ⟨bF, 0, none⟩)), (.pointer (some ⟨bB, 0, none⟩))])]) rfl (by obtain ⟨_, _, rfl⟩ := h1.shape; obtain ⟨_, _, rfl⟩ := h4.shape; rfl)) ?_; clear ha a; intro a ha
      refine u_only 7 rfl (by kernel_rfl) ?_; intro w7 hx7
      replace h1 := h1.ext hx7; replace h4 := h4.ext hx7
      have hE5 := Ext.trans hE3 hx7
      refine o_box ha rfl rfl rfl ?_; clear ha a; intro b7 w8 hB8 hx8 hlo8 a ha
      have hl1 := h1.blt; have hl4 := h4.blt
      refine wpList_nil (e_sq ?_)
      refine ⟨fun _ => hx8, ?_⟩
      refine u_g 8 rfl (by kernel_rfl) (want0 _) ha rfl (g_assign rfl) ?_; clear ha a; intro a ha
      refine u_done (by kernel_rfl) ?_; intro w9 hx9
      have hx79 := hx8.trans hx9
      refine e_sq ?_
      exact ⟨v1, v4, b1, _, b7, ha.sub ⟨rfl, trivial⟩, hE5.trans hx79, h1.ext hx79, zW1, h4.ext hx79, hg4, hB8.ext hx9, Nat.le_trans hE5.size hlo8, hne, by omega, by omega⟩
    skip
    refine o_make (z0 := ([] : (List Int))) (Rp.sl 3 Rp.int) ha rfl sl49 rfl (fun w => nil_rep w) rfl hm1 hm2 ?_; clear ha a; intro v4 w4 h4 hx4 a ha
    have hg4 : W.heap.size ≤ w0.heap.size := (hx0).size
    have hE1 := Ext.trans hx0 hx4
    refine wpList_nil (e_sq ?_)
    refine ⟨fun _ => hx4, ?_⟩
    refine u_only 1 rfl (by kernel_rfl) ?_; intro w2 hx2
    replace h4 := h4.ext hx2
    have hE2 := Ext.trans hE1 hx2
    have hl0 := h4.blt
    refine o_call ha rfl rfl Tryz.call30 (W_impl_growthOf (ha0.ext hE2) (hG.ext hE2) hes) ?_; clear ha a; rintro v1 w1 ⟨b1, h1, z1, hx1⟩ a ha
    have hE3 := Ext.trans hE2 hx1
    have zW1 := Zn.upD z1 hE2
    refine wpList_nil (e_sq ?_)
    refine ⟨fun _ => hx1, ?_⟩
    have hne : b1 ≠ (w0.heap.size : Nat) := by rcases z1 with h | h <;> omega
    replace h4 := h4.ext hx1
    refine u_g 6 rfl (by kernel_rfl) (want0 _) ha rfl (g_build (vs := [(0, v1), (1, v4), (2, (.func (.func 21) #[] #[(.pointer (some ⟨bF, 0, none⟩)), (.pointer (some ⟨bB, 0, none⟩))]))]) (cells := #[v1, v4, (.func (.func 21) #[] #[(.pointer (some ⟨bF, 0, none⟩)), (.pointer (some ⟨bB, 0, none⟩))])]) rfl (by obtain ⟨_, _, rfl⟩ := h1.shape; obtain ⟨_, _, rfl⟩ := h4.shape; rfl)) ?_; clear ha a; intro a ha
    refine u_only 7 rfl (by kernel_rfl) ?_; intro w7 hx7
    replace h1 := h1.ext hx7; replace h4 := h4.ext hx7
    have hE5 := Ext.trans hE3 hx7
    refine o_box ha rfl rfl rfl ?_; clear ha a; intro b7 w8 hB8 hx8 hlo8 a ha
    have hl1 := h1.blt; have hl4 := h4.blt
    refine wpList_nil (e_sq ?_)
    refine ⟨fun _ => hx8, ?_⟩
    refine u_g 8 rfl (by kernel_rfl) (want0 _) ha rfl (g_assign rfl) ?_; clear ha a; intro a ha
    refine u_done (by kernel_rfl) ?_; intro w9 hx9
    have hx79 := hx8.trans hx9
    refine e_sq ?_
    exact ⟨v1, v4, b1, _, b7, ha.sub ⟨rfl, trivial⟩, hE5.trans hx79, h1.ext hx79, zW1, h4.ext hx79, hg4, hB8.ext hx9, Nat.le_trans hE5.size hlo8, hne, by omega, by omega⟩
  rintro a w9 ⟨v1, v4, b1, g, b7, ha, hE9, h1, zW1, h4, hg4, hB7, hlo7, hne1, hne2, hne3⟩
  obtain ⟨fe, he, hfe⟩ := h1.roF
  let G : Nat → Prop := fun k => k ≠ g ∧ k ≠ bF ∧ k ≠ bB
  have hS : EmS G b7 g bF bB := ⟨fun k => Iff.rfl, hne2, by omega, by omega, by omega, by omega, hfb⟩
  obtain ⟨cs, rfl, hT⟩ := Tn.ofOw (G := G) h4
  have hl4 := h4.blt; have hl7 := hB7.blt; have hsz := hE9.size
  have hGe : ∀ k ∈ fe, G k := fun k hk => by
    have := hfe k hk
    rw [List.append_nil, mem_bl] at this
    exact ⟨by omega, by rcases zW1 with h | h <;> omega, by rcases zW1 with h | h <;> omega⟩
  have hs9 : EmI 4 33 2 G bF bB w9 s := by
    obtain ⟨vb, fb, q1, q2, q3⟩ := hs.bb
    exact ⟨hs.bf.ext hE9, vb, fb, q1.ext hE9, q2.ext hE9, fun k hk => ⟨by have := q2.bnd k hk; omega, (q3 k hk).1, (q3 k hk).2⟩⟩
  refine wp_region_lit ?_; refine op_g ha rfl (g_move rfl) ?_; clear ha a; intro a ha
  refine o_call ha rfl rfl Tryz.call31 (W_impl_embedding_grow hS hGe he hB7 hT (fun k hk => ⟨by omega, by omega, by omega⟩) (show InI 0 from by decide) hs9 hF) ?_; clear ha a; rintro v10 w10 ⟨rfl, hs10, hc10⟩ a ha
  refine wpList_nil ?_
  exact f_end0 ha rfl ⟨rfl, ⟨G, hs10⟩, Chg.trans hE9.chg hc10 (fun i hi => .inl hi)⟩
set_option maxHeartbeats 2000000 in
theorem W_impl_EmbeddingOf {W : World} {va0_0 : Value} {fa0_0 : List Nat} {a0_0 : (List (List Int))} (ha0_0 : Ro (Rp.sl 2 Rp.int) W fa0_0 va0_0 a0_0) (hG : GT 0 W) {r : Bool} (hF : F_impl_EmbeddingOf a0_0 = some r) :
    Calls Tryz.prog 12 [.agg #[va0_0]].toArray W (Ret fun u w' => (∃ vb : Value, u = .tuple #[.agg #[vb], .bool r] ∧ vb.oneCell' = true) ∧ Ext W w') := by
  refine f_enter Tryz.func12 rfl Tryz.ntmps12 rfl ?_
  intro a ha
  replace ha : Fr 17 [(0, (.agg #[va0_0]))] a := ha
  unfold F_impl_EmbeddingOf at hF
  refine wp_seq ?_; refine wp_region_lit ?_
  refine o_box ha rfl rfl rfl ?_; clear ha a; intro b1 w2 hB1 hx2 hlo1 a ha
  have hl1 := hB1.blt
  refine o_alloc (cs := [(.slice none 0 0)]) ha rfl Tryz.zeroValue33 rfl ?_; clear ha a; intro b9 w3 hB9 hx3 hlo9 a ha
  replace hB1 := hB1.ext hx3
  have hE3 := Ext.trans hx2 hx3
  have zb9 : W.heap.size ≤ b9 := Nat.le_trans hx2.size hlo9
  have hl19 := hB9.blt
  refine op_g ha rfl (g_assign rfl) ?_; clear ha a; intro a ha; refine wpList_nil ?_; replace ha := ha.sub (σ' := [(1, (.pointer (some ⟨b1, 0, none⟩))), (2, (.pointer (some ⟨b9, 0, none⟩)))]) ⟨rfl, rfl, trivial⟩; refine e_then ?_; refine wp_seq ?_; refine wp_seq ?_; refine wp_region_lit ?_; refine op_g ha rfl (g_loadA (cs := [va0_0]) Tryz.isAgg27 Tryz.sizeOf27 rfl (by simp) hB1.all) ?_; clear ha a; intro a ha; obtain ⟨x19, hc20, hF⟩ := cal_some hF
  refine o_call ha rfl rfl Tryz.call18 (W_impl_isSmall (ha0_0.ext hE3) hc20) ?_; clear ha a; rintro v21 w22 ⟨rfl, hx23⟩ a ha
  replace hB1 := hB1.ext hx23; replace hB9 := hB9.ext hx23
  have hE24 := Ext.trans hE3 hx23
  refine op_g ha rfl (g_not rfl) ?_; clear ha a; intro a ha; refine wpList_nil ?_; replace ha := ha.sub (σ' := [(1, (.pointer (some ⟨b1, 0, none⟩))), (2, (.pointer (some ⟨b9, 0, none⟩))), (8, (.bool (!x19)))]) ⟨rfl, rfl, rfl, trivial⟩; refine e_then ?_; refine c_cond (¬ (x19 = true)) ha rfl (n_iff (Iff.rfl)) (fun hp25 => ?_) (fun hp25 => ?_)
  · replace hF := if_t hp25 hF
    refine wp_seq ?_; refine wp_region_lit ?_; refine op_g ha rfl (g_build (vs := []) (cells := #[(.slice none 0 0)]) rfl (by rfl)) ?_; clear ha a; intro a ha
    refine o_storeA (vs := [(.slice none 0 0)]) ha hB9 Tryz.sizeOf33 rfl rfl (by intro c hc; simp only [List.mem_cons, List.not_mem_nil, or_false] at hc; subst hc; rfl) rfl ?_; intro w26 hB26 hc26
    refine op_g ha rfl (g_assign rfl) ?_; clear ha a; intro a ha; refine wpList_nil ?_; refine e_then ?_; refine wp_ret ?_; refine e_then_ret ?_; obtain rfl := Option.some.inj hF
    exact f_retC2 (cs := [(.slice none 0 0)]) ha rfl rfl Tryz.isAgg33 Tryz.sizeOf33 hB26 rfl ⟨⟨_, rfl, rfl⟩, Ext.then hE24 hc26 (fun i hi => by rw [List.mem_singleton] at hi; omega)⟩
  replace hF := if_f hp25 hF; refine wp_skip ?_; refine e_then ?_; refine wp_seq ?_; refine wp_region_lit ?_; refine op_g ha rfl (g_build (vs := []) (cells := #[(.slice none 0 0)]) rfl (by rfl)) ?_; clear ha a; intro a ha
  refine o_alloc (cs := [(.slice none 0 0)]) ha rfl Tryz.zeroValue33 rfl ?_; clear ha a; intro bB w31 hBB hx31 hloB a ha
  replace hB1 := hB1.ext hx31; replace hB9 := hB9.ext hx31
  have hE31 := Ext.trans hE24 hx31
  refine o_alloc (cs := [(.bool false)]) ha rfl Tryz.zeroValue4 rfl ?_; clear ha a; intro bF w43 hBF hx43 hloF a ha
  have hlB := hBB.blt
  replace hB1 := hB1.ext hx43; replace hB9 := hB9.ext hx43; replace hBB := hBB.ext hx43
  have hE43 := Ext.trans hE31 hx43
  have hl3 : w3.heap.size ≤ bB := Nat.le_trans hx23.size hloB
  refine o_storeA (vs := [(.slice none 0 0)]) ha hBB Tryz.sizeOf33 rfl rfl (by intro c hc; simp only [List.mem_cons, List.not_mem_nil, or_false] at hc; subst hc; rfl) rfl ?_; intro w56 hB56 hc56
  replace hBF := hBF.chg hc56 (by rw [List.mem_singleton]; omega); replace hB1 := hB1.chg hc56 (by rw [List.mem_singleton]; omega); replace hB9 := hB9.chg hc56 (by rw [List.mem_singleton]; omega)
  have zB : W.heap.size ≤ bB := by have := hE3.size; omega
  have zF : W.heap.size ≤ bF := by have := hE31.size; omega
  have hE56 := Ext.then hE43 hc56 (fun i hi => by rw [List.mem_singleton] at hi; omega)
  refine o_storeB ha hBF Tryz.sizeOf4 rfl rfl rfl rfl (Nat.le_of_ble_eq_true rfl) ?_; intro w60 hB60 hc60
  replace hB60 : Bx w60 bF [(.bool false)] 4 := hB60
  replace hB1 := hB1.chg hc60 (by rw [List.mem_singleton]; omega); replace hB9 := hB9.chg hc60 (by rw [List.mem_singleton]; omega); replace hB56 := hB56.chg hc60 (by rw [List.mem_singleton]; omega)
  have hE60 := Ext.then hE56 hc60 (fun i hi => by rw [List.mem_singleton] at hi; omega)
  refine wpList_nil ?_; replace ha := ha.sub (σ' := [(1, (.pointer (some ⟨b1, 0, none⟩))), (2, (.pointer (some ⟨b9, 0, none⟩))), (4, (.pointer (some ⟨bB, 0, none⟩))), (5, (.pointer (some ⟨bF, 0, none⟩)))]) ⟨rfl, rfl, rfl, rfl, trivial⟩; refine e_then ?_; refine wp_seq ?_; refine wp_region_lit ?_; refine op_g ha rfl (g_loadA (cs := [va0_0]) Tryz.isAgg27 Tryz.sizeOf27 rfl (by simp) hB1.all) ?_; clear ha a; intro a ha; obtain ⟨x64, hc65, hF⟩ := cal_some hF
  refine o_call ha rfl rfl Tryz.call20 (W_impl_netsOf (ha0_0.ext hE60) hc65) ?_; clear ha a; rintro v66 w67 ⟨b69, h70, z71, hx67⟩ a ha
  have hE67 := Ext.trans hE60 hx67
  obtain ⟨x68, hc69, hF⟩ := cal_some hF; obtain rfl := Option.some.inj hF
  obtain ⟨fn, hn, -⟩ := h70.roF
  refine op_g ha rfl (g_func rfl rfl) ?_; clear ha a; intro a ha
  have hemb := W_impl_embeddings (bF := bF) (bB := bB) (by omega) hn (hG.ext hE67) (s := (false, [])) ⟨hB60.ext hx67, _, [], hB56.ext hx67, Ro.nil _, by simp⟩ hc69
  refine o_call ha rfl rfl Tryz.call19 hemb ?_; clear ha a; rintro v70 w71 ⟨rfl, ⟨G, hs71⟩, hc71⟩ a ha
  have hE71 := Ext.then hE67 hc71 (fun i hi => by simp only [List.mem_cons, List.not_mem_nil, or_false] at hi; omega)
  replace hB9 := (hB9.ext hx67).chg hc71 (by simp only [List.mem_cons, List.not_mem_nil, or_false, not_or]; omega)
  obtain ⟨vb, fb, hbb, hrb, -⟩ := hs71.bb
  have hbf := hs71.bf
  have hone := hrb.oneC
  refine wpList_nil ?_; replace ha := ha.sub (σ' := [(2, (.pointer (some ⟨b9, 0, none⟩))), (4, (.pointer (some ⟨bB, 0, none⟩))), (5, (.pointer (some ⟨bF, 0, none⟩)))]) ⟨rfl, rfl, rfl, trivial⟩; refine e_then ?_; refine s_cut (fun a w => Fr 17 [(2, (.pointer (some ⟨b9, 0, none⟩))), (3, (.bool x68.1))] a ∧ Ext W w ∧ Bx w b9 [vb] 33) ?_ ?_
  · have hS83 := Ext.below hE71
    refine x_regionB (B := W.heap.size) [0, 1, 2, 3] hmix ?_; refine x_many [0, 1] (by kernel_rfl) rfl fun w0 hx0 => ⟨⟨_, rfl, ?_⟩, ⟨_, rfl, ?_⟩, trivial⟩
    · skip
      replace hB9 := hB9.ext hx0; replace hbb := hbb.ext hx0; replace hbf := hbf.ext hx0
      have hE1 := Ext.trans hE71 hx0
      have qb1 := bel_step hS83 hx0
      refine op_g ha rfl (g_loadA (cs := [vb]) Tryz.isAgg33 Tryz.sizeOf33 rfl (by simp) hbb.all) ?_; clear ha a; intro a ha; refine wpList_nil (e_sq ?_)
      have hSt1 : RowKit.Below W.heap.size w0 w0 := RowKit.Below.refl _ _
      refine ⟨fun _ => hSt1, ?_⟩
      replace qb1 := RowKit.Below.trans qb1 hSt1
      refine x_many [1, 2] (by kernel_rfl) rfl fun w1 hx1 => ⟨⟨_, rfl, ?_⟩, ⟨_, rfl, ?_⟩, trivial⟩
      · skip
        replace hB9 := hB9.ext hx1; replace hbb := hbb.ext hx1; replace hbf := hbf.ext hx1
        have hE2 := Ext.trans hE1 hx1
        have qb2 := bel_step qb1 hx1
        refine op_g ha rfl (g_load Tryz.isAgg4 rfl (hbf.cell rfl)) ?_; clear ha a; intro a ha; refine wpList_nil (e_sq ?_)
        have hSt2 : RowKit.Below W.heap.size w1 w1 := RowKit.Below.refl _ _
        refine ⟨fun _ => hSt2, ?_⟩
        replace qb2 := RowKit.Below.trans qb2 hSt2
        refine x_only 2 rfl (by kernel_rfl) ?_; intro w5 hx5
        replace hB9 := hB9.ext hx5; replace hbb := hbb.ext hx5; replace hbf := hbf.ext hx5
        have hE4 := Ext.trans hE2 hx5
        have qb4 := bel_step qb2 hx5
        refine o_storeA (vs := [vb]) ha hB9 Tryz.sizeOf33 rfl rfl (by intro c hc; simp only [List.mem_cons, List.not_mem_nil, or_false] at hc; subst hc; exact hone) rfl ?_; intro ws4 hBs hcs
        replace hbb := hbb.chg hcs (by rw [List.mem_singleton]; omega); replace hbf := hbf.chg hcs (by rw [List.mem_singleton]; omega); clear hB9; have hB9 := hBs; clear hBs
        replace hE4 := Ext.then hE4 hcs (fun i hi => by rw [List.mem_singleton] at hi; omega); refine wpList_nil (e_sq ?_)
        have hSt4 : RowKit.Below W.heap.size w5 ws4 := chg_bel hcs.bl qb4.size (Zn.bl (.inr (by omega)))
        refine ⟨fun _ => hSt4, ?_⟩
        replace qb4 := RowKit.Below.trans qb4 hSt4
        refine x_g 3 rfl (by kernel_rfl) (want0 _) ha rfl qb4 (g_assign rfl) ?_; clear ha a; intro a ha
        refine x_done (by kernel_rfl) ?_; intro w84 hx85
        refine e_sq ?_
        exact ⟨ha.sub ⟨rfl, rfl, trivial⟩, hE4.trans hx85, hB9.ext hx85⟩
      skip
      replace hB9 := hB9.ext hx1; replace hbb := hbb.ext hx1; replace hbf := hbf.ext hx1
      have hE2 := Ext.trans hE1 hx1
      have qb2 := bel_step qb1 hx1
      refine o_storeA (vs := [vb]) ha hB9 Tryz.sizeOf33 rfl rfl (by intro c hc; simp only [List.mem_cons, List.not_mem_nil, or_false] at hc; subst hc; exact hone) rfl ?_; intro ws2 hBs hcs
      replace hbb := hbb.chg hcs (by rw [List.mem_singleton]; omega); replace hbf := hbf.chg hcs (by rw [List.mem_singleton]; omega); clear hB9; have hB9 := hBs; clear hBs
      replace hE2 := Ext.then hE2 hcs (fun i hi => by rw [List.mem_singleton] at hi; omega); refine wpList_nil (e_sq ?_)
      have hSt2 : RowKit.Below W.heap.size w1 ws2 := chg_bel hcs.bl qb2.size (Zn.bl (.inr (by omega)))
      refine ⟨fun _ => hSt2, ?_⟩
      replace qb2 := RowKit.Below.trans qb2 hSt2
      refine x_only 1 rfl (by kernel_rfl) ?_; intro w5 hx5
      replace hB9 := hB9.ext hx5; replace hbb := hbb.ext hx5; replace hbf := hbf.ext hx5
      have hE4 := Ext.trans hE2 hx5
      have qb4 := bel_step qb2 hx5
      refine op_g ha rfl (g_load Tryz.isAgg4 rfl (hbf.cell rfl)) ?_; clear ha a; intro a ha; refine wpList_nil (e_sq ?_)
      have hSt4 : RowKit.Below W.heap.size w5 w5 := RowKit.Below.refl _ _
      refine ⟨fun _ => hSt4, ?_⟩
      replace qb4 := RowKit.Below.trans qb4 hSt4
      refine x_g 3 rfl (by kernel_rfl) (want0 _) ha rfl qb4 (g_assign rfl) ?_; clear ha a; intro a ha
      refine x_done (by kernel_rfl) ?_; intro w84 hx85
      refine e_sq ?_
      exact ⟨ha.sub ⟨rfl, rfl, trivial⟩, hE4.trans hx85, hB9.ext hx85⟩
    skip
    replace hB9 := hB9.ext hx0; replace hbb := hbb.ext hx0; replace hbf := hbf.ext hx0
    have hE1 := Ext.trans hE71 hx0
    have qb1 := bel_step hS83 hx0
    refine op_g ha rfl (g_load Tryz.isAgg4 rfl (hbf.cell rfl)) ?_; clear ha a; intro a ha; refine wpList_nil (e_sq ?_)
    have hSt1 : RowKit.Below W.heap.size w0 w0 := RowKit.Below.refl _ _
    refine ⟨fun _ => hSt1, ?_⟩
    replace qb1 := RowKit.Below.trans qb1 hSt1
    refine x_only 0 rfl (by kernel_rfl) ?_; intro w1 hx1
    replace hB9 := hB9.ext hx1; replace hbb := hbb.ext hx1; replace hbf := hbf.ext hx1
    have hE2 := Ext.trans hE1 hx1
    have qb2 := bel_step qb1 hx1
    refine op_g ha rfl (g_loadA (cs := [vb]) Tryz.isAgg33 Tryz.sizeOf33 rfl (by simp) hbb.all) ?_; clear ha a; intro a ha; refine wpList_nil (e_sq ?_)
    have hSt2 : RowKit.Below W.heap.size w1 w1 := RowKit.Below.refl _ _
    refine ⟨fun _ => hSt2, ?_⟩
    replace qb2 := RowKit.Below.trans qb2 hSt2
    refine x_only 2 rfl (by kernel_rfl) ?_; intro w5 hx5
    replace hB9 := hB9.ext hx5; replace hbb := hbb.ext hx5; replace hbf := hbf.ext hx5
    have hE4 := Ext.trans hE2 hx5
    have qb4 := bel_step qb2 hx5
    refine o_storeA (vs := [vb]) ha hB9 Tryz.sizeOf33 rfl rfl (by intro c hc; simp only [List.mem_cons, List.not_mem_nil, or_false] at hc; subst hc; exact hone) rfl ?_; intro ws4 hBs hcs
    replace hbb := hbb.chg hcs (by rw [List.mem_singleton]; omega); replace hbf := hbf.chg hcs (by rw [List.mem_singleton]; omega); clear hB9; have hB9 := hBs; clear hBs
    replace hE4 := Ext.then hE4 hcs (fun i hi => by rw [List.mem_singleton] at hi; omega); refine wpList_nil (e_sq ?_)
    have hSt4 : RowKit.Below W.heap.size w5 ws4 := chg_bel hcs.bl qb4.size (Zn.bl (.inr (by omega)))
    refine ⟨fun _ => hSt4, ?_⟩
    replace qb4 := RowKit.Below.trans qb4 hSt4
    refine x_g 3 rfl (by kernel_rfl) (want0 _) ha rfl qb4 (g_assign rfl) ?_; clear ha a; intro a ha
    refine x_done (by kernel_rfl) ?_; intro w84 hx85
    refine e_sq ?_
    exact ⟨ha.sub ⟨rfl, rfl, trivial⟩, hE4.trans hx85, hB9.ext hx85⟩
  rintro a w90 ⟨ha, hE90, hB90⟩
  refine wp_ret ?_
  exact f_retC2 (cs := [vb]) ha rfl rfl Tryz.isAgg33 Tryz.sizeOf33 hB90 rfl ⟨⟨_, rfl, hone⟩, hE90⟩
set_option maxHeartbeats 2000000 in
theorem W_impl_PlanarIn {W : World} {va0_0 : Value} {fa0_0 : List Nat} {a0_0 : (List (List Int))} (ha0_0 : Ro (Rp.sl 2 Rp.int) W fa0_0 va0_0 a0_0) (hG : GT 0 W) {r : Bool} (hF : F_impl_PlanarIn a0_0 = some r) :
    Calls Tryz.prog 7 [.agg #[va0_0]].toArray W (Ret fun u w' => u = .bool r ∧ Ext W w') := by
  refine f_enter Tryz.func7 rfl Tryz.ntmps7 rfl ?_
  intro a ha
  replace ha : Fr 11 [(0, (.agg #[va0_0]))] a := ha
  refine wp_seq ?_; refine wp_region_lit ?_
  refine o_box ha rfl rfl rfl ?_; clear ha a; intro b1 w2 hB1 hx2 hlo1 a ha
  refine op_g ha rfl (g_assign rfl) ?_; clear ha a; intro a ha; refine wpList_nil ?_; replace ha := ha.sub (σ' := [(1, (.pointer (some ⟨b1, 0, none⟩)))]) ⟨rfl, trivial⟩; refine e_then ?_; refine wp_seq ?_; refine wp_region_lit ?_; refine op_g ha rfl (g_loadA (cs := [va0_0]) Tryz.isAgg27 Tryz.sizeOf27 rfl (by simp) hB1.all) ?_; clear ha a; intro a ha
  refine o_call ha rfl rfl Tryz.call12 (W_impl_EmbeddingOf (ha0_0.ext hx2) (hG.ext hx2) hF) ?_; clear ha a; rintro v3 w3 ⟨⟨vb, rfl, hone⟩, hx3⟩ a ha
  have hE3 := Ext.trans hx2 hx3
  refine op_g ha rfl (g_move rfl) ?_; clear ha a; intro a ha; refine op_g ha rfl (g_extract rfl rfl) ?_; clear ha a; intro a ha; refine op_g ha rfl (g_extract rfl rfl) ?_; clear ha a; intro a ha
  refine o_alloc (cs := [(.slice none 0 0)]) ha rfl Tryz.zeroValue33 rfl ?_; clear ha a; intro b4 w4 hB4 hx4 hlo4 a ha
  have hE4 := Ext.trans hE3 hx4
  refine o_storeA (vs := [vb]) ha hB4 Tryz.sizeOf33 rfl rfl (by intro c hc; simp only [List.mem_cons, List.not_mem_nil, or_false] at hc; subst hc; exact hone) rfl ?_; intro w5 hB5 hc5
  have hE5 := Ext.then hE4 hc5 (fun i hi => by rw [List.mem_singleton] at hi; have := hE3.size; omega)
  refine op_g ha rfl (g_assign rfl) ?_; clear ha a; intro a ha; refine wpList_nil ?_; replace ha := ha.sub (σ' := [(4, (.bool r))]) ⟨rfl, trivial⟩; refine e_then ?_; refine wp_seq ?_; refine wp_region_lit ?_; refine op_g ha rfl (g_move rfl) ?_; clear ha a; intro a ha; refine op_g ha rfl (g_assign rfl) ?_; clear ha a; intro a ha; refine wpList_nil ?_; refine e_then ?_; refine wp_ret ?_
  exact f_ret1 ha rfl rfl ⟨rfl, hE5⟩

set_option maxHeartbeats 2000000 in
theorem W_laws_eqInt64S {W : World} {va0 : Value} {fa0 : List Nat} {a0 : (List Int)} (ha0 : Ro Rp.int W fa0 va0 a0) {va1 : Value} {fa1 : List Nat} {a1 : (List Int)} (ha1 : Ro Rp.int W fa1 va1 a1) {r : Bool} (hF : F_laws_eqInt64S a0 a1 = some r) :
    Calls Tryz.prog 25 [va0, va1].toArray W (Ret fun u w' => u = .bool r ∧ Ext W w') := by
  refine f_enter Tryz.func25 rfl Tryz.ntmps25 rfl ?_
  intro a ha
  replace ha : Fr 26 [(0, va0), (1, va1)] a := ha
  have hE : Chg [] W W := Chg.refl _ _
  unfold F_laws_eqInt64S at hF
  refine wp_seq ?_; refine wp_region_lit ?_; refine op_g ha rfl (g_assign rfl) ?_; clear ha a; intro a ha; refine wpList_nil ?_; replace ha := ha.sub (σ' := [(0, va0), (1, va1)]) ⟨rfl, rfl, trivial⟩; refine e_then ?_; refine wp_seq ?_; refine wp_seq ?_; refine wp_region_lit ?_; refine op_g ha rfl (g_move rfl) ?_; clear ha a; intro a ha; refine op_g ha rfl (g_lenR sl39.und ha0 rfl) ?_; clear ha a; intro a ha; refine op_g ha rfl (g_move rfl) ?_; clear ha a; intro a ha; refine op_g ha rfl (g_lenR sl39.und ha1 rfl) ?_; clear ha a; intro a ha; refine op_g ha rfl (g_neq rfl rfl) ?_; clear ha a; intro a ha
  refine wpList_nil ?_; replace ha := ha.sub (σ' := [(0, va0), (1, va1), (10, (.bool (decide ((a0.length : Int) ≠ (a1.length : Int)))))]) ⟨rfl, rfl, rfl, trivial⟩; refine e_then ?_; refine c_cond ((a0.length : Int) ≠ (a1.length : Int)) ha rfl (decide_eq_true_iff) (fun hp1 => ?_) (fun hp1 => ?_)
  · replace hF := if_t hp1 hF
    refine wp_seq ?_; refine wp_region_lit ?_; refine op_g ha rfl (g_assign rfl) ?_; clear ha a; intro a ha; refine wpList_nil ?_; replace ha := ha.sub (σ' := [(4, (.bool false))]) ⟨rfl, trivial⟩; refine e_then ?_; refine wp_ret ?_; refine e_then_ret ?_; obtain rfl := Option.some.inj hF
    exact f_ret1 ha rfl rfl ⟨rfl, hE⟩
  replace hF := if_f hp1 hF; refine wp_skip ?_; refine e_then ?_; refine wp_seq ?_; refine wp_seq ?_; refine wp_region_lit ?_; refine op_g ha rfl (g_assign rfl) ?_; clear ha a; intro a ha; refine wpList_nil ?_; replace ha := ha.sub (σ' := [(0, va0), (1, va1), (5, (.int .i64 0))]) ⟨rfl, rfl, rfl, trivial⟩; refine e_then ?_; obtain ⟨o77, ho78, hK79⟩ := bnd_some hF
  obtain ⟨n80, hn81⟩ := lp_some ho78; clear ho78
  refine c_loop (fun a w => Fr 26 [] a ∧ Chg [] W w ∧ o77 = .inl ()) (fun n a w => ∃ (i39 : Int), Fr 26 [(0, va0), (1, va1), (5, (.int .i64 i39))] a ∧ Chg [] W w ∧ InI i39 ∧ lpN (fun s => F_laws_eqInt64S_l1 a0 a1 s) n i39 = some o77) n80 ⟨0, ha.sub ⟨rfl, rfl, rfl, trivial⟩, hE, (show InI 0 from by decide), hn81⟩ ?_ ?_
  · rintro m85 a w38 ⟨i39, ha, hE41, hI40, hF⟩
    cases m85 with
    | zero => exact (lpN_zero hF).elim
    | succ m85 =>
      obtain ⟨z84, hF, hN83⟩ := lpN_succ hF
      have hF : F_laws_eqInt64S_l1 a0 a1 i39 = some z84 := hF; unfold F_laws_eqInt64S_l1 at hF
      refine wp_seq ?_; refine wp_seq ?_; refine wp_region_lit ?_; (iterate 2 refine op_g ha rfl (g_move rfl) ?_; clear ha a; intro a ha); refine op_g ha rfl (g_lenR sl39.und ha0 rfl) ?_; clear ha a; intro a ha; refine op_g ha rfl (g_lss rfl rfl) ?_; clear ha a; intro a ha; refine wpList_nil ?_; replace ha := ha.sub (σ' := [(0, va0), (1, va1), (5, (.int .i64 i39)), (14, (.bool (decide (i39 < (a0.length : Int)))))]) ⟨rfl, rfl, rfl, rfl, trivial⟩; refine e_then ?_; refine c_cond (i39 < (a0.length : Int)) ha rfl (decide_eq_true_iff) (fun hp86 => ?_) (fun hp86 => ?_)
      · replace hF := if_t hp86 hF
        refine wp_skip ?_; refine e_then ?_; refine wp_seq ?_; refine wp_block ?_; refine wp_seq ?_; refine d_quiet hmix (by kernel_rfl) ?_; (iterate 2 refine q_g ha rfl (g_move rfl) ?_; clear ha a; intro a ha); obtain ⟨x87, g88, gx89, hF⟩ := idx_some hF
        obtain ⟨p90, cs91, f92, hf93, hpb94, hat95, hr96, hi97⟩ := ha0.at g88 gx89
        obtain ⟨rfl, hI98, rfl⟩ := hr96
        refine q_g ha rfl (hi97.gives sl39 rfl rfl) ?_; clear ha a; intro a ha; refine q_g ha rfl (g_load0 hE41 Tryz.isAgg2 rfl hat95.one) ?_; clear ha a; intro a ha; (iterate 2 refine q_g ha rfl (g_move rfl) ?_; clear ha a; intro a ha); obtain ⟨x99, g100, gx101, hF⟩ := idx_some hF
        obtain ⟨p102, cs103, f104, hf105, hpb106, hat107, hr108, hi109⟩ := ha1.at g100 gx101
        obtain ⟨rfl, hI110, rfl⟩ := hr108
        refine q_g ha rfl (hi109.gives sl39 rfl rfl) ?_; clear ha a; intro a ha; refine q_g ha rfl (g_load0 hE41 Tryz.isAgg2 rfl hat107.one) ?_; clear ha a; intro a ha; refine q_g ha rfl (g_neq rfl rfl) ?_; clear ha a; intro a ha
        refine q_nil ?_; intro w111 hx112
        have hE113 := Ext.trans hE41 hx112
        replace ha := ha.sub (σ' := [(0, va0), (1, va1), (5, (.int .i64 i39)), (25, (.bool (decide (x87 ≠ x99))))]) ⟨rfl, rfl, rfl, rfl, trivial⟩; refine e_then ?_; refine c_cond (x87 ≠ x99) ha rfl (decide_eq_true_iff) (fun hp114 => ?_) (fun hp114 => ?_)
        · replace hF := if_t hp114 hF
          refine wp_seq ?_; refine wp_region_lit ?_; refine op_g ha rfl (g_assign rfl) ?_; clear ha a; intro a ha; refine wpList_nil ?_; replace ha := ha.sub (σ' := [(4, (.bool false))]) ⟨rfl, trivial⟩; refine e_then ?_; refine wp_ret ?_; refine e_blk_ret ?_; refine e_then_ret ?_; refine e_lq_ret ?_; refine e_then_ret ?_; obtain rfl := Option.some.inj hF
          have e115 := LK_inr hN83; subst e115
          have e116 := BK_inr hK79; subst e116
          exact f_ret1 ha rfl rfl ⟨rfl, hE113⟩
        replace hF := if_f hp114 hF; refine wp_skip ?_; refine e_blk ?_; refine e_then ?_; refine wp_region_lit ?_; refine op_g ha rfl (g_move rfl) ?_; clear ha a; intro a ha; obtain ⟨hI117, hF⟩ := ck_some hF; refine op_g ha rfl (g_add rfl rfl hI117) ?_; clear ha a; intro a ha; refine op_g ha rfl (g_assign rfl) ?_; clear ha a; intro a ha; refine wpList_nil ?_; replace ha := ha.sub (σ' := [(0, va0), (1, va1), (5, (.int .i64 (i39 + 1)))]) ⟨rfl, rfl, rfl, trivial⟩; refine e_lq ?_; obtain rfl := Option.some.inj hF
        exact ⟨_, Nat.lt_succ_self _, i39 + 1, ha.sub ⟨rfl, rfl, rfl, trivial⟩, hE113, hI117, hN83⟩
      replace hF := if_f hp86 hF; refine wp_exit ?_; refine e_then_exit ?_; refine e_lq_eq ?_; obtain rfl := Option.some.inj hF
      exact ⟨ha.sub trivial, hE41, (LK_inr hN83).symm⟩
  rintro a w76 ⟨ha, hE82, rfl⟩
  have hF : F_laws_eqInt64S_k2 = some _ := hK79; clear hK79; unfold F_laws_eqInt64S_k2 at hF
  refine e_then ?_; refine wp_seq ?_; refine wp_region_lit ?_; refine op_g ha rfl (g_assign rfl) ?_; clear ha a; intro a ha; refine wpList_nil ?_; refine e_then ?_; refine wp_ret ?_; obtain rfl := Option.some.inj hF
  exact f_ret1 ha rfl rfl ⟨rfl, hE82⟩
set_option maxHeartbeats 2000000 in
theorem W_laws_eqInt64SS {W : World} {va0 : Value} {fa0 : List Nat} {a0 : (List (List Int))} (ha0 : Ro (Rp.sl 2 Rp.int) W fa0 va0 a0) {va1 : Value} {fa1 : List Nat} {a1 : (List (List Int))} (ha1 : Ro (Rp.sl 2 Rp.int) W fa1 va1 a1) {r : Bool} (hF : F_laws_eqInt64SS a0 a1 = some r) :
    Calls Tryz.prog 13 [va0, va1].toArray W (Ret fun u w' => u = .bool r ∧ Ext W w') := by
  refine f_enter Tryz.func13 rfl Tryz.ntmps13 rfl ?_
  intro a ha
  replace ha : Fr 27 [(0, va0), (1, va1)] a := ha
  have hE : Chg [] W W := Chg.refl _ _
  unfold F_laws_eqInt64SS at hF
  refine wp_seq ?_; refine wp_region_lit ?_; refine op_g ha rfl (g_assign rfl) ?_; clear ha a; intro a ha; refine wpList_nil ?_; replace ha := ha.sub (σ' := [(0, va0), (1, va1)]) ⟨rfl, rfl, trivial⟩; refine e_then ?_; refine wp_seq ?_; refine wp_seq ?_; refine wp_region_lit ?_; refine op_g ha rfl (g_move rfl) ?_; clear ha a; intro a ha; refine op_g ha rfl (g_lenR sl22.und ha0 rfl) ?_; clear ha a; intro a ha; refine op_g ha rfl (g_move rfl) ?_; clear ha a; intro a ha; refine op_g ha rfl (g_lenR sl22.und ha1 rfl) ?_; clear ha a; intro a ha; refine op_g ha rfl (g_neq rfl rfl) ?_; clear ha a; intro a ha
  refine wpList_nil ?_; replace ha := ha.sub (σ' := [(0, va0), (1, va1), (10, (.bool (decide ((a0.length : Int) ≠ (a1.length : Int)))))]) ⟨rfl, rfl, rfl, trivial⟩; refine e_then ?_; refine c_cond ((a0.length : Int) ≠ (a1.length : Int)) ha rfl (decide_eq_true_iff) (fun hp1 => ?_) (fun hp1 => ?_)
  · replace hF := if_t hp1 hF
    refine wp_seq ?_; refine wp_region_lit ?_; refine op_g ha rfl (g_assign rfl) ?_; clear ha a; intro a ha; refine wpList_nil ?_; replace ha := ha.sub (σ' := [(4, (.bool false))]) ⟨rfl, trivial⟩; refine e_then ?_; refine wp_ret ?_; refine e_then_ret ?_; obtain rfl := Option.some.inj hF
    exact f_ret1 ha rfl rfl ⟨rfl, hE⟩
  replace hF := if_f hp1 hF; refine wp_skip ?_; refine e_then ?_; refine wp_seq ?_; refine wp_seq ?_; refine wp_region_lit ?_; refine op_g ha rfl (g_assign rfl) ?_; clear ha a; intro a ha; refine wpList_nil ?_; replace ha := ha.sub (σ' := [(0, va0), (1, va1), (5, (.int .i64 0))]) ⟨rfl, rfl, rfl, trivial⟩; refine e_then ?_; obtain ⟨o93, ho94, hK95⟩ := bnd_some hF
  obtain ⟨n96, hn97⟩ := lp_some ho94; clear ho94
  refine c_loop (fun a w => Fr 27 [] a ∧ Chg [] W w ∧ o93 = .inl ()) (fun n a w => ∃ (i47 : Int), Fr 27 [(0, va0), (1, va1), (5, (.int .i64 i47))] a ∧ Chg [] W w ∧ InI i47 ∧ lpN (fun s => F_laws_eqInt64SS_l1 a0 a1 s) n i47 = some o93) n96 ⟨0, ha.sub ⟨rfl, rfl, rfl, trivial⟩, hE, (show InI 0 from by decide), hn97⟩ ?_ ?_
  · rintro m101 a w46 ⟨i47, ha, hE49, hI48, hF⟩
    cases m101 with
    | zero => exact (lpN_zero hF).elim
    | succ m101 =>
      obtain ⟨z100, hF, hN99⟩ := lpN_succ hF
      have hF : F_laws_eqInt64SS_l1 a0 a1 i47 = some z100 := hF; unfold F_laws_eqInt64SS_l1 at hF
      refine wp_seq ?_; refine wp_seq ?_; refine wp_region_lit ?_; (iterate 2 refine op_g ha rfl (g_move rfl) ?_; clear ha a; intro a ha); refine op_g ha rfl (g_lenR sl22.und ha0 rfl) ?_; clear ha a; intro a ha; refine op_g ha rfl (g_lss rfl rfl) ?_; clear ha a; intro a ha; refine wpList_nil ?_; replace ha := ha.sub (σ' := [(0, va0), (1, va1), (5, (.int .i64 i47)), (14, (.bool (decide (i47 < (a0.length : Int)))))]) ⟨rfl, rfl, rfl, rfl, trivial⟩; refine e_then ?_; refine c_cond (i47 < (a0.length : Int)) ha rfl (decide_eq_true_iff) (fun hp102 => ?_) (fun hp102 => ?_)
      · replace hF := if_t hp102 hF
        refine wp_skip ?_; refine e_then ?_; refine wp_seq ?_; refine wp_block ?_; refine wp_seq ?_; refine d_quiet hmix (by kernel_rfl) ?_; (iterate 2 refine q_g ha rfl (g_move rfl) ?_; clear ha a; intro a ha); obtain ⟨x103, g104, gx105, hF⟩ := idx_some hF
        obtain ⟨p106, cs107, f108, hf109, hpb110, hat111, hr112, hi113⟩ := ha0.at g104 gx105
        obtain ⟨v114, rfl, h115⟩ := hr112
        have h115 : Ro Rp.int W f108 v114 x103 := h115
        refine q_g ha rfl (hi113.gives sl22 rfl rfl) ?_; clear ha a; intro a ha; refine q_g ha rfl (g_load0 hE49 Tryz.isAgg39 rfl hat111.one) ?_; clear ha a; intro a ha; (iterate 2 refine q_g ha rfl (g_move rfl) ?_; clear ha a; intro a ha); obtain ⟨x117, g118, gx119, hF⟩ := idx_some hF
        obtain ⟨p120, cs121, f122, hf123, hpb124, hat125, hr126, hi127⟩ := ha1.at g118 gx119
        obtain ⟨v128, rfl, h129⟩ := hr126
        have h129 : Ro Rp.int W f122 v128 x117 := h129
        refine q_g ha rfl (hi127.gives sl22 rfl rfl) ?_; clear ha a; intro a ha; refine q_g ha rfl (g_load0 hE49 Tryz.isAgg39 rfl hat125.one) ?_; clear ha a; intro a ha; obtain ⟨x133, hc134, hF⟩ := cal_some hF; refine q_call (.bool x133) ha rfl rfl Tryz.call25 (fun w132 hx131 => W_laws_eqInt64S (h115.ext (Ext.trans hE49 hx131)) (h129.ext (Ext.trans hE49 hx131)) hc134) (fun _ _ _ h => ⟨h.1, h.2⟩) ?_; clear ha a; intro a ha; refine q_g ha rfl (g_not rfl) ?_; clear ha a; intro a ha
        refine q_nil ?_; intro w135 hx136
        have hE137 := Ext.trans hE49 hx136
        replace ha := ha.sub (σ' := [(0, va0), (1, va1), (5, (.int .i64 i47)), (26, (.bool (!x133)))]) ⟨rfl, rfl, rfl, rfl, trivial⟩; refine e_then ?_; refine c_cond (¬ (x133 = true)) ha rfl (n_iff (Iff.rfl)) (fun hp138 => ?_) (fun hp138 => ?_)
        · replace hF := if_t hp138 hF
          refine wp_seq ?_; refine wp_region_lit ?_; refine op_g ha rfl (g_assign rfl) ?_; clear ha a; intro a ha; refine wpList_nil ?_; replace ha := ha.sub (σ' := [(4, (.bool false))]) ⟨rfl, trivial⟩; refine e_then ?_; refine wp_ret ?_; refine e_blk_ret ?_; refine e_then_ret ?_; refine e_lq_ret ?_; refine e_then_ret ?_; obtain rfl := Option.some.inj hF
          have e139 := LK_inr hN99; subst e139
          have e140 := BK_inr hK95; subst e140
          exact f_ret1 ha rfl rfl ⟨rfl, hE137⟩
        replace hF := if_f hp138 hF; refine wp_skip ?_; refine e_blk ?_; refine e_then ?_; refine wp_region_lit ?_; refine op_g ha rfl (g_move rfl) ?_; clear ha a; intro a ha; obtain ⟨hI141, hF⟩ := ck_some hF; refine op_g ha rfl (g_add rfl rfl hI141) ?_; clear ha a; intro a ha; refine op_g ha rfl (g_assign rfl) ?_; clear ha a; intro a ha; refine wpList_nil ?_; replace ha := ha.sub (σ' := [(0, va0), (1, va1), (5, (.int .i64 (i47 + 1)))]) ⟨rfl, rfl, rfl, trivial⟩; refine e_lq ?_; obtain rfl := Option.some.inj hF
        exact ⟨_, Nat.lt_succ_self _, i47 + 1, ha.sub ⟨rfl, rfl, rfl, trivial⟩, hE137, hI141, hN99⟩
      replace hF := if_f hp102 hF; refine wp_exit ?_; refine e_then_exit ?_; refine e_lq_eq ?_; obtain rfl := Option.some.inj hF
      exact ⟨ha.sub trivial, hE49, (LK_inr hN99).symm⟩
  rintro a w92 ⟨ha, hE98, rfl⟩
  have hF : F_laws_eqInt64SS_k2 = some _ := hK95; clear hK95; unfold F_laws_eqInt64SS_k2 at hF
  refine e_then ?_; refine wp_seq ?_; refine wp_region_lit ?_; refine op_g ha rfl (g_assign rfl) ?_; clear ha a; intro a ha; refine wpList_nil ?_; refine e_then ?_; refine wp_ret ?_; obtain rfl := Option.some.inj hF
  exact f_ret1 ha rfl rfl ⟨rfl, hE98⟩
set_option maxHeartbeats 2000000 in
theorem W_laws_eqGraph {W : World} {va0_0 : Value} {fa0_0 : List Nat} {a0_0 : (List (List Int))} (ha0_0 : Ro (Rp.sl 2 Rp.int) W fa0_0 va0_0 a0_0) {va1_0 : Value} {fa1_0 : List Nat} {a1_0 : (List (List Int))} (ha1_0 : Ro (Rp.sl 2 Rp.int) W fa1_0 va1_0 a1_0) {r : Bool} (hF : F_laws_eqGraph a0_0 a1_0 = some r) :
    Calls Tryz.prog 8 [.agg #[va0_0], .agg #[va1_0]].toArray W (Ret fun u w' => u = .bool r ∧ Ext W w') := by
  refine f_enter Tryz.func8 rfl Tryz.ntmps8 rfl ?_
  intro a ha
  replace ha : Fr 11 [(0, (.agg #[va0_0])), (1, (.agg #[va1_0]))] a := ha
  have hE : Chg [] W W := Chg.refl _ _
  unfold F_laws_eqGraph at hF
  refine wp_seq ?_; refine wp_region_lit ?_
  refine o_box ha rfl rfl rfl ?_; clear ha a; intro b1 w2 hB3 hx4 hlo5 a ha
  have q6 := Zn.one hlo5
  have q7 := Zn.upD q6 hE
  have hE8 := Ext.trans hE hx4
  refine o_box ha rfl rfl rfl ?_; clear ha a; intro b9 w10 hB11 hx12 hlo13 a ha
  have q14 := Zn.one hlo13
  have q15 := Nq.new hB3.fpb q14
  have q16 := Nq.made1 hlo13 hB3.bi
  have q17 := Zn.upD q14 hE8
  replace hB3 := hB3.ext hx12
  have hE18 := Ext.trans hE8 hx12
  refine op_g ha rfl (g_assign rfl) ?_; clear ha a; intro a ha; refine wpList_nil ?_; replace ha := ha.sub (σ' := [(2, (.pointer (some ⟨b1, 0, none⟩))), (3, (.pointer (some ⟨b9, 0, none⟩)))]) ⟨rfl, rfl, trivial⟩; refine e_then ?_; refine wp_seq ?_; refine wp_seq ?_; refine wp_region_lit ?_; refine op_g ha rfl (g_field0 st27_0 rfl) ?_; clear ha a; intro a ha; refine op_g ha rfl (g_load Tryz.isAgg22 rfl (hB3.cell rfl)) ?_; clear ha a; intro a ha; refine op_g ha rfl (g_field0 st27_0 rfl) ?_; clear ha a; intro a ha; refine op_g ha rfl (g_load Tryz.isAgg22 rfl (hB11.cell rfl)) ?_; clear ha a; intro a ha
  obtain ⟨x19, hc20, hF⟩ := cal_some hF
  refine o_call ha rfl rfl Tryz.call13 (W_laws_eqInt64SS (ha0_0.ext hE18) (ha1_0.ext hE18) hc20) ?_; clear ha a; rintro v21 w22 ⟨rfl, hx23⟩ a ha
  replace hB3 := hB3.ext hx23
  replace hB11 := hB11.ext hx23
  have hE24 := Ext.trans hE18 hx23
  refine op_g ha rfl (g_not rfl) ?_; clear ha a; intro a ha; refine wpList_nil ?_; replace ha := ha.sub (σ' := [(10, (.bool (!x19)))]) ⟨rfl, trivial⟩; refine e_then ?_; refine c_cond (¬ (x19 = true)) ha rfl (n_iff (Iff.rfl)) (fun hp25 => ?_) (fun hp25 => ?_)
  · replace hF := if_t hp25 hF
    refine wp_seq ?_; refine wp_region_lit ?_; refine op_g ha rfl (g_assign rfl) ?_; clear ha a; intro a ha; refine wpList_nil ?_; replace ha := ha.sub (σ' := [(4, (.bool false))]) ⟨rfl, trivial⟩; refine e_then ?_; refine wp_ret ?_; refine e_then_ret ?_; obtain rfl := Option.some.inj hF
    exact f_ret1 ha rfl rfl ⟨rfl, hE24⟩
  replace hF := if_f hp25 hF; refine wp_skip ?_; refine e_then ?_; refine wp_seq ?_; refine wp_region_lit ?_; refine op_g ha rfl (g_assign rfl) ?_; clear ha a; intro a ha; refine wpList_nil ?_; replace ha := ha.sub (σ' := [(4, (.bool true))]) ⟨rfl, trivial⟩; refine e_then ?_; refine wp_ret ?_; obtain rfl := Option.some.inj hF
  exact f_ret1 ha rfl rfl ⟨rfl, hE24⟩
set_option maxHeartbeats 2000000 in
theorem W_laws_FnExactPlanarIn {W : World} {va0_0 : Value} {fa0_0 : List Nat} {a0_0 : (List (List Int))} (ha0_0 : Ro (Rp.sl 2 Rp.int) W fa0_0 va0_0 a0_0) (hG : GT 0 W) {r : Bool} (hF : F_laws_FnExactPlanarIn a0_0 = some r) :
    Calls Tryz.prog 3 [.agg #[va0_0]].toArray W (Ret fun u w' => u = .bool r ∧ Ext W w') := by
  refine f_enter Tryz.func3 rfl Tryz.ntmps3 rfl ?_
  intro a ha
  replace ha : Fr 27 [(0, (.agg #[va0_0]))] a := ha
  have hE : Chg [] W W := Chg.refl _ _
  unfold F_laws_FnExactPlanarIn at hF
  refine wp_seq ?_; refine wp_region_lit ?_
  refine o_box ha rfl rfl rfl ?_; clear ha a; intro b1 w2 hB3 hx4 hlo5 a ha
  have q6 := Zn.one hlo5
  have q7 := Zn.upD q6 hE
  have hE8 := Ext.trans hE hx4
  refine op_g ha rfl (g_assign rfl) ?_; clear ha a; intro a ha; refine wpList_nil ?_; replace ha := ha.sub (σ' := [(1, (.pointer (some ⟨b1, 0, none⟩)))]) ⟨rfl, trivial⟩; refine e_then ?_; refine wp_seq ?_; refine wp_region_lit ?_; refine op_g ha rfl (g_assign rfl) ?_; clear ha a; intro a ha; refine wpList_nil ?_; refine e_then ?_; refine wp_seq ?_; refine wp_region_lit ?_; refine op_g ha rfl (g_loadA (cs := [va0_0]) Tryz.isAgg24 Tryz.sizeOf24 rfl (by simp) hB3.all) ?_; clear ha a; intro a ha; refine op_g ha rfl (g_move rfl) ?_; clear ha a; intro a ha; obtain ⟨x9, hc10, hF⟩ := cal_some hF
  refine o_call ha rfl rfl Tryz.call4 (W_laws_szGraph (ha0_0.ext hE8) (show InI 1048576 from by decide) hc10) ?_; clear ha a; rintro v11 w12 ⟨⟨rfl, hI14⟩, hx13⟩ a ha
  replace hB3 := hB3.ext hx13
  have hE15 := Ext.trans hE8 hx13
  refine op_g ha rfl (g_assign rfl) ?_; clear ha a; intro a ha; refine wpList_nil ?_; replace ha := ha.sub (σ' := [(1, (.pointer (some ⟨b1, 0, none⟩))), (3, (.int .i64 x9))]) ⟨rfl, rfl, trivial⟩; refine e_then ?_; refine wp_seq ?_; refine wp_seq ?_; refine wp_region_lit ?_; refine op_g ha rfl (g_move rfl) ?_; clear ha a; intro a ha; refine op_g ha rfl (g_lss rfl rfl) ?_; clear ha a; intro a ha; refine wpList_nil ?_; replace ha := ha.sub (σ' := [(1, (.pointer (some ⟨b1, 0, none⟩))), (11, (.bool (decide (x9 < 0))))]) ⟨rfl, rfl, trivial⟩; refine e_then ?_; refine c_cond (x9 < 0) ha rfl (decide_eq_true_iff) (fun hp16 => ?_) (fun hp16 => ?_)
  · replace hF := if_t hp16 hF
    refine wp_seq ?_; refine wp_region_lit ?_; refine op_g ha rfl (g_assign rfl) ?_; clear ha a; intro a ha; refine wpList_nil ?_; replace ha := ha.sub (σ' := [(2, (.bool true))]) ⟨rfl, trivial⟩; refine e_then ?_; refine wp_ret ?_; refine e_then_ret ?_; obtain rfl := Option.some.inj hF
    exact f_ret1 ha rfl rfl ⟨rfl, hE15⟩
  replace hF := if_f hp16 hF; refine wp_skip ?_; refine e_then ?_; refine wp_seq ?_; refine wp_region_lit ?_; refine op_g ha rfl (g_loadA (cs := [va0_0]) Tryz.isAgg24 Tryz.sizeOf24 rfl (by simp) hB3.all) ?_; clear ha a; intro a ha; obtain ⟨x17, hc18, hF⟩ := cal_some hF
  refine o_call ha rfl rfl Tryz.call6 (W_laws_toGraph (ha0_0.ext hE15) hc18) ?_; clear ha a; rintro v19 w20 ⟨u22, b23, fs27, rfl, h24, z25, zf28, nd29, hx21⟩ a ha
  have q30 := Nq.new hB3.fpb z25
  have q31 := Nq.madeF z25 zf28 hB3.bi
  have q32 := Nf.new hB3.fpb zf28
  replace hB3 := hB3.ext hx21
  have hE33 := Ext.trans hE15 hx21
  have q34 := Zn.upD z25 hE15
  have q35 := zf_up zf28 hE15
  obtain ⟨fp36, hro37, hs38⟩ := h24.roF
  obtain ⟨x39, hc40, hF⟩ := cal_some hF
  refine o_call ha rfl rfl Tryz.call5 (W_spec_PlanarIn hro37 hc40) ?_; clear ha a; rintro v41 w42 ⟨rfl, hx43⟩ a ha
  replace hB3 := hB3.ext hx43
  replace h24 := h24.ext hx43
  have hE44 := Ext.trans hE33 hx43
  refine op_g ha rfl (g_assign rfl) ?_; clear ha a; intro a ha; refine wpList_nil ?_; replace ha := ha.sub (σ' := [(1, (.pointer (some ⟨b1, 0, none⟩))), (4, (.bool x39))]) ⟨rfl, rfl, trivial⟩; refine e_then ?_; refine wp_seq ?_; refine wp_region_lit ?_; refine op_g ha rfl (g_loadA (cs := [va0_0]) Tryz.isAgg24 Tryz.sizeOf24 rfl (by simp) hB3.all) ?_; clear ha a; intro a ha; obtain ⟨x45, hc46, hF⟩ := cal_some hF
  refine o_call ha rfl rfl Tryz.call6 (W_laws_toGraph (ha0_0.ext hE44) hc46) ?_; clear ha a; rintro v47 w48 ⟨u50, b51, fs55, rfl, h52, z53, zf56, nd57, hx49⟩ a ha
  have q58 := Nq.new hB3.fpb z53
  have q59 := Nq.madeF z53 zf56 hB3.bi
  have q60 := Nf.new hB3.fpb zf56
  replace hB3 := hB3.ext hx49
  have hE61 := Ext.trans hE44 hx49
  have q62 := Zn.upD z53 hE44
  have q63 := zf_up zf56 hE44
  refine o_alloc (cs := [(.slice none 0 0)]) ha rfl Tryz.zeroValue27 rfl ?_; clear ha a; intro b64 w65 hB66 hx67 hlo68 a ha
  have q69 := Zn.one hlo68
  have q70 := Nq.new hB3.fpb q69
  have q71 := Nq.made1 hlo68 hB3.bi
  have q72 := Nq.new h52.fpb q69
  have q73 := Nq.made1 hlo68 h52.blt
  have q74 := Nf.old1 q69 h52.bnd
  have q75 := Zn.upD q69 hE61
  replace hB3 := hB3.ext hx67
  replace h52 := h52.ext hx67
  have hE76 := Ext.trans hE61 hx67
  refine o_storeA (vs := [u50]) ha hB66 Tryz.sizeOf27 rfl rfl (by intro c hc; simp only [List.mem_cons, List.not_mem_nil, or_false] at hc; rcases hc with hc <;> subst hc <;> first | rfl | exact h52.oneC) rfl ?_; intro w77 hB78 hc79
  replace hc79 := hc79.bl
  replace hB78 : Bx w77 b64 [u50] 27 := hB78
  replace hB3 := hB3.nq hc79 q70
  replace h52 := h52.nq hc79 q72
  have hE80 := Ext.then hE76 hc79 (Zn.bl q75)
  refine wpList_nil ?_; replace ha := ha.sub (σ' := [(1, (.pointer (some ⟨b1, 0, none⟩))), (4, (.bool x39)), (5, (.pointer (some ⟨b64, 0, none⟩)))]) ⟨rfl, rfl, rfl, trivial⟩; refine e_then ?_; refine wp_seq ?_; refine wp_region_lit ?_; refine op_g ha rfl (g_loadA (cs := [u50]) Tryz.isAgg27 Tryz.sizeOf27 rfl (by simp) hB78.all) ?_; clear ha a; intro a ha
  obtain ⟨fp81, hro82, hs83⟩ := h52.roF
  obtain ⟨x84, hc85, hF⟩ := cal_some hF
  refine o_call ha rfl rfl Tryz.call7 (W_impl_PlanarIn hro82 (hG.ext hE80) hc85) ?_; clear ha a; rintro v86 w87 ⟨rfl, hx88⟩ a ha
  replace hB3 := hB3.ext hx88
  replace h52 := h52.ext hx88
  replace hB78 := hB78.ext hx88
  have hE89 := Ext.trans hE80 hx88
  refine op_g ha rfl (g_assign rfl) ?_; clear ha a; intro a ha; refine wpList_nil ?_; replace ha := ha.sub (σ' := [(1, (.pointer (some ⟨b1, 0, none⟩))), (4, (.bool x39)), (5, (.pointer (some ⟨b64, 0, none⟩))), (6, (.bool x84))]) ⟨rfl, rfl, rfl, rfl, trivial⟩; refine e_then ?_; refine wp_seq ?_; refine wp_seq ?_; refine wp_region_lit ?_; (iterate 2 refine op_g ha rfl (g_move rfl) ?_; clear ha a; intro a ha); refine op_g ha rfl (gB_neq un4 rfl rfl) ?_; clear ha a; intro a ha; refine wpList_nil ?_; replace ha := ha.sub (σ' := [(1, (.pointer (some ⟨b1, 0, none⟩))), (5, (.pointer (some ⟨b64, 0, none⟩))), (21, (.bool (x84 != x39)))]) ⟨rfl, rfl, rfl, trivial⟩
  refine e_then ?_; refine c_cond ((x84 != x39) = true) ha rfl (Iff.rfl) (fun hp90 => ?_) (fun hp90 => ?_)
  · replace hF := if_t hp90 hF
    refine wp_seq ?_; refine wp_region_lit ?_; refine op_g ha rfl (g_assign rfl) ?_; clear ha a; intro a ha; refine wpList_nil ?_; replace ha := ha.sub (σ' := [(2, (.bool false))]) ⟨rfl, trivial⟩; refine e_then ?_; refine wp_ret ?_; refine e_then_ret ?_; obtain rfl := Option.some.inj hF
    exact f_ret1 ha rfl rfl ⟨rfl, hE89⟩
  replace hF := if_f hp90 hF; refine wp_skip ?_; refine e_then ?_; refine wp_seq ?_; refine wp_seq ?_; refine d_region [0, 1, 2, 3, 4] hmix ?_; refine u_g 0 rfl (by kernel_rfl) (want0 _) ha rfl (g_loadA (cs := [u50]) Tryz.isAgg27 Tryz.sizeOf27 rfl (by simp) hB78.all) ?_; clear ha a; intro a ha; refine u_g 1 rfl (by kernel_rfl) (want0 _) ha rfl (g_loadA (cs := [va0_0]) Tryz.isAgg24 Tryz.sizeOf24 rfl (by simp) hB3.all) ?_; clear ha a; intro a ha
  refine u_only 2 rfl (by kernel_rfl) ?_; intro w91 hx92
  replace hB3 := hB3.ext hx92
  replace h52 := h52.ext hx92
  replace hB78 := hB78.ext hx92
  have hE93 := Ext.trans hE89 hx92
  obtain ⟨x94, hc95, hF⟩ := cal_some hF
  refine o_call ha rfl rfl Tryz.call6 (W_laws_toGraph (ha0_0.ext hE93) hc95) ?_; clear ha a; rintro v96 w97 ⟨u99, b100, fs104, rfl, h101, z102, zf105, nd106, hx98⟩ a ha
  have q107 := Nq.new hB3.fpb z102
  have q108 := Nq.madeF z102 zf105 hB3.bi
  have q109 := Nq.new h52.fpb z102
  have q110 := Nq.madeF z102 zf105 h52.blt
  have q111 := Nq.new hB78.fpb z102
  have q112 := Nq.madeF z102 zf105 hB78.bi
  have q113 := Nf.new hB3.fpb zf105
  have q114 := Nf.new h52.fpb zf105
  have q115 := Nf.old z102 zf105 h52.bnd
  have q116 := Nf.new hB78.fpb zf105
  replace hB3 := hB3.ext hx98
  replace h52 := h52.ext hx98
  replace hB78 := hB78.ext hx98
  have hE117 := Ext.trans hE93 hx98
  have q118 := Zn.upD z102 hE93
  have q119 := zf_up zf105 hE93
  refine wpList_nil (e_sq ?_)
  refine ⟨fun _ => hx98, ?_⟩
  obtain ⟨fp122, hro123, hs124⟩ := h52.roF
  obtain ⟨fp125, hro126, hs127⟩ := h101.roF
  obtain ⟨x128, hc129, hF⟩ := cal_some hF; refine u_call (.bool x128) 3 rfl (by kernel_rfl) (want0 _) ha rfl rfl Tryz.call8 (fun w121 hx120 => W_laws_eqGraph (hro123.ext hx120) (hro126.ext hx120) hc129) (fun _ _ _ h => ⟨h.1, h.2⟩) ?_; clear ha a; intro a ha; refine u_g 4 rfl (by kernel_rfl) (want0 _) ha rfl (g_not rfl) ?_; clear ha a; intro a ha
  refine u_done (by kernel_rfl) ?_; intro w130 hx131
  replace hB3 := hB3.ext hx131
  replace h52 := h52.ext hx131
  replace hB78 := hB78.ext hx131
  replace h101 := h101.ext hx131
  have hE132 := Ext.trans hE117 hx131
  replace ha := ha.sub (σ' := [(26, (.bool (!x128)))]) ⟨rfl, trivial⟩; refine e_then ?_; refine c_cond (¬ (x128 = true)) ha rfl (n_iff (Iff.rfl)) (fun hp133 => ?_) (fun hp133 => ?_)
  · replace hF := if_t hp133 hF
    refine wp_seq ?_; refine wp_region_lit ?_; refine op_g ha rfl (g_assign rfl) ?_; clear ha a; intro a ha; refine wpList_nil ?_; replace ha := ha.sub (σ' := [(2, (.bool false))]) ⟨rfl, trivial⟩; refine e_then ?_; refine wp_ret ?_; refine e_then_ret ?_; obtain rfl := Option.some.inj hF
    exact f_ret1 ha rfl rfl ⟨rfl, hE132⟩
  replace hF := if_f hp133 hF; refine wp_skip ?_; refine e_then ?_; refine wp_seq ?_; refine wp_region_lit ?_; refine op_g ha rfl (g_assign rfl) ?_; clear ha a; intro a ha; refine wpList_nil ?_; replace ha := ha.sub (σ' := [(2, (.bool true))]) ⟨rfl, trivial⟩; refine e_then ?_; refine wp_ret ?_; obtain rfl := Option.some.inj hF
  exact f_ret1 ha rfl rfl ⟨rfl, hE132⟩
end Go.Proofs.YtmaaloijdjnblaaGreatDoor
