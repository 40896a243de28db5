/- Walks, printed by gen.py. -/
import Derived.Test.YtnebbhginakaiaaF
import Derived.Test.YtnebbhginakaiaaW4
import Derived.Test.YtnebbhginakaiaaProg
import Derived.KernelRfl
set_option maxRecDepth 100000
namespace Go.Proofs.Ytnebbhginakaiaa
open Go Go.RowKit

set_option maxHeartbeats 2000000 in
theorem undMap : Try.prog.underlying 78 = some (.map 74 2) := by kernel_rfl
theorem slTabs : SlT Try.prog 110 78 1 8 (.map none) := ⟨by kernel_rfl, by kernel_rfl, by rfl⟩
theorem zInt : ∀ w, (zeroValue 2).run Try.prog w = .ok (.int .i64 0) w := fun w => by
  obtain ⟨i, hi, hz, _⟩ := sl25.info
  simp [zeroValue, typeInfo, hi, hz]
theorem stR0 : stF Try.prog 83 0 = some 0 := by kernel_rfl
theorem stR1 : stF Try.prog 83 1 = some 1 := by kernel_rfl
theorem stR2 : stF Try.prog 83 2 = some 2 := by kernel_rfl
theorem stR3 : stF Try.prog 83 3 = some 3 := by kernel_rfl
theorem stR4 : stF Try.prog 83 4 = some 4 := by kernel_rfl
theorem stX0 : stF Try.prog 33 0 = some 0 := by kernel_rfl
theorem stX1 : stF Try.prog 33 1 = some 1 := by kernel_rfl
theorem stX2 : stF Try.prog 33 2 = some 2 := by kernel_rfl
theorem stX3 : stF Try.prog 33 3 = some 3 := by kernel_rfl
theorem gatT_put {κ : Type} [DecidableEq κ] (pick : Int → Int → Int) (T : Tf κ) (s : κ) (n : Int) : gatT pick T (s, n) = putT T s (match T s with | some o => pick o n | none => n) := rfl
section
variable {κ : Type} [DecidableEq κ] {K : Ky Try.prog 74 κ} {rp : Rp κ} {R : Ru κ} {W0 : World} {fa fd fm fb fp : FuncId} {ca cd cm cb cp : List Value} {kc : κ → List Value} {zc : List Value}
set_option maxHeartbeats 2000000 in
theorem W_gather (hA : KAgg K kc zc) (hR : RuW Try.prog K rp R W0 fa fd fm fb fp ca cd cm cb cp) {W : World} (hE : Ext W0 W) {m : Nat} {T : Tf κ} (hM : Mt K W m T) (h0 : W0.heap.size ≤ m) (s : κ) {n : Int} (hn : InI n) :
    Calls Try.prog 87 [.agg (rvOf fa fd fm fb fp ca cd cm cb cp).toArray, .map (some m), K.kv s, .int .i64 n].toArray W (Ret fun u w' => Mt K w' m (gatT R.pick T (s, n)) ∧ Chg [m] W w') := by
  refine f_enter Try.func87 rfl Try.ntmps87 rfl ?_
  intro a ha
  replace ha : Fr 25 [(0, .agg (rvOf fa fd fm fb fp ca cd cm cb cp).toArray), (1, .map (some m)), (2, K.kv s), (3, .int .i64 n)] a := ha
  refine wp_seq ?_; refine wp_region_lit ?_
  refine o_box (cs := rvOf fa fd fm fb fp ca cd cm cb cp) ha rfl rfl rfl ?_; clear ha a; intro b4 w4 hB4 hx4 hlo4 a ha
  refine o_boxK hA ha rfl rfl ?_; clear ha a; intro b6 w4 hB6 hx6 hlo6 a ha; replace hB4 := hB4.ext hx6; replace hx4 := hx4.trans hx6
  refine wpList_nil ?_; refine e_then ?_
  have hM4 := hM.ext hx4
  have hE4 := hE.trans hx4

  refine s_cut (fun a w => ∃ y : Int, Fr 25 [(1, .map (some m)), (6, .pointer (some ⟨b6, 0, none⟩)), (3, .int .i64 y)] a ∧ InI y ∧ Ext w4 w ∧ putT T s y = gatT R.pick T (s, n)) ?_ ?_
  · refine wp_seq ?_; refine wp_region_lit ?_
    refine op_g ha rfl (g_move rfl) ?_; clear ha a; intro a ha
    refine op_g ha rfl (g_loadK hA hB6 rfl) ?_; clear ha a; intro a ha
    rcases hM4.look2 undMap zInt s with ⟨hT, hl⟩ | ⟨y0, hT, hy0, hl⟩
    · refine op_g ha rfl (g_lookup2 rfl rfl hl) ?_; clear ha a; intro a ha
      refine op_g ha rfl (g_move rfl) ?_; clear ha a; intro a ha
      refine op_g ha rfl (g_extract rfl rfl) ?_; clear ha a; intro a ha
      refine op_g ha rfl (g_extract rfl rfl) ?_; clear ha a; intro a ha
      refine op_g ha rfl (g_assign rfl) ?_; clear ha a; intro a ha
      refine op_g ha rfl (g_assign rfl) ?_; clear ha a; intro a ha
      refine wpList_nil ?_; refine e_then ?_; refine wp_seq ?_; refine wp_region_lit ?_
      refine op_g ha rfl (g_move rfl) ?_; clear ha a; intro a ha
      refine wpList_nil ?_; refine e_then ?_
      refine c_false ha rfl ?_; refine wp_skip ?_; refine e_sq ?_
      exact ⟨n, ha.sub ⟨rfl, rfl, rfl, trivial⟩, hn, Chg.refl _ _, by rw [gatT_put, hT]⟩
    · refine op_g ha rfl (g_lookup2 rfl rfl hl) ?_; clear ha a; intro a ha
      refine op_g ha rfl (g_move rfl) ?_; clear ha a; intro a ha
      refine op_g ha rfl (g_extract rfl rfl) ?_; clear ha a; intro a ha
      refine op_g ha rfl (g_extract rfl rfl) ?_; clear ha a; intro a ha
      refine op_g ha rfl (g_assign rfl) ?_; clear ha a; intro a ha
      refine op_g ha rfl (g_assign rfl) ?_; clear ha a; intro a ha
      refine wpList_nil ?_; refine e_then ?_; refine wp_seq ?_; refine wp_region_lit ?_
      refine op_g ha rfl (g_move rfl) ?_; clear ha a; intro a ha
      refine wpList_nil ?_; refine e_then ?_
      refine c_true ha rfl ?_; refine wp_region_lit ?_
      refine op_g ha rfl (g_field0 stR4 rfl) ?_; clear ha a; intro a ha
      refine op_g ha rfl (g_load Try.isAgg50 rfl (hB4.cell (j := 4) rfl)) ?_; clear ha a; intro a ha
      refine op_g ha rfl (g_move rfl) ?_; clear ha a; intro a ha
      refine op_g ha rfl (g_move rfl) ?_; clear ha a; intro a ha
      refine o_callv (vals := [Value.int .i64 y0, .int .i64 n]) (cap := cp) ha rfl rfl rfl hR.ep (hR.pick hE4 hy0 hn).2 ?_; clear ha a; rintro v21 w21 ⟨rfl, hx21⟩ a ha
      refine op_g ha rfl (g_assign rfl) ?_; clear ha a; intro a ha
      refine wpList_nil ?_; refine e_sq ?_
      exact ⟨R.pick y0 n, ha.sub ⟨rfl, rfl, rfl, trivial⟩, (hR.pick hE4 hy0 hn).1, hx21, by rw [gatT_put, hT]⟩
  · rintro a w ⟨y, ha, hy, hx, he⟩
    refine wp_region_lit ?_
    refine op_g ha rfl (g_move rfl) ?_; clear ha a; intro a ha
    refine op_g ha rfl (g_loadK hA (hB6.ext hx) rfl) ?_; clear ha a; intro a ha
    refine op_g ha rfl (g_move rfl) ?_; clear ha a; intro a ha
    refine o_mapT ha undMap (hM4.ext hx) hy rfl rfl rfl ?_; intro w5 hM5 hc5
    refine wpList_nil ?_
    rw [he] at hM5
    exact f_end0 ha rfl ⟨hM5, Chg.trans (hx4.trans hx).chg hc5 (fun i hi => .inl hi)⟩
set_option maxHeartbeats 4000000 in
theorem W_run {byK : Nat} {zK : Value} (slS : SlT Try.prog 75 74 rp.sz byK zK) (hld : ∀ {w : World} {p : Addr} {cs : List Value} {f : List Nat} {o : Bool} {s : κ} {σ : Slots} {x : Operand}, rp.rep o w f cs s → At w p cs → ev σ x = some (.pointer (some p)) → Gives Try.prog (Ext w) σ (.load 74 x) (K.kv s))
    (hA : KAgg K kc zc) (hR : RuW Try.prog K rp R W0 fa fd fm fb fp ca cd cm cb cp) {vk vv vb vd : Value} {fk fv fg fh : List Nat} {kinds verts : List Int} {bags kids : List (List Int)} (hk : Ro Rp.int W0 fk vk kinds) (hv : Ro Rp.int W0 fv vv verts) (hb : Ro (Rp.sl 2 Rp.int) W0 fg vb bags) (hd : Ro (Rp.sl 2 Rp.int) W0 fh vd kids)
    {m0 : Nat} {T0 : Tf κ} (hM0 : Mt K W0 m0 T0) {res : Tf κ} (hF : runF F_impl_maskOf R T0 kinds verts bags kids = some res) :
    Calls Try.prog 57 [.agg #[vk, vv, vb, vd], .map (some m0), .agg (rvOf fa fd fm fb fp ca cd cm cb cp).toArray].toArray W0 (Ret fun u w' => ∃ m, u = .map (some m) ∧ Mt K w' m res ∧ Ext W0 w') := by
  refine f_enter Try.func57 rfl Try.ntmps57 rfl ?_
  intro a ha
  replace ha : Fr 181 [(0, .agg #[vk, vv, vb, vd]), (1, .map (some m0)), (2, .agg (rvOf fa fd fm fb fp ca cd cm cb cp).toArray)] a := ha
  refine wp_seq ?_; refine wp_region_lit ?_
  refine o_box (cs := [vk, vv, vb, vd]) ha rfl rfl rfl ?_; clear ha a; intro bX w3 hB3 hx3 hlo3 a ha
  refine o_box (cs := rvOf fa fd fm fb fp ca cd cm cb cp) ha rfl rfl rfl ?_; clear ha a; intro bR w5 hB5 hx5 hlo5 a ha
  refine op_g ha rfl (g_assign rfl) ?_; clear ha a; intro a ha
  refine wpList_nil ?_; refine e_then ?_; refine wp_seq ?_; refine wp_region_lit ?_
  refine o_lit0 Rp.mp ha rfl slTabs ?_; clear ha a; intro v7 w7 h7 hx7 a ha
  refine op_g ha rfl (g_assign rfl) ?_; clear ha a; intro a ha
  refine wpList_nil ?_
  have hI0 : RunI K 33 83 78 W0 bX bR [vk, vv, vb, vd] (rvOf fa fd fm fb fp ca cd cm cb cp) (w5.heap.size : Int) v7 [] ([] : List (Tf κ)) w7 := by
    have s1 := hB3.blt; have s2 := hB5.blt; have s3 := hx5.size; have s4 := hx3.size
    exact ⟨(hx3.trans hx5).trans hx7, (hB3.ext hx5).ext hx7, hB5.ext hx7, h7, .inr (by omega), by omega, by omega, rfl, fun i m T h => by simp at h⟩
  replace ha := ha.sub (σ' := [(1, .map (some m0)), (3, .pointer (some ⟨bX, 0, none⟩)), (5, .pointer (some ⟨bR, 0, none⟩)), (7, v7)]) ⟨rfl, rfl, rfl, rfl, trivial⟩
  refine e_then ?_; refine wp_seq ?_; refine wp_seq ?_; refine wp_region_lit ?_
  refine op_g ha rfl (g_field0 stX0 rfl) ?_; clear ha a; intro a ha
  refine op_g ha rfl (g_load Try.isAgg25 rfl (hI0.bx.cell (j := 0) rfl)) ?_; clear ha a; intro a ha
  refine op_g ha rfl (g_lenR sl25.und (hk.ext hI0.ext) rfl) ?_; clear ha a; intro a ha
  refine op_g ha rfl (g_move rfl) ?_; clear ha a; intro a ha
  refine wpList_nil ?_
  replace ha := ha.sub (σ' := [(1, .map (some m0)), (3, .pointer (some ⟨bX, 0, none⟩)), (5, .pointer (some ⟨bR, 0, none⟩)), (7, v7), (29, vk), (30, .int .i64 (kinds.length : Int)), (31, .int .i64 0)]) ⟨rfl, rfl, rfl, rfl, rfl, rfl, rfl, trivial⟩
  unfold runF at hF; obtain ⟨tsf, hlp, hF⟩ := cal_some hF; obtain ⟨n1, hn1⟩ := lp_some hlp; clear hlp
  generalize hb7 : (w5.heap.size : Int) = b7 at hI0
  refine e_then ?_
  refine c_loop (fun a w => ∃ (b7 : Int) (v7 : Value) (ms : List Nat), Fr 181 [(7, v7)] a ∧ RunI K 33 83 78 W0 bX bR [vk, vv, vb, vd] (rvOf fa fd fm fb fp ca cd cm cb cp)  b7 v7 ms tsf w)
    (fun n a w => ∃ (b7 : Int) (v7 : Value) (ms : List Nat) (ts : List (Tf κ)) (i : Int), Fr 181 [(1, .map (some m0)), (3, .pointer (some ⟨bX, 0, none⟩)), (5, .pointer (some ⟨bR, 0, none⟩)), (7, v7), (29, vk), (30, .int .i64 (kinds.length : Int)), (31, .int .i64 i)] a ∧ RunI K 33 83 78 W0 bX bR [vk, vv, vb, vd] (rvOf fa fd fm fb fp ca cd cm cb cp)  b7 v7 ms ts w ∧ InI i ∧ lpN (fun s => runL F_impl_maskOf R T0 kinds verts bags kids s.1 s.2) n (ts, i) = some tsf) n1
    ⟨b7, v7, [], [], 0, ha, hI0, by decide, hn1⟩ ?_ ?_
  · clear ha hI0 hn1 hb7; clear b7 h7; clear v7
    rintro n a w ⟨b7, v7, ms, ts, i, ha, hI, hIi, hF⟩
    cases n with
    | zero => exact (lpN_zero hF).elim
    | succ n =>
      obtain ⟨z, hF, hN⟩ := lpN_succ hF
      have hF : runL F_impl_maskOf R T0 kinds verts bags kids ts i = some z := hF; unfold runL at hF
      refine wp_seq ?_; refine wp_region_lit ?_
      refine op_g ha rfl (g_lss rfl rfl) ?_; clear ha a; intro a ha
      refine wpList_nil ?_; refine e_then ?_; refine wp_seq ?_
      refine c_cond (i < (kinds.length : Int)) ha rfl decide_eq_true_iff (fun hp => ?_) (fun hp => ?_)
      · replace hF := if_t hp hF
        refine wp_skip ?_; refine e_then ?_; refine wp_seq ?_; refine wp_block ?_; refine wp_seq ?_; refine wp_region_lit ?_
        obtain ⟨kind, g0, gk, hF⟩ := idx_some hF
        obtain ⟨p1, cs1, f1, hf1, hpb1, hat1, hr1, hi1⟩ := (hk.ext hI.ext).at g0 gk; obtain ⟨rfl, hIk, rfl⟩ := hr1
        refine op_g ha rfl (g_move rfl) ?_; clear ha a; intro a ha
        refine op_g ha rfl (hi1.gives sl25 rfl rfl) ?_; clear ha a; intro a ha
        refine op_g ha rfl (g_load Try.isAgg2 rfl hat1.one) ?_; clear ha a; intro a ha
        refine op_g ha rfl (g_assign rfl) ?_; clear ha a; intro a ha
        refine op_g ha rfl (g_assign rfl) ?_; clear ha a; intro a ha
        refine wpList_nil ?_
        replace ha := ha.sub (σ' := [(1, .map (some m0)), (3, .pointer (some ⟨bX, 0, none⟩)), (5, .pointer (some ⟨bR, 0, none⟩)), (7, v7), (8, .int .i64 i), (9, .int .i64 kind), (29, vk), (30, .int .i64 (kinds.length : Int)), (31, .int .i64 i)]) ⟨rfl, rfl, rfl, rfl, rfl, rfl, rfl, rfl, rfl, trivial⟩
        obtain ⟨v, _, gv, hF⟩ := idx_some hF
        obtain ⟨p2, cs2, f2, hf2, hpb2, hat2, hr2, hi2⟩ := (hv.ext hI.ext).at g0 gv; obtain ⟨rfl, hIv, rfl⟩ := hr2
        obtain ⟨ks, _, gks, hF⟩ := idx_some hF
        obtain ⟨p3, cs3, f3, hf3, hpb3, hat3, hr3, hi3⟩ := hd.at g0 gks; obtain ⟨vks, rfl, hks00⟩ := hr3; have hks00 : Ro Rp.int W0 f3 vks ks := hks00; have hks0 : ∀ {w2 : World}, Ext W0 w2 → Ro Rp.int w2 f3 vks ks := fun hx => hks00.ext hx; have hks := hks0 hI.ext; replace hat3 := hat3.keep (hI.ext.block _ (hd.bnd _ hpb3) (by simp))
        obtain ⟨T, hnode, hF⟩ := cal_some hF; obtain ⟨hl, hF⟩ := app_some hF; obtain ⟨hI1, hF⟩ := ck_some hF
        refine e_then ?_; refine wp_seq ?_; refine x_region [0, 1, 2, 3, 4, 5, 6, 7, 8, 9, 10, 11, 12, 13] hmix ?_
        have hS0 := RowKit.Below.refl w.heap.size w
        refine x_g 1 rfl (by kernel_rfl) (want0 _) ha rfl hS0 (g_field0 stX1 rfl) ?_; clear ha a; intro a ha
        refine x_g 2 rfl (by kernel_rfl) (want0 _) ha rfl hS0 (g_load Try.isAgg25 rfl (hI.bx.cell (j := 1) rfl)) ?_; clear ha a; intro a ha
        refine x_g 3 rfl (by kernel_rfl) (want0 _) ha rfl hS0 (g_move rfl) ?_; clear ha a; intro a ha
        refine x_g 4 rfl (by kernel_rfl) (want0 _) ha rfl hS0 (hi2.gives sl25 rfl rfl) ?_; clear ha a; intro a ha
        refine x_g 5 rfl (by kernel_rfl) (want0 _) ha rfl hS0 (g_load Try.isAgg2 rfl hat2.one) ?_; clear ha a; intro a ha
        refine x_g 6 rfl (by kernel_rfl) (want0 _) ha rfl hS0 (g_field0 stX3 rfl) ?_; clear ha a; intro a ha
        refine x_g 7 rfl (by kernel_rfl) (want0 _) ha rfl hS0 (g_load Try.isAgg22 rfl (hI.bx.cell (j := 3) rfl)) ?_; clear ha a; intro a ha
        refine x_g 8 rfl (by kernel_rfl) (want0 _) ha rfl hS0 (g_move rfl) ?_; clear ha a; intro a ha
        refine x_g 9 rfl (by kernel_rfl) (want0 _) ha rfl hS0 (hi3.gives sl22 rfl rfl) ?_; clear ha a; intro a ha
        refine x_g 10 rfl (by kernel_rfl) (want0 _) ha rfl hS0 (g_load Try.isAgg25 rfl hat3.one) ?_; clear ha a; intro a ha
        refine x_only 0 rfl (by kernel_rfl) ?_; intro wa hxa
        have hS1 := bel_step hS0 hxa
        refine o_newT K ha rfl ?_; clear ha a; intro m wb hM hxb hlo a ha
        refine wpList_nil (e_sq ?_); refine ⟨fun _ => ext_bel hS1.size hxb, ?_⟩
        have hS2 := bel_step hS1 hxb
        refine x_g 11 rfl (by kernel_rfl) (want0 _) ha rfl hS2 (g_assign rfl) ?_; clear ha a; intro a ha
        refine x_g 12 rfl (by kernel_rfl) (want0 _) ha rfl hS2 (g_assign rfl) ?_; clear ha a; intro a ha
        refine x_g 13 rfl (by kernel_rfl) (want0 _) ha rfl hS2 (g_assign rfl) ?_; clear ha a; intro a ha
        refine x_done (by kernel_rfl) ?_; intro wc hxc
        have hxw := (hxa.trans hxb).trans hxc
        have hIo := hI
        replace hI := hI.up hxw; replace hM := hM.ext hxc; replace hks := hks.ext hxw
        have h0m : W0.heap.size ≤ m := by have h1 := hIo.ext.size; have h2 := hxa.size; omega
        have hmms : m ∉ ms := fun h => by have h1 := hIo.old m h; have h2 := hxa.size; omega
        replace ha := ha.sub (σ' := [(1, .map (some m0)), (3, .pointer (some ⟨bX, 0, none⟩)), (5, .pointer (some ⟨bR, 0, none⟩)), (7, v7), (8, .int .i64 i), (9, .int .i64 kind), (10, .map (some m)), (11, .int .i64 v), (12, vks), (29, vk), (30, .int .i64 (kinds.length : Int)), (31, .int .i64 i)]) ⟨rfl, rfl, rfl, rfl, rfl, rfl, rfl, rfl, rfl, rfl, rfl, rfl, trivial⟩
        clear hi1 hat1 hpb1 hf1 hi2 hat2 hpb2 hf2 hi3 hat3 hpb3 hf3 hS0 hS1 hS2 hlo hxa hxb hxc
        generalize hw0 : w = wOld at hxw hIo; clear hw0
        generalize wc = w at hI hM hks hxw ha; clear hxw hIo hIk
        refine e_then ?_; refine s_cut (fun a w => ∃ mm, Fr 181 [(1, .map (some m0)), (3, .pointer (some ⟨bX, 0, none⟩)), (5, .pointer (some ⟨bR, 0, none⟩)), (7, v7), (10, .map (some mm)), (29, vk), (30, .int .i64 (kinds.length : Int)), (31, .int .i64 i)] a ∧ RunI K 33 83 78 W0 bX bR [vk, vv, vb, vd] (rvOf fa fd fm fb fp ca cd cm cb cp)  b7 v7 ms ts w ∧ Mt K w mm T) ?_ ?_
        · refine wp_seq ?_; refine wp_region_lit ?_
          refine op_g ha rfl (g_move rfl) ?_; clear ha a; intro a ha
          refine wpList_nil ?_; refine e_then ?_; refine wp_block ?_
          unfold nodeT at hnode
          replace ha := ha.sub (σ' := [(1, .map (some m0)), (3, .pointer (some ⟨bX, 0, none⟩)), (5, .pointer (some ⟨bR, 0, none⟩)), (7, v7), (8, .int .i64 i), (10, .map (some m)), (11, .int .i64 v), (12, vks), (29, vk), (30, .int .i64 (kinds.length : Int)), (31, .int .i64 i), (47, .int .i64 kind)]) ⟨rfl, rfl, rfl, rfl, rfl, rfl, rfl, rfl, rfl, rfl, rfl, rfl, trivial⟩
          refine wp_seq ?_; refine wp_region_lit ?_
          refine op_g ha rfl (g_eql rfl rfl) ?_; clear ha a; intro a ha
          refine op_g ha rfl (g_assign rfl) ?_; clear ha a; intro a ha
          refine wpList_nil ?_; refine e_then ?_
          refine c_cond (kind = 1) ha rfl decide_eq_true_iff (fun hp1 => ?_) (fun hp1 => ?_)
          · replace hnode := if_t hp1 hnode
            refine wp_region_lit ?_
            refine op_g ha rfl (g_move rfl) ?_; clear ha a; intro a ha
            refine op_g ha rfl (g_assign rfl) ?_; clear ha a; intro a ha
            refine wpList_nil ?_
            refine e_blk ?_; refine e_sq ?_
            obtain rfl := Option.some.inj hnode
            exact ⟨m0, ha.sub ⟨rfl, rfl, rfl, rfl, rfl, rfl, rfl, rfl, trivial⟩, hI, hM0.ext hI.ext⟩
          replace hnode := if_f hp1 hnode
          refine wp_seq ?_; refine wp_region_lit ?_
          replace ha := ha.sub (σ' := [(1, .map (some m0)), (3, .pointer (some ⟨bX, 0, none⟩)), (5, .pointer (some ⟨bR, 0, none⟩)), (7, v7), (8, .int .i64 i), (10, .map (some m)), (11, .int .i64 v), (12, vks), (29, vk), (30, .int .i64 (kinds.length : Int)), (31, .int .i64 i), (47, .int .i64 kind)]) ⟨rfl, rfl, rfl, rfl, rfl, rfl, rfl, rfl, rfl, rfl, rfl, rfl, trivial⟩
          refine op_g ha rfl (g_eql rfl rfl) ?_; clear ha a; intro a ha
          refine op_g ha rfl (g_assign rfl) ?_; clear ha a; intro a ha
          refine wpList_nil ?_; refine e_then ?_
          refine c_cond (kind = 2) ha rfl decide_eq_true_iff (fun hp2 => ?_) (fun hp2 => ?_)
          · replace hnode := if_t hp2 hnode
            obtain ⟨kA, _, gkA, hnode⟩ := idx_some hnode; obtain ⟨TkA, gk0A, gTA, hnode⟩ := idx_some hnode; obtain ⟨bg, _, gb, hnode⟩ := idx_some hnode; obtain ⟨mb, hmb, hnode⟩ := cal_some hnode
            replace ha := ha.sub (σ' := [(1, .map (some m0)), (3, .pointer (some ⟨bX, 0, none⟩)), (5, .pointer (some ⟨bR, 0, none⟩)), (7, v7), (8, .int .i64 i), (10, .map (some m)), (11, .int .i64 v), (12, vks), (29, vk), (30, .int .i64 (kinds.length : Int)), (31, .int .i64 i)]) ⟨rfl, rfl, rfl, rfl, rfl, rfl, rfl, rfl, rfl, rfl, rfl, trivial⟩
            refine wp_seq ?_; refine wp_region_lit ?_
            refine op_g ha rfl (g_move rfl) ?_; clear ha a; intro a ha
            refine op_g ha rfl (g_move rfl) ?_; clear ha a; intro a ha
            obtain ⟨pkA, ckA, fkA, _, _, hatkA, hrkA, hikA⟩ := hks.at (by decide) gkA; obtain ⟨rfl, hIkA, rfl⟩ := hrkA
            refine op_g ha rfl (hikA.gives sl25 rfl rfl) ?_; clear ha a; intro a ha
            refine op_g ha rfl (g_load Try.isAgg2 rfl hatkA.one) ?_; clear ha a; intro a ha
            obtain ⟨mkA, hmkA⟩ : ∃ mk, ms[kA.toNat]? = some mk := ⟨_, List.getElem?_eq_getElem (by rw [hI.len]; exact (List.getElem?_eq_some_iff.1 gTA).1)⟩
            obtain ⟨ptA, ctA, ftA, _, _, hattA, hrtA, hitA⟩ := hI.ow.at gk0A hmkA; obtain ⟨rfl, rfl⟩ := hrtA
            refine op_g ha rfl (hitA.gives slTabs rfl rfl) ?_; clear ha a; intro a ha
            refine op_g ha rfl (g_load Try.isAgg78 rfl hattA.one) ?_; clear ha a; intro a ha
            have hMkA := hI.mt _ _ _ hmkA gTA
            have hmkmA : mkA ≠ m := fun e => hmms (by rw [← e]; exact List.mem_of_getElem? hmkA)
            refine o_rangeT ha rfl undMap (.inr ⟨mkA, rfl, hMkA⟩) rfl ?_; clear ha a; intro lA rA wrA hLA hRgA hxrA hlorA a ha
            refine wpList_nil ?_
            have hksA : ∀ {w2 : World}, Ext W0 w2 → Ro Rp.int w2 f3 vks ks := fun {w2} hx => (hks0 hx)
            have h0rA : W0.heap.size ≤ rA := by have h1 := hI.ext.size; omega
            replace hI := hI.up hxrA; replace hM := hM.ext hxrA; replace hks := hks.ext hxrA
            replace ha := ha.sub (σ' := [(1, .map (some m0)), (3, .pointer (some ⟨bX, 0, none⟩)), (5, .pointer (some ⟨bR, 0, none⟩)), (7, v7), (8, .int .i64 i), (10, .map (some m)), (11, .int .i64 v), (12, vks), (29, vk), (30, .int .i64 (kinds.length : Int)), (31, .int .i64 i), (59, .pointer (some ⟨rA, 0, none⟩))]) ⟨rfl, rfl, rfl, rfl, rfl, rfl, rfl, rfl, rfl, rfl, rfl, rfl, trivial⟩
            refine e_then ?_
            refine c_loop (fun a w => Fr 181 [(1, .map (some m0)), (3, .pointer (some ⟨bX, 0, none⟩)), (5, .pointer (some ⟨bR, 0, none⟩)), (7, v7), (10, .map (some m)), (29, vk), (30, .int .i64 (kinds.length : Int)), (31, .int .i64 i)] a ∧ RunI K 33 83 78 W0 bX bR [vk, vv, vb, vd] (rvOf fa fd fm fb fp ca cd cm cb cp)  b7 v7 ms ts w ∧ Mt K w m T) (fun n a w => ∃ (done rest : List (κ × Int)), n = rest.length ∧ (done ++ rest).Perm lA ∧ Fr 181 [(1, .map (some m0)), (3, .pointer (some ⟨bX, 0, none⟩)), (5, .pointer (some ⟨bR, 0, none⟩)), (7, v7), (8, .int .i64 i), (10, .map (some m)), (11, .int .i64 v), (12, vks), (29, vk), (30, .int .i64 (kinds.length : Int)), (31, .int .i64 i), (59, .pointer (some ⟨rA, 0, none⟩))] a ∧ RunI K 33 83 78 W0 bX bR [vk, vv, vb, vd] (rvOf fa fd fm fb fp ca cd cm cb cp)  b7 v7 ms ts w ∧ Rg K w rA (some mkA) rest ∧ Mt K w m (gatL R.pick noT (done.flatMap (fun p => (cAdd R v mb p).getD [])))) lA.length
              ⟨[], lA, rfl, .refl _, ha, hI, hRgA, hM⟩ ?_ ?_
            · clear hRgA hatkA hattA; clear ha
              rintro n a w1 ⟨done, rest, rfl, hp, ha, hI, hRg, hM⟩
              have hE01 : Ext W0 w1 := hI.ext
              refine wp_seq ?_; refine wp_region_lit ?_; refine o_nextT ha rfl hRg rfl (fun hr a ha => ?_) (fun p rest' w2 hpr hpI hRg2 hc2 hen a ha => ?_)
              · refine op_g ha rfl (g_extract rfl rfl) ?_; clear ha a; intro a ha
                refine wpList_nil ?_; refine e_then ?_; refine wp_seq ?_; refine c_false ha rfl ?_; refine wp_exit ?_; refine e_then_exit ?_; refine e_lq_eq ?_; subst hr
                exact ⟨ha.sub ⟨rfl, rfl, rfl, rfl, rfl, rfl, rfl, rfl, trivial⟩, hI, by rw [← gatF_perm hR.picks hnode hLA (by simpa using hp)]; exact hM⟩
              · have hI2 := hI.chg hc2 (hI.offIt hRg h0rA)
                have hne2 := hRg.neMap hM
                have hM2 := hM.chg hc2 (by simp only [List.mem_singleton]; exact hne2.symm)
                have hE02 : Ext W0 w2 := hI2.ext
                have hTp := (hLA.mem _ _).2 (mem_step hp hpr)
                clear hRg hI hM
                refine op_g ha rfl (g_extract rfl rfl) ?_; clear ha a; intro a ha
                refine wpList_nil ?_; refine e_then ?_; refine wp_seq ?_; refine c_true ha rfl ?_; refine wp_skip ?_; refine e_then ?_; refine wp_block ?_; refine wp_seq ?_; refine wp_region_lit ?_
                refine o_entryT ha rfl rfl hen ?_; clear ha a; intro a ha
                refine op_g ha rfl (g_extract rfl rfl) ?_; clear ha a; intro a ha
                refine op_g ha rfl (g_extract rfl rfl) ?_; clear ha a; intro a ha
                refine o_allocK hA ha rfl ?_; clear ha a; intro bKA wz hBz hxz hloz a ha
                refine o_storeK hA (s := p.1) ha hBz rfl rfl rfl ?_; intro w2 hBbKA hcK
                have hxK := Ext.then hxz hcK (fun i hi => by rw [List.mem_singleton] at hi; subst hi; exact hloz)
                have hKAm : bKA ≠ m := by have := hM2.lt; omega
                replace hI2 := hI2.up hxK; replace hM2 := hM2.ext hxK; replace hRg2 := hRg2.ext hxK; replace hE02 := hE02.trans hxK
                clear hBz hxz hloz hcK hxK
                refine op_g ha rfl (g_assign rfl) ?_; clear ha a; intro a ha
                refine wpList_nil ?_
                replace ha := ha.sub (σ' := [(1, .map (some m0)), (3, .pointer (some ⟨bX, 0, none⟩)), (5, .pointer (some ⟨bR, 0, none⟩)), (7, v7), (8, .int .i64 i), (10, .map (some m)), (11, .int .i64 v), (12, vks), (29, vk), (30, .int .i64 (kinds.length : Int)), (31, .int .i64 i), (59, .pointer (some ⟨rA, 0, none⟩)), (13, .pointer (some ⟨bKA, 0, none⟩)), (14, .int .i64 p.2)]) ⟨rfl, rfl, rfl, rfl, rfl, rfl, rfl, rfl, rfl, rfl, rfl, rfl, rfl, rfl, trivial⟩
                refine e_then ?_
                clear hen
                obtain ⟨la, hla, hgl⟩ : ∃ la, R.add p.1 v mb = some la ∧ (cAdd R v mb p).getD [] = la.map (fun s => (s, p.2)) := by
                  have h := (gatF_some hnode).1 p.1 p.2 hTp
                  unfold cAdd at h ⊢
                  cases hq : R.add p.1 v mb with
                  | none => simp only [hq] at h; cases h
                  | some la => exact ⟨la, rfl, by simp [hq]⟩
                obtain ⟨pq, cq, fq, _, _, hatq, hrq, hiq⟩ := (hksA hE02).at (by decide) gkA; obtain ⟨rfl, _, rfl⟩ := hrq
                obtain ⟨pb, cb2, fb2, _, _, hatb, hrb, hib⟩ := (hb.ext hE02).at gk0A gb; obtain ⟨vbg, rfl, hbg⟩ := hrb; have hbg : Ro Rp.int w2 fb2 vbg bg := hbg
                refine wp_seq ?_; refine x_region [0, 1, 2, 3, 4, 5, 6, 7, 8, 9, 10, 11, 12, 13, 14] hmix ?_
                have hS0 := RowKit.Below.refl w2.heap.size w2
                have hmlt := hM2.lt
                refine x_g 0 rfl (by kernel_rfl) (want0 _) ha rfl hS0 (g_field0 stR0 rfl) ?_; clear ha a; intro a ha
                refine x_g 1 rfl (by kernel_rfl) (want0 _) ha rfl hS0 (g_load Try.isAgg77 rfl (hI2.br.cell (j := 0) rfl)) ?_; clear ha a; intro a ha
                refine x_g 2 rfl (by kernel_rfl) (want0 _) ha rfl hS0 (g_loadK hA hBbKA rfl) ?_; clear ha a; intro a ha
                refine x_g 3 rfl (by kernel_rfl) (want0 _) ha rfl hS0 (g_move rfl) ?_; clear ha a; intro a ha
                refine x_g 4 rfl (by kernel_rfl) (want0 _) ha rfl hS0 (g_field0 stX2 rfl) ?_; clear ha a; intro a ha
                refine x_g 5 rfl (by kernel_rfl) (want0 _) ha rfl hS0 (g_load Try.isAgg22 rfl (hI2.bx.cell (j := 2) rfl)) ?_; clear ha a; intro a ha
                refine x_g 6 rfl (by kernel_rfl) (want0 _) ha rfl hS0 (g_move rfl) ?_; clear ha a; intro a ha
                refine x_g 7 rfl (by kernel_rfl) (want0 _) ha rfl hS0 (hiq.gives sl25 rfl rfl) ?_; clear ha a; intro a ha
                refine x_g 8 rfl (by kernel_rfl) (want0 _) ha rfl hS0 (g_load Try.isAgg2 rfl hatq.one) ?_; clear ha a; intro a ha
                refine x_g 9 rfl (by kernel_rfl) (want0 _) ha rfl hS0 (hib.gives sl22 rfl rfl) ?_; clear ha a; intro a ha
                refine x_g 10 rfl (by kernel_rfl) (want0 _) ha rfl hS0 (g_load Try.isAgg25 rfl hatb.one) ?_; clear ha a; intro a ha
                refine x_call (.int .u32 (BitVec.toNat mb : Int)) 11 rfl (by kernel_rfl) (want0 _) ha rfl rfl Try.call74 hS0 (fun w' hw' => W_impl_maskOf (hbg.ext hw') hmb) (fun w' u w'' h => h) ?_; clear ha a; intro a ha
                refine x_g 14 rfl (by kernel_rfl) (want0 _) ha rfl hS0 (g_move rfl) ?_; clear ha a; intro a ha
                refine x_only 12 rfl (by kernel_rfl) ?_; intro wa hxa
                have hS1 := bel_step hS0 hxa
                refine o_callv (vals := [K.kv p.1, .int .i64 v, .int .u32 (BitVec.toNat mb : Int)]) (cap := ca) ha rfl rfl rfl hR.ea (hR.add (hE02.trans hxa) p.1 hIv mb hla) ?_; clear ha a; rintro u77 w77 ⟨f77, h77, hf77, hx77⟩ a ha
                refine wpList_nil (e_sq ?_); refine ⟨fun _ => ext_bel hS1.size hx77, ?_⟩
                have hS2 := bel_step hS1 hx77
                refine x_g 13 rfl (by kernel_rfl) (want0 _) ha rfl hS2 (g_lenR slS.und h77 rfl) ?_; clear ha a; intro a ha
                refine x_done (by kernel_rfl) ?_; intro w3 hx3
                have hx23 := (hxa.trans hx77).trans hx3
                replace hI2 := hI2.up hx23; replace hM2 := hM2.ext hx23; replace hRg2 := hRg2.ext hx23; replace h77 := h77.ext hx3
                have hm77 : ∀ b ∈ f77, b ∉ [m] := fun b hb hm => by rw [List.mem_singleton] at hm; subst hm; have h1 := hf77 b hb; have h4 := hxa.size; omega
                clear hS0 hS1 hS2 hatq hiq hatb hib hbg
                refine e_then ?_
                refine c_loop (fun a w => Fr 181 [(1, .map (some m0)), (3, .pointer (some ⟨bX, 0, none⟩)), (5, .pointer (some ⟨bR, 0, none⟩)), (7, v7), (8, .int .i64 i), (10, .map (some m)), (11, .int .i64 v), (12, vks), (29, vk), (30, .int .i64 (kinds.length : Int)), (31, .int .i64 i), (59, .pointer (some ⟨rA, 0, none⟩))] a ∧ RunI K 33 83 78 W0 bX bR [vk, vv, vb, vd] (rvOf fa fd fm fb fp ca cd cm cb cp)  b7 v7 ms ts w ∧ Rg K w rA (some mkA) rest' ∧ Mt K w m (gatL R.pick (gatL R.pick noT (done.flatMap fun p => (cAdd R v mb p).getD [])) (la.map fun s => (s, p.2))))
                  (fun n a w => ∃ j : Nat, n = la.length - j ∧ j ≤ la.length ∧ Fr 181 [(1, .map (some m0)), (3, .pointer (some ⟨bX, 0, none⟩)), (5, .pointer (some ⟨bR, 0, none⟩)), (7, v7), (8, .int .i64 i), (10, .map (some m)), (11, .int .i64 v), (12, vks), (29, vk), (30, .int .i64 (kinds.length : Int)), (31, .int .i64 i), (59, .pointer (some ⟨rA, 0, none⟩)), (77, u77), (78, .int .i64 (la.length : Int)), (79, .int .i64 (j : Int)), (14, .int .i64 p.2)] a ∧ RunI K 33 83 78 W0 bX bR [vk, vv, vb, vd] (rvOf fa fd fm fb fp ca cd cm cb cp)  b7 v7 ms ts w ∧ Rg K w rA (some mkA) rest' ∧ Ro rp w f77 u77 la ∧ Mt K w m (gatL R.pick (gatL R.pick noT (done.flatMap fun p => (cAdd R v mb p).getD [])) ((la.take j).map fun s => (s, p.2)))) (la.length - 0)
                  ⟨0, rfl, Nat.zero_le _, ha.sub ⟨rfl, rfl, rfl, rfl, rfl, rfl, rfl, rfl, rfl, rfl, rfl, rfl, rfl, rfl, rfl, rfl, trivial⟩, hI2, hRg2, h77, hM2⟩ ?_ ?_
                · clear hI2 hRg2 h77 hM2 ha; rintro n a w ⟨j, rfl, hj, ha, hI, hRg, h77, hM⟩
                  refine wp_seq ?_; refine wp_region_lit ?_
                  refine op_g ha rfl (g_lss rfl rfl) ?_; clear ha a; intro a ha
                  refine wpList_nil ?_; refine e_then ?_; refine wp_seq ?_
                  refine c_cond ((j : Int) < (la.length : Int)) ha rfl decide_eq_true_iff (fun hpj => ?_) (fun hpj => ?_)
                  · have hjl : j < la.length := by omega
                    obtain ⟨s, hs⟩ : ∃ s, la[j]? = some s := ⟨_, List.getElem?_eq_getElem hjl⟩
                    refine wp_skip ?_; refine e_then ?_; refine wp_seq ?_; refine wp_block ?_; refine wp_seq ?_; refine wp_region_lit ?_
                    obtain ⟨ps, cs, fs, _, _, hats, hrs, his⟩ := h77.at (i := (j : Int)) (by omega) (by rw [Int.toNat_natCast]; exact hs)
                    refine op_g ha rfl (his.gives slS rfl rfl) ?_; clear ha a; intro a ha
                    refine op_g ha rfl (hld hrs hats rfl) ?_; clear ha a; intro a ha
                    refine o_allocK hA ha rfl ?_; clear ha a; intro bKs wz hBz hxz hloz a ha
                    refine o_storeK hA (s := s) ha hBz rfl rfl rfl ?_; intro w hBbKs hcK
                    have hxK := Ext.then hxz hcK (fun i hi => by rw [List.mem_singleton] at hi; subst hi; exact hloz)
                    replace hI := hI.up hxK; replace hM := hM.ext hxK; replace hRg := hRg.ext hxK; replace h77 := h77.ext hxK
                    clear hBz hxz hloz hcK hxK
                    refine wpList_nil ?_; refine e_then ?_; refine wp_region_lit ?_
                    refine op_g ha rfl (g_loadA (cs := rvOf fa fd fm fb fp ca cd cm cb cp) Try.isAgg83 Try.sizeOf83 rfl (by simp [rvOf]) hI.br.all) ?_; clear ha a; intro a ha
                    refine op_g ha rfl (g_move rfl) ?_; clear ha a; intro a ha
                    refine op_g ha rfl (g_loadK hA hBbKs rfl) ?_; clear ha a; intro a ha
                    refine op_g ha rfl (g_move rfl) ?_; clear ha a; intro a ha
                    refine o_call ha rfl rfl Try.call87 (W_gather hA hR hI.ext hM h0m s hpI) ?_; clear ha a; rintro v87 w5 ⟨hM5, hc5⟩ a ha
                    refine wpList_nil ?_; refine e_blk ?_; refine e_then ?_; refine wp_region_lit ?_
                    have hoff := hI.offMap hM h0m hmms
                    have hI5 := hI.chg hc5 hoff
                    have hRg5 := hRg.chg hc5 (by simp only [List.mem_singleton]; exact hRg.neMap hM) (fun b hb => by obtain rfl := Option.some.inj hb; simp only [List.mem_singleton]; exact hmkmA)
                    have h775 := h77.chg hc5 hm77
                    have hIj : InI ((j : Int) + 1) := by
                      obtain ⟨_, cap, _, ⟨c1, c2⟩, _⟩ := h77
                      simp only [maxLen] at c2; unfold InI; omega
                    refine op_g ha rfl (g_add rfl rfl hIj) ?_; clear ha a; intro a ha
                    refine op_g ha rfl (g_move rfl) ?_; clear ha a; intro a ha
                    refine wpList_nil ?_; refine e_lq ?_
                    have htk : (la.take (j + 1)).map (fun s => (s, p.2)) = (la.take j).map (fun s => (s, p.2)) ++ [(s, p.2)] := by rw [List.take_add_one, hs]; simp
                    exact ⟨_, by omega, j + 1, rfl, by omega, ha.sub ⟨rfl, rfl, rfl, rfl, rfl, rfl, rfl, rfl, rfl, rfl, rfl, rfl, rfl, rfl, rfl, rfl, trivial⟩, hI5, hRg5, h775, by rw [htk, gatL_append]; exact hM5⟩
                  · refine wp_exit ?_; refine e_then_exit ?_; refine e_lq_eq ?_
                    have ej : j = la.length := by omega
                    rw [ej, List.take_length] at hM
                    exact ⟨ha.sub ⟨rfl, rfl, rfl, rfl, rfl, rfl, rfl, rfl, rfl, rfl, rfl, rfl, trivial⟩, hI, hRg, hM⟩
                · rintro a w ⟨ha, hI, hRg, hM⟩
                  refine e_blk ?_; refine e_lq ?_
                  exact ⟨_, len_step hpr, done ++ [p], rest', rfl, perm_step hp hpr, ha.sub ⟨rfl, rfl, rfl, rfl, rfl, rfl, rfl, rfl, rfl, rfl, rfl, rfl, trivial⟩, hI, hRg, by rw [gat_step, hgl]; exact hM⟩
            · rintro a w ⟨ha, hI, hM⟩
              refine e_blk ?_; refine e_sq ?_
              exact ⟨m, ha.sub ⟨rfl, rfl, rfl, rfl, rfl, rfl, rfl, rfl, trivial⟩, hI, hM⟩
          replace hnode := if_f hp2 hnode
          refine wp_seq ?_; refine wp_region_lit ?_
          replace ha := ha.sub (σ' := [(1, .map (some m0)), (3, .pointer (some ⟨bX, 0, none⟩)), (5, .pointer (some ⟨bR, 0, none⟩)), (7, v7), (8, .int .i64 i), (10, .map (some m)), (11, .int .i64 v), (12, vks), (29, vk), (30, .int .i64 (kinds.length : Int)), (31, .int .i64 i), (47, .int .i64 kind)]) ⟨rfl, rfl, rfl, rfl, rfl, rfl, rfl, rfl, rfl, rfl, rfl, rfl, trivial⟩
          refine op_g ha rfl (g_eql rfl rfl) ?_; clear ha a; intro a ha
          refine op_g ha rfl (g_assign rfl) ?_; clear ha a; intro a ha
          refine wpList_nil ?_; refine e_then ?_
          refine c_cond (kind = 3) ha rfl decide_eq_true_iff (fun hp3 => ?_) (fun hp3 => ?_)
          · replace hnode := if_t hp3 hnode
            obtain ⟨kA, _, gkA, hnode⟩ := idx_some hnode; obtain ⟨TkA, gk0A, gTA, hnode⟩ := idx_some hnode; obtain ⟨bg, _, gb, hnode⟩ := idx_some hnode; obtain ⟨mb, hmb, hnode⟩ := cal_some hnode
            replace ha := ha.sub (σ' := [(1, .map (some m0)), (3, .pointer (some ⟨bX, 0, none⟩)), (5, .pointer (some ⟨bR, 0, none⟩)), (7, v7), (8, .int .i64 i), (10, .map (some m)), (11, .int .i64 v), (12, vks), (29, vk), (30, .int .i64 (kinds.length : Int)), (31, .int .i64 i)]) ⟨rfl, rfl, rfl, rfl, rfl, rfl, rfl, rfl, rfl, rfl, rfl, trivial⟩
            refine wp_seq ?_; refine wp_region_lit ?_
            refine op_g ha rfl (g_move rfl) ?_; clear ha a; intro a ha
            refine op_g ha rfl (g_move rfl) ?_; clear ha a; intro a ha
            obtain ⟨pkA, ckA, fkA, _, _, hatkA, hrkA, hikA⟩ := hks.at (by decide) gkA; obtain ⟨rfl, hIkA, rfl⟩ := hrkA
            refine op_g ha rfl (hikA.gives sl25 rfl rfl) ?_; clear ha a; intro a ha
            refine op_g ha rfl (g_load Try.isAgg2 rfl hatkA.one) ?_; clear ha a; intro a ha
            obtain ⟨mkA, hmkA⟩ : ∃ mk, ms[kA.toNat]? = some mk := ⟨_, List.getElem?_eq_getElem (by rw [hI.len]; exact (List.getElem?_eq_some_iff.1 gTA).1)⟩
            obtain ⟨ptA, ctA, ftA, _, _, hattA, hrtA, hitA⟩ := hI.ow.at gk0A hmkA; obtain ⟨rfl, rfl⟩ := hrtA
            refine op_g ha rfl (hitA.gives slTabs rfl rfl) ?_; clear ha a; intro a ha
            refine op_g ha rfl (g_load Try.isAgg78 rfl hattA.one) ?_; clear ha a; intro a ha
            have hMkA := hI.mt _ _ _ hmkA gTA
            have hmkmA : mkA ≠ m := fun e => hmms (by rw [← e]; exact List.mem_of_getElem? hmkA)
            refine o_rangeT ha rfl undMap (.inr ⟨mkA, rfl, hMkA⟩) rfl ?_; clear ha a; intro lA rA wrA hLA hRgA hxrA hlorA a ha
            refine wpList_nil ?_
            have h0rA : W0.heap.size ≤ rA := by have h1 := hI.ext.size; omega
            replace hI := hI.up hxrA; replace hM := hM.ext hxrA; replace hks := hks.ext hxrA
            replace ha := ha.sub (σ' := [(1, .map (some m0)), (3, .pointer (some ⟨bX, 0, none⟩)), (5, .pointer (some ⟨bR, 0, none⟩)), (7, v7), (8, .int .i64 i), (10, .map (some m)), (11, .int .i64 v), (12, vks), (29, vk), (30, .int .i64 (kinds.length : Int)), (31, .int .i64 i), (97, .pointer (some ⟨rA, 0, none⟩))]) ⟨rfl, rfl, rfl, rfl, rfl, rfl, rfl, rfl, rfl, rfl, rfl, rfl, trivial⟩
            refine e_then ?_
            refine c_loop (fun a w => Fr 181 [(1, .map (some m0)), (3, .pointer (some ⟨bX, 0, none⟩)), (5, .pointer (some ⟨bR, 0, none⟩)), (7, v7), (10, .map (some m)), (29, vk), (30, .int .i64 (kinds.length : Int)), (31, .int .i64 i)] a ∧ RunI K 33 83 78 W0 bX bR [vk, vv, vb, vd] (rvOf fa fd fm fb fp ca cd cm cb cp)  b7 v7 ms ts w ∧ Mt K w m T) (fun n a w => ∃ (done rest : List (κ × Int)), n = rest.length ∧ (done ++ rest).Perm lA ∧ Fr 181 [(1, .map (some m0)), (3, .pointer (some ⟨bX, 0, none⟩)), (5, .pointer (some ⟨bR, 0, none⟩)), (7, v7), (8, .int .i64 i), (10, .map (some m)), (11, .int .i64 v), (12, vks), (29, vk), (30, .int .i64 (kinds.length : Int)), (31, .int .i64 i), (97, .pointer (some ⟨rA, 0, none⟩))] a ∧ RunI K 33 83 78 W0 bX bR [vk, vv, vb, vd] (rvOf fa fd fm fb fp ca cd cm cb cp)  b7 v7 ms ts w ∧ Rg K w rA (some mkA) rest ∧ Mt K w m (gatL R.pick noT (done.flatMap (fun p => (cDrop R v mb p).getD [])))) lA.length
              ⟨[], lA, rfl, .refl _, ha, hI, hRgA, hM⟩ ?_ ?_
            · clear hRgA hatkA hattA; clear ha
              rintro n a w1 ⟨done, rest, rfl, hp, ha, hI, hRg, hM⟩
              have hE01 : Ext W0 w1 := hI.ext
              refine wp_seq ?_; refine wp_region_lit ?_; refine o_nextT ha rfl hRg rfl (fun hr a ha => ?_) (fun p rest' w2 hpr hpI hRg2 hc2 hen a ha => ?_)
              · refine op_g ha rfl (g_extract rfl rfl) ?_; clear ha a; intro a ha
                refine wpList_nil ?_; refine e_then ?_; refine wp_seq ?_; refine c_false ha rfl ?_; refine wp_exit ?_; refine e_then_exit ?_; refine e_lq_eq ?_; subst hr
                exact ⟨ha.sub ⟨rfl, rfl, rfl, rfl, rfl, rfl, rfl, rfl, trivial⟩, hI, by rw [← gatF_perm hR.picks hnode hLA (by simpa using hp)]; exact hM⟩
              · have hI2 := hI.chg hc2 (hI.offIt hRg h0rA)
                have hne2 := hRg.neMap hM
                have hM2 := hM.chg hc2 (by simp only [List.mem_singleton]; exact hne2.symm)
                have hE02 : Ext W0 w2 := hI2.ext
                have hTp := (hLA.mem _ _).2 (mem_step hp hpr)
                clear hRg hI hM
                refine op_g ha rfl (g_extract rfl rfl) ?_; clear ha a; intro a ha
                refine wpList_nil ?_; refine e_then ?_; refine wp_seq ?_; refine c_true ha rfl ?_; refine wp_skip ?_; refine e_then ?_; refine wp_block ?_; refine wp_seq ?_; refine wp_region_lit ?_
                refine o_entryT ha rfl rfl hen ?_; clear ha a; intro a ha
                refine op_g ha rfl (g_extract rfl rfl) ?_; clear ha a; intro a ha
                refine op_g ha rfl (g_extract rfl rfl) ?_; clear ha a; intro a ha
                refine o_allocK hA ha rfl ?_; clear ha a; intro bKA wz hBz hxz hloz a ha
                refine o_storeK hA (s := p.1) ha hBz rfl rfl rfl ?_; intro w2 hBbKA hcK
                have hxK := Ext.then hxz hcK (fun i hi => by rw [List.mem_singleton] at hi; subst hi; exact hloz)
                have hKAm : bKA ≠ m := by have := hM2.lt; omega
                replace hI2 := hI2.up hxK; replace hM2 := hM2.ext hxK; replace hRg2 := hRg2.ext hxK; replace hE02 := hE02.trans hxK
                clear hBz hxz hloz hcK hxK
                refine op_g ha rfl (g_assign rfl) ?_; clear ha a; intro a ha
                refine wpList_nil ?_
                replace ha := ha.sub (σ' := [(1, .map (some m0)), (3, .pointer (some ⟨bX, 0, none⟩)), (5, .pointer (some ⟨bR, 0, none⟩)), (7, v7), (8, .int .i64 i), (10, .map (some m)), (11, .int .i64 v), (12, vks), (29, vk), (30, .int .i64 (kinds.length : Int)), (31, .int .i64 i), (97, .pointer (some ⟨rA, 0, none⟩)), (17, .pointer (some ⟨bKA, 0, none⟩)), (18, .int .i64 p.2)]) ⟨rfl, rfl, rfl, rfl, rfl, rfl, rfl, rfl, rfl, rfl, rfl, rfl, rfl, rfl, trivial⟩
                refine e_then ?_
                clear hen
                obtain ⟨Td, hTd, hgl⟩ : ∃ Td, R.drop p.1 v mb p.2 = some Td ∧ (cDrop R v mb p).getD [] = lst Td := by
                  have h := (gatF_some hnode).1 p.1 p.2 hTp
                  unfold cDrop at h ⊢
                  cases hq : R.drop p.1 v mb p.2 with
                  | none => simp only [hq] at h; cases h
                  | some la => exact ⟨la, rfl, by simp [hq]⟩
                obtain ⟨pb, cb2, fb2, _, _, hatb, hrb, hib⟩ := (hb.ext hE02).at g0 gb; obtain ⟨vbg, rfl, hbg⟩ := hrb; have hbg : Ro Rp.int w2 fb2 vbg bg := hbg
                refine wp_seq ?_; refine x_region [0, 1, 2, 3, 4, 5, 6, 7, 8, 9, 10, 11, 12] hmix ?_
                have hS0 := RowKit.Below.refl w2.heap.size w2
                have hmlt := hM2.lt
                refine x_g 0 rfl (by kernel_rfl) (want0 _) ha rfl hS0 (g_field0 stR1 rfl) ?_; clear ha a; intro a ha
                refine x_g 1 rfl (by kernel_rfl) (want0 _) ha rfl hS0 (g_load Try.isAgg80 rfl (hI2.br.cell (j := 1) rfl)) ?_; clear ha a; intro a ha
                refine x_g 2 rfl (by kernel_rfl) (want0 _) ha rfl hS0 (g_loadK hA hBbKA rfl) ?_; clear ha a; intro a ha
                refine x_g 3 rfl (by kernel_rfl) (want0 _) ha rfl hS0 (g_move rfl) ?_; clear ha a; intro a ha
                refine x_g 4 rfl (by kernel_rfl) (want0 _) ha rfl hS0 (g_field0 stX2 rfl) ?_; clear ha a; intro a ha
                refine x_g 5 rfl (by kernel_rfl) (want0 _) ha rfl hS0 (g_load Try.isAgg22 rfl (hI2.bx.cell (j := 2) rfl)) ?_; clear ha a; intro a ha
                refine x_g 6 rfl (by kernel_rfl) (want0 _) ha rfl hS0 (g_move rfl) ?_; clear ha a; intro a ha
                refine x_g 7 rfl (by kernel_rfl) (want0 _) ha rfl hS0 (hib.gives sl22 rfl rfl) ?_; clear ha a; intro a ha
                refine x_g 8 rfl (by kernel_rfl) (want0 _) ha rfl hS0 (g_load Try.isAgg25 rfl hatb.one) ?_; clear ha a; intro a ha
                refine x_call (.int .u32 (BitVec.toNat mb : Int)) 9 rfl (by kernel_rfl) (want0 _) ha rfl rfl Try.call74 hS0 (fun w' hw' => W_impl_maskOf (hbg.ext hw') hmb) (fun w' u w'' h => h) ?_; clear ha a; intro a ha
                refine x_g 10 rfl (by kernel_rfl) (want0 _) ha rfl hS0 (g_move rfl) ?_; clear ha a; intro a ha
                refine x_only 11 rfl (by kernel_rfl) ?_; intro wa hxa
                have hS1 := bel_step hS0 hxa
                refine o_callv (vals := [K.kv p.1, .int .i64 v, .int .u32 (BitVec.toNat mb : Int), .int .i64 p.2]) (cap := cd) ha rfl rfl rfl hR.ed (hR.drop (hE02.trans hxa) p.1 hIv mb hpI hTd) ?_; clear ha a; rintro u77 w77 ⟨mo, rfl, hMo, hmo, hx77⟩ a ha
                refine wpList_nil (e_sq ?_); refine ⟨fun _ => ext_bel hS1.size hx77, ?_⟩
                have hS2 := bel_step hS1 hx77
                refine x_only 12 rfl (by kernel_rfl) ?_; intro wb hxb
                have hS3 := bel_step hS2 hxb
                have hMob : Mv K wb mo Td := hMo.imp id (fun ⟨b, h1, h2⟩ => ⟨b, h1, h2.ext hxb⟩)
                refine o_rangeT ha rfl undMap hMob rfl ?_; clear ha a; intro lB rB wr hLB hRgB hxr hlor a ha
                refine wpList_nil (e_sq ?_); refine ⟨fun _ => ext_bel hS3.size hxr, ?_⟩
                refine x_done (by kernel_rfl) ?_; intro w3 hx3
                have hx2b := (hxa.trans hx77).trans hxb
                have hx23 := (hx2b.trans hxr).trans hx3
                have hmom : ∀ b, mo = some b → b ≠ m := fun b hb e => by have h1 := hmo b hb; have h2 := hxa.size; omega
                have hrAB : rA ≠ rB := by have h1 := hRg2.lt; have h2 := hx2b.size; omega
                have hmkB : mkA ≠ rB := by have h1 := (hI2.mapAt (List.mem_of_getElem? hmkA)).choose_spec.lt; have h2 := hx2b.size; omega
                have h0rB : W0.heap.size ≤ rB := by have h1 := hE02.size; have h2 := hx2b.size; omega
                replace hI2 := hI2.up hx23; replace hM2 := hM2.ext hx23; replace hRg2 := hRg2.ext hx23; replace hRgB := hRgB.ext hx3
                clear hS0 hS1 hS2 hS3 hatb hib hbg hMob hMo
                refine e_then ?_
                refine c_loop (fun a w => Fr 181 [(1, .map (some m0)), (3, .pointer (some ⟨bX, 0, none⟩)), (5, .pointer (some ⟨bR, 0, none⟩)), (7, v7), (8, .int .i64 i), (10, .map (some m)), (11, .int .i64 v), (12, vks), (29, vk), (30, .int .i64 (kinds.length : Int)), (31, .int .i64 i), (97, .pointer (some ⟨rA, 0, none⟩))] a ∧ RunI K 33 83 78 W0 bX bR [vk, vv, vb, vd] (rvOf fa fd fm fb fp ca cd cm cb cp)  b7 v7 ms ts w ∧ Rg K w rA (some mkA) rest' ∧ Mt K w m (gatL R.pick (gatL R.pick noT (done.flatMap (fun p => (cDrop R v mb p).getD []))) (lB.flatMap (fun q => [q]))))
                  (fun n a w => ∃ (doneB restB : List (κ × Int)), n = restB.length ∧ (doneB ++ restB).Perm lB ∧ Fr 181 [(1, .map (some m0)), (3, .pointer (some ⟨bX, 0, none⟩)), (5, .pointer (some ⟨bR, 0, none⟩)), (7, v7), (8, .int .i64 i), (10, .map (some m)), (11, .int .i64 v), (12, vks), (29, vk), (30, .int .i64 (kinds.length : Int)), (31, .int .i64 i), (97, .pointer (some ⟨rA, 0, none⟩)), (115, .pointer (some ⟨rB, 0, none⟩))] a ∧ RunI K 33 83 78 W0 bX bR [vk, vv, vb, vd] (rvOf fa fd fm fb fp ca cd cm cb cp)  b7 v7 ms ts w ∧ Rg K w rA (some mkA) rest' ∧ Rg K w rB (mo) restB ∧ Mt K w m (gatL R.pick (gatL R.pick noT (done.flatMap (fun p => (cDrop R v mb p).getD []))) (doneB.flatMap (fun q => [q])))) lB.length
                  ⟨[], lB, rfl, .refl _, ha.sub ⟨rfl, rfl, rfl, rfl, rfl, rfl, rfl, rfl, rfl, rfl, rfl, rfl, rfl, trivial⟩, hI2, hRg2, hRgB, hM2⟩ ?_ ?_
                · clear hI2 hRg2 hRgB hM2 ha; rintro n a w ⟨doneB, restB, rfl, hpB, ha, hI, hRg, hRgB, hM⟩
                  refine wp_seq ?_; refine wp_region_lit ?_; refine o_nextT ha rfl hRgB rfl (fun hr a ha => ?_) (fun q restB' w4 hqr hqI hRg4 hc4 hen a ha => ?_)
                  · refine op_g ha rfl (g_extract rfl rfl) ?_; clear ha a; intro a ha
                    refine wpList_nil ?_; refine e_then ?_; refine wp_seq ?_; refine c_false ha rfl ?_; refine wp_exit ?_; refine e_then_exit ?_; refine e_lq_eq ?_; subst hr
                    exact ⟨ha.sub ⟨rfl, rfl, rfl, rfl, rfl, rfl, rfl, rfl, rfl, rfl, rfl, rfl, trivial⟩, hI, hRg, by rw [← gatL_perm hR.picks ((show doneB.Perm lB by simpa using hpB).flatMap_right _)]; exact hM⟩
                  · have hI4 := hI.chg hc4 (hI.offIt hRgB h0rB)
                    have hM4 := hM.chg hc4 (by simp only [List.mem_singleton]; exact (hRgB.neMap hM).symm)
                    have hRgA4 := hRg.chg hc4 (by simp only [List.mem_singleton]; exact hrAB) (fun b hb => by obtain rfl := Option.some.inj hb; simp only [List.mem_singleton]; exact hmkB)
                    clear hRg hRgB hI hM
                    refine op_g ha rfl (g_extract rfl rfl) ?_; clear ha a; intro a ha
                    refine wpList_nil ?_; refine e_then ?_; refine wp_seq ?_; refine c_true ha rfl ?_; refine wp_skip ?_; refine e_then ?_; refine wp_block ?_; refine wp_seq ?_; refine wp_region_lit ?_
                    refine o_entryT ha rfl rfl hen ?_; clear ha a; intro a ha
                    refine op_g ha rfl (g_extract rfl rfl) ?_; clear ha a; intro a ha
                    refine op_g ha rfl (g_extract rfl rfl) ?_; clear ha a; intro a ha
                    refine o_allocK hA ha rfl ?_; clear ha a; intro bKB wz hBz hxz hloz a ha
                    refine o_storeK hA (s := q.1) ha hBz rfl rfl rfl ?_; intro w4 hBbKB hcK
                    have hxK := Ext.then hxz hcK (fun i hi => by rw [List.mem_singleton] at hi; subst hi; exact hloz)
                    replace hI4 := hI4.up hxK; replace hM4 := hM4.ext hxK; replace hRgA4 := hRgA4.ext hxK; replace hRg4 := hRg4.ext hxK
                    clear hBz hxz hloz hcK hxK
                    refine op_g ha rfl (g_assign rfl) ?_; clear ha a; intro a ha
                    refine wpList_nil ?_
                    replace ha := ha.sub (σ' := [(1, .map (some m0)), (3, .pointer (some ⟨bX, 0, none⟩)), (5, .pointer (some ⟨bR, 0, none⟩)), (7, v7), (8, .int .i64 i), (10, .map (some m)), (11, .int .i64 v), (12, vks), (29, vk), (30, .int .i64 (kinds.length : Int)), (31, .int .i64 i), (97, .pointer (some ⟨rA, 0, none⟩)), (115, .pointer (some ⟨rB, 0, none⟩)), (19, .pointer (some ⟨bKB, 0, none⟩)), (20, .int .i64 q.2)]) ⟨rfl, rfl, rfl, rfl, rfl, rfl, rfl, rfl, rfl, rfl, rfl, rfl, rfl, rfl, rfl, trivial⟩
                    refine e_then ?_
                    clear hen
                    refine wp_region_lit ?_
                    refine op_g ha rfl (g_loadA (cs := rvOf fa fd fm fb fp ca cd cm cb cp) Try.isAgg83 Try.sizeOf83 rfl (by simp [rvOf]) hI4.br.all) ?_; clear ha a; intro a ha
                    refine op_g ha rfl (g_move rfl) ?_; clear ha a; intro a ha
                    refine op_g ha rfl (g_loadK hA hBbKB rfl) ?_; clear ha a; intro a ha
                    refine op_g ha rfl (g_move rfl) ?_; clear ha a; intro a ha
                    refine o_call ha rfl rfl Try.call87 (W_gather hA hR hI4.ext hM4 h0m q.1 hqI) ?_; clear ha a; rintro v87 w5 ⟨hM5, hc5⟩ a ha
                    refine wpList_nil ?_
                    have hoff := hI4.offMap hM4 h0m hmms
                    have hI5 := hI4.chg hc5 hoff
                    have hRgA5 := hRgA4.chg hc5 (by simp only [List.mem_singleton]; exact hRgA4.neMap hM4) (fun b hb => by obtain rfl := Option.some.inj hb; simp only [List.mem_singleton]; exact hmkmA)
                    have hRgB5 := hRg4.chg hc5 (by simp only [List.mem_singleton]; exact hRg4.neMap hM4) (fun b hb => by simp only [List.mem_singleton]; exact hmom b hb)
                    refine e_blk ?_; refine e_lq ?_
                    exact ⟨_, len_step hqr, doneB ++ [q], restB', rfl, perm_step hpB hqr, ha.sub ⟨rfl, rfl, rfl, rfl, rfl, rfl, rfl, rfl, rfl, rfl, rfl, rfl, rfl, trivial⟩, hI5, hRgA5, hRgB5, by rw [gat_step]; exact hM5⟩
                · rintro a w ⟨ha, hI, hRg, hM⟩
                  refine e_blk ?_; refine e_lq ?_
                  rw [List.flatMap_singleton'] at hM
                  have hM : Mt K w m (gatL R.pick (gatL R.pick noT (done.flatMap (fun p => (cDrop R v mb p).getD []))) (((fun p => (cDrop R v mb p).getD [])) p)) := by rw [show ((fun p => (cDrop R v mb p).getD [])) p = lst Td from hgl, gatL_perm hR.picks ((lst_is hLB).perm hLB)]; exact hM
                  exact ⟨_, len_step hpr, done ++ [p], rest', rfl, perm_step hp hpr, ha.sub ⟨rfl, rfl, rfl, rfl, rfl, rfl, rfl, rfl, rfl, rfl, rfl, rfl, trivial⟩, hI, hRg, by rw [gat_step]; exact hM⟩
            · rintro a w ⟨ha, hI, hM⟩
              refine e_blk ?_; refine e_sq ?_
              exact ⟨m, ha.sub ⟨rfl, rfl, rfl, rfl, rfl, rfl, rfl, rfl, trivial⟩, hI, hM⟩
          replace hnode := if_f hp3 hnode
          refine wp_seq ?_; refine wp_region_lit ?_
          replace ha := ha.sub (σ' := [(1, .map (some m0)), (3, .pointer (some ⟨bX, 0, none⟩)), (5, .pointer (some ⟨bR, 0, none⟩)), (7, v7), (8, .int .i64 i), (10, .map (some m)), (11, .int .i64 v), (12, vks), (29, vk), (30, .int .i64 (kinds.length : Int)), (31, .int .i64 i), (47, .int .i64 kind)]) ⟨rfl, rfl, rfl, rfl, rfl, rfl, rfl, rfl, rfl, rfl, rfl, rfl, trivial⟩
          refine op_g ha rfl (g_eql rfl rfl) ?_; clear ha a; intro a ha
          refine op_g ha rfl (g_assign rfl) ?_; clear ha a; intro a ha
          refine wpList_nil ?_; refine e_then ?_
          refine c_cond (kind = 4) ha rfl decide_eq_true_iff (fun hp4 => ?_) (fun hp4 => ?_)
          · replace hnode := if_t hp4 hnode
            obtain ⟨kA, _, gkA, hnode⟩ := idx_some hnode; obtain ⟨TkA, gk0A, gTA, hnode⟩ := idx_some hnode; obtain ⟨kB, _, gkB, hnode⟩ := idx_some hnode; obtain ⟨TkB, gk0B, gTB, hnode⟩ := idx_some hnode
            replace ha := ha.sub (σ' := [(1, .map (some m0)), (3, .pointer (some ⟨bX, 0, none⟩)), (5, .pointer (some ⟨bR, 0, none⟩)), (7, v7), (8, .int .i64 i), (10, .map (some m)), (11, .int .i64 v), (12, vks), (29, vk), (30, .int .i64 (kinds.length : Int)), (31, .int .i64 i)]) ⟨rfl, rfl, rfl, rfl, rfl, rfl, rfl, rfl, rfl, rfl, rfl, trivial⟩
            refine wp_seq ?_; refine wp_region_lit ?_
            refine op_g ha rfl (g_move rfl) ?_; clear ha a; intro a ha
            refine op_g ha rfl (g_move rfl) ?_; clear ha a; intro a ha
            obtain ⟨pkA, ckA, fkA, _, _, hatkA, hrkA, hikA⟩ := hks.at (by decide) gkA; obtain ⟨rfl, hIkA, rfl⟩ := hrkA
            refine op_g ha rfl (hikA.gives sl25 rfl rfl) ?_; clear ha a; intro a ha
            refine op_g ha rfl (g_load Try.isAgg2 rfl hatkA.one) ?_; clear ha a; intro a ha
            obtain ⟨mkA, hmkA⟩ : ∃ mk, ms[kA.toNat]? = some mk := ⟨_, List.getElem?_eq_getElem (by rw [hI.len]; exact (List.getElem?_eq_some_iff.1 gTA).1)⟩
            obtain ⟨ptA, ctA, ftA, _, _, hattA, hrtA, hitA⟩ := hI.ow.at gk0A hmkA; obtain ⟨rfl, rfl⟩ := hrtA
            refine op_g ha rfl (hitA.gives slTabs rfl rfl) ?_; clear ha a; intro a ha
            refine op_g ha rfl (g_load Try.isAgg78 rfl hattA.one) ?_; clear ha a; intro a ha
            have hMkA := hI.mt _ _ _ hmkA gTA
            have hmkmA : mkA ≠ m := fun e => hmms (by rw [← e]; exact List.mem_of_getElem? hmkA)
            refine o_rangeT ha rfl undMap (.inr ⟨mkA, rfl, hMkA⟩) rfl ?_; clear ha a; intro lA rA wrA hLA hRgA hxrA hlorA a ha
            refine wpList_nil ?_
            have h0rA : W0.heap.size ≤ rA := by have h1 := hI.ext.size; omega
            replace hI := hI.up hxrA; replace hM := hM.ext hxrA; replace hks := hks.ext hxrA
            replace ha := ha.sub (σ' := [(1, .map (some m0)), (3, .pointer (some ⟨bX, 0, none⟩)), (5, .pointer (some ⟨bR, 0, none⟩)), (7, v7), (8, .int .i64 i), (10, .map (some m)), (11, .int .i64 v), (12, vks), (29, vk), (30, .int .i64 (kinds.length : Int)), (31, .int .i64 i), (134, .pointer (some ⟨rA, 0, none⟩))]) ⟨rfl, rfl, rfl, rfl, rfl, rfl, rfl, rfl, rfl, rfl, rfl, rfl, trivial⟩
            refine e_then ?_
            refine c_loop (fun a w => Fr 181 [(1, .map (some m0)), (3, .pointer (some ⟨bX, 0, none⟩)), (5, .pointer (some ⟨bR, 0, none⟩)), (7, v7), (10, .map (some m)), (29, vk), (30, .int .i64 (kinds.length : Int)), (31, .int .i64 i)] a ∧ RunI K 33 83 78 W0 bX bR [vk, vv, vb, vd] (rvOf fa fd fm fb fp ca cd cm cb cp)  b7 v7 ms ts w ∧ Mt K w m T) (fun n a w => ∃ (done rest : List (κ × Int)), n = rest.length ∧ (done ++ rest).Perm lA ∧ Fr 181 [(1, .map (some m0)), (3, .pointer (some ⟨bX, 0, none⟩)), (5, .pointer (some ⟨bR, 0, none⟩)), (7, v7), (8, .int .i64 i), (10, .map (some m)), (11, .int .i64 v), (12, vks), (29, vk), (30, .int .i64 (kinds.length : Int)), (31, .int .i64 i), (134, .pointer (some ⟨rA, 0, none⟩))] a ∧ RunI K 33 83 78 W0 bX bR [vk, vv, vb, vd] (rvOf fa fd fm fb fp ca cd cm cb cp)  b7 v7 ms ts w ∧ Rg K w rA (some mkA) rest ∧ Mt K w m (gatL R.pick noT (done.flatMap (fun p => (cMeet R TkB p).getD [])))) lA.length
              ⟨[], lA, rfl, .refl _, ha, hI, hRgA, hM⟩ ?_ ?_
            · clear hRgA hatkA hattA; clear ha
              rintro n a w1 ⟨done, rest, rfl, hp, ha, hI, hRg, hM⟩
              have hE01 : Ext W0 w1 := hI.ext
              refine wp_seq ?_; refine wp_region_lit ?_; refine o_nextT ha rfl hRg rfl (fun hr a ha => ?_) (fun p rest' w2 hpr hpI hRg2 hc2 hen a ha => ?_)
              · refine op_g ha rfl (g_extract rfl rfl) ?_; clear ha a; intro a ha
                refine wpList_nil ?_; refine e_then ?_; refine wp_seq ?_; refine c_false ha rfl ?_; refine wp_exit ?_; refine e_then_exit ?_; refine e_lq_eq ?_; subst hr
                exact ⟨ha.sub ⟨rfl, rfl, rfl, rfl, rfl, rfl, rfl, rfl, trivial⟩, hI, by rw [← gatF_perm hR.picks hnode hLA (by simpa using hp)]; exact hM⟩
              · have hI2 := hI.chg hc2 (hI.offIt hRg h0rA)
                have hne2 := hRg.neMap hM
                have hM2 := hM.chg hc2 (by simp only [List.mem_singleton]; exact hne2.symm)
                have hE02 : Ext W0 w2 := hI2.ext
                have hTp := (hLA.mem _ _).2 (mem_step hp hpr)
                clear hRg hI hM
                refine op_g ha rfl (g_extract rfl rfl) ?_; clear ha a; intro a ha
                refine wpList_nil ?_; refine e_then ?_; refine wp_seq ?_; refine c_true ha rfl ?_; refine wp_skip ?_; refine e_then ?_; refine wp_block ?_; refine wp_seq ?_; refine wp_region_lit ?_
                refine o_entryT ha rfl rfl hen ?_; clear ha a; intro a ha
                refine op_g ha rfl (g_extract rfl rfl) ?_; clear ha a; intro a ha
                refine op_g ha rfl (g_extract rfl rfl) ?_; clear ha a; intro a ha
                refine o_allocK hA ha rfl ?_; clear ha a; intro bKA wz hBz hxz hloz a ha
                refine o_storeK hA (s := p.1) ha hBz rfl rfl rfl ?_; intro w2 hBbKA hcK
                have hxK := Ext.then hxz hcK (fun i hi => by rw [List.mem_singleton] at hi; subst hi; exact hloz)
                have hKAm : bKA ≠ m := by have := hM2.lt; omega
                replace hI2 := hI2.up hxK; replace hM2 := hM2.ext hxK; replace hRg2 := hRg2.ext hxK; replace hE02 := hE02.trans hxK
                clear hBz hxz hloz hcK hxK
                refine op_g ha rfl (g_assign rfl) ?_; clear ha a; intro a ha
                refine wpList_nil ?_
                replace ha := ha.sub (σ' := [(1, .map (some m0)), (3, .pointer (some ⟨bX, 0, none⟩)), (5, .pointer (some ⟨bR, 0, none⟩)), (7, v7), (8, .int .i64 i), (10, .map (some m)), (11, .int .i64 v), (12, vks), (29, vk), (30, .int .i64 (kinds.length : Int)), (31, .int .i64 i), (134, .pointer (some ⟨rA, 0, none⟩)), (21, .pointer (some ⟨bKA, 0, none⟩)), (22, .int .i64 p.2)]) ⟨rfl, rfl, rfl, rfl, rfl, rfl, rfl, rfl, rfl, rfl, rfl, rfl, rfl, rfl, trivial⟩
                refine e_then ?_
                clear hen
                have hks := hks0 hE02
                refine wp_seq ?_; refine wp_region_lit ?_
                refine op_g ha rfl (g_move rfl) ?_; clear ha a; intro a ha
                refine op_g ha rfl (g_move rfl) ?_; clear ha a; intro a ha
                obtain ⟨pkB, ckB, fkB, _, _, hatkB, hrkB, hikB⟩ := hks.at (by decide) gkB; obtain ⟨rfl, hIkB, rfl⟩ := hrkB
                refine op_g ha rfl (hikB.gives sl25 rfl rfl) ?_; clear ha a; intro a ha
                refine op_g ha rfl (g_load Try.isAgg2 rfl hatkB.one) ?_; clear ha a; intro a ha
                obtain ⟨mkB, hmkB0⟩ : ∃ mk, ms[kB.toNat]? = some mk := ⟨_, List.getElem?_eq_getElem (by rw [hI2.len]; exact (List.getElem?_eq_some_iff.1 gTB).1)⟩
                obtain ⟨ptB, ctB, ftB, _, _, hattB, hrtB, hitB⟩ := hI2.ow.at gk0B hmkB0; obtain ⟨rfl, rfl⟩ := hrtB
                refine op_g ha rfl (hitB.gives slTabs rfl rfl) ?_; clear ha a; intro a ha
                refine op_g ha rfl (g_load Try.isAgg78 rfl hattB.one) ?_; clear ha a; intro a ha
                have hMkB := hI2.mt _ _ _ hmkB0 gTB
                have hmom : ∀ b, some mkB = some b → b ≠ m := fun b hb e => hmms (by rw [← e, ← Option.some.inj hb]; exact List.mem_of_getElem? hmkB0)
                refine o_rangeT ha rfl undMap (.inr ⟨mkB, rfl, hMkB⟩) rfl ?_; clear ha a; intro lB rB w3 hLB hRgB hxr hlor a ha
                refine wpList_nil ?_
                have hrAB : rA ≠ rB := by have h1 := hRg2.lt; omega
                have hmkB : mkA ≠ rB := by have h1 := (hI2.mapAt (List.mem_of_getElem? hmkA)).choose_spec.lt; omega
                have h0rB : W0.heap.size ≤ rB := by have h1 := hE02.size; omega
                have hKArB : bKA ≠ rB := by have h1 := hBbKA.blt; omega
                replace hBbKA := hBbKA.ext hxr
                replace hI2 := hI2.up hxr; replace hM2 := hM2.ext hxr; replace hRg2 := hRg2.ext hxr
                clear hatkB hikB hattB hitB hMkB
                refine e_then ?_
                refine c_loop (fun a w => Fr 181 [(1, .map (some m0)), (3, .pointer (some ⟨bX, 0, none⟩)), (5, .pointer (some ⟨bR, 0, none⟩)), (7, v7), (8, .int .i64 i), (10, .map (some m)), (11, .int .i64 v), (12, vks), (29, vk), (30, .int .i64 (kinds.length : Int)), (31, .int .i64 i), (134, .pointer (some ⟨rA, 0, none⟩))] a ∧ RunI K 33 83 78 W0 bX bR [vk, vv, vb, vd] (rvOf fa fd fm fb fp ca cd cm cb cp)  b7 v7 ms ts w ∧ Rg K w rA (some mkA) rest' ∧ Mt K w m (gatL R.pick (gatL R.pick noT (done.flatMap (fun p => (cMeet R TkB p).getD []))) (lB.flatMap (cMeet1 R p))))
                  (fun n a w => ∃ (doneB restB : List (κ × Int)), n = restB.length ∧ (doneB ++ restB).Perm lB ∧ Fr 181 [(1, .map (some m0)), (3, .pointer (some ⟨bX, 0, none⟩)), (5, .pointer (some ⟨bR, 0, none⟩)), (7, v7), (8, .int .i64 i), (10, .map (some m)), (11, .int .i64 v), (12, vks), (29, vk), (30, .int .i64 (kinds.length : Int)), (31, .int .i64 i), (134, .pointer (some ⟨rA, 0, none⟩)), (21, .pointer (some ⟨bKA, 0, none⟩)), (22, .int .i64 p.2), (146, .pointer (some ⟨rB, 0, none⟩))] a ∧ RunI K 33 83 78 W0 bX bR [vk, vv, vb, vd] (rvOf fa fd fm fb fp ca cd cm cb cp)  b7 v7 ms ts w ∧ Rg K w rA (some mkA) rest' ∧ Rg K w rB (some mkB) restB ∧ Mt K w m (gatL R.pick (gatL R.pick noT (done.flatMap (fun p => (cMeet R TkB p).getD []))) (doneB.flatMap (cMeet1 R p))) ∧ Bx w bKA (kc p.1) 74) lB.length
                  ⟨[], lB, rfl, .refl _, ha.sub ⟨rfl, rfl, rfl, rfl, rfl, rfl, rfl, rfl, rfl, rfl, rfl, rfl, rfl, rfl, rfl, trivial⟩, hI2, hRg2, hRgB, hM2, hBbKA⟩ ?_ ?_
                · clear hI2 hRg2 hRgB hM2 ha hBbKA; rintro n a w ⟨doneB, restB, rfl, hpB, ha, hI, hRg, hRgB, hM, hBbKA⟩
                  refine wp_seq ?_; refine wp_region_lit ?_; refine o_nextT ha rfl hRgB rfl (fun hr a ha => ?_) (fun q restB' w4 hqr hqI hRg4 hc4 hen a ha => ?_)
                  · refine op_g ha rfl (g_extract rfl rfl) ?_; clear ha a; intro a ha
                    refine wpList_nil ?_; refine e_then ?_; refine wp_seq ?_; refine c_false ha rfl ?_; refine wp_exit ?_; refine e_then_exit ?_; refine e_lq_eq ?_; subst hr
                    exact ⟨ha.sub ⟨rfl, rfl, rfl, rfl, rfl, rfl, rfl, rfl, rfl, rfl, rfl, rfl, trivial⟩, hI, hRg, by rw [← gatL_perm hR.picks ((show doneB.Perm lB by simpa using hpB).flatMap_right _)]; exact hM⟩
                  · have hI4 := hI.chg hc4 (hI.offIt hRgB h0rB)
                    have hM4 := hM.chg hc4 (by simp only [List.mem_singleton]; exact (hRgB.neMap hM).symm)
                    have hRgA4 := hRg.chg hc4 (by simp only [List.mem_singleton]; exact hrAB) (fun b hb => by obtain rfl := Option.some.inj hb; simp only [List.mem_singleton]; exact hmkB)
                    replace hBbKA := hBbKA.chg hc4 (by simp only [List.mem_singleton]; exact hKArB)
                    clear hRg hRgB hI hM
                    refine op_g ha rfl (g_extract rfl rfl) ?_; clear ha a; intro a ha
                    refine wpList_nil ?_; refine e_then ?_; refine wp_seq ?_; refine c_true ha rfl ?_; refine wp_skip ?_; refine e_then ?_; refine wp_block ?_; refine wp_seq ?_; refine wp_region_lit ?_
                    refine o_entryT ha rfl rfl hen ?_; clear ha a; intro a ha
                    refine op_g ha rfl (g_extract rfl rfl) ?_; clear ha a; intro a ha
                    refine op_g ha rfl (g_extract rfl rfl) ?_; clear ha a; intro a ha
                    refine o_allocK hA ha rfl ?_; clear ha a; intro bKB wz hBz hxz hloz a ha
                    refine o_storeK hA (s := q.1) ha hBz rfl rfl rfl ?_; intro w4 hBbKB hcK
                    have hxK := Ext.then hxz hcK (fun i hi => by rw [List.mem_singleton] at hi; subst hi; exact hloz)
                    replace hI4 := hI4.up hxK; replace hM4 := hM4.ext hxK; replace hRgA4 := hRgA4.ext hxK; replace hRg4 := hRg4.ext hxK; replace hBbKA := hBbKA.ext hxK
                    clear hBz hxz hloz hcK hxK
                    refine op_g ha rfl (g_assign rfl) ?_; clear ha a; intro a ha
                    refine wpList_nil ?_
                    replace ha := ha.sub (σ' := [(1, .map (some m0)), (3, .pointer (some ⟨bX, 0, none⟩)), (5, .pointer (some ⟨bR, 0, none⟩)), (7, v7), (8, .int .i64 i), (10, .map (some m)), (11, .int .i64 v), (12, vks), (29, vk), (30, .int .i64 (kinds.length : Int)), (31, .int .i64 i), (134, .pointer (some ⟨rA, 0, none⟩)), (21, .pointer (some ⟨bKA, 0, none⟩)), (22, .int .i64 p.2), (146, .pointer (some ⟨rB, 0, none⟩)), (23, .pointer (some ⟨bKB, 0, none⟩)), (24, .int .i64 q.2)]) ⟨rfl, rfl, rfl, rfl, rfl, rfl, rfl, rfl, rfl, rfl, rfl, rfl, rfl, rfl, rfl, rfl, rfl, trivial⟩
                    refine e_then ?_
                    clear hen
                    refine wp_seq ?_; refine wp_region_lit ?_
                    refine op_g ha rfl (g_field0 stR2 rfl) ?_; clear ha a; intro a ha
                    refine op_g ha rfl (g_load Try.isAgg81 rfl (hI4.br.cell (j := 2) rfl)) ?_; clear ha a; intro a ha
                    refine op_g ha rfl (g_loadK hA hBbKA rfl) ?_; clear ha a; intro a ha
                    refine op_g ha rfl (g_loadK hA hBbKB rfl) ?_; clear ha a; intro a ha
                    refine o_callv (vals := [K.kv p.1, K.kv q.1]) (cap := cm) ha rfl rfl rfl hR.em (hR.meet hI4.ext p.1 q.1) ?_; clear ha a; rintro v157 w4b ⟨rfl, hx4b⟩ a ha
                    refine op_g ha rfl (g_move rfl) ?_; clear ha a; intro a ha
                    refine op_g ha rfl (g_extract rfl rfl) ?_; clear ha a; intro a ha
                    refine op_g ha rfl (g_extract rfl rfl) ?_; clear ha a; intro a ha
                    replace hI4 := hI4.up hx4b; replace hM4 := hM4.ext hx4b; replace hRgA4 := hRgA4.ext hx4b; replace hRg4 := hRg4.ext hx4b
                    replace hBbKA := hBbKA.ext hx4b
                    refine o_allocK hA ha rfl ?_; clear ha a; intro bKC wz hBz hxz hloz a ha
                    refine o_storeK hA (s := (R.meet p.1 q.1).1) ha hBz rfl rfl rfl ?_; intro w4b hBbKC hcK
                    have hxK := Ext.then hxz hcK (fun i hi => by rw [List.mem_singleton] at hi; subst hi; exact hloz)
                    replace hI4 := hI4.up hxK; replace hM4 := hM4.ext hxK; replace hRgA4 := hRgA4.ext hxK; replace hRg4 := hRg4.ext hxK; replace hBbKA := hBbKA.ext hxK
                    clear hBz hxz hloz hcK hxK
                    refine op_g ha rfl (g_assign rfl) ?_; clear ha a; intro a ha
                    refine wpList_nil ?_; refine e_then ?_; refine wp_seq ?_; refine wp_region_lit ?_
                    refine op_g ha rfl (g_move rfl) ?_; clear ha a; intro a ha
                    refine wpList_nil ?_
                    replace ha := ha.sub (σ' := [(1, .map (some m0)), (3, .pointer (some ⟨bX, 0, none⟩)), (5, .pointer (some ⟨bR, 0, none⟩)), (7, v7), (8, .int .i64 i), (10, .map (some m)), (11, .int .i64 v), (12, vks), (29, vk), (30, .int .i64 (kinds.length : Int)), (31, .int .i64 i), (134, .pointer (some ⟨rA, 0, none⟩)), (21, .pointer (some ⟨bKA, 0, none⟩)), (22, .int .i64 p.2), (146, .pointer (some ⟨rB, 0, none⟩)), (23, .pointer (some ⟨bKB, 0, none⟩)), (24, .int .i64 q.2), (25, .pointer (some ⟨bKC, 0, none⟩)), (160, .bool (R.meet p.1 q.1).2)]) ⟨rfl, rfl, rfl, rfl, rfl, rfl, rfl, rfl, rfl, rfl, rfl, rfl, rfl, rfl, rfl, rfl, rfl, rfl, rfl, trivial⟩
                    refine e_then ?_
                    refine c_cond ((R.meet p.1 q.1).2 = true) ha rfl Iff.rfl (fun hpm => ?_) (fun hpm => ?_)
                    · have hcm : cMeet1 R p q = [((R.meet p.1 q.1).1, R.both p.2 q.2)] := by unfold cMeet1; rw [if_pos hpm]
                      refine x_region [0, 1, 2, 3, 4, 5, 6, 7] hmix ?_
                      have hS0 := RowKit.Below.refl w4b.heap.size w4b
                      refine x_g 0 rfl (by kernel_rfl) (want0 _) ha rfl hS0 (g_loadA (cs := rvOf fa fd fm fb fp ca cd cm cb cp) Try.isAgg83 Try.sizeOf83 rfl (by simp [rvOf]) hI4.br.all) ?_; clear ha a; intro a ha
                      refine x_g 1 rfl (by kernel_rfl) (want0 _) ha rfl hS0 (g_move rfl) ?_; clear ha a; intro a ha
                      refine x_g 2 rfl (by kernel_rfl) (want0 _) ha rfl hS0 (g_loadK hA hBbKC rfl) ?_; clear ha a; intro a ha
                      refine x_g 3 rfl (by kernel_rfl) (want0 _) ha rfl hS0 (g_field0 stR3 rfl) ?_; clear ha a; intro a ha
                      refine x_g 4 rfl (by kernel_rfl) (want0 _) ha rfl hS0 (g_load Try.isAgg50 rfl (hI4.br.cell (j := 3) rfl)) ?_; clear ha a; intro a ha
                      refine x_g 5 rfl (by kernel_rfl) (want0 _) ha rfl hS0 (g_move rfl) ?_; clear ha a; intro a ha
                      refine x_g 6 rfl (by kernel_rfl) (want0 _) ha rfl hS0 (g_move rfl) ?_; clear ha a; intro a ha
                      refine x_callv (vals := [Value.int .i64 p.2, .int .i64 q.2]) (cap := cb) (.int .i64 (R.both p.2 q.2)) 7 rfl (by kernel_rfl) (want0 _) ha rfl rfl rfl hR.eb hS0 (fun w' hw' => (hR.both (hI4.ext.trans hw') hpI hqI).2) (fun w' u w'' h => h) ?_; clear ha a; intro a ha
                      refine x_only 8 rfl (by kernel_rfl) ?_; intro wa hxa
                      replace hI4 := hI4.up hxa; replace hM4 := hM4.ext hxa; replace hRgA4 := hRgA4.ext hxa; replace hRg4 := hRg4.ext hxa; replace hBbKA := hBbKA.ext hxa
                      refine o_call ha rfl rfl Try.call87 (W_gather hA hR hI4.ext hM4 h0m (R.meet p.1 q.1).1 (hR.both hI4.ext hpI hqI).1) ?_; clear ha a; rintro v87 w5 ⟨hM5, hc5⟩ a ha
                      refine wpList_nil (e_sq ?_); refine ⟨fun h => absurd h (by decide), ?_⟩
                      have hoff := hI4.offMap hM4 h0m hmms
                      have hI5 := hI4.chg hc5 hoff
                      have hRgA5 := hRgA4.chg hc5 (by simp only [List.mem_singleton]; exact hRgA4.neMap hM4) (fun b hb => by obtain rfl := Option.some.inj hb; simp only [List.mem_singleton]; exact hmkmA)
                      have hRgB5 := hRg4.chg hc5 (by simp only [List.mem_singleton]; exact hRg4.neMap hM4) (fun b hb => by simp only [List.mem_singleton]; exact hmom b hb)
                      refine x_done (by kernel_rfl) ?_; intro w6 hx6
                      refine e_blk ?_; refine e_lq ?_
                      exact ⟨_, len_step hqr, doneB ++ [q], restB', rfl, perm_step hpB hqr, ha.sub ⟨rfl, rfl, rfl, rfl, rfl, rfl, rfl, rfl, rfl, rfl, rfl, rfl, rfl, rfl, rfl, trivial⟩, hI5.up hx6, hRgA5.ext hx6, hRgB5.ext hx6, by rw [gat_step, hcm]; exact hM5.ext hx6, (hBbKA.chg hc5 (by simp only [List.mem_singleton]; exact hKAm)).ext hx6⟩
                    · have hcm : cMeet1 R p q = [] := by unfold cMeet1; rw [if_neg hpm]
                      refine wp_skip ?_; refine e_blk ?_; refine e_lq ?_
                      exact ⟨_, len_step hqr, doneB ++ [q], restB', rfl, perm_step hpB hqr, ha.sub ⟨rfl, rfl, rfl, rfl, rfl, rfl, rfl, rfl, rfl, rfl, rfl, rfl, rfl, rfl, rfl, trivial⟩, hI4, hRgA4, hRg4, by rw [gat_step, hcm]; exact hM4, hBbKA⟩
                · rintro a w ⟨ha, hI, hRg, hM⟩
                  refine e_blk ?_; refine e_lq ?_
                  exact ⟨_, len_step hpr, done ++ [p], rest', rfl, perm_step hp hpr, ha.sub ⟨rfl, rfl, rfl, rfl, rfl, rfl, rfl, rfl, rfl, rfl, rfl, rfl, trivial⟩, hI, hRg, by rw [gat_step]; rw [show (cMeet R TkB p).getD [] = (lst TkB).flatMap (cMeet1 R p) from rfl, gatL_perm hR.picks (((lst_is hLB).perm hLB).flatMap_right _)]; exact hM⟩
            · rintro a w ⟨ha, hI, hM⟩
              refine e_blk ?_; refine e_sq ?_
              exact ⟨m, ha.sub ⟨rfl, rfl, rfl, rfl, rfl, rfl, rfl, rfl, trivial⟩, hI, hM⟩
          · replace hnode := if_f hp4 hnode
            refine wp_skip ?_; refine e_blk ?_; refine e_sq ?_
            obtain rfl := Option.some.inj hnode
            exact ⟨m, ha.sub ⟨rfl, rfl, rfl, rfl, rfl, rfl, rfl, rfl, trivial⟩, hI, hM⟩
        · clear hI hM ha hks; rintro a w ⟨mm, ha, hI, hM⟩
          refine wp_region_lit ?_
          refine op_g ha rfl (g_move rfl) ?_; clear ha a; intro a ha
          refine op_g ha rfl (g_move rfl) ?_; clear ha a; intro a ha
          refine o_lit1 (o := true) (y := mm) Rp.mp ha rfl slTabs rfl rfl rfl ⟨rfl, rfl⟩ ?_; clear ha a; intro v172 w172 h172 hx172 a ha
          replace hI := hI.up hx172; replace hM := hM.ext hx172
          refine o_append ha rfl slTabs rfl rfl rfl hI.ow h172.src (Nq.nil _) (by rw [hI.len]; exact hl) ?_; clear ha a; intro v173 w173 b173 h173 hc173 hb173 a ha
          refine op_g ha rfl (g_assign rfl) ?_; clear ha a; intro a ha
          refine wpList_nil ?_
          have hI9 := hI.push hc173 h173 hb173 hM
          refine e_blk ?_; refine e_then ?_; refine wp_region_lit ?_
          refine op_g ha rfl (g_add rfl rfl hI1) ?_; clear ha a; intro a ha
          refine op_g ha rfl (g_move rfl) ?_; clear ha a; intro a ha
          refine wpList_nil ?_; refine e_lq ?_
          obtain rfl := Option.some.inj hF
          exact ⟨_, Nat.lt_succ_self _, b173, v173, ms ++ [mm], ts ++ [T], i + 1, ha.sub ⟨rfl, rfl, rfl, rfl, rfl, rfl, rfl, trivial⟩, hI9, hI1, hN⟩
      · replace hF := if_f hp hF
        refine wp_exit ?_; refine e_then_exit ?_; refine e_lq_eq ?_; obtain rfl := Option.some.inj hF
        exact ⟨b7, v7, ms, ha.sub ⟨rfl, trivial⟩, (LK_inr hN).symm ▸ hI⟩
  · rintro a w ⟨b8, v8, ms, ha, hI⟩
    obtain ⟨hIl, hF⟩ := ck_some hF; obtain ⟨Tz, gz0, gz, hF⟩ := idx_some hF; obtain rfl := Option.some.inj hF
    refine e_then ?_; refine wp_seq ?_; refine wp_region_lit ?_
    refine op_g ha rfl (g_move rfl) ?_; clear ha a; intro a ha
    refine op_g ha rfl (g_move rfl) ?_; clear ha a; intro a ha
    refine op_g ha rfl (g_lenO slTabs.und hI.ow rfl) ?_; clear ha a; intro a ha
    have hle := hI.len
    rw [← hle] at hIl gz gz0
    refine op_g ha rfl (g_sub rfl rfl hIl) ?_; clear ha a; intro a ha
    obtain ⟨mz, hmz⟩ : ∃ mz, ms[((ms.length : Int) - 1).toNat]? = some mz := ⟨_, List.getElem?_eq_getElem (by omega)⟩
    obtain ⟨pt, ct, ft, _, _, hatt, hrt, hit⟩ := hI.ow.at gz0 hmz; obtain ⟨rfl, rfl⟩ := hrt
    refine op_g ha rfl (hit.gives slTabs rfl rfl) ?_; clear ha a; intro a ha
    refine op_g ha rfl (g_load Try.isAgg78 rfl hatt.one) ?_; clear ha a; intro a ha
    refine op_g ha rfl (g_assign rfl) ?_; clear ha a; intro a ha
    refine wpList_nil ?_; refine e_then ?_; refine wp_ret ?_
    exact f_ret1 ha rfl rfl ⟨mz, rfl, hI.mt _ _ _ hmz gz, hI.ext⟩
end

set_option maxHeartbeats 2000000 in
theorem W_sum {W : World} (x y : Int) :
    Calls Try.prog 33 [Value.int .i64 x, .int .i64 y].toArray W (Ret fun u w' => u = .int .i64 (wr (x + y)) ∧ Ext W w') := by
  refine f_enter Try.func33 rfl Try.ntmps33 rfl ?_
  intro a ha
  replace ha : Fr 8 [(0, .int .i64 x), (1, .int .i64 y)] a := ha
  refine wp_seq ?_; refine wp_region_lit ?_
  refine op_g ha rfl (g_assign rfl) ?_; clear ha a; intro a ha
  refine wpList_nil ?_
  refine e_then ?_
  refine wp_seq ?_; refine wp_region_lit ?_
  refine op_g ha rfl (g_move rfl) ?_; clear ha a; intro a ha
  refine op_g ha rfl (g_move rfl) ?_; clear ha a; intro a ha
  refine op_g ha rfl (g_addw rfl rfl) ?_; clear ha a; intro a ha
  refine op_g ha rfl (g_assign rfl) ?_; clear ha a; intro a ha
  refine wpList_nil ?_
  refine e_then ?_; refine wp_ret ?_
  exact f_ret1 ha rfl rfl ⟨rfl, Chg.refl _ _⟩

set_option maxHeartbeats 2000000 in
theorem W_fewest {W : World} (x y : Int) :
    Calls Try.prog 56 [Value.int .i64 x, .int .i64 y].toArray W (Ret fun u w' => u = .int .i64 (min x y) ∧ Ext W w') := by
  refine f_enter Try.func56 rfl Try.ntmps56 rfl ?_
  intro a ha
  replace ha : Fr 8 [(0, .int .i64 x), (1, .int .i64 y)] a := ha
  refine wp_seq ?_; refine wp_region_lit ?_
  refine op_g ha rfl (g_assign rfl) ?_; clear ha a; intro a ha
  refine wpList_nil ?_
  refine e_then ?_
  refine wp_seq ?_; refine wp_region_lit ?_
  refine op_g ha rfl (g_move rfl) ?_; clear ha a; intro a ha
  refine op_g ha rfl (g_move rfl) ?_; clear ha a; intro a ha
  refine op_g ha rfl (g_min rfl rfl) ?_; clear ha a; intro a ha
  refine op_g ha rfl (g_assign rfl) ?_; clear ha a; intro a ha
  refine wpList_nil ?_
  refine e_then ?_; refine wp_ret ?_
  exact f_ret1 ha rfl rfl ⟨rfl, Chg.refl _ _⟩

set_option maxHeartbeats 2000000 in
theorem W_impl_RuleBy_2 {W : World} {a0_0 : BitVec 32} {a0_1 : BitVec 32} {a1 : Int} (ha1 : InI a1) {a2 : BitVec 32} {vy0 : Value} {fy0 : List Nat} {y0 : (List (BitVec 32))} (hy0 : Ro Rp.u32 W fy0 vy0 y0) {bc0 : Nat} (hbc0 : Bx W bc0 [vy0] 55) {r : (List ((BitVec 32) × (BitVec 32)))} (hF : F_impl_RuleBy_2 a0_0 a0_1 a1 a2 y0 = some r) :
    Calls Try.prog 51 [.agg #[.int .u32 (BitVec.toNat a0_0 : Int), .int .u32 (BitVec.toNat a0_1 : Int)], .int .i64 a1, .int .u32 (BitVec.toNat a2 : Int), .pointer (some ⟨bc0, 0, none⟩)].toArray W (Ret fun u w' => ∃ (b_u : Int), Ow (Rp.prod Rp.u32 Rp.u32) 74 true w' [] b_u u r ∧ Zn W b_u ∧ Ext W w') := by
  refine f_enter Try.func51 rfl Try.ntmps51 rfl ?_
  intro a ha
  replace ha : Fr 48 [(0, (.agg #[(.int .u32 (BitVec.toNat a0_0 : Int)), (.int .u32 (BitVec.toNat a0_1 : Int))])), (1, (.int .i64 a1)), (2, (.int .u32 (BitVec.toNat a2 : Int))), (3, (.pointer (some ⟨bc0, 0, none⟩)))] a := ha; have hE : Chg [] W W := Chg.refl _ _
  unfold F_impl_RuleBy_2 at hF
  refine wp_seq (wp_region_lit ?_); refine o_box ha rfl rfl rfl ?_; clear ha a; intro b1 w2 hB3 hx4 hlo5 a ha; have hE8 := Ext.trans hE hx4; refine op_g ha rfl (g_assign rfl) ?_; intro a ha; refine wpList_nil (e_then (wp_seq ?_)); refine x_region [0, 1, 2, 3, 4, 5] hmix ?_; have hS9 := RowKit.Below.refl w2.heap.size w2; refine x_g 0 rfl (by kernel_rfl) (want0 _) ha rfl hS9 (g_loadA (cs := [(.int .u32 (BitVec.toNat a0_0 : Int)), (.int .u32 (BitVec.toNat a0_1 : Int))]) Try.isAgg74 Try.sizeOf74 rfl (by simp) hB3.all) ?_; intro a ha; refine x_g 1 rfl (by kernel_rfl) (want0 _) ha rfl hS9 (g_loadA (cs := [(.int .u32 (BitVec.toNat a0_0 : Int)), (.int .u32 (BitVec.toNat a0_1 : Int))]) Try.isAgg74 Try.sizeOf74 rfl (by simp) hB3.all) ?_; intro a ha; refine x_many [2, 3] (by kernel_rfl) rfl fun ysr y1 => ⟨⟨_, rfl, ?_⟩, ⟨_, rfl, ?_⟩, trivial⟩
  · skip
    replace hB3 := hB3.ext y1; have y2 := Ext.trans hE8 y1; have y3 := bel_step hS9 y1; refine o_alloc (cs := [(.int .u32 (BitVec.toNat (0#32) : Int)), (.int .u32 (BitVec.toNat (0#32) : Int))]) ha rfl Try.zeroValue74 rfl ?_; clear ha a; intro y4 y5 y6 y7 y8 a ha; have y9 := Zn.one y8; have ya := Nq.new hB3.fpb y9; have yb := Zn.upD y9 y2; have yc := Zn.upB y9 y3; replace hB3 := hB3.ext y7; have yd := Ext.trans y2 y7; refine wpList_nil (e_sq ?_); have ye : RowKit.Below w2.heap.size ysr y5 := ext_bel y3.size y7
    refine ⟨fun _ => ye, ?_⟩
    have yf := RowKit.Below.trans y3 ye; refine x_only 3 rfl (by kernel_rfl) ?_; intro yg yh; replace hB3 := hB3.ext yh; replace y6 := y6.ext yh; have yi := Ext.trans yd yh; have yj := bel_step yf yh; refine o_alloc (cs := [(.int .u32 (BitVec.toNat (0#32) : Int)), (.int .u32 (BitVec.toNat (0#32) : Int))]) ha rfl Try.zeroValue74 rfl ?_; clear ha a; intro yk yl ym yn yo a ha; have yp := Zn.one yo; have yq := Nq.new hB3.fpb yp; have yr := Nq.new y6.fpb yp; have yks := Nq.made1 yo y6.bi; have yt := Zn.upD yp yi; have yu := Zn.upB yp yj; replace hB3 := hB3.ext yn; replace y6 := y6.ext yn; have yv := Ext.trans yi yn; refine wpList_nil (e_sq ?_); have yw : RowKit.Below w2.heap.size yg yl := ext_bel yj.size yn
    refine ⟨fun _ => yw, ?_⟩
    have yx := RowKit.Below.trans yj yw; refine x_only 4 rfl (by kernel_rfl) ?_; intro yy yz; replace hB3 := hB3.ext yz; replace y6 := y6.ext yz; replace ym := ym.ext yz; have y01 := Ext.trans yv yz; have y11 := bel_step yx yz
    refine o_storeA (vs := [(.int .u32 (BitVec.toNat a0_0 : Int)), (.int .u32 (BitVec.toNat a0_1 : Int))]) ha y6 Try.sizeOf74 rfl rfl (by intro c hc; simp only [List.mem_cons, List.not_mem_nil, or_false] at hc; rcases hc with hc | hc <;> subst hc <;> first | rfl | exact rfl | exact rfl) rfl ?_; intro y21 y31 y41
    replace y41 := y41.bl; replace y31 : Bx y21 y4 [(.int .u32 (BitVec.toNat a0_0 : Int)), (.int .u32 (BitVec.toNat a0_1 : Int))] 74 := y31; replace hB3 := hB3.nq y41 ya; replace ym := ym.nq y41 yks; have y51 := Ext.then y01 y41 (Zn.bl yb); refine wpList_nil (e_sq ?_); have y61 : RowKit.Below w2.heap.size yy y21 := chg_bel y41 y11.size (Zn.bl yc)
    refine ⟨fun _ => y61, ?_⟩
    have y71 := RowKit.Below.trans y11 y61; refine x_only 5 rfl (by kernel_rfl) ?_; intro y81 y91; replace hB3 := hB3.ext y91; replace y31 := y31.ext y91; replace ym := ym.ext y91; have ya1 := Ext.trans y51 y91; have yb1 := bel_step y71 y91
    refine o_storeA (vs := [(.int .u32 (BitVec.toNat a0_0 : Int)), (.int .u32 (BitVec.toNat a0_1 : Int))]) ha ym Try.sizeOf74 rfl rfl (by intro c hc; simp only [List.mem_cons, List.not_mem_nil, or_false] at hc; rcases hc with hc | hc <;> subst hc <;> first | rfl | exact rfl | exact rfl) rfl ?_; intro yc1 yd1 ye1
    replace ye1 := ye1.bl; replace yd1 : Bx yc1 yk [(.int .u32 (BitVec.toNat a0_0 : Int)), (.int .u32 (BitVec.toNat a0_1 : Int))] 74 := yd1; replace hB3 := hB3.nq ye1 yq; replace y31 := y31.nq ye1 yr; have yf1 := Ext.then ya1 ye1 (Zn.bl yt); refine wpList_nil (e_sq ?_); have yg1 : RowKit.Below w2.heap.size y81 yc1 := chg_bel ye1 yb1.size (Zn.bl yu)
    refine ⟨fun _ => yg1, ?_⟩
    refine x_done (by kernel_rfl) ?_; intro w10 hx11; replace hB3 := hB3.ext hx11; replace y31 := y31.ext hx11; replace yd1 := yd1.ext hx11; have hE12 := Ext.trans yf1 hx11; refine e_then ?_; obtain ⟨o42, ho43, hK44⟩ := bnd_some hF; have hF := ho43; clear ho43; refine s_cut (fun a w => ∃ (u48 : BitVec 32), Fr 48 [(1, (.int .i64 a1)), (2, (.int .u32 (BitVec.toNat a2 : Int))), (3, (.pointer (some ⟨bc0, 0, none⟩))), (8, (.pointer (some ⟨y4, 0, none⟩))), (9, (.pointer (some ⟨yk, 0, none⟩)))] a ∧ Chg [] W w ∧ Bx w y4 [(.int .u32 (BitVec.toNat a0_0 : Int)), (.int .u32 (BitVec.toNat u48 : Int))] 74 ∧ Zn W (y4 : Int) ∧ Bx w yk [(.int .u32 (BitVec.toNat a0_0 : Int)), (.int .u32 (BitVec.toNat a0_1 : Int))] 74 ∧ Zn W (yk : Int) ∧ Nq ([y4]) (yk : Int) ∧ Nq ([yk]) (y4 : Int) ∧ o42 = .inl u48) ?_ ?_
    · skip
      refine wp_seq ?_; refine d_quiet hmix (by kernel_rfl) ?_; refine q_g ha rfl (g_load Try.isAgg55 rfl ((hbc0.ext hE12).cell rfl)) ?_; intro a ha; refine q_g ha rfl (g_move rfl) ?_; intro a ha; obtain ⟨x54, g55, gx56, hF⟩ := idx_some hF; obtain ⟨p57, cs58, f59, hf60, hpb61, hat62, hr63, hi64⟩ := hy0.at g55 gx56; obtain ⟨rfl, rfl⟩ := hr63; refine q_g ha rfl (hi64.gives sl55 rfl rfl) ?_; intro a ha; refine q_g ha rfl (g_load0 hE12 Try.isAgg61 rfl hat62.one) ?_; intro a ha; refine q_g ha rfl (g_field0 st74_0 rfl) ?_; intro a ha; refine q_g ha rfl (g_load Try.isAgg61 rfl (hB3.cell rfl)) ?_; intro a ha; refine q_g ha rfl (g32_and (m := x54) (n := a0_0) rfl rfl) ?_; intro a ha; refine q_g ha rfl (g32_neq (m := (x54 &&& a0_0)) (n := (0#32)) rfl rfl) ?_; intro a ha; refine q_nil ?_; intro w65 hx66; replace y31 := y31.ext hx66; replace yd1 := yd1.ext hx66; have hE67 := Ext.trans hE12 hx66; refine e_then ?_; refine c_cond ((x54 &&& a0_0) ≠ (0#32)) ha rfl (decide_eq_true_iff) (fun hp68 => ?_) (fun hp68 => ?_)
      · replace hF := if_t hp68 hF
        refine d_region [0, 1, 2, 3, 4, 5] hmix ?_; refine u_g 0 rfl (by kernel_rfl) (want0 _) ha rfl (g_field0 st74_1 rfl) ?_; intro a ha; refine u_g 1 rfl (by kernel_rfl) (want0 _) ha rfl (g_load Try.isAgg61 rfl (y31.cell rfl)) ?_; intro a ha; refine u_g 2 rfl (by kernel_rfl) (want0 _) ha rfl (g_move rfl) ?_; intro a ha; obtain ⟨x71, hc72, hF⟩ := cal_some hF; refine u_call (.int .u32 (BitVec.toNat x71 : Int)) 3 rfl (by kernel_rfl) (want0 _) ha rfl rfl Try.call52 (fun w70 hx69 => W_impl_one ha1 hc72) (fun _ _ _ h => ⟨h.1, h.2⟩) ?_; intro a ha; refine u_g 4 rfl (by kernel_rfl) (want0 _) ha rfl (g32_or (m := a0_1) (n := x71) rfl rfl) ?_; intro a ha; refine u_g 5 rfl (by kernel_rfl) (want0 _) ha rfl (g_field0 st74_1 rfl) ?_; intro a ha; refine u_only 6 rfl (by kernel_rfl) ?_; intro w73 hx74; replace y31 := y31.ext hx74; replace yd1 := yd1.ext hx74; have hE75 := Ext.trans hE67 hx74; refine o_storeB ha y31 Try.sizeOf61 rfl rfl rfl rfl (Nat.le_of_ble_eq_true rfl) ?_; intro w76 hB77 hc78; replace hc78 := hc78.bl; replace hB77 : Bx w76 y4 [(.int .u32 (BitVec.toNat a0_0 : Int)), (.int .u32 (BitVec.toNat (a0_1 ||| x71) : Int))] 74 := hB77; replace yd1 := yd1.nq hc78 yks; have hE79 := Ext.then hE75 hc78 (Zn.bl yb); refine wpList_nil (e_sq ?_)
        refine ⟨fun h => absurd h (by decide), ?_⟩
        refine u_done (by kernel_rfl) ?_; intro w80 hx81; replace hB77 := hB77.ext hx81; replace yd1 := yd1.ext hx81; have hE82 := Ext.trans hE79 hx81; refine e_sq ?_; obtain rfl := Option.some.inj hF
        exact ⟨a0_1 ||| x71, ha.sub ⟨rfl, rfl, rfl, rfl, rfl, trivial⟩, hE82, hB77, yb, yd1, yt, yr, yks, rfl⟩
      replace hF := if_f hp68 hF; refine wp_skip (e_sq ?_); obtain rfl := Option.some.inj hF
      exact ⟨a0_1, ha.sub ⟨rfl, rfl, rfl, rfl, rfl, trivial⟩, hE67, y31, yb, yd1, yt, yr, yks, rfl⟩
    rintro a w45 ⟨u48, ha, hE53, hB46, z47, hB49, z50, q51, q52, rfl⟩
    have hF : F_impl_RuleBy_2_k1 a0_0 a0_1 a1 a2 y0 u48 = some _ := hK44; clear hK44; unfold F_impl_RuleBy_2_k1 at hF; refine wp_seq ?_; refine d_region [0, 1, 2, 3, 4, 5] hmix ?_; refine u_g 0 rfl (by kernel_rfl) (want0 _) ha rfl (g_field0 st74_0 rfl) ?_; intro a ha; refine u_g 1 rfl (by kernel_rfl) (want0 _) ha rfl (g_load Try.isAgg61 rfl (hB49.cell rfl)) ?_; intro a ha; refine u_g 2 rfl (by kernel_rfl) (want0 _) ha rfl (g_move rfl) ?_; intro a ha; obtain ⟨x85, hc86, hF⟩ := cal_some hF; refine u_call (.int .u32 (BitVec.toNat x85 : Int)) 3 rfl (by kernel_rfl) (want0 _) ha rfl rfl Try.call52 (fun w84 hx83 => W_impl_one ha1 hc86) (fun _ _ _ h => ⟨h.1, h.2⟩) ?_; intro a ha; refine u_g 4 rfl (by kernel_rfl) (want0 _) ha rfl (g32_or (m := a0_0) (n := x85) rfl rfl) ?_; intro a ha; refine u_g 5 rfl (by kernel_rfl) (want0 _) ha rfl (g_field0 st74_0 rfl) ?_; intro a ha; refine u_only 6 rfl (by kernel_rfl) ?_; intro w87 hx88; replace hB46 := hB46.ext hx88; replace hB49 := hB49.ext hx88; have hE89 := Ext.trans hE53 hx88; refine o_storeB ha hB49 Try.sizeOf61 rfl rfl rfl rfl (Nat.le_of_ble_eq_true rfl) ?_; intro w90 hB91 hc92; replace hc92 := hc92.bl; replace hB91 : Bx w90 yk [(.int .u32 (BitVec.toNat (a0_0 ||| x85) : Int)), (.int .u32 (BitVec.toNat a0_1 : Int))] 74 := hB91; replace hB46 := hB46.nq hc92 q51; have hE93 := Ext.then hE89 hc92 (Zn.bl z50); refine wpList_nil (e_sq ?_)
    refine ⟨fun h => absurd h (by decide), ?_⟩
    refine u_done (by kernel_rfl) ?_; intro w94 hx95; replace hB46 := hB46.ext hx95; replace hB91 := hB91.ext hx95; have hE96 := Ext.trans hE93 hx95; refine e_then (wp_seq ?_); refine d_region [0, 1, 2, 3, 4, 5, 6, 7, 8, 9, 10, 11, 12] hmix ?_; refine u_g 0 rfl (by kernel_rfl) (want0 _) ha rfl (g_field0 st74_1 rfl) ?_; intro a ha; refine u_g 1 rfl (by kernel_rfl) (want0 _) ha rfl (g_load Try.isAgg61 rfl (hB91.cell rfl)) ?_; intro a ha; refine u_g 2 rfl (by kernel_rfl) (want0 _) ha rfl (g_load Try.isAgg55 rfl ((hbc0.ext hE96).cell rfl)) ?_; intro a ha; refine u_g 3 rfl (by kernel_rfl) (want0 _) ha rfl (g_move rfl) ?_; intro a ha; obtain ⟨x97, g98, gx99, hF⟩ := idx_some hF; obtain ⟨p100, cs101, f102, hf103, hpb104, hat105, hr106, hi107⟩ := hy0.at g98 gx99; obtain ⟨rfl, rfl⟩ := hr106; refine u_g 4 rfl (by kernel_rfl) (want0 _) ha rfl (hi107.gives sl55 rfl rfl) ?_; intro a ha; refine u_g 5 rfl (by kernel_rfl) (want0 _) ha rfl (g_load0 hE96 Try.isAgg61 rfl hat105.one) ?_; intro a ha; refine u_g 6 rfl (by kernel_rfl) (want0 _) ha rfl (g_move rfl) ?_; intro a ha; refine u_g 7 rfl (by kernel_rfl) (want0 _) ha rfl (g32_and (m := x97) (n := a2) rfl rfl) ?_; intro a ha; refine u_g 8 rfl (by kernel_rfl) (want0 _) ha rfl (g_move rfl) ?_; intro a ha; obtain ⟨x110, hc111, hF⟩ := cal_some hF; refine u_call (.int .u32 (BitVec.toNat x110 : Int)) 9 rfl (by kernel_rfl) (want0 _) ha rfl rfl Try.call52 (fun w109 hx108 => W_impl_one ha1 hc111) (fun _ _ _ h => ⟨h.1, h.2⟩) ?_; intro a ha
    refine u_g 10 rfl (by kernel_rfl) (want0 _) ha rfl (g32_or (m := (x97 &&& a2)) (n := x110) rfl rfl) ?_; intro a ha; refine u_g 11 rfl (by kernel_rfl) (want0 _) ha rfl (g32_or (m := a0_1) (n := ((x97 &&& a2) ||| x110)) rfl rfl) ?_; intro a ha; refine u_g 12 rfl (by kernel_rfl) (want0 _) ha rfl (g_field0 st74_1 rfl) ?_; intro a ha; refine u_only 13 rfl (by kernel_rfl) ?_; intro w112 hx113; replace hB46 := hB46.ext hx113; replace hB91 := hB91.ext hx113; have hE114 := Ext.trans hE96 hx113; refine o_storeB ha hB91 Try.sizeOf61 rfl rfl rfl rfl (Nat.le_of_ble_eq_true rfl) ?_; intro w115 hB116 hc117; replace hc117 := hc117.bl; replace hB116 : Bx w115 yk [(.int .u32 (BitVec.toNat (a0_0 ||| x85) : Int)), (.int .u32 (BitVec.toNat (a0_1 ||| ((x97 &&& a2) ||| x110)) : Int))] 74 := hB116; replace hB46 := hB46.nq hc117 q51; have hE118 := Ext.then hE114 hc117 (Zn.bl z50); refine wpList_nil (e_sq ?_)
    refine ⟨fun h => absurd h (by decide), ?_⟩
    refine u_done (by kernel_rfl) ?_; intro w119 hx120; replace hB46 := hB46.ext hx120; replace hB116 := hB116.ext hx120; have hE121 := Ext.trans hE118 hx120; replace ha := ha.sub (σ' := [(8, (.pointer (some ⟨y4, 0, none⟩))), (9, (.pointer (some ⟨yk, 0, none⟩)))]) ⟨rfl, rfl, trivial⟩; refine e_then (wp_seq (wp_region_lit ?_)); refine op_g ha rfl (g_loadA (cs := [(.int .u32 (BitVec.toNat a0_0 : Int)), (.int .u32 (BitVec.toNat u48 : Int))]) Try.isAgg74 Try.sizeOf74 rfl (by simp) hB46.all) fun a ha => op_g ha rfl (g_loadA (cs := [(.int .u32 (BitVec.toNat (a0_0 ||| x85) : Int)), (.int .u32 (BitVec.toNat (a0_1 ||| ((x97 &&& a2) ||| x110)) : Int))]) Try.isAgg74 Try.sizeOf74 rfl (by simp) hB116.all) ?_; intro a ha
    have hvob126 : ∀ p ∈ ([((.agg #[(.int .u32 (BitVec.toNat a0_0 : Int)), (.int .u32 (BitVec.toNat u48 : Int))]), [(.int .u32 (BitVec.toNat a0_0 : Int)), (.int .u32 (BitVec.toNat u48 : Int))]), ((.agg #[(.int .u32 (BitVec.toNat (a0_0 ||| x85) : Int)), (.int .u32 (BitVec.toNat (a0_1 ||| ((x97 &&& a2) ||| x110)) : Int))]), [(.int .u32 (BitVec.toNat (a0_0 ||| x85) : Int)), (.int .u32 (BitVec.toNat (a0_1 ||| ((x97 &&& a2) ||| x110)) : Int))])] : List (Value × List Value)), p.1.cells = p.2.toArray ∧ p.2.length = 2 := by
      intro p hp; simp only [List.mem_cons, List.not_mem_nil, or_false] at hp; rcases hp with hp | hp <;> subst hp <;> first | exact ⟨rfl, rfl⟩
    refine o_litM (o := true) (f := []) (ps := [((.agg #[(.int .u32 (BitVec.toNat a0_0 : Int)), (.int .u32 (BitVec.toNat u48 : Int))]), [(.int .u32 (BitVec.toNat a0_0 : Int)), (.int .u32 (BitVec.toNat u48 : Int))]), ((.agg #[(.int .u32 (BitVec.toNat (a0_0 ||| x85) : Int)), (.int .u32 (BitVec.toNat (a0_1 ||| ((x97 &&& a2) ||| x110)) : Int))]), [(.int .u32 (BitVec.toNat (a0_0 ||| x85) : Int)), (.int .u32 (BitVec.toNat (a0_1 ||| ((x97 &&& a2) ||| x110)) : Int))])]) (ys := [(a0_0, u48), (a0_0 ||| x85, a0_1 ||| ((x97 &&& a2) ||| x110))]) (Rp.prod Rp.u32 Rp.u32) ha rfl sl75 rfl rfl rfl rfl hvob126 ⟨[], [], [(.int .u32 (BitVec.toNat a0_0 : Int)), (.int .u32 (BitVec.toNat u48 : Int))], _, rfl, rfl, ⟨[], [], [_], _, rfl, rfl, ⟨rfl, rfl⟩, ⟨rfl, rfl⟩⟩, ⟨[], [], [(.int .u32 (BitVec.toNat (a0_0 ||| x85) : Int)), (.int .u32 (BitVec.toNat (a0_1 ||| ((x97 &&& a2) ||| x110)) : Int))], _, rfl, rfl, ⟨[], [], [_], _, rfl, rfl, ⟨rfl, rfl⟩, ⟨rfl, rfl⟩⟩, ⟨rfl, rfl⟩⟩⟩ ?_; clear ha a; intro v122 w123 h124 hx125 a ha; obtain ⟨b127, hb127⟩ : ∃ b : Int, b = w119.heap.size := ⟨_, rfl⟩; rw [← hb127] at h124; have q128 := zn_of hb127; have q133 := Zn.upD q128 hE121; have hE134 := Ext.trans hE121 hx125; refine op_g ha rfl (g_assign rfl) ?_; intro a ha; refine wpList_nil (e_then (wp_ret ?_)); obtain rfl := Option.some.inj hF
    exact f_ret1 ha rfl rfl ⟨_, h124, q133, hE134⟩
  skip
  replace hB3 := hB3.ext y1; have yi := Ext.trans hE8 y1; have yj := bel_step hS9 y1; refine o_alloc (cs := [(.int .u32 (BitVec.toNat (0#32) : Int)), (.int .u32 (BitVec.toNat (0#32) : Int))]) ha rfl Try.zeroValue74 rfl ?_; clear ha a; intro yk yg ym yh yo a ha; have yp := Zn.one yo; have yq := Nq.new hB3.fpb yp; have yr := Zn.upD yp yi; have yks := Zn.upB yp yj; replace hB3 := hB3.ext yh; have yv := Ext.trans yi yh; refine wpList_nil (e_sq ?_); have yw : RowKit.Below w2.heap.size ysr yg := ext_bel yj.size yh
  refine ⟨fun _ => yw, ?_⟩
  have yt := RowKit.Below.trans yj yw; refine x_only 2 rfl (by kernel_rfl) ?_; intro y5 y7; replace hB3 := hB3.ext y7; replace ym := ym.ext y7; have y2 := Ext.trans yv y7; have y3 := bel_step yt y7; refine o_alloc (cs := [(.int .u32 (BitVec.toNat (0#32) : Int)), (.int .u32 (BitVec.toNat (0#32) : Int))]) ha rfl Try.zeroValue74 rfl ?_; clear ha a; intro y4 yh1 y6 yi1 y8 a ha; have y9 := Zn.one y8; have ya := Nq.new hB3.fpb y9; have yb := Nq.new ym.fpb y9; have yc := Nq.made1 y8 ym.bi; have yf := Zn.upD y9 y2; have yj1 := Zn.upB y9 y3; replace hB3 := hB3.ext yi1; replace ym := ym.ext yi1; have yd := Ext.trans y2 yi1; refine wpList_nil (e_sq ?_); have ye : RowKit.Below w2.heap.size y5 yh1 := ext_bel y3.size yi1
  refine ⟨fun _ => ye, ?_⟩
  have yk1 := RowKit.Below.trans y3 ye; refine x_only 4 rfl (by kernel_rfl) ?_; intro yy yz; replace hB3 := hB3.ext yz; replace ym := ym.ext yz; replace y6 := y6.ext yz; have y01 := Ext.trans yd yz; have y11 := bel_step yk1 yz
  refine o_storeA (vs := [(.int .u32 (BitVec.toNat a0_0 : Int)), (.int .u32 (BitVec.toNat a0_1 : Int))]) ha y6 Try.sizeOf74 rfl rfl (by intro c hc; simp only [List.mem_cons, List.not_mem_nil, or_false] at hc; rcases hc with hc | hc <;> subst hc <;> first | rfl | exact rfl | exact rfl) rfl ?_; intro y21 y31 y41
  replace y41 := y41.bl; replace y31 : Bx y21 y4 [(.int .u32 (BitVec.toNat a0_0 : Int)), (.int .u32 (BitVec.toNat a0_1 : Int))] 74 := y31; replace hB3 := hB3.nq y41 ya; replace ym := ym.nq y41 yb; have y51 := Ext.then y01 y41 (Zn.bl yf); refine wpList_nil (e_sq ?_); have y61 : RowKit.Below w2.heap.size yy y21 := chg_bel y41 y11.size (Zn.bl yj1)
  refine ⟨fun _ => y61, ?_⟩
  have y71 := RowKit.Below.trans y11 y61; refine x_only 5 rfl (by kernel_rfl) ?_; intro y81 y91; replace hB3 := hB3.ext y91; replace ym := ym.ext y91; replace y31 := y31.ext y91; have ya1 := Ext.trans y51 y91; have yb1 := bel_step y71 y91
  refine o_storeA (vs := [(.int .u32 (BitVec.toNat a0_0 : Int)), (.int .u32 (BitVec.toNat a0_1 : Int))]) ha ym Try.sizeOf74 rfl rfl (by intro c hc; simp only [List.mem_cons, List.not_mem_nil, or_false] at hc; rcases hc with hc | hc <;> subst hc <;> first | rfl | exact rfl | exact rfl) rfl ?_; intro yc1 yd1 ye1
  replace ye1 := ye1.bl; replace yd1 : Bx yc1 yk [(.int .u32 (BitVec.toNat a0_0 : Int)), (.int .u32 (BitVec.toNat a0_1 : Int))] 74 := yd1; replace hB3 := hB3.nq ye1 yq; replace y31 := y31.nq ye1 yc; have yf1 := Ext.then ya1 ye1 (Zn.bl yr); refine wpList_nil (e_sq ?_); have yg1 : RowKit.Below w2.heap.size y81 yc1 := chg_bel ye1 yb1.size (Zn.bl yks)
  refine ⟨fun _ => yg1, ?_⟩
  refine x_done (by kernel_rfl) ?_; intro w10 hx11; replace hB3 := hB3.ext hx11; replace yd1 := yd1.ext hx11; replace y31 := y31.ext hx11; have hE12 := Ext.trans yf1 hx11; refine e_then ?_; obtain ⟨o42, ho43, hK44⟩ := bnd_some hF; have hF := ho43; clear ho43; refine s_cut (fun a w => ∃ (u48 : BitVec 32), Fr 48 [(1, (.int .i64 a1)), (2, (.int .u32 (BitVec.toNat a2 : Int))), (3, (.pointer (some ⟨bc0, 0, none⟩))), (8, (.pointer (some ⟨y4, 0, none⟩))), (9, (.pointer (some ⟨yk, 0, none⟩)))] a ∧ Chg [] W w ∧ Bx w y4 [(.int .u32 (BitVec.toNat a0_0 : Int)), (.int .u32 (BitVec.toNat u48 : Int))] 74 ∧ Zn W (y4 : Int) ∧ Bx w yk [(.int .u32 (BitVec.toNat a0_0 : Int)), (.int .u32 (BitVec.toNat a0_1 : Int))] 74 ∧ Zn W (yk : Int) ∧ Nq ([y4]) (yk : Int) ∧ Nq ([yk]) (y4 : Int) ∧ o42 = .inl u48) ?_ ?_
  · skip
    refine wp_seq ?_; refine d_quiet hmix (by kernel_rfl) ?_; refine q_g ha rfl (g_load Try.isAgg55 rfl ((hbc0.ext hE12).cell rfl)) ?_; intro a ha; refine q_g ha rfl (g_move rfl) ?_; intro a ha; obtain ⟨x54, g55, gx56, hF⟩ := idx_some hF; obtain ⟨p57, cs58, f59, hf60, hpb61, hat62, hr63, hi64⟩ := hy0.at g55 gx56; obtain ⟨rfl, rfl⟩ := hr63; refine q_g ha rfl (hi64.gives sl55 rfl rfl) ?_; intro a ha; refine q_g ha rfl (g_load0 hE12 Try.isAgg61 rfl hat62.one) ?_; intro a ha; refine q_g ha rfl (g_field0 st74_0 rfl) ?_; intro a ha; refine q_g ha rfl (g_load Try.isAgg61 rfl (hB3.cell rfl)) ?_; intro a ha; refine q_g ha rfl (g32_and (m := x54) (n := a0_0) rfl rfl) ?_; intro a ha; refine q_g ha rfl (g32_neq (m := (x54 &&& a0_0)) (n := (0#32)) rfl rfl) ?_; intro a ha; refine q_nil ?_; intro w65 hx66; replace yd1 := yd1.ext hx66; replace y31 := y31.ext hx66; have hE67 := Ext.trans hE12 hx66; refine e_then ?_; refine c_cond ((x54 &&& a0_0) ≠ (0#32)) ha rfl (decide_eq_true_iff) (fun hp68 => ?_) (fun hp68 => ?_)
    · replace hF := if_t hp68 hF
      refine d_region [0, 1, 2, 3, 4, 5] hmix ?_; refine u_g 0 rfl (by kernel_rfl) (want0 _) ha rfl (g_field0 st74_1 rfl) ?_; intro a ha; refine u_g 1 rfl (by kernel_rfl) (want0 _) ha rfl (g_load Try.isAgg61 rfl (y31.cell rfl)) ?_; intro a ha; refine u_g 2 rfl (by kernel_rfl) (want0 _) ha rfl (g_move rfl) ?_; intro a ha; obtain ⟨x71, hc72, hF⟩ := cal_some hF; refine u_call (.int .u32 (BitVec.toNat x71 : Int)) 3 rfl (by kernel_rfl) (want0 _) ha rfl rfl Try.call52 (fun w70 hx69 => W_impl_one ha1 hc72) (fun _ _ _ h => ⟨h.1, h.2⟩) ?_; intro a ha; refine u_g 4 rfl (by kernel_rfl) (want0 _) ha rfl (g32_or (m := a0_1) (n := x71) rfl rfl) ?_; intro a ha; refine u_g 5 rfl (by kernel_rfl) (want0 _) ha rfl (g_field0 st74_1 rfl) ?_; intro a ha; refine u_only 6 rfl (by kernel_rfl) ?_; intro w73 hx74; replace yd1 := yd1.ext hx74; replace y31 := y31.ext hx74; have hE75 := Ext.trans hE67 hx74; refine o_storeB ha y31 Try.sizeOf61 rfl rfl rfl rfl (Nat.le_of_ble_eq_true rfl) ?_; intro w76 hB77 hc78; replace hc78 := hc78.bl; replace hB77 : Bx w76 y4 [(.int .u32 (BitVec.toNat a0_0 : Int)), (.int .u32 (BitVec.toNat (a0_1 ||| x71) : Int))] 74 := hB77; replace yd1 := yd1.nq hc78 yb; have hE79 := Ext.then hE75 hc78 (Zn.bl yf); refine wpList_nil (e_sq ?_)
      refine ⟨fun h => absurd h (by decide), ?_⟩
      refine u_done (by kernel_rfl) ?_; intro w80 hx81; replace yd1 := yd1.ext hx81; replace hB77 := hB77.ext hx81; have hE82 := Ext.trans hE79 hx81; refine e_sq ?_; obtain rfl := Option.some.inj hF
      exact ⟨a0_1 ||| x71, ha.sub ⟨rfl, rfl, rfl, rfl, rfl, trivial⟩, hE82, hB77, yf, yd1, yr, yc, yb, rfl⟩
    replace hF := if_f hp68 hF; refine wp_skip (e_sq ?_); obtain rfl := Option.some.inj hF
    exact ⟨a0_1, ha.sub ⟨rfl, rfl, rfl, rfl, rfl, trivial⟩, hE67, y31, yf, yd1, yr, yc, yb, rfl⟩
  rintro a w45 ⟨u48, ha, hE53, hB46, z47, hB49, z50, q51, q52, rfl⟩
  have hF : F_impl_RuleBy_2_k1 a0_0 a0_1 a1 a2 y0 u48 = some _ := hK44; clear hK44; unfold F_impl_RuleBy_2_k1 at hF; refine wp_seq ?_; refine d_region [0, 1, 2, 3, 4, 5] hmix ?_; refine u_g 0 rfl (by kernel_rfl) (want0 _) ha rfl (g_field0 st74_0 rfl) ?_; intro a ha; refine u_g 1 rfl (by kernel_rfl) (want0 _) ha rfl (g_load Try.isAgg61 rfl (hB49.cell rfl)) ?_; intro a ha; refine u_g 2 rfl (by kernel_rfl) (want0 _) ha rfl (g_move rfl) ?_; intro a ha; obtain ⟨x85, hc86, hF⟩ := cal_some hF; refine u_call (.int .u32 (BitVec.toNat x85 : Int)) 3 rfl (by kernel_rfl) (want0 _) ha rfl rfl Try.call52 (fun w84 hx83 => W_impl_one ha1 hc86) (fun _ _ _ h => ⟨h.1, h.2⟩) ?_; intro a ha; refine u_g 4 rfl (by kernel_rfl) (want0 _) ha rfl (g32_or (m := a0_0) (n := x85) rfl rfl) ?_; intro a ha; refine u_g 5 rfl (by kernel_rfl) (want0 _) ha rfl (g_field0 st74_0 rfl) ?_; intro a ha; refine u_only 6 rfl (by kernel_rfl) ?_; intro w87 hx88; replace hB46 := hB46.ext hx88; replace hB49 := hB49.ext hx88; have hE89 := Ext.trans hE53 hx88; refine o_storeB ha hB49 Try.sizeOf61 rfl rfl rfl rfl (Nat.le_of_ble_eq_true rfl) ?_; intro w90 hB91 hc92; replace hc92 := hc92.bl; replace hB91 : Bx w90 yk [(.int .u32 (BitVec.toNat (a0_0 ||| x85) : Int)), (.int .u32 (BitVec.toNat a0_1 : Int))] 74 := hB91; replace hB46 := hB46.nq hc92 q51; have hE93 := Ext.then hE89 hc92 (Zn.bl z50); refine wpList_nil (e_sq ?_)
  refine ⟨fun h => absurd h (by decide), ?_⟩
  refine u_done (by kernel_rfl) ?_; intro w94 hx95; replace hB46 := hB46.ext hx95; replace hB91 := hB91.ext hx95; have hE96 := Ext.trans hE93 hx95; refine e_then (wp_seq ?_); refine d_region [0, 1, 2, 3, 4, 5, 6, 7, 8, 9, 10, 11, 12] hmix ?_; refine u_g 0 rfl (by kernel_rfl) (want0 _) ha rfl (g_field0 st74_1 rfl) ?_; intro a ha; refine u_g 1 rfl (by kernel_rfl) (want0 _) ha rfl (g_load Try.isAgg61 rfl (hB91.cell rfl)) ?_; intro a ha; refine u_g 2 rfl (by kernel_rfl) (want0 _) ha rfl (g_load Try.isAgg55 rfl ((hbc0.ext hE96).cell rfl)) ?_; intro a ha; refine u_g 3 rfl (by kernel_rfl) (want0 _) ha rfl (g_move rfl) ?_; intro a ha; obtain ⟨x97, g98, gx99, hF⟩ := idx_some hF; obtain ⟨p100, cs101, f102, hf103, hpb104, hat105, hr106, hi107⟩ := hy0.at g98 gx99; obtain ⟨rfl, rfl⟩ := hr106; refine u_g 4 rfl (by kernel_rfl) (want0 _) ha rfl (hi107.gives sl55 rfl rfl) ?_; intro a ha; refine u_g 5 rfl (by kernel_rfl) (want0 _) ha rfl (g_load0 hE96 Try.isAgg61 rfl hat105.one) ?_; intro a ha; refine u_g 6 rfl (by kernel_rfl) (want0 _) ha rfl (g_move rfl) ?_; intro a ha; refine u_g 7 rfl (by kernel_rfl) (want0 _) ha rfl (g32_and (m := x97) (n := a2) rfl rfl) ?_; intro a ha; refine u_g 8 rfl (by kernel_rfl) (want0 _) ha rfl (g_move rfl) ?_; intro a ha; obtain ⟨x110, hc111, hF⟩ := cal_some hF; refine u_call (.int .u32 (BitVec.toNat x110 : Int)) 9 rfl (by kernel_rfl) (want0 _) ha rfl rfl Try.call52 (fun w109 hx108 => W_impl_one ha1 hc111) (fun _ _ _ h => ⟨h.1, h.2⟩) ?_; intro a ha
  refine u_g 10 rfl (by kernel_rfl) (want0 _) ha rfl (g32_or (m := (x97 &&& a2)) (n := x110) rfl rfl) ?_; intro a ha; refine u_g 11 rfl (by kernel_rfl) (want0 _) ha rfl (g32_or (m := a0_1) (n := ((x97 &&& a2) ||| x110)) rfl rfl) ?_; intro a ha; refine u_g 12 rfl (by kernel_rfl) (want0 _) ha rfl (g_field0 st74_1 rfl) ?_; intro a ha; refine u_only 13 rfl (by kernel_rfl) ?_; intro w112 hx113; replace hB46 := hB46.ext hx113; replace hB91 := hB91.ext hx113; have hE114 := Ext.trans hE96 hx113; refine o_storeB ha hB91 Try.sizeOf61 rfl rfl rfl rfl (Nat.le_of_ble_eq_true rfl) ?_; intro w115 hB116 hc117; replace hc117 := hc117.bl; replace hB116 : Bx w115 yk [(.int .u32 (BitVec.toNat (a0_0 ||| x85) : Int)), (.int .u32 (BitVec.toNat (a0_1 ||| ((x97 &&& a2) ||| x110)) : Int))] 74 := hB116; replace hB46 := hB46.nq hc117 q51; have hE118 := Ext.then hE114 hc117 (Zn.bl z50); refine wpList_nil (e_sq ?_)
  refine ⟨fun h => absurd h (by decide), ?_⟩
  refine u_done (by kernel_rfl) ?_; intro w119 hx120; replace hB46 := hB46.ext hx120; replace hB116 := hB116.ext hx120; have hE121 := Ext.trans hE118 hx120; replace ha := ha.sub (σ' := [(8, (.pointer (some ⟨y4, 0, none⟩))), (9, (.pointer (some ⟨yk, 0, none⟩)))]) ⟨rfl, rfl, trivial⟩; refine e_then (wp_seq (wp_region_lit ?_)); refine op_g ha rfl (g_loadA (cs := [(.int .u32 (BitVec.toNat a0_0 : Int)), (.int .u32 (BitVec.toNat u48 : Int))]) Try.isAgg74 Try.sizeOf74 rfl (by simp) hB46.all) fun a ha => op_g ha rfl (g_loadA (cs := [(.int .u32 (BitVec.toNat (a0_0 ||| x85) : Int)), (.int .u32 (BitVec.toNat (a0_1 ||| ((x97 &&& a2) ||| x110)) : Int))]) Try.isAgg74 Try.sizeOf74 rfl (by simp) hB116.all) ?_; intro a ha
  have hvob126 : ∀ p ∈ ([((.agg #[(.int .u32 (BitVec.toNat a0_0 : Int)), (.int .u32 (BitVec.toNat u48 : Int))]), [(.int .u32 (BitVec.toNat a0_0 : Int)), (.int .u32 (BitVec.toNat u48 : Int))]), ((.agg #[(.int .u32 (BitVec.toNat (a0_0 ||| x85) : Int)), (.int .u32 (BitVec.toNat (a0_1 ||| ((x97 &&& a2) ||| x110)) : Int))]), [(.int .u32 (BitVec.toNat (a0_0 ||| x85) : Int)), (.int .u32 (BitVec.toNat (a0_1 ||| ((x97 &&& a2) ||| x110)) : Int))])] : List (Value × List Value)), p.1.cells = p.2.toArray ∧ p.2.length = 2 := by
    intro p hp; simp only [List.mem_cons, List.not_mem_nil, or_false] at hp; rcases hp with hp | hp <;> subst hp <;> first | exact ⟨rfl, rfl⟩
  refine o_litM (o := true) (f := []) (ps := [((.agg #[(.int .u32 (BitVec.toNat a0_0 : Int)), (.int .u32 (BitVec.toNat u48 : Int))]), [(.int .u32 (BitVec.toNat a0_0 : Int)), (.int .u32 (BitVec.toNat u48 : Int))]), ((.agg #[(.int .u32 (BitVec.toNat (a0_0 ||| x85) : Int)), (.int .u32 (BitVec.toNat (a0_1 ||| ((x97 &&& a2) ||| x110)) : Int))]), [(.int .u32 (BitVec.toNat (a0_0 ||| x85) : Int)), (.int .u32 (BitVec.toNat (a0_1 ||| ((x97 &&& a2) ||| x110)) : Int))])]) (ys := [(a0_0, u48), (a0_0 ||| x85, a0_1 ||| ((x97 &&& a2) ||| x110))]) (Rp.prod Rp.u32 Rp.u32) ha rfl sl75 rfl rfl rfl rfl hvob126 ⟨[], [], [(.int .u32 (BitVec.toNat a0_0 : Int)), (.int .u32 (BitVec.toNat u48 : Int))], _, rfl, rfl, ⟨[], [], [_], _, rfl, rfl, ⟨rfl, rfl⟩, ⟨rfl, rfl⟩⟩, ⟨[], [], [(.int .u32 (BitVec.toNat (a0_0 ||| x85) : Int)), (.int .u32 (BitVec.toNat (a0_1 ||| ((x97 &&& a2) ||| x110)) : Int))], _, rfl, rfl, ⟨[], [], [_], _, rfl, rfl, ⟨rfl, rfl⟩, ⟨rfl, rfl⟩⟩, ⟨rfl, rfl⟩⟩⟩ ?_; clear ha a; intro v122 w123 h124 hx125 a ha; obtain ⟨b127, hb127⟩ : ∃ b : Int, b = w119.heap.size := ⟨_, rfl⟩; rw [← hb127] at h124; have q128 := zn_of hb127; have q133 := Zn.upD q128 hE121; have hE134 := Ext.trans hE121 hx125; refine op_g ha rfl (g_assign rfl) ?_; intro a ha; refine wpList_nil (e_then (wp_ret ?_)); obtain rfl := Option.some.inj hF
  exact f_ret1 ha rfl rfl ⟨_, h124, q133, hE134⟩
set_option maxHeartbeats 2000000 in
theorem W_impl_RuleBy_1 {W : World} {va0 : Value} {fa0 : List Nat} {a0 : (List Int)} (ha0 : Ro Rp.int W fa0 va0 a0) {r : Bool} (hF : F_impl_RuleBy_1 a0 = some r) :
    Calls Try.prog 50 [va0].toArray W (Ret fun u w' => u = .bool r ∧ Ext W w') := by
  refine f_enter Try.func50 rfl Try.ntmps50 rfl ?_
  intro a ha
  replace ha : Fr 6 [(0, va0)] a := ha; have hE : Chg [] W W := Chg.refl _ _
  unfold F_impl_RuleBy_1 at hF
  refine wp_seq (wp_region_lit ?_); refine op_g ha rfl (g_assign rfl) ?_; intro a ha; refine wpList_nil (e_then (wp_seq (wp_region_lit ?_))); refine op_g ha rfl (g_move rfl) fun a ha => op_g ha rfl (g_lenR sl25.und ha0 rfl) fun a ha => op_g ha rfl (g_gtr rfl rfl) fun a ha => op_g ha rfl (g_assign rfl) ?_; intro a ha; refine wpList_nil (e_then (wp_ret ?_)); obtain rfl := Option.some.inj hF
  exact f_ret1 ha rfl rfl ⟨rfl, hE⟩
set_option maxHeartbeats 2000000 in
theorem W_slices_IndexFunc_Sint64 {W : World} {va0 : Value} {fa0 : List Nat} {a0 : (List (List Int))} (ha0 : Ro (Rp.sl 2 Rp.int) W fa0 va0 a0) {ga1 : FuncId} {ga1c : List Value} {a1 : (List Int) → Option Bool} (hga1 : ∀ w', Ext W w' → ∀ {vz0 : Value} {fz0 : List Nat} {z0 : (List Int)} (hz0 : Ro Rp.int w' fz0 vz0 z0) {r : Bool}, a1 z0 = some r → Calls Try.prog ga1 (([vz0] : List Value) ++ ga1c).toArray w' (Ret fun u w'' => u = .bool r ∧ Ext w' w'')) (hca1 : ∀ args w, (callFunc ga1 args).run Try.prog w = .ok (.enter ga1 args) w) {r : Int} (hF : F_slices_IndexFunc_Sint64 a0 a1 = some r) :
    Calls Try.prog 86 [va0, .func (.func ga1) #[] ga1c.toArray].toArray W (Ret fun u w' => (u = .int .i64 r ∧ InI r) ∧ Ext W w') := by
  refine f_enter Try.func86 rfl Try.ntmps86 rfl ?_
  intro a ha
  replace ha : Fr 19 [(0, va0), (1, (.func (.func ga1) #[] ga1c.toArray))] a := ha; have hE : Chg [] W W := Chg.refl _ _
  unfold F_slices_IndexFunc_Sint64 at hF
  refine wp_seq (wp_region_lit ?_); refine op_g ha rfl (g_assign rfl) ?_; intro a ha; refine wpList_nil (e_then (wp_seq (wp_seq (wp_region_lit ?_)))); refine op_g ha rfl (g_move rfl) fun a ha => op_g ha rfl (g_lenR sl22.und ha0 rfl) fun a ha => op_g ha rfl (g_move rfl) ?_; intro a ha; refine wpList_nil (e_then ?_); obtain ⟨o62, ho63, hK64⟩ := bnd_some hF; obtain ⟨n65, hn66⟩ := lp_some ho63; clear ho63; refine c_loop (fun a w => Fr 19 [] a ∧ Chg [] W w ∧ o62 = .inl ()) (fun n a w => ∃ (i31 : Int), Fr 19 [(0, va0), (1, (.func (.func ga1) #[] ga1c.toArray)), (7, (.int .i64 (a0.length : Int))), (8, (.int .i64 i31))] a ∧ Chg [] W w ∧ InI i31 ∧ lpN (fun s => F_slices_IndexFunc_Sint64_l1 a0 a1 s) n i31 = some o62) n65 ⟨0, ha.sub ⟨rfl, rfl, rfl, rfl, trivial⟩, hE, (show InI 0 from by decide), hn66⟩ ?_ ?_
  · rintro m70 a w30 ⟨i31, ha, hE33, hI32, hF⟩
    cases m70 with
    | zero => exact (lpN_zero hF).elim
    | succ m70 =>
      obtain ⟨z69, hF, hN68⟩ := lpN_succ hF; have hF : F_slices_IndexFunc_Sint64_l1 a0 a1 i31 = some z69 := hF; unfold F_slices_IndexFunc_Sint64_l1 at hF; refine wp_seq (wp_region_lit ?_); refine op_g ha rfl (g_lss rfl rfl) ?_; intro a ha; refine wpList_nil (e_then (wp_seq ?_)); refine c_cond (i31 < (a0.length : Int)) ha rfl (decide_eq_true_iff) (fun hp71 => ?_) (fun hp71 => ?_)
      · replace hF := if_t hp71 hF
        refine wp_skip (e_then (wp_seq (wp_block (wp_seq (wp_region_lit ?_))))); refine op_g ha rfl (g_move rfl) fun a ha => op_g ha rfl (g_assign rfl) ?_; intro a ha; refine wpList_nil (e_then (wp_seq (wp_region_lit ?_))); refine op_g ha rfl (g_move rfl) fun a ha => op_g ha rfl (g_move rfl) fun a ha => op_g ha rfl (g_move rfl) ?_; intro a ha; obtain ⟨x72, g73, gx74, hF⟩ := idx_some hF; obtain ⟨p75, cs76, f77, hf78, hpb79, hat80, hr81, hi82⟩ := ha0.at g73 gx74; obtain ⟨v83, rfl, h84⟩ := hr81; have h84 : Ro Rp.int W f77 v83 x72 := h84; refine op_g ha rfl (hi82.gives sl22 rfl rfl) fun a ha => op_g ha rfl (g_load0 hE33 Try.isAgg25 rfl hat80.one) ?_; intro a ha; obtain ⟨x86, hc87, hF⟩ := cal_some hF; refine o_callv ha rfl rfl rfl hca1 (hga1 _ hE33 (h84.ext hE33) hc87) ?_; clear ha a; rintro v88 w89 ⟨rfl, hx90⟩ a ha; have hE91 := Ext.trans hE33 hx90; refine wpList_nil (e_then ?_); refine c_cond (x86 = true) ha rfl (Iff.rfl) (fun hp92 => ?_) (fun hp92 => ?_)
        · replace hF := if_t hp92 hF
          refine wp_seq (wp_region_lit ?_); refine op_g ha rfl (g_move rfl) fun a ha => op_g ha rfl (g_assign rfl) ?_; intro a ha; refine wpList_nil ?_; replace ha := ha.sub (σ' := [(4, (.int .i64 i31))]) ⟨rfl, trivial⟩; refine e_then (wp_ret (e_blk_ret (e_then_ret (e_lq_ret (e_then_ret ?_))))); obtain rfl := Option.some.inj hF; have e93 := LK_inr hN68; subst e93; have e94 := BK_inr hK64; subst e94
          exact f_ret1 ha rfl rfl ⟨⟨rfl, hI32⟩, hE91⟩
        replace hF := if_f hp92 hF; refine wp_skip (e_blk (e_then (wp_region_lit ?_))); obtain ⟨hI95, hF⟩ := ck_some hF; refine op_g ha rfl (g_add rfl rfl hI95) fun a ha => op_g ha rfl (g_move rfl) ?_; intro a ha; refine wpList_nil (e_lq ?_); obtain rfl := Option.some.inj hF
        exact ⟨_, Nat.lt_succ_self _, i31 + 1, ha.sub ⟨rfl, rfl, rfl, rfl, trivial⟩, hE91, hI95, hN68⟩
      replace hF := if_f hp71 hF; refine wp_exit (e_then_exit (e_lq_eq ?_)); obtain rfl := Option.some.inj hF
      exact ⟨ha.sub trivial, hE33, (LK_inr hN68).symm⟩
  rintro a w61 ⟨ha, hE67, rfl⟩
  have hF : F_slices_IndexFunc_Sint64_k2 = some _ := hK64; clear hK64; unfold F_slices_IndexFunc_Sint64_k2 at hF; refine e_then (wp_seq (wp_region_lit ?_)); refine op_g ha rfl (g_assign rfl) ?_; intro a ha; refine wpList_nil (e_then (wp_ret ?_)); obtain rfl := Option.some.inj hF
  exact f_ret1 ha rfl rfl ⟨⟨rfl, (show InI (-1) from by decide)⟩, hE67⟩
set_option maxHeartbeats 2000000 in
theorem W_slices_ContainsFunc_Sint64 {W : World} {va0 : Value} {fa0 : List Nat} {a0 : (List (List Int))} (ha0 : Ro (Rp.sl 2 Rp.int) W fa0 va0 a0) {ga1 : FuncId} {ga1c : List Value} {a1 : (List Int) → Option Bool} (hga1 : ∀ w', Ext W w' → ∀ {vz0 : Value} {fz0 : List Nat} {z0 : (List Int)} (hz0 : Ro Rp.int w' fz0 vz0 z0) {r : Bool}, a1 z0 = some r → Calls Try.prog ga1 (([vz0] : List Value) ++ ga1c).toArray w' (Ret fun u w'' => u = .bool r ∧ Ext w' w'')) (hca1 : ∀ args w, (callFunc ga1 args).run Try.prog w = .ok (.enter ga1 args) w) {r : Bool} (hF : F_slices_ContainsFunc_Sint64 a0 a1 = some r) :
    Calls Try.prog 49 [va0, .func (.func ga1) #[] ga1c.toArray].toArray W (Ret fun u w' => u = .bool r ∧ Ext W w') := by
  refine f_enter Try.func49 rfl Try.ntmps49 rfl ?_
  intro a ha
  replace ha : Fr 9 [(0, va0), (1, (.func (.func ga1) #[] ga1c.toArray))] a := ha; have hE : Chg [] W W := Chg.refl _ _
  unfold F_slices_ContainsFunc_Sint64 at hF
  refine wp_seq (wp_region_lit ?_); refine op_g ha rfl (g_assign rfl) ?_; intro a ha; refine wpList_nil (e_then (wp_seq (wp_region_lit ?_))); refine op_g ha rfl (g_move rfl) fun a ha => op_g ha rfl (g_move rfl) ?_; intro a ha; obtain ⟨x2, hc3, hF⟩ := cal_some hF; refine o_call ha rfl rfl Try.call86 (W_slices_IndexFunc_Sint64 (ha0.ext hE) (fun w hx => hga1 w (Ext.trans hE hx)) hca1 hc3) ?_; clear ha a; rintro v4 w5 ⟨⟨rfl, hI7⟩, hx6⟩ a ha; have hE8 := Ext.trans hE hx6; refine op_g ha rfl (g_geq rfl rfl) fun a ha => op_g ha rfl (g_assign rfl) ?_; intro a ha; refine wpList_nil (e_then (wp_ret ?_)); obtain rfl := Option.some.inj hF
  exact f_ret1 ha rfl rfl ⟨rfl, hE8⟩
set_option maxHeartbeats 2000000 in
theorem stW0 : stF Try.prog 74 0 = some 0 := by kernel_rfl
theorem stW1 : stF Try.prog 74 1 = some 1 := by kernel_rfl
theorem kW (s : BitVec 32 × BitVec 32) : ∃ kl, keyOf Try.prog 74 (.agg #[.int .u32 (BitVec.toNat s.1 : Int), .int .u32 (BitVec.toNat s.2 : Int)]) = some kl :=
  asked_two (P := Try.prog) (k := 74) (tu := 61) (fs := ((Try.prog.underlying 74).bind fun | .struct fs => some fs | _ => none).getD #[]) (by kernel_rfl) (by kernel_rfl) (by kernel_rfl) (by kernel_rfl) (by kernel_rfl) (by kernel_rfl) (by kernel_rfl) (of_decide_eq_true (by kernel_rfl)) s.1 s.2
theorem kWinj (a b : BitVec 32 × BitVec 32) (h : Value.agg #[.int .u32 (BitVec.toNat a.1 : Int), .int .u32 (BitVec.toNat a.2 : Int)] = .agg #[.int .u32 (BitVec.toNat b.1 : Int), .int .u32 (BitVec.toNat b.2 : Int)]) : a = b := by
  simp only [Value.agg.injEq, Array.mk.injEq, List.cons.injEq, Value.int.injEq, true_and, and_true] at h
  exact Prod.ext (BitVec.eq_of_toNat_eq (by omega)) (BitVec.eq_of_toNat_eq (by omega))
noncomputable def KW : Ky Try.prog 74 (BitVec 32 × BitVec 32) := Ky.ofLaw (fun s => .agg #[.int .u32 (BitVec.toNat s.1 : Int), .int .u32 (BitVec.toNat s.2 : Int)]) kWinj kW (deep_law_laid (m := 2) (by kernel_rfl) (by omega) (of_decide_eq_true (by kernel_rfl)) (by kernel_rfl) (by kernel_rfl))
theorem hKW : KAgg KW (fun s => [.int .u32 (BitVec.toNat s.1 : Int), .int .u32 (BitVec.toNat s.2 : Int)]) [.int .u32 0, .int .u32 0] :=
  ⟨fun s => rfl, fun s => by simp, fun s v hv => by simp only [List.mem_cons, List.not_mem_nil, or_false] at hv; rcases hv with rfl | rfl <;> rfl, fun s => rfl, fun s => Try.sizeOf74, fun w => by rfl, Try.isAgg74⟩
theorem hldW {w : World} {p : Addr} {cs : List Value} {f : List Nat} {o : Bool} {s : BitVec 32 × BitVec 32} {σ : Slots} {x : Operand} (h : (Rp.prod Rp.u32 Rp.u32).rep o w f cs s) (hat : At w p cs) (hx : ev σ x = some (.pointer (some p))) : Gives Try.prog (Ext w) σ (.load 74 x) (KW.kv s) := by
  obtain ⟨f1, g1, c1, d1, hf, hc, ⟨rfl, _⟩, ⟨rfl, _⟩⟩ := h
  subst hc
  exact g_loadA (cs := [.int .u32 (BitVec.toNat s.1 : Int), .int .u32 (BitVec.toNat s.2 : Int)]) Try.isAgg74 Try.sizeOf74 hx (by simp) hat
set_option maxHeartbeats 2000000 in
theorem W_ruleDrop {W : World} {s : BitVec 32 × BitVec 32} {v : Int} (hv : InI v) {m : BitVec 32} {n : Int} (hn : InI n) {T : Tf (BitVec 32 × BitVec 32)} (hF : rlDrop s v n = some T) :
    Calls Try.prog 53 [KW.kv s, .int .i64 v, .int .u32 (BitVec.toNat m : Int), .int .i64 n].toArray W (Ret fun u w' => ∃ mo, u = .map mo ∧ Mv KW w' mo T ∧ (∀ b, mo = some b → W.heap.size ≤ b) ∧ Ext W w') := by
  refine f_enter Try.func53 rfl Try.ntmps53 rfl ?_
  intro a ha
  replace ha : Fr 34 [(0, .agg #[.int .u32 (BitVec.toNat s.1 : Int), .int .u32 (BitVec.toNat s.2 : Int)]), (1, .int .i64 v), (2, .int .u32 (BitVec.toNat m : Int)), (3, .int .i64 n)] a := ha
  unfold rlDrop at hF
  obtain ⟨h, hh, hF⟩ := cal_some hF
  refine wp_seq ?_; refine wp_region_lit ?_
  refine o_box (cs := [.int .u32 (BitVec.toNat s.1 : Int), .int .u32 (BitVec.toNat s.2 : Int)]) ha rfl rfl rfl ?_; clear ha a; intro b4 w4 hB hx4 hlo4 a ha
  refine op_g ha rfl (g_assign rfl) ?_; clear ha a; intro a ha
  refine wpList_nil ?_
  refine e_then ?_
  refine wp_seq ?_
  refine wp_seq ?_; refine wp_region_lit ?_
  refine op_g ha rfl (g_field0 stW1 rfl) ?_; clear ha a; intro a ha
  refine op_g ha rfl (g_load Try.isAgg61 rfl (hB.cell (j := 1) rfl)) ?_; clear ha a; intro a ha
  refine op_g ha rfl (g_move rfl) ?_; clear ha a; intro a ha
  refine o_call ha rfl rfl Try.call54 (W_impl_vset_has hv hh) ?_; clear ha a; rintro v12 w12 ⟨rfl, hx12⟩ a ha
  refine op_g ha rfl (g_not rfl) ?_; clear ha a; intro a ha
  refine wpList_nil ?_
  refine e_then ?_
  have hE12 := hx4.trans hx12
  have hB12 := hB.ext hx12
  refine c_cond (¬ (h = true)) ha rfl (n_iff Iff.rfl) (fun hp => ?_) (fun hp => ?_)
  · replace hF := if_t hp hF; obtain rfl := Option.some.inj hF
    refine wp_seq ?_; refine wp_region_lit ?_
    refine op_g ha rfl (g_assign rfl) ?_; clear ha a; intro a ha
    refine wpList_nil ?_
    refine e_then ?_; refine wp_ret ?_; refine e_then_ret ?_
    exact f_ret1 ha rfl rfl ⟨none, rfl, .inl ⟨rfl, rfl⟩, fun b hb => by (cases hb), hE12⟩
  replace hF := if_f hp hF
  obtain ⟨c, hc, hF⟩ := cal_some hF; obtain ⟨o, ho, hF⟩ := cal_some hF; obtain rfl := Option.some.inj hF
  refine wp_skip ?_; refine e_then ?_
  replace ha := ha.sub (σ' := [(1, .int .i64 v), (3, .int .i64 n), (4, .pointer (some ⟨b4, 0, none⟩))]) ⟨rfl, rfl, rfl, trivial⟩
  refine s_cut (fun a w => ∃ y : Int, y = (if c = true then wr (n + 1) else n) ∧ Fr 34 [(1, .int .i64 v), (3, .int .i64 y), (4, .pointer (some ⟨b4, 0, none⟩))] a ∧ InI y ∧ Ext w12 w) ?_ ?_
  · refine wp_seq ?_; refine wp_region_lit ?_
    refine op_g ha rfl (g_field0 stW0 rfl) ?_; clear ha a; intro a ha
    refine op_g ha rfl (g_load Try.isAgg61 rfl (hB12.cell (j := 0) rfl)) ?_; clear ha a; intro a ha
    refine op_g ha rfl (g_move rfl) ?_; clear ha a; intro a ha
    refine o_call ha rfl rfl Try.call54 (W_impl_vset_has hv hc) ?_; clear ha a; rintro v17 w17 ⟨rfl, hx17⟩ a ha
    refine wpList_nil ?_
    refine e_then ?_
    refine c_cond (c = true) ha rfl Iff.rfl (fun hp2 => ?_) (fun hp2 => ?_)
    · refine wp_region_lit ?_
      refine op_g ha rfl (g_move rfl) ?_; clear ha a; intro a ha
      refine op_g ha rfl (g_addw rfl rfl) ?_; clear ha a; intro a ha
      refine op_g ha rfl (g_assign rfl) ?_; clear ha a; intro a ha
      refine wpList_nil ?_
      refine e_sq ?_
      exact ⟨_, (if_pos hp2).symm, ha.sub ⟨rfl, rfl, rfl, trivial⟩, wr_in _, hx17⟩
    · refine wp_skip ?_; refine e_sq ?_
      exact ⟨_, (if_neg hp2).symm, ha.sub ⟨rfl, rfl, rfl, trivial⟩, hn, hx17⟩
  · clear ha; rintro a w ⟨y, hy, ha, hyI, hx⟩
    rw [← hy]
    have hBw := hB12.ext hx
    have hEw := hE12.trans hx
    refine wp_seq ?_; refine x_region [0, 1, 2, 3, 4, 5, 6, 7, 8, 9, 10, 11, 12, 13, 14, 15] hmix ?_
    have hS0 := RowKit.Below.refl w.heap.size w
    refine x_g 1 rfl (by kernel_rfl) (want0 _) ha rfl hS0 (g_field0 stW0 rfl) ?_; clear ha a; intro a ha
    refine x_g 2 rfl (by kernel_rfl) (want0 _) ha rfl hS0 (g_load Try.isAgg61 rfl (hBw.cell (j := 0) rfl)) ?_; clear ha a; intro a ha
    refine x_g 3 rfl (by kernel_rfl) (want0 _) ha rfl hS0 (g_move rfl) ?_; clear ha a; intro a ha
    refine x_call (.int .u32 (BitVec.toNat o : Int)) 4 rfl (by kernel_rfl) (want0 _) ha rfl rfl Try.call52 hS0 (fun w' hw' => W_impl_one hv ho) (fun w' u w'' h => h) ?_; clear ha a; intro a ha
    refine x_g 5 rfl (by kernel_rfl) (want0 _) ha rfl hS0 (g32_andNot (m := s.1) (n := o) rfl rfl) ?_; clear ha a; intro a ha
    refine x_g 6 rfl (by kernel_rfl) (want0 _) ha rfl hS0 (g_field0 stW1 rfl) ?_; clear ha a; intro a ha
    refine x_g 7 rfl (by kernel_rfl) (want0 _) ha rfl hS0 (g_load Try.isAgg61 rfl (hBw.cell (j := 1) rfl)) ?_; clear ha a; intro a ha
    refine x_g 8 rfl (by kernel_rfl) (want0 _) ha rfl hS0 (g_move rfl) ?_; clear ha a; intro a ha
    refine x_call (.int .u32 (BitVec.toNat o : Int)) 9 rfl (by kernel_rfl) (want0 _) ha rfl rfl Try.call52 hS0 (fun w' hw' => W_impl_one hv ho) (fun w' u w'' h => h) ?_; clear ha a; intro a ha
    refine x_g 10 rfl (by kernel_rfl) (want0 _) ha rfl hS0 (g32_andNot (m := s.2) (n := o) rfl rfl) ?_; clear ha a; intro a ha
    refine x_g 11 rfl (by kernel_rfl) (want0 _) ha rfl hS0 (g_build (vs := [(0, .int .u32 (BitVec.toNat (s.1 &&& ~~~o) : Int)), (1, .int .u32 (BitVec.toNat (s.2 &&& ~~~o) : Int))]) (cells := #[.int .u32 (BitVec.toNat (s.1 &&& ~~~o) : Int), .int .u32 (BitVec.toNat (s.2 &&& ~~~o) : Int)]) rfl (by rfl)) ?_; clear ha a; intro a ha
    refine x_g 12 rfl (by kernel_rfl) (want0 _) ha rfl hS0 (g_move rfl) ?_; clear ha a; intro a ha
    refine x_only 0 rfl (by kernel_rfl) ?_; intro wa hxa
    have hS1 := bel_step hS0 hxa
    refine o_newT KW ha rfl ?_; clear ha a; intro mm wb hM hxb hlo a ha
    refine wpList_nil (e_sq ?_); refine ⟨fun _ => ext_bel hS1.size hxb, ?_⟩
    have hS2 := bel_step hS1 hxb
    have hlo2 : w.heap.size ≤ mm := Nat.le_trans hxa.size hlo
    refine x_only 13 rfl (by kernel_rfl) ?_; intro wc hxc
    have hS3 := bel_step hS2 hxc
    refine o_insT (K := KW) (s := (s.1 &&& ~~~o, s.2 &&& ~~~o)) ha undMap (hM.ext hxc) hyI rfl rfl rfl ?_; intro wd hMd hcd
    have hbd := chg_bel hcd hS3.size (fun i hi => by rw [List.mem_singleton] at hi; subst hi; exact hlo2)
    refine wpList_nil (e_sq ?_); refine ⟨fun _ => hbd, ?_⟩
    have hS4 := hS3.trans hbd
    refine x_g 14 rfl (by kernel_rfl) (want0 _) ha rfl hS4 (g_move rfl) ?_; clear ha a; intro a ha
    refine x_g 15 rfl (by kernel_rfl) (want0 _) ha rfl hS4 (g_assign rfl) ?_; clear ha a; intro a ha
    refine x_done (by kernel_rfl) ?_; intro we hxe
    refine e_then ?_; refine wp_ret ?_
    have hs := hEw.size
    exact f_ret1 ha rfl rfl ⟨some mm, rfl, .inr ⟨mm, rfl, hMd.ext hxe⟩, fun b hb => by obtain rfl := Option.some.inj hb; omega, (Ext.then (((hEw.trans hxa).trans hxb).trans hxc) hcd (fun i hi => by rw [List.mem_singleton] at hi; subst hi; omega)).trans hxe⟩
set_option maxHeartbeats 2000000 in
theorem W_ruleMeet {W : World} (s u : BitVec 32 × BitVec 32) :
    Calls Try.prog 55 [KW.kv s, KW.kv u].toArray W (Ret fun v w' => v = .tuple #[KW.kv (s.1, s.2 ||| u.2), .bool (decide (s.1 = u.1))] ∧ Ext W w') := by
  refine f_enter Try.func55 rfl Try.ntmps55 rfl ?_
  intro a ha
  replace ha : Fr 19 [(0, .agg #[.int .u32 (BitVec.toNat s.1 : Int), .int .u32 (BitVec.toNat s.2 : Int)]), (1, .agg #[.int .u32 (BitVec.toNat u.1 : Int), .int .u32 (BitVec.toNat u.2 : Int)])] a := ha
  refine wp_seq ?_; refine wp_region_lit ?_
  refine o_box (cs := [.int .u32 (BitVec.toNat s.1 : Int), .int .u32 (BitVec.toNat s.2 : Int)]) ha rfl rfl rfl ?_; clear ha a; intro b2 w2 hB2 hx2 hlo2 a ha
  refine o_box (cs := [.int .u32 (BitVec.toNat u.1 : Int), .int .u32 (BitVec.toNat u.2 : Int)]) ha rfl rfl rfl ?_; clear ha a; intro b3 w3 hB3 hx3 hlo3 a ha
  refine o_alloc (z := .agg #[.int .u32 0, .int .u32 0]) (cs := [.int .u32 0, .int .u32 0]) ha rfl (fun w => by rfl) rfl ?_; clear ha a; intro b4 w4 hB4 hx4 hlo4 a ha
  refine op_g ha rfl (g_assign rfl) ?_; clear ha a; intro a ha
  refine wpList_nil ?_
  refine e_then ?_
  have l2 := hB2.blt; have l3 := hB3.blt; have z3 := hx3.size; have z4 := hx4.size
  have hB2 := (hB2.ext hx3).ext hx4; have hB3 := hB3.ext hx4
  have n2 : b2 ∉ [b4] := fun h => by rw [List.mem_singleton] at h; omega
  have n3 : b3 ∉ [b4] := fun h => by rw [List.mem_singleton] at h; omega
  have hW4 : W.heap.size ≤ b4 := by have := hx2.size; omega
  have hE4 := (hx2.trans hx3).trans hx4
  refine wp_seq ?_; refine r_region (D := [b4]) [0, 1, 2, 3, 4, 5, 6, 7, 8, 9, 10, 11, 12, 13, 14] hmix ?_
  have hS0 := BelD.refl [b4] w4.heap.size w4
  refine r_g 0 rfl (by kernel_rfl) (want0 _) ha rfl hS0 (g_field0 stW0 rfl) ?_; clear ha a; intro a ha
  refine r_g 1 rfl (by kernel_rfl) (want0 _) ha rfl hS0 (g_loadR Try.isAgg61 rfl (hB2.cell (j := 0) rfl) n2) ?_; clear ha a; intro a ha
  refine r_g 2 rfl (by kernel_rfl) (want0 _) ha rfl hS0 (g_field0 stW1 rfl) ?_; clear ha a; intro a ha
  refine r_g 3 rfl (by kernel_rfl) (want0 _) ha rfl hS0 (g_loadR Try.isAgg61 rfl (hB2.cell (j := 1) rfl) n2) ?_; clear ha a; intro a ha
  refine r_g 4 rfl (by kernel_rfl) (want0 _) ha rfl hS0 (g_field0 stW1 rfl) ?_; clear ha a; intro a ha
  refine r_g 5 rfl (by kernel_rfl) (want0 _) ha rfl hS0 (g_loadR Try.isAgg61 rfl (hB3.cell (j := 1) rfl) n3) ?_; clear ha a; intro a ha
  refine r_g 6 rfl (by kernel_rfl) (want0 _) ha rfl hS0 (g32_or (m := s.2) (n := u.2) rfl rfl) ?_; clear ha a; intro a ha
  refine r_g 7 rfl (by kernel_rfl) (want0 _) ha rfl hS0 (g_build (vs := [(0, .int .u32 (BitVec.toNat s.1 : Int)), (1, .int .u32 (BitVec.toNat (s.2 ||| u.2) : Int))]) (cells := #[.int .u32 (BitVec.toNat s.1 : Int), .int .u32 (BitVec.toNat (s.2 ||| u.2) : Int)]) rfl (by rfl)) ?_; clear ha a; intro a ha
  refine r_g 8 rfl (by kernel_rfl) (want0 _) ha rfl hS0 (g_field0 stW0 rfl) ?_; clear ha a; intro a ha
  refine r_g 9 rfl (by kernel_rfl) (want0 _) ha rfl hS0 (g_loadR Try.isAgg61 rfl (hB2.cell (j := 0) rfl) n2) ?_; clear ha a; intro a ha
  refine r_g 10 rfl (by kernel_rfl) (want0 _) ha rfl hS0 (g_field0 stW0 rfl) ?_; clear ha a; intro a ha
  refine r_g 11 rfl (by kernel_rfl) (want0 _) ha rfl hS0 (g_loadR Try.isAgg61 rfl (hB3.cell (j := 0) rfl) n3) ?_; clear ha a; intro a ha
  refine r_g 12 rfl (by kernel_rfl) (want0 _) ha rfl hS0 (g32_eql (m := s.1) (n := u.1) rfl rfl) ?_; clear ha a; intro a ha
  refine r_only 13 rfl (by kernel_rfl) ?_; intro wa hxa
  have hS1 := beld_step hS0 hxa
  refine o_storeA (vs := [.int .u32 (BitVec.toNat s.1 : Int), .int .u32 (BitVec.toNat (s.2 ||| u.2) : Int)]) ha (hB4.ext hxa) Try.sizeOf74 rfl rfl (by simp [Value.oneCell']) rfl ?_; intro wb hBb hcb
  have hbd := chg_beld hcb hS1.size (fun i hi => .inl hi)
  refine wpList_nil (e_sq ?_); refine ⟨fun _ => hbd, ?_⟩
  have hS2 := hS1.trans hbd
  refine r_g 14 rfl (by kernel_rfl) (want0 _) ha rfl hS2 (g_assign rfl) ?_; clear ha a; intro a ha
  refine r_done (by kernel_rfl) ?_; intro wc hxc
  refine e_then ?_; refine wp_ret ?_
  exact f_retC2 (cs := [.int .u32 (BitVec.toNat s.1 : Int), .int .u32 (BitVec.toNat (s.2 ||| u.2) : Int)]) ha rfl rfl Try.isAgg74 Try.sizeOf74 (hBb.ext hxc) rfl ⟨rfl, (Ext.then (hE4.trans hxa) hcb (fun i hi => by rw [List.mem_singleton] at hi; subst hi; exact hW4)).trans hxc⟩
theorem rule_ruw {W0 : World} {bv : Nat} {va : Value} {fn : List Nat} {aa : List (BitVec 32)} (hA : Ro Rp.u32 W0 fn va aa) (hB : Bx W0 bv [va] 55) :
    RuW Try.prog KW (Rp.prod Rp.u32 Rp.u32) (rlRu aa) W0 51 53 55 33 56 [.pointer (some ⟨bv, 0, none⟩)] [] [] [] [] where
  ea := Try.call51
  ed := Try.call53
  em := Try.call55
  eb := Try.call33
  ep := Try.call56
  add {w} hE s {v} hv m {r} hr := (W_impl_RuleBy_2 (a0_0 := s.1) (a0_1 := s.2) hv (a2 := m) (hA.ext hE) (hB.ext hE) hr).mono fun e w' ⟨u, he, b, hO, hz, hx⟩ => by
    obtain ⟨f, hf, hs⟩ := hO.roF
    refine ⟨u, he, f, hf, fun k hk => ?_, hx⟩
    have h1 := hs k hk
    rw [List.append_nil, mem_bl] at h1
    rcases hz with h | h <;> omega
  drop {w} hE s {v} hv m {n} hn {T} hT := W_ruleDrop hv hn hT
  meet {w} hE s t := W_ruleMeet s t
  both {w} hE {x y} hx hy := ⟨wr_in _, W_sum x y⟩
  pick {w} hE {x y} hx hy := ⟨in_min hx hy, W_fewest x y⟩
  picks := picks_min
set_option maxHeartbeats 2000000 in
theorem W_impl_RuleBy {W : World} {va0_0 : Value} {fa0_0 : List Nat} {a0_0 : (List (List Int))} (ha0_0 : Ro (Rp.sl 2 Rp.int) W fa0_0 va0_0 a0_0) {va1_0 : Value} {fa1_0 : List Nat} {a1_0 : (List Int)} (ha1_0 : Ro Rp.int W fa1_0 va1_0 a1_0) {va1_1 : Value} {fa1_1 : List Nat} {a1_1 : (List Int)} (ha1_1 : Ro Rp.int W fa1_1 va1_1 a1_1) {va1_2 : Value} {fa1_2 : List Nat} {a1_2 : (List (List Int))} (ha1_2 : Ro (Rp.sl 2 Rp.int) W fa1_2 va1_2 a1_2) {va1_3 : Value} {fa1_3 : List Nat} {a1_3 : (List (List Int))} (ha1_3 : Ro (Rp.sl 2 Rp.int) W fa1_3 va1_3 a1_3) {r : Int} (hF : F_impl_RuleBy a0_0 a1_0 a1_1 a1_2 a1_3 = some r) :
    Calls Try.prog 22 [.agg #[va0_0], .agg #[va1_0, va1_1, va1_2, va1_3]].toArray W (Ret fun u w' => (u = .int .i64 r ∧ InI r) ∧ Ext W w') := by
  refine f_enter Try.func22 rfl Try.ntmps22 rfl ?_
  intro a ha
  replace ha : Fr 28 [(0, .agg #[va0_0]), (1, .agg #[va1_0, va1_1, va1_2, va1_3])] a := ha
  unfold F_impl_RuleBy at hF
  obtain ⟨ok, hok, hF⟩ := cal_some hF
  refine wp_seq ?_; refine wp_region_lit ?_
  refine o_box (cs := [va0_0]) ha rfl rfl rfl ?_; clear ha a; intro b2g w2 hGx hx2 hlo2 a ha
  refine o_box (cs := [va1_0, va1_1, va1_2, va1_3]) ha rfl rfl rfl ?_; clear ha a; intro b3x w3 hX hx3 hlo3 a ha
  refine op_g ha rfl (g_assign rfl) ?_; clear ha a; intro a ha
  refine wpList_nil ?_
  replace hGx := hGx.ext hx3
  have hE0 := hx2.trans hx3
  refine e_then ?_; refine wp_seq ?_
  refine wp_seq ?_; refine wp_region_lit ?_
  refine op_g ha rfl (g_loadA (cs := [va0_0]) Try.isAgg31 Try.sizeOf31 rfl (by simp) hGx.all) ?_; clear ha a; intro a ha
  refine op_g ha rfl (g_loadA (cs := [va1_0, va1_1, va1_2, va1_3]) Try.isAgg33 Try.sizeOf33 rfl (by simp) hX.all) ?_; clear ha a; intro a ha
  refine o_call ha rfl rfl Try.call28 (W_impl_NiceOk (ha0_0.ext hE0) (ha1_0.ext hE0) (ha1_1.ext hE0) (ha1_2.ext hE0) (ha1_3.ext hE0) hok) ?_; clear ha a; rintro v8 w8a ⟨rfl, hE1⟩ a ha
  refine op_g ha rfl (g_not rfl) ?_; clear ha a; intro a ha
  refine op_g ha rfl (g_move rfl) ?_; clear ha a; intro a ha
  by_cases hp : ¬ (ok = true)
  · rw [show (!ok) = true from (n_iff Iff.rfl).2 hp] at ha
    replace hF := if_t hp hF; obtain rfl := Option.some.inj hF
    refine op_unwant ha rfl (yields ha rfl rfl) rfl ?_; clear ha a; intro a ha
    refine op_unwant ha rfl (yields ha rfl rfl) rfl ?_; clear ha a; intro a ha
    refine op_unwant ha rfl (yields ha rfl rfl) rfl ?_; clear ha a; intro a ha
    refine op_g ha rfl (g_pick rfl rfl) ?_; clear ha a; intro a ha
    refine wpList_nil ?_
    refine e_then ?_; refine c_true ha rfl ?_
    refine wp_seq ?_; refine wp_region_lit ?_
    refine op_g ha rfl (g_assign rfl) ?_; clear ha a; intro a ha
    refine wpList_nil ?_
    refine e_then ?_; refine wp_ret ?_; refine e_then_ret ?_
    exact f_ret1 ha rfl rfl ⟨⟨rfl, by decide⟩, hE0.trans hE1⟩
  replace hF := if_f hp hF
  rw [show (!ok) = false from b_false (n_iff Iff.rfl) hp] at ha
  obtain ⟨big, hbig, hF⟩ := cal_some hF
  refine op_want (yields ha rfl rfl) ?_; refine op_g ha rfl (g_field0 stX2 rfl) ?_; clear ha a; intro a ha
  refine op_want (yields ha rfl rfl) ?_; refine op_g ha rfl (g_load Try.isAgg22 rfl ((hX.ext hE1).cell (j := 2) rfl)) ?_; clear ha a; intro a ha
  refine op_want (yields ha rfl rfl) ?_; refine o_call ha rfl rfl Try.call49 (W_slices_ContainsFunc_Sint64 ((ha1_2.ext hE0).ext hE1) (ga1 := 50) (ga1c := []) (by intro _ hy vz0 fz0 z0 hz0 r hr; exact W_impl_RuleBy_1 hz0 hr) Try.call50 hbig) ?_; clear ha a; rintro v14 w14 ⟨rfl, hE2⟩ a ha
  refine op_g ha rfl (g_pick rfl rfl) ?_; clear ha a; intro a ha
  refine wpList_nil ?_
  replace hE1 := hE1.trans hE2
  have hE01 := hE0.trans hE1
  refine e_then ?_; refine c_cond (big = true) ha rfl Iff.rfl (fun hp2 => ?_) (fun hp2 => ?_)
  · replace hF := if_t hp2 hF; obtain rfl := Option.some.inj hF
    refine wp_seq ?_; refine wp_region_lit ?_
    refine op_g ha rfl (g_assign rfl) ?_; clear ha a; intro a ha
    refine wpList_nil ?_
    refine e_then ?_; refine wp_ret ?_; refine e_then_ret ?_
    exact f_ret1 ha rfl rfl ⟨⟨rfl, by decide⟩, hE01⟩
  replace hF := if_f hp2 hF
  obtain ⟨nets, hnets, hF⟩ := cal_some hF; obtain ⟨T, hrun, hF⟩ := cal_some hF
  refine wp_skip ?_; refine e_then ?_
  refine wp_seq ?_; refine wp_region_lit ?_
  refine op_g ha rfl (g_loadA (cs := [va0_0]) Try.isAgg31 Try.sizeOf31 rfl (by simp) (hGx.ext hE1).all) ?_; clear ha a; intro a ha
  refine o_call ha rfl rfl Try.call30 (W_impl_netsOf (ha0_0.ext hE01) hnets) ?_; clear ha a; rintro vn wn ⟨bn, hOn, _, hxn⟩ a ha
  obtain ⟨fn, hRn, _⟩ := hOn.roF
  refine o_alloc (z := .slice none 0 0) (cs := [.slice none 0 0]) ha rfl (fun w => by rfl) rfl ?_; clear ha a; intro bv w4 hB4 hx4 hlo4 a ha
  refine o_storeB (j := 0) (v := vn) ha hB4 Try.sizeOf55 rfl rfl hRn.cells hRn.oneC (by simp) ?_; intro w5 hB5 hc5
  have hB5 : Bx w5 bv [vn] 55 := hB5
  refine wpList_nil ?_
  refine e_then ?_
  have h45 : Ext wn w5 := hx4.then hc5 (fun i hi => by rw [List.mem_singleton] at hi; subst hi; exact hlo4)
  refine wp_seq ?_; refine wp_region_lit ?_
  refine op_g ha rfl (g_func (first := []) (cap := [.tmp 5]) rfl rfl) ?_; clear ha a; intro a ha
  refine op_g ha rfl (g_build (vs := [(0, .func (.func 51) #[] #[.pointer (some ⟨bv, 0, none⟩)]), (1, .func (.func 53) #[] #[]), (2, .func (.func 55) #[] #[]), (3, .func (.func 33) #[] #[]), (4, .func (.func 56) #[] #[])]) (cells := #[.func (.func 51) #[] #[.pointer (some ⟨bv, 0, none⟩)], .func (.func 53) #[] #[], .func (.func 55) #[] #[], .func (.func 33) #[] #[], .func (.func 56) #[] #[]]) rfl (by rfl)) ?_; clear ha a; intro a ha
  refine o_alloc (z := .agg #[.nilFunc, .nilFunc, .nilFunc, .nilFunc, .nilFunc]) (cs := [.nilFunc, .nilFunc, .nilFunc, .nilFunc, .nilFunc]) ha rfl (fun w => by rfl) rfl ?_; clear ha a; intro bR w6 hB6 hx6 hlo6 a ha
  refine o_storeA (vs := rvOf 51 53 55 33 56 [.pointer (some ⟨bv, 0, none⟩)] [] [] [] []) ha hB6 Try.sizeOf83 rfl rfl (by simp [rvOf, Value.oneCell']) rfl ?_; intro w7 hB7 hc7
  refine wpList_nil ?_
  refine e_then ?_
  have h67 : Ext w5 w7 := hx6.then hc7 (fun i hi => by rw [List.mem_singleton] at hi; subst hi; exact hlo6)
  have hall := h45.trans h67
  have hE7 := (hE01.trans hxn).trans hall
  refine wp_seq ?_; refine x_region [0, 1, 2, 3, 4, 5, 6, 7, 8, 9] hmix ?_
  have hS0 := RowKit.Below.refl w7.heap.size w7
  refine x_g 0 rfl (by kernel_rfl) (want0 _) ha rfl hS0 (g_loadA (cs := [va1_0, va1_1, va1_2, va1_3]) Try.isAgg33 Try.sizeOf33 rfl (by simp) (((hX.ext hE1).ext hxn).ext hall).all) ?_; clear ha a; intro a ha
  refine x_g 2 rfl (by kernel_rfl) (want0 _) ha rfl hS0 (g_build (vs := []) (cells := #[.int .u32 0, .int .u32 0]) rfl (by rfl)) ?_; clear ha a; intro a ha
  refine x_g 5 rfl (by kernel_rfl) (want0 _) ha rfl hS0 (g_loadA (cs := rvOf 51 53 55 33 56 [.pointer (some ⟨bv, 0, none⟩)] [] [] [] []) Try.isAgg83 Try.sizeOf83 rfl (by simp [rvOf]) hB7.all) ?_; clear ha a; intro a ha
  refine x_g 7 rfl (by kernel_rfl) (want0 _) ha rfl hS0 (g_build (vs := []) (cells := #[.int .u32 0, .int .u32 0]) rfl (by rfl)) ?_; clear ha a; intro a ha
  refine x_only 1 rfl (by kernel_rfl) ?_; intro wa hxa
  have hS1 := bel_step hS0 hxa
  refine o_newT KW ha rfl ?_; clear ha a; intro m wb hM hxb hlo a ha
  refine wpList_nil (e_sq ?_); refine ⟨fun _ => ext_bel hS1.size hxb, ?_⟩
  have hS2 := bel_step hS1 hxb
  have hlo2 : w7.heap.size ≤ m := Nat.le_trans hxa.size hlo
  refine x_only 3 rfl (by kernel_rfl) ?_; intro wc hxc
  have hS3 := bel_step hS2 hxc
  refine o_insT (K := KW) (s := (0#32, 0#32)) (n := 0) ha undMap (hM.ext hxc) (by decide) rfl rfl rfl ?_; intro wd hMd hcd
  have hbd := chg_bel hcd hS3.size (fun i hi => by rw [List.mem_singleton] at hi; subst hi; exact hlo2)
  refine wpList_nil (e_sq ?_); refine ⟨fun _ => hbd, ?_⟩
  have hS4 := hS3.trans hbd
  refine x_g 4 rfl (by kernel_rfl) (want0 _) ha rfl hS4 (g_move rfl) ?_; clear ha a; intro a ha
  refine x_only 6 rfl (by kernel_rfl) ?_; intro we hxe
  have hS5 := bel_step hS4 hxe
  have h7e : Ext w7 we := bel_ext hS5
  have hEn := hE7.trans h7e
  have hRU := rule_ruw ((hRn.ext hall).ext h7e) ((hB5.ext h67).ext h7e)
  refine o_call ha rfl rfl Try.call57 (W_run sl75 hldW hKW hRU (ha1_0.ext hEn) (ha1_1.ext hEn) (ha1_2.ext hEn) (ha1_3.ext hEn) (hMd.ext hxe) hrun) ?_; clear ha a; rintro vm w10 ⟨mz, rfl, hMz, hx10⟩ a ha
  refine wpList_nil (e_sq ?_); refine ⟨fun _ => ext_bel hS5.size hx10, ?_⟩
  have hS6 := bel_step hS5 hx10
  refine x_only 8 rfl (by kernel_rfl) ?_; intro wf hxf
  refine op_g ha rfl (g_lookup1 rfl rfl ((hMz.ext hxf).look1 (K := KW) undMap zInt (0#32, 0#32))) ?_; clear ha a; intro a ha
  refine wpList_nil (e_sq ?_); refine ⟨fun _ => RowKit.Below.refl _ _, ?_⟩
  have hS7 := bel_step hS6 hxf
  refine x_g 9 rfl (by kernel_rfl) (want0 _) ha rfl hS7 (g_assign rfl) ?_; clear ha a; intro a ha
  refine x_done (by kernel_rfl) ?_; intro wg hxg
  refine e_then ?_; refine wp_ret ?_
  obtain rfl := Option.some.inj hF
  refine f_ret1 ha rfl rfl ⟨⟨rfl, ?_⟩, ((hEn.trans hx10).trans hxf).trans hxg⟩
  cases hT : T (0#32, 0#32) with
  | none => decide
  | some y => exact hMz.inI hT

set_option maxHeartbeats 2000000 in
theorem W_laws_eqInt64S {W : World} {va0 : Value} {fa0 : List Nat} {a0 : (List Int)} (ha0 : Ro Rp.int W fa0 va0 a0) {va1 : Value} {fa1 : List Nat} {a1 : (List Int)} (ha1 : Ro Rp.int W fa1 va1 a1) {r : Bool} (hF : F_laws_eqInt64S a0 a1 = some r) :
    Calls Try.prog 18 [va0, va1].toArray W (Ret fun u w' => u = .bool r ∧ Ext W w') := by
  refine f_enter Try.func18 rfl Try.ntmps18 rfl ?_
  intro a ha
  replace ha : Fr 26 [(0, va0), (1, va1)] a := ha; have hE : Chg [] W W := Chg.refl _ _
  unfold F_laws_eqInt64S at hF
  refine wp_seq (wp_region_lit ?_); refine op_g ha rfl (g_assign rfl) ?_; intro a ha; refine wpList_nil (e_then (wp_seq (wp_seq (wp_region_lit ?_)))); refine op_g ha rfl (g_move rfl) fun a ha => op_g ha rfl (g_lenR sl25.und ha0 rfl) fun a ha => op_g ha rfl (g_move rfl) fun a ha => op_g ha rfl (g_lenR sl25.und ha1 rfl) fun a ha => op_g ha rfl (g_neq rfl rfl) ?_; intro a ha; refine wpList_nil (e_then ?_); refine c_cond ((a0.length : Int) ≠ (a1.length : Int)) ha rfl (decide_eq_true_iff) (fun hp1 => ?_) (fun hp1 => ?_)
  · replace hF := if_t hp1 hF
    refine wp_seq (wp_region_lit ?_); refine op_g ha rfl (g_assign rfl) ?_; intro a ha; refine wpList_nil (e_then (wp_ret (e_then_ret ?_))); obtain rfl := Option.some.inj hF
    exact f_ret1 ha rfl rfl ⟨rfl, hE⟩
  replace hF := if_f hp1 hF; refine wp_skip (e_then (wp_seq (wp_seq (wp_region_lit ?_)))); refine op_g ha rfl (g_assign rfl) ?_; intro a ha; refine wpList_nil ?_; replace ha := ha.sub (σ' := [(0, va0), (1, va1), (5, (.int .i64 0))]) ⟨rfl, rfl, rfl, trivial⟩; refine e_then ?_; obtain ⟨o77, ho78, hK79⟩ := bnd_some hF; obtain ⟨n80, hn81⟩ := lp_some ho78; clear ho78; refine c_loop (fun a w => Fr 26 [] a ∧ Chg [] W w ∧ o77 = .inl ()) (fun n a w => ∃ (i39 : Int), Fr 26 [(0, va0), (1, va1), (5, (.int .i64 i39))] a ∧ Chg [] W w ∧ InI i39 ∧ lpN (fun s => F_laws_eqInt64S_l1 a0 a1 s) n i39 = some o77) n80 ⟨0, ha.sub ⟨rfl, rfl, rfl, trivial⟩, hE, (show InI 0 from by decide), hn81⟩ ?_ ?_
  · rintro m85 a w38 ⟨i39, ha, hE41, hI40, hF⟩
    cases m85 with
    | zero => exact (lpN_zero hF).elim
    | succ m85 =>
      obtain ⟨z84, hF, hN83⟩ := lpN_succ hF; have hF : F_laws_eqInt64S_l1 a0 a1 i39 = some z84 := hF; unfold F_laws_eqInt64S_l1 at hF; refine wp_seq (wp_seq (wp_region_lit ?_)); refine op_g ha rfl (g_move rfl) fun a ha => op_g ha rfl (g_move rfl) fun a ha => op_g ha rfl (g_lenR sl25.und ha0 rfl) fun a ha => op_g ha rfl (g_lss rfl rfl) ?_; intro a ha; refine wpList_nil (e_then ?_); refine c_cond (i39 < (a0.length : Int)) ha rfl (decide_eq_true_iff) (fun hp86 => ?_) (fun hp86 => ?_)
      · replace hF := if_t hp86 hF
        refine wp_skip (e_then (wp_seq (wp_block (wp_seq ?_)))); refine d_quiet hmix (by kernel_rfl) ?_; refine q_g ha rfl (g_move rfl) ?_; intro a ha; refine q_g ha rfl (g_move rfl) ?_; intro a ha; obtain ⟨x87, g88, gx89, hF⟩ := idx_some hF; obtain ⟨p90, cs91, f92, hf93, hpb94, hat95, hr96, hi97⟩ := ha0.at g88 gx89; obtain ⟨rfl, hI98, rfl⟩ := hr96; refine q_g ha rfl (hi97.gives sl25 rfl rfl) ?_; intro a ha; refine q_g ha rfl (g_load0 hE41 Try.isAgg2 rfl hat95.one) ?_; intro a ha; refine q_g ha rfl (g_move rfl) ?_; intro a ha; refine q_g ha rfl (g_move rfl) ?_; intro a ha; obtain ⟨x99, g100, gx101, hF⟩ := idx_some hF; obtain ⟨p102, cs103, f104, hf105, hpb106, hat107, hr108, hi109⟩ := ha1.at g100 gx101; obtain ⟨rfl, hI110, rfl⟩ := hr108; refine q_g ha rfl (hi109.gives sl25 rfl rfl) ?_; intro a ha; refine q_g ha rfl (g_load0 hE41 Try.isAgg2 rfl hat107.one) ?_; intro a ha; refine q_g ha rfl (g_neq rfl rfl) ?_; intro a ha; refine q_nil ?_; intro w111 hx112; have hE113 := Ext.trans hE41 hx112; refine e_then ?_; refine c_cond (x87 ≠ x99) ha rfl (decide_eq_true_iff) (fun hp114 => ?_) (fun hp114 => ?_)
        · replace hF := if_t hp114 hF
          refine wp_seq (wp_region_lit ?_); refine op_g ha rfl (g_assign rfl) ?_; intro a ha; refine wpList_nil (e_then (wp_ret (e_blk_ret (e_then_ret (e_lq_ret (e_then_ret ?_)))))); obtain rfl := Option.some.inj hF; have e115 := LK_inr hN83; subst e115; have e116 := BK_inr hK79; subst e116
          exact f_ret1 ha rfl rfl ⟨rfl, hE113⟩
        replace hF := if_f hp114 hF; refine wp_skip (e_blk (e_then (wp_region_lit ?_))); refine op_g ha rfl (g_move rfl) ?_; intro a ha; obtain ⟨hI117, hF⟩ := ck_some hF; refine op_g ha rfl (g_add rfl rfl hI117) fun a ha => op_g ha rfl (g_assign rfl) ?_; intro a ha; refine wpList_nil ?_; replace ha := ha.sub (σ' := [(0, va0), (1, va1), (5, (.int .i64 (i39 + 1)))]) ⟨rfl, rfl, rfl, trivial⟩; refine e_lq ?_; obtain rfl := Option.some.inj hF
        exact ⟨_, Nat.lt_succ_self _, i39 + 1, ha.sub ⟨rfl, rfl, rfl, trivial⟩, hE113, hI117, hN83⟩
      replace hF := if_f hp86 hF; refine wp_exit (e_then_exit (e_lq_eq ?_)); obtain rfl := Option.some.inj hF
      exact ⟨ha.sub trivial, hE41, (LK_inr hN83).symm⟩
  rintro a w76 ⟨ha, hE82, rfl⟩
  have hF : F_laws_eqInt64S_k2 = some _ := hK79; clear hK79; unfold F_laws_eqInt64S_k2 at hF; refine e_then (wp_seq (wp_region_lit ?_)); refine op_g ha rfl (g_assign rfl) ?_; intro a ha; refine wpList_nil (e_then (wp_ret ?_)); obtain rfl := Option.some.inj hF
  exact f_ret1 ha rfl rfl ⟨rfl, hE82⟩
set_option maxHeartbeats 2000000 in
theorem W_laws_eqInt64SS {W : World} {va0 : Value} {fa0 : List Nat} {a0 : (List (List Int))} (ha0 : Ro (Rp.sl 2 Rp.int) W fa0 va0 a0) {va1 : Value} {fa1 : List Nat} {a1 : (List (List Int))} (ha1 : Ro (Rp.sl 2 Rp.int) W fa1 va1 a1) {r : Bool} (hF : F_laws_eqInt64SS a0 a1 = some r) :
    Calls Try.prog 35 [va0, va1].toArray W (Ret fun u w' => u = .bool r ∧ Ext W w') := by
  refine f_enter Try.func35 rfl Try.ntmps35 rfl ?_
  intro a ha
  replace ha : Fr 27 [(0, va0), (1, va1)] a := ha; have hE : Chg [] W W := Chg.refl _ _
  unfold F_laws_eqInt64SS at hF
  refine wp_seq (wp_region_lit ?_); refine op_g ha rfl (g_assign rfl) ?_; intro a ha; refine wpList_nil (e_then (wp_seq (wp_seq (wp_region_lit ?_)))); refine op_g ha rfl (g_move rfl) fun a ha => op_g ha rfl (g_lenR sl22.und ha0 rfl) fun a ha => op_g ha rfl (g_move rfl) fun a ha => op_g ha rfl (g_lenR sl22.und ha1 rfl) fun a ha => op_g ha rfl (g_neq rfl rfl) ?_; intro a ha; refine wpList_nil (e_then ?_); refine c_cond ((a0.length : Int) ≠ (a1.length : Int)) ha rfl (decide_eq_true_iff) (fun hp1 => ?_) (fun hp1 => ?_)
  · replace hF := if_t hp1 hF
    refine wp_seq (wp_region_lit ?_); refine op_g ha rfl (g_assign rfl) ?_; intro a ha; refine wpList_nil (e_then (wp_ret (e_then_ret ?_))); obtain rfl := Option.some.inj hF
    exact f_ret1 ha rfl rfl ⟨rfl, hE⟩
  replace hF := if_f hp1 hF; refine wp_skip (e_then (wp_seq (wp_seq (wp_region_lit ?_)))); refine op_g ha rfl (g_assign rfl) ?_; intro a ha; refine wpList_nil ?_; replace ha := ha.sub (σ' := [(0, va0), (1, va1), (5, (.int .i64 0))]) ⟨rfl, rfl, rfl, trivial⟩; refine e_then ?_; obtain ⟨o93, ho94, hK95⟩ := bnd_some hF; obtain ⟨n96, hn97⟩ := lp_some ho94; clear ho94; refine c_loop (fun a w => Fr 27 [] a ∧ Chg [] W w ∧ o93 = .inl ()) (fun n a w => ∃ (i47 : Int), Fr 27 [(0, va0), (1, va1), (5, (.int .i64 i47))] a ∧ Chg [] W w ∧ InI i47 ∧ lpN (fun s => F_laws_eqInt64SS_l1 a0 a1 s) n i47 = some o93) n96 ⟨0, ha.sub ⟨rfl, rfl, rfl, trivial⟩, hE, (show InI 0 from by decide), hn97⟩ ?_ ?_
  · rintro m101 a w46 ⟨i47, ha, hE49, hI48, hF⟩
    cases m101 with
    | zero => exact (lpN_zero hF).elim
    | succ m101 =>
      obtain ⟨z100, hF, hN99⟩ := lpN_succ hF; have hF : F_laws_eqInt64SS_l1 a0 a1 i47 = some z100 := hF; unfold F_laws_eqInt64SS_l1 at hF; refine wp_seq (wp_seq (wp_region_lit ?_)); refine op_g ha rfl (g_move rfl) fun a ha => op_g ha rfl (g_move rfl) fun a ha => op_g ha rfl (g_lenR sl22.und ha0 rfl) fun a ha => op_g ha rfl (g_lss rfl rfl) ?_; intro a ha; refine wpList_nil (e_then ?_); refine c_cond (i47 < (a0.length : Int)) ha rfl (decide_eq_true_iff) (fun hp102 => ?_) (fun hp102 => ?_)
      · replace hF := if_t hp102 hF
        refine wp_skip (e_then (wp_seq (wp_block (wp_seq ?_)))); refine d_quiet hmix (by kernel_rfl) ?_; refine q_g ha rfl (g_move rfl) ?_; intro a ha; refine q_g ha rfl (g_move rfl) ?_; intro a ha; obtain ⟨x103, g104, gx105, hF⟩ := idx_some hF; obtain ⟨p106, cs107, f108, hf109, hpb110, hat111, hr112, hi113⟩ := ha0.at g104 gx105; obtain ⟨v114, rfl, h115⟩ := hr112; have h115 : Ro Rp.int W f108 v114 x103 := h115; refine q_g ha rfl (hi113.gives sl22 rfl rfl) ?_; intro a ha; refine q_g ha rfl (g_load0 hE49 Try.isAgg25 rfl hat111.one) ?_; intro a ha; refine q_g ha rfl (g_move rfl) ?_; intro a ha; refine q_g ha rfl (g_move rfl) ?_; intro a ha; obtain ⟨x117, g118, gx119, hF⟩ := idx_some hF; obtain ⟨p120, cs121, f122, hf123, hpb124, hat125, hr126, hi127⟩ := ha1.at g118 gx119; obtain ⟨v128, rfl, h129⟩ := hr126; have h129 : Ro Rp.int W f122 v128 x117 := h129; refine q_g ha rfl (hi127.gives sl22 rfl rfl) ?_; intro a ha; refine q_g ha rfl (g_load0 hE49 Try.isAgg25 rfl hat125.one) ?_; intro a ha; obtain ⟨x133, hc134, hF⟩ := cal_some hF; refine q_call (.bool x133) ha rfl rfl Try.call18 (fun w132 hx131 => W_laws_eqInt64S (h115.ext (Ext.trans hE49 hx131)) (h129.ext (Ext.trans hE49 hx131)) hc134) (fun _ _ _ h => ⟨h.1, h.2⟩) ?_; intro a ha; refine q_g ha rfl (g_not rfl) ?_; intro a ha; refine q_nil ?_; intro w135 hx136; have hE137 := Ext.trans hE49 hx136
        refine e_then ?_; refine c_cond (¬ (x133 = true)) ha rfl (n_iff (Iff.rfl)) (fun hp138 => ?_) (fun hp138 => ?_)
        · replace hF := if_t hp138 hF
          refine wp_seq (wp_region_lit ?_); refine op_g ha rfl (g_assign rfl) ?_; intro a ha; refine wpList_nil (e_then (wp_ret (e_blk_ret (e_then_ret (e_lq_ret (e_then_ret ?_)))))); obtain rfl := Option.some.inj hF; have e139 := LK_inr hN99; subst e139; have e140 := BK_inr hK95; subst e140
          exact f_ret1 ha rfl rfl ⟨rfl, hE137⟩
        replace hF := if_f hp138 hF; refine wp_skip (e_blk (e_then (wp_region_lit ?_))); refine op_g ha rfl (g_move rfl) ?_; intro a ha; obtain ⟨hI141, hF⟩ := ck_some hF; refine op_g ha rfl (g_add rfl rfl hI141) fun a ha => op_g ha rfl (g_assign rfl) ?_; intro a ha; refine wpList_nil ?_; replace ha := ha.sub (σ' := [(0, va0), (1, va1), (5, (.int .i64 (i47 + 1)))]) ⟨rfl, rfl, rfl, trivial⟩; refine e_lq ?_; obtain rfl := Option.some.inj hF
        exact ⟨_, Nat.lt_succ_self _, i47 + 1, ha.sub ⟨rfl, rfl, rfl, trivial⟩, hE137, hI141, hN99⟩
      replace hF := if_f hp102 hF; refine wp_exit (e_then_exit (e_lq_eq ?_)); obtain rfl := Option.some.inj hF
      exact ⟨ha.sub trivial, hE49, (LK_inr hN99).symm⟩
  rintro a w92 ⟨ha, hE98, rfl⟩
  have hF : F_laws_eqInt64SS_k2 = some _ := hK95; clear hK95; unfold F_laws_eqInt64SS_k2 at hF; refine e_then (wp_seq (wp_region_lit ?_)); refine op_g ha rfl (g_assign rfl) ?_; intro a ha; refine wpList_nil (e_then (wp_ret ?_)); obtain rfl := Option.some.inj hF
  exact f_ret1 ha rfl rfl ⟨rfl, hE98⟩
set_option maxHeartbeats 2000000 in
theorem W_laws_eqGraph {W : World} {va0_0 : Value} {fa0_0 : List Nat} {a0_0 : (List (List Int))} (ha0_0 : Ro (Rp.sl 2 Rp.int) W fa0_0 va0_0 a0_0) {va1_0 : Value} {fa1_0 : List Nat} {a1_0 : (List (List Int))} (ha1_0 : Ro (Rp.sl 2 Rp.int) W fa1_0 va1_0 a1_0) {r : Bool} (hF : F_laws_eqGraph a0_0 a1_0 = some r) :
    Calls Try.prog 13 [.agg #[va0_0], .agg #[va1_0]].toArray W (Ret fun u w' => u = .bool r ∧ Ext W w') := by
  refine f_enter Try.func13 rfl Try.ntmps13 rfl ?_
  intro a ha
  replace ha : Fr 11 [(0, (.agg #[va0_0])), (1, (.agg #[va1_0]))] a := ha; have hE : Chg [] W W := Chg.refl _ _
  unfold F_laws_eqGraph at hF
  refine wp_seq (wp_region_lit ?_); refine o_box ha rfl rfl rfl ?_; clear ha a; intro b1 w2 hB3 hx4 hlo5 a ha; have hE8 := Ext.trans hE hx4; refine o_box ha rfl rfl rfl ?_; clear ha a; intro b9 w10 hB11 hx12 hlo13 a ha; replace hB3 := hB3.ext hx12; have hE18 := Ext.trans hE8 hx12; refine op_g ha rfl (g_assign rfl) ?_; intro a ha; refine wpList_nil (e_then (wp_seq (wp_seq (wp_region_lit ?_)))); refine op_g ha rfl (g_field0 st31_0 rfl) fun a ha => op_g ha rfl (g_load Try.isAgg22 rfl (hB3.cell rfl)) fun a ha => op_g ha rfl (g_field0 st31_0 rfl) fun a ha => op_g ha rfl (g_load Try.isAgg22 rfl (hB11.cell rfl)) ?_; intro a ha; obtain ⟨x19, hc20, hF⟩ := cal_some hF; refine o_call ha rfl rfl Try.call35 (W_laws_eqInt64SS (ha0_0.ext hE18) (ha1_0.ext hE18) hc20) ?_; clear ha a; rintro v21 w22 ⟨rfl, hx23⟩ a ha; have hE24 := Ext.trans hE18 hx23; refine op_g ha rfl (g_not rfl) ?_; intro a ha; refine wpList_nil (e_then ?_); refine c_cond (¬ (x19 = true)) ha rfl (n_iff (Iff.rfl)) (fun hp25 => ?_) (fun hp25 => ?_)
  · replace hF := if_t hp25 hF
    refine wp_seq (wp_region_lit ?_); refine op_g ha rfl (g_assign rfl) ?_; intro a ha; refine wpList_nil (e_then (wp_ret (e_then_ret ?_))); obtain rfl := Option.some.inj hF
    exact f_ret1 ha rfl rfl ⟨rfl, hE24⟩
  replace hF := if_f hp25 hF; refine wp_skip (e_then (wp_seq (wp_region_lit ?_))); refine op_g ha rfl (g_assign rfl) ?_; intro a ha; refine wpList_nil ?_; replace ha := ha.sub (σ' := [(4, (.bool true))]) ⟨rfl, trivial⟩; refine e_then (wp_ret ?_); obtain rfl := Option.some.inj hF
  exact f_ret1 ha rfl rfl ⟨rfl, hE24⟩
set_option maxHeartbeats 2000000 in
theorem W_laws_eqNice {W : World} {va0_0 : Value} {fa0_0 : List Nat} {a0_0 : (List Int)} (ha0_0 : Ro Rp.int W fa0_0 va0_0 a0_0) {va0_1 : Value} {fa0_1 : List Nat} {a0_1 : (List Int)} (ha0_1 : Ro Rp.int W fa0_1 va0_1 a0_1) {va0_2 : Value} {fa0_2 : List Nat} {a0_2 : (List (List Int))} (ha0_2 : Ro (Rp.sl 2 Rp.int) W fa0_2 va0_2 a0_2) {va0_3 : Value} {fa0_3 : List Nat} {a0_3 : (List (List Int))} (ha0_3 : Ro (Rp.sl 2 Rp.int) W fa0_3 va0_3 a0_3) {va1_0 : Value} {fa1_0 : List Nat} {a1_0 : (List Int)} (ha1_0 : Ro Rp.int W fa1_0 va1_0 a1_0) {va1_1 : Value} {fa1_1 : List Nat} {a1_1 : (List Int)} (ha1_1 : Ro Rp.int W fa1_1 va1_1 a1_1) {va1_2 : Value} {fa1_2 : List Nat} {a1_2 : (List (List Int))} (ha1_2 : Ro (Rp.sl 2 Rp.int) W fa1_2 va1_2 a1_2) {va1_3 : Value} {fa1_3 : List Nat} {a1_3 : (List (List Int))} (ha1_3 : Ro (Rp.sl 2 Rp.int) W fa1_3 va1_3 a1_3) {r : Bool} (hF : F_laws_eqNice a0_0 a0_1 a0_2 a0_3 a1_0 a1_1 a1_2 a1_3 = some r) :
    Calls Try.prog 14 [.agg #[va0_0, va0_1, va0_2, va0_3], .agg #[va1_0, va1_1, va1_2, va1_3]].toArray W (Ret fun u w' => u = .bool r ∧ Ext W w') := by
  refine f_enter Try.func14 rfl Try.ntmps14 rfl ?_
  intro a ha
  replace ha : Fr 29 [(0, (.agg #[va0_0, va0_1, va0_2, va0_3])), (1, (.agg #[va1_0, va1_1, va1_2, va1_3]))] a := ha; have hE : Chg [] W W := Chg.refl _ _
  unfold F_laws_eqNice at hF
  refine wp_seq (wp_region_lit ?_); refine o_box ha rfl rfl rfl ?_; clear ha a; intro b1 w2 hB3 hx4 hlo5 a ha; have hE8 := Ext.trans hE hx4; refine o_box ha rfl rfl rfl ?_; clear ha a; intro b9 w10 hB11 hx12 hlo13 a ha; replace hB3 := hB3.ext hx12; have hE18 := Ext.trans hE8 hx12; refine op_g ha rfl (g_assign rfl) ?_; intro a ha; refine wpList_nil (e_then (wp_seq (wp_seq (wp_region_lit ?_)))); refine op_g ha rfl (g_field0 st33_0 rfl) fun a ha => op_g ha rfl (g_load Try.isAgg25 rfl (hB3.cell rfl)) fun a ha => op_g ha rfl (g_field0 st33_0 rfl) fun a ha => op_g ha rfl (g_load Try.isAgg25 rfl (hB11.cell rfl)) ?_; intro a ha; obtain ⟨x19, hc20, hF⟩ := cal_some hF; refine o_call ha rfl rfl Try.call18 (W_laws_eqInt64S (ha0_0.ext hE18) (ha1_0.ext hE18) hc20) ?_; clear ha a; rintro v21 w22 ⟨rfl, hx23⟩ a ha; replace hB3 := hB3.ext hx23; replace hB11 := hB11.ext hx23; have hE24 := Ext.trans hE18 hx23; refine op_g ha rfl (g_not rfl) ?_; intro a ha; refine wpList_nil (e_then ?_); refine c_cond (¬ (x19 = true)) ha rfl (n_iff (Iff.rfl)) (fun hp25 => ?_) (fun hp25 => ?_)
  · replace hF := if_t hp25 hF
    refine wp_seq (wp_region_lit ?_); refine op_g ha rfl (g_assign rfl) ?_; intro a ha; refine wpList_nil (e_then (wp_ret (e_then_ret ?_))); obtain rfl := Option.some.inj hF
    exact f_ret1 ha rfl rfl ⟨rfl, hE24⟩
  replace hF := if_f hp25 hF; refine wp_skip (e_then (wp_seq (wp_seq (wp_region_lit ?_)))); refine op_g ha rfl (g_field0 st33_1 rfl) fun a ha => op_g ha rfl (g_load Try.isAgg25 rfl (hB3.cell rfl)) fun a ha => op_g ha rfl (g_field0 st33_1 rfl) fun a ha => op_g ha rfl (g_load Try.isAgg25 rfl (hB11.cell rfl)) ?_; intro a ha; obtain ⟨x26, hc27, hF⟩ := cal_some hF; refine o_call ha rfl rfl Try.call18 (W_laws_eqInt64S (ha0_1.ext hE24) (ha1_1.ext hE24) hc27) ?_; clear ha a; rintro v28 w29 ⟨rfl, hx30⟩ a ha; replace hB3 := hB3.ext hx30; replace hB11 := hB11.ext hx30; have hE31 := Ext.trans hE24 hx30; refine op_g ha rfl (g_not rfl) ?_; intro a ha; refine wpList_nil ?_; replace ha := ha.sub (σ' := [(2, (.pointer (some ⟨b1, 0, none⟩))), (3, (.pointer (some ⟨b9, 0, none⟩))), (16, (.bool (!x26)))]) ⟨rfl, rfl, rfl, trivial⟩; refine e_then ?_; refine c_cond (¬ (x26 = true)) ha rfl (n_iff (Iff.rfl)) (fun hp32 => ?_) (fun hp32 => ?_)
  · replace hF := if_t hp32 hF
    refine wp_seq (wp_region_lit ?_); refine op_g ha rfl (g_assign rfl) ?_; intro a ha; refine wpList_nil (e_then (wp_ret (e_then_ret ?_))); obtain rfl := Option.some.inj hF
    exact f_ret1 ha rfl rfl ⟨rfl, hE31⟩
  replace hF := if_f hp32 hF; refine wp_skip (e_then (wp_seq (wp_seq (wp_region_lit ?_)))); refine op_g ha rfl (g_field0 st33_2 rfl) fun a ha => op_g ha rfl (g_load Try.isAgg22 rfl (hB3.cell rfl)) fun a ha => op_g ha rfl (g_field0 st33_2 rfl) fun a ha => op_g ha rfl (g_load Try.isAgg22 rfl (hB11.cell rfl)) ?_; intro a ha; obtain ⟨x33, hc34, hF⟩ := cal_some hF; refine o_call ha rfl rfl Try.call35 (W_laws_eqInt64SS (ha0_2.ext hE31) (ha1_2.ext hE31) hc34) ?_; clear ha a; rintro v35 w36 ⟨rfl, hx37⟩ a ha; replace hB3 := hB3.ext hx37; replace hB11 := hB11.ext hx37; have hE38 := Ext.trans hE31 hx37; refine op_g ha rfl (g_not rfl) ?_; intro a ha; refine wpList_nil (e_then ?_); refine c_cond (¬ (x33 = true)) ha rfl (n_iff (Iff.rfl)) (fun hp39 => ?_) (fun hp39 => ?_)
  · replace hF := if_t hp39 hF
    refine wp_seq (wp_region_lit ?_); refine op_g ha rfl (g_assign rfl) ?_; intro a ha; refine wpList_nil (e_then (wp_ret (e_then_ret ?_))); obtain rfl := Option.some.inj hF
    exact f_ret1 ha rfl rfl ⟨rfl, hE38⟩
  replace hF := if_f hp39 hF; refine wp_skip (e_then (wp_seq (wp_seq (wp_region_lit ?_)))); refine op_g ha rfl (g_field0 st33_3 rfl) fun a ha => op_g ha rfl (g_load Try.isAgg22 rfl (hB3.cell rfl)) fun a ha => op_g ha rfl (g_field0 st33_3 rfl) fun a ha => op_g ha rfl (g_load Try.isAgg22 rfl (hB11.cell rfl)) ?_; intro a ha; obtain ⟨x40, hc41, hF⟩ := cal_some hF; refine o_call ha rfl rfl Try.call35 (W_laws_eqInt64SS (ha0_3.ext hE38) (ha1_3.ext hE38) hc41) ?_; clear ha a; rintro v42 w43 ⟨rfl, hx44⟩ a ha; have hE45 := Ext.trans hE38 hx44; refine op_g ha rfl (g_not rfl) ?_; intro a ha; refine wpList_nil ?_; replace ha := ha.sub (σ' := [(28, (.bool (!x40)))]) ⟨rfl, trivial⟩; refine e_then ?_; refine c_cond (¬ (x40 = true)) ha rfl (n_iff (Iff.rfl)) (fun hp46 => ?_) (fun hp46 => ?_)
  · replace hF := if_t hp46 hF
    refine wp_seq (wp_region_lit ?_); refine op_g ha rfl (g_assign rfl) ?_; intro a ha; refine wpList_nil (e_then (wp_ret (e_then_ret ?_))); obtain rfl := Option.some.inj hF
    exact f_ret1 ha rfl rfl ⟨rfl, hE45⟩
  replace hF := if_f hp46 hF; refine wp_skip (e_then (wp_seq (wp_region_lit ?_))); refine op_g ha rfl (g_assign rfl) ?_; intro a ha; refine wpList_nil (e_then (wp_ret ?_)); obtain rfl := Option.some.inj hF
  exact f_ret1 ha rfl rfl ⟨rfl, hE45⟩
set_option maxHeartbeats 2000000 in
theorem W_laws_FnExactRuleBy {W : World} {va0_0 : Value} {fa0_0 : List Nat} {a0_0 : (List (List Int))} (ha0_0 : Ro (Rp.sl 2 Rp.int) W fa0_0 va0_0 a0_0) {va1_0 : Value} {fa1_0 : List Nat} {a1_0 : (List Int)} (ha1_0 : Ro Rp.int W fa1_0 va1_0 a1_0) {va1_1 : Value} {fa1_1 : List Nat} {a1_1 : (List Int)} (ha1_1 : Ro Rp.int W fa1_1 va1_1 a1_1) {va1_2 : Value} {fa1_2 : List Nat} {a1_2 : (List (List Int))} (ha1_2 : Ro (Rp.sl 2 Rp.int) W fa1_2 va1_2 a1_2) {va1_3 : Value} {fa1_3 : List Nat} {a1_3 : (List (List Int))} (ha1_3 : Ro (Rp.sl 2 Rp.int) W fa1_3 va1_3 a1_3) {r : Bool} (hF : F_laws_FnExactRuleBy a0_0 a1_0 a1_1 a1_2 a1_3 = some r) :
    Calls Try.prog 6 [.agg #[va0_0], .agg #[va1_0, va1_1, va1_2, va1_3]].toArray W (Ret fun u w' => u = .bool r ∧ Ext W w') := by
  refine f_enter Try.func6 rfl Try.ntmps6 rfl ?_
  intro a ha
  replace ha : Fr 45 [(0, (.agg #[va0_0])), (1, (.agg #[va1_0, va1_1, va1_2, va1_3]))] a := ha; have hE : Chg [] W W := Chg.refl _ _
  unfold F_laws_FnExactRuleBy at hF
  refine wp_seq (wp_region_lit ?_); refine o_box ha rfl rfl rfl ?_; clear ha a; intro b1 w2 hB3 hx4 hlo5 a ha; have hE8 := Ext.trans hE hx4; refine o_box ha rfl rfl rfl ?_; clear ha a; intro b9 w10 hB11 hx12 hlo13 a ha; replace hB3 := hB3.ext hx12; have hE18 := Ext.trans hE8 hx12; refine op_g ha rfl (g_assign rfl) ?_; intro a ha; refine wpList_nil (e_then (wp_seq (wp_region_lit ?_))); refine op_g ha rfl (g_assign rfl) ?_; intro a ha; refine wpList_nil (e_then (wp_seq (wp_region_lit ?_))); refine op_g ha rfl (g_loadA (cs := [va0_0]) Try.isAgg24 Try.sizeOf24 rfl (by simp) hB3.all) fun a ha => op_g ha rfl (g_move rfl) ?_; intro a ha; obtain ⟨x19, hc20, hF⟩ := cal_some hF; refine o_call ha rfl rfl Try.call7 (W_laws_szGraph (ha0_0.ext hE18) (show InI 1048576 from by decide) hc20) ?_; clear ha a; rintro v21 w22 ⟨⟨rfl, hI24⟩, hx23⟩ a ha; replace hB3 := hB3.ext hx23; replace hB11 := hB11.ext hx23; have hE25 := Ext.trans hE18 hx23; refine op_g ha rfl (g_assign rfl) ?_; intro a ha; refine wpList_nil (e_then (wp_seq (wp_seq (wp_region_lit ?_)))); refine op_g ha rfl (g_move rfl) fun a ha => op_g ha rfl (g_lss rfl rfl) ?_; intro a ha; refine wpList_nil (e_then ?_); refine c_cond (x19 < 0) ha rfl (decide_eq_true_iff) (fun hp26 => ?_) (fun hp26 => ?_)
  · replace hF := if_t hp26 hF
    refine wp_seq (wp_region_lit ?_); refine op_g ha rfl (g_assign rfl) ?_; intro a ha; refine wpList_nil ?_; replace ha := ha.sub (σ' := [(4, (.bool true))]) ⟨rfl, trivial⟩; refine e_then (wp_ret (e_then_ret ?_)); obtain rfl := Option.some.inj hF
    exact f_ret1 ha rfl rfl ⟨rfl, hE25⟩
  replace hF := if_f hp26 hF; refine wp_skip (e_then (wp_seq (wp_region_lit ?_))); refine op_g ha rfl (g_loadA (cs := [va1_0, va1_1, va1_2, va1_3]) Try.isAgg27 Try.sizeOf27 rfl (by simp) hB11.all) fun a ha => op_g ha rfl (g_move rfl) ?_; intro a ha; obtain ⟨x27, hc28, hF⟩ := cal_some hF; refine o_call ha rfl rfl Try.call8 (W_laws_szNice (ha1_0.ext hE25) (ha1_1.ext hE25) (ha1_2.ext hE25) (ha1_3.ext hE25) hI24 hc28) ?_; clear ha a; rintro v29 w30 ⟨⟨rfl, hI32⟩, hx31⟩ a ha; replace hB3 := hB3.ext hx31; replace hB11 := hB11.ext hx31; have hE33 := Ext.trans hE25 hx31; refine op_g ha rfl (g_assign rfl) ?_; intro a ha; refine wpList_nil (e_then (wp_seq (wp_seq (wp_region_lit ?_)))); refine op_g ha rfl (g_move rfl) fun a ha => op_g ha rfl (g_lss rfl rfl) ?_; intro a ha; refine wpList_nil (e_then ?_); refine c_cond (x27 < 0) ha rfl (decide_eq_true_iff) (fun hp34 => ?_) (fun hp34 => ?_)
  · replace hF := if_t hp34 hF
    refine wp_seq (wp_region_lit ?_); refine op_g ha rfl (g_assign rfl) ?_; intro a ha; refine wpList_nil (e_then (wp_ret (e_then_ret ?_))); obtain rfl := Option.some.inj hF
    exact f_ret1 ha rfl rfl ⟨rfl, hE33⟩
  replace hF := if_f hp34 hF; refine wp_skip (e_then (wp_seq ?_)); refine d_region [0, 1, 2, 3, 4, 5] hmix ?_; refine u_g 0 rfl (by kernel_rfl) (want0 _) ha rfl (g_loadA (cs := [va0_0]) Try.isAgg24 Try.sizeOf24 rfl (by simp) hB3.all) ?_; intro a ha; refine u_g 2 rfl (by kernel_rfl) (want0 _) ha rfl (g_loadA (cs := [va1_0, va1_1, va1_2, va1_3]) Try.isAgg27 Try.sizeOf27 rfl (by simp) hB11.all) ?_; intro a ha; refine u_only 1 rfl (by kernel_rfl) ?_; intro w35 hx36; replace hB3 := hB3.ext hx36; replace hB11 := hB11.ext hx36; have hE37 := Ext.trans hE33 hx36; obtain ⟨x38, hc39, hF⟩ := cal_some hF; refine o_call ha rfl rfl Try.call10 (W_laws_toGraph (ha0_0.ext hE37) hc39) ?_; clear ha a; rintro v40 w41 ⟨u43, b44, fs48, rfl, h45, z46, zf49, nd50, hx42⟩ a ha; replace hB3 := hB3.ext hx42; replace hB11 := hB11.ext hx42; have hE57 := Ext.trans hE37 hx42; refine wpList_nil (e_sq ?_)
  refine ⟨fun _ => hx42, ?_⟩
  refine u_only 3 rfl (by kernel_rfl) ?_; intro w60 hx61; replace hB3 := hB3.ext hx61; replace hB11 := hB11.ext hx61; replace h45 := h45.ext hx61; have hE62 := Ext.trans hE57 hx61; obtain ⟨x63, hc64, hF⟩ := cal_some hF; refine o_call ha rfl rfl Try.call11 (W_laws_toNice (ha1_0.ext hE62) (ha1_1.ext hE62) (ha1_2.ext hE62) (ha1_3.ext hE62) hc64) ?_; clear ha a; rintro v65 w66 ⟨u68, u69, u70, u71, b72, b76, b80, fs84, b87, fs91, rfl, h73, z74, h77, z78, h81, z82, zf85, nd86, h88, z89, zf92, nd93, q94, q95, q96, q97, q98, q99, q100, q101, q102, q103, q104, q105, q106, q107, q108, q109, q110, q111, hx67⟩ a ha; replace hB3 := hB3.ext hx67; replace hB11 := hB11.ext hx67; replace h45 := h45.ext hx67; have hE146 := Ext.trans hE62 hx67; refine wpList_nil (e_sq ?_)
  refine ⟨fun _ => hx67, ?_⟩
  obtain ⟨fp155, hro156, hs157⟩ := h45.roF; obtain ⟨fp158, hro159, hs160⟩ := h73.roF; obtain ⟨fp161, hro162, hs163⟩ := h77.roF; obtain ⟨fp164, hro165, hs166⟩ := h81.roF; obtain ⟨fp167, hro168, hs169⟩ := h88.roF; obtain ⟨x170, hc171, hF⟩ := cal_some hF; refine u_call (.int .i64 x170) 4 rfl (by kernel_rfl) (want0 _) ha rfl rfl Try.call21 (fun w154 hx153 => W_spec_RuleBy (hro156.ext hx153) (hro159.ext hx153) (hro162.ext hx153) (hro165.ext hx153) (hro168.ext hx153) hc171) (fun _ _ _ h => ⟨h.1.1, h.2⟩) ?_; intro a ha; have hI172 : InI x170 := calls_fact (w := w66) (W_spec_RuleBy (hro156.ext (Chg.refl _ _)) (hro159.ext (Chg.refl _ _)) (hro162.ext (Chg.refl _ _)) (hro165.ext (Chg.refl _ _)) (hro168.ext (Chg.refl _ _)) hc171) (fun _ _ h => h.1.2); refine u_g 5 rfl (by kernel_rfl) (want0 _) ha rfl (g_assign rfl) ?_; intro a ha; refine u_done (by kernel_rfl) ?_; intro w173 hx174; replace hB3 := hB3.ext hx174; replace hB11 := hB11.ext hx174; have hE175 := Ext.trans hE146 hx174; replace ha := ha.sub (σ' := [(2, (.pointer (some ⟨b1, 0, none⟩))), (3, (.pointer (some ⟨b9, 0, none⟩))), (6, (.int .i64 x170))]) ⟨rfl, rfl, rfl, trivial⟩; refine e_then (wp_seq (wp_region_lit ?_)); refine op_g ha rfl (g_loadA (cs := [va0_0]) Try.isAgg24 Try.sizeOf24 rfl (by simp) hB3.all) ?_; intro a ha; obtain ⟨x176, hc177, hF⟩ := cal_some hF; refine o_call ha rfl rfl Try.call10 (W_laws_toGraph (ha0_0.ext hE175) hc177) ?_; clear ha a; rintro v178 w179 ⟨u181, b182, fs186, rfl, h183, z184, zf187, nd188, hx180⟩ a ha
  replace hB3 := hB3.ext hx180; replace hB11 := hB11.ext hx180; have hE195 := Ext.trans hE175 hx180; refine o_alloc (cs := [(.slice none 0 0)]) ha rfl Try.zeroValue31 rfl ?_; clear ha a; intro b198 w199 hB200 hx201 hlo202 a ha; have q203 := Zn.one hlo202; have q204 := Nq.new hB3.fpb q203; have q206 := Nq.new hB11.fpb q203; have q208 := Nq.new h183.fpb q203; have q211 := Zn.upD q203 hE195; replace hB3 := hB3.ext hx201; replace hB11 := hB11.ext hx201; replace h183 := h183.ext hx201; have hE212 := Ext.trans hE195 hx201
  refine o_storeA (vs := [u181]) ha hB200 Try.sizeOf31 rfl rfl (by intro c hc; simp only [List.mem_cons, List.not_mem_nil, or_false] at hc; rcases hc with hc <;> subst hc <;> first | rfl | exact h183.oneC) rfl ?_; intro w213 hB214 hc215
  replace hc215 := hc215.bl; replace hB214 : Bx w213 b198 [u181] 31 := hB214; replace hB3 := hB3.nq hc215 q204; replace hB11 := hB11.nq hc215 q206; replace h183 := h183.nq hc215 q208; have hE216 := Ext.then hE212 hc215 (Zn.bl q211); refine wpList_nil (e_then (wp_seq (wp_region_lit ?_))); refine op_g ha rfl (g_loadA (cs := [va1_0, va1_1, va1_2, va1_3]) Try.isAgg27 Try.sizeOf27 rfl (by simp) hB11.all) ?_; intro a ha; obtain ⟨x217, hc218, hF⟩ := cal_some hF; refine o_call ha rfl rfl Try.call11 (W_laws_toNice (ha1_0.ext hE216) (ha1_1.ext hE216) (ha1_2.ext hE216) (ha1_3.ext hE216) hc218) ?_; clear ha a; rintro v219 w220 ⟨u222, u223, u224, u225, b226, b230, b234, fs238, b241, fs245, rfl, h227, z228, h231, z232, h235, z236, zf239, nd240, h242, z243, zf246, nd247, q248, q249, q250, q251, q252, q253, q254, q255, q256, q257, q258, q259, q260, q261, q262, q263, q264, q265, hx221⟩ a ha; replace hB3 := hB3.ext hx221; replace hB11 := hB11.ext hx221; replace h183 := h183.ext hx221; replace hB214 := hB214.ext hx221; have hE310 := Ext.trans hE216 hx221; refine o_alloc (cs := [(.slice none 0 0), (.slice none 0 0), (.slice none 0 0), (.slice none 0 0)]) ha rfl Try.zeroValue33 rfl ?_; clear ha a; intro b317 w318 hB319 hx320 hlo321 a ha; have q322 := Zn.one hlo321; have q323 := Nq.new hB3.fpb q322; have q325 := Nq.new hB11.fpb q322; have q327 := Nq.new h183.fpb q322; have q330 := Nq.new hB214.fpb q322; have q332 := Nq.new h227.fpb q322; have q334 := Nq.new h231.fpb q322
  have q336 := Nq.new h235.fpb q322; have q339 := Nq.new h242.fpb q322; have q342 := Zn.upD q322 hE310; replace hB3 := hB3.ext hx320; replace hB11 := hB11.ext hx320; replace h183 := h183.ext hx320; replace hB214 := hB214.ext hx320; replace h227 := h227.ext hx320; replace h231 := h231.ext hx320; replace h235 := h235.ext hx320; replace h242 := h242.ext hx320; have hE343 := Ext.trans hE310 hx320
  refine o_storeA (vs := [u222, u223, u224, u225]) ha hB319 Try.sizeOf33 rfl rfl (by intro c hc; simp only [List.mem_cons, List.not_mem_nil, or_false] at hc; rcases hc with hc | hc | hc | hc <;> subst hc <;> first | rfl | exact h227.oneC | exact h231.oneC | exact h235.oneC | exact h242.oneC) rfl ?_; intro w344 hB345 hc346
  replace hc346 := hc346.bl; replace hB345 : Bx w344 b317 [u222, u223, u224, u225] 33 := hB345; replace hB3 := hB3.nq hc346 q323; replace hB11 := hB11.nq hc346 q325; replace h183 := h183.nq hc346 q327; replace hB214 := hB214.nq hc346 q330; replace h227 := h227.nq hc346 q332; replace h231 := h231.nq hc346 q334; replace h235 := h235.nq hc346 q336; replace h242 := h242.nq hc346 q339; have hE347 := Ext.then hE343 hc346 (Zn.bl q342); refine wpList_nil (e_then (wp_seq (wp_region_lit ?_))); refine op_g ha rfl (g_loadA (cs := [u181]) Try.isAgg31 Try.sizeOf31 rfl (by simp) hB214.all) fun a ha => op_g ha rfl (g_loadA (cs := [u222, u223, u224, u225]) Try.isAgg33 Try.sizeOf33 rfl (by simp) hB345.all) ?_; intro a ha; obtain ⟨fp348, hro349, hs350⟩ := h183.roF; obtain ⟨fp351, hro352, hs353⟩ := h227.roF; obtain ⟨fp354, hro355, hs356⟩ := h231.roF; obtain ⟨fp357, hro358, hs359⟩ := h235.roF; obtain ⟨fp360, hro361, hs362⟩ := h242.roF; obtain ⟨x363, hc364, hF⟩ := cal_some hF; refine o_call ha rfl rfl Try.call22 (W_impl_RuleBy hro349 hro352 hro355 hro358 hro361 hc364) ?_; clear ha a; rintro v365 w366 ⟨⟨rfl, hI368⟩, hx367⟩ a ha; replace hB3 := hB3.ext hx367; replace hB11 := hB11.ext hx367; replace h183 := h183.ext hx367; replace hB214 := hB214.ext hx367; replace h227 := h227.ext hx367; replace h231 := h231.ext hx367; replace h235 := h235.ext hx367; replace h242 := h242.ext hx367; replace hB345 := hB345.ext hx367; have hE369 := Ext.trans hE347 hx367
  refine op_g ha rfl (g_assign rfl) ?_; intro a ha; refine wpList_nil (e_then (wp_seq (wp_seq (wp_region_lit ?_)))); refine op_g ha rfl (g_move rfl) fun a ha => op_g ha rfl (g_move rfl) fun a ha => op_g ha rfl (g_neq rfl rfl) ?_; intro a ha; refine wpList_nil ?_; replace ha := ha.sub (σ' := [(2, (.pointer (some ⟨b1, 0, none⟩))), (3, (.pointer (some ⟨b9, 0, none⟩))), (7, (.pointer (some ⟨b198, 0, none⟩))), (8, (.pointer (some ⟨b317, 0, none⟩))), (34, (.bool (decide (x363 ≠ x170))))]) ⟨rfl, rfl, rfl, rfl, rfl, trivial⟩; refine e_then ?_; refine c_cond (x363 ≠ x170) ha rfl (decide_eq_true_iff) (fun hp370 => ?_) (fun hp370 => ?_)
  · replace hF := if_t hp370 hF
    refine wp_seq (wp_region_lit ?_); refine op_g ha rfl (g_assign rfl) ?_; intro a ha; refine wpList_nil (e_then (wp_ret (e_then_ret ?_))); obtain rfl := Option.some.inj hF
    exact f_ret1 ha rfl rfl ⟨rfl, hE369⟩
  replace hF := if_f hp370 hF; refine wp_skip (e_then (wp_seq (wp_seq ?_))); refine d_region [0, 1, 2, 3, 4] hmix ?_; refine u_g 0 rfl (by kernel_rfl) (want0 _) ha rfl (g_loadA (cs := [u181]) Try.isAgg31 Try.sizeOf31 rfl (by simp) hB214.all) ?_; intro a ha; refine u_g 1 rfl (by kernel_rfl) (want0 _) ha rfl (g_loadA (cs := [va0_0]) Try.isAgg24 Try.sizeOf24 rfl (by simp) hB3.all) ?_; intro a ha; refine u_only 2 rfl (by kernel_rfl) ?_; intro w371 hx372; replace hB11 := hB11.ext hx372; replace h183 := h183.ext hx372; replace h227 := h227.ext hx372; replace h231 := h231.ext hx372; replace h235 := h235.ext hx372; replace h242 := h242.ext hx372; replace hB345 := hB345.ext hx372; have hE373 := Ext.trans hE369 hx372; obtain ⟨x374, hc375, hF⟩ := cal_some hF; refine o_call ha rfl rfl Try.call10 (W_laws_toGraph (ha0_0.ext hE373) hc375) ?_; clear ha a; rintro v376 w377 ⟨u379, b380, fs384, rfl, h381, z382, zf385, nd386, hx378⟩ a ha; replace hB11 := hB11.ext hx378; replace h183 := h183.ext hx378; replace h227 := h227.ext hx378; replace h231 := h231.ext hx378; replace h235 := h235.ext hx378; replace h242 := h242.ext hx378; replace hB345 := hB345.ext hx378; have hE417 := Ext.trans hE373 hx378; refine wpList_nil (e_sq ?_)
  refine ⟨fun _ => hx378, ?_⟩
  obtain ⟨fp422, hro423, hs424⟩ := h183.roF; obtain ⟨fp425, hro426, hs427⟩ := h381.roF; obtain ⟨x428, hc429, hF⟩ := cal_some hF; refine u_call (.bool x428) 3 rfl (by kernel_rfl) (want0 _) ha rfl rfl Try.call13 (fun w421 hx420 => W_laws_eqGraph (hro423.ext hx420) (hro426.ext hx420) hc429) (fun _ _ _ h => ⟨h.1, h.2⟩) ?_; intro a ha; refine u_g 4 rfl (by kernel_rfl) (want0 _) ha rfl (g_not rfl) ?_; intro a ha; refine u_done (by kernel_rfl) ?_; intro w430 hx431; replace hB11 := hB11.ext hx431; replace h227 := h227.ext hx431; replace h231 := h231.ext hx431; replace h235 := h235.ext hx431; replace h242 := h242.ext hx431; replace hB345 := hB345.ext hx431; have hE432 := Ext.trans hE417 hx431; refine e_then ?_; refine c_cond (¬ (x428 = true)) ha rfl (n_iff (Iff.rfl)) (fun hp433 => ?_) (fun hp433 => ?_)
  · replace hF := if_t hp433 hF
    refine wp_seq (wp_region_lit ?_); refine op_g ha rfl (g_assign rfl) ?_; intro a ha; refine wpList_nil (e_then (wp_ret (e_then_ret ?_))); obtain rfl := Option.some.inj hF
    exact f_ret1 ha rfl rfl ⟨rfl, hE432⟩
  replace hF := if_f hp433 hF; refine wp_skip (e_then (wp_seq (wp_seq ?_))); refine d_region [0, 1, 2, 3, 4] hmix ?_; refine u_g 0 rfl (by kernel_rfl) (want0 _) ha rfl (g_loadA (cs := [u222, u223, u224, u225]) Try.isAgg33 Try.sizeOf33 rfl (by simp) hB345.all) ?_; intro a ha; refine u_g 1 rfl (by kernel_rfl) (want0 _) ha rfl (g_loadA (cs := [va1_0, va1_1, va1_2, va1_3]) Try.isAgg27 Try.sizeOf27 rfl (by simp) hB11.all) ?_; intro a ha; refine u_only 2 rfl (by kernel_rfl) ?_; intro w434 hx435; replace h227 := h227.ext hx435; replace h231 := h231.ext hx435; replace h235 := h235.ext hx435; replace h242 := h242.ext hx435; have hE436 := Ext.trans hE432 hx435; obtain ⟨x437, hc438, hF⟩ := cal_some hF; refine o_call ha rfl rfl Try.call11 (W_laws_toNice (ha1_0.ext hE436) (ha1_1.ext hE436) (ha1_2.ext hE436) (ha1_3.ext hE436) hc438) ?_; clear ha a; rintro v439 w440 ⟨u442, u443, u444, u445, b446, b450, b454, fs458, b461, fs465, rfl, h447, z448, h451, z452, h455, z456, zf459, nd460, h462, z463, zf466, nd467, q468, q469, q470, q471, q472, q473, q474, q475, q476, q477, q478, q479, q480, q481, q482, q483, q484, q485, hx441⟩ a ha; replace h227 := h227.ext hx441; replace h231 := h231.ext hx441; replace h235 := h235.ext hx441; replace h242 := h242.ext hx441; have hE554 := Ext.trans hE436 hx441; refine wpList_nil (e_sq ?_)
  refine ⟨fun _ => hx441, ?_⟩
  obtain ⟨fp563, hro564, hs565⟩ := h227.roF; obtain ⟨fp566, hro567, hs568⟩ := h231.roF; obtain ⟨fp569, hro570, hs571⟩ := h235.roF; obtain ⟨fp572, hro573, hs574⟩ := h242.roF; obtain ⟨fp575, hro576, hs577⟩ := h447.roF; obtain ⟨fp578, hro579, hs580⟩ := h451.roF; obtain ⟨fp581, hro582, hs583⟩ := h455.roF; obtain ⟨fp584, hro585, hs586⟩ := h462.roF; obtain ⟨x587, hc588, hF⟩ := cal_some hF; refine u_call (.bool x587) 3 rfl (by kernel_rfl) (want0 _) ha rfl rfl Try.call14 (fun w562 hx561 => W_laws_eqNice (hro564.ext hx561) (hro567.ext hx561) (hro570.ext hx561) (hro573.ext hx561) (hro576.ext hx561) (hro579.ext hx561) (hro582.ext hx561) (hro585.ext hx561) hc588) (fun _ _ _ h => ⟨h.1, h.2⟩) ?_; intro a ha; refine u_g 4 rfl (by kernel_rfl) (want0 _) ha rfl (g_not rfl) ?_; intro a ha; refine u_done (by kernel_rfl) ?_; intro w589 hx590; have hE591 := Ext.trans hE554 hx590; replace ha := ha.sub (σ' := [(44, (.bool (!x587)))]) ⟨rfl, trivial⟩; refine e_then ?_; refine c_cond (¬ (x587 = true)) ha rfl (n_iff (Iff.rfl)) (fun hp592 => ?_) (fun hp592 => ?_)
  · replace hF := if_t hp592 hF
    refine wp_seq (wp_region_lit ?_); refine op_g ha rfl (g_assign rfl) ?_; intro a ha; refine wpList_nil (e_then (wp_ret (e_then_ret ?_))); obtain rfl := Option.some.inj hF
    exact f_ret1 ha rfl rfl ⟨rfl, hE591⟩
  replace hF := if_f hp592 hF; refine wp_skip (e_then (wp_seq (wp_region_lit ?_))); refine op_g ha rfl (g_assign rfl) ?_; intro a ha; refine wpList_nil (e_then (wp_ret ?_)); obtain rfl := Option.some.inj hF
  exact f_ret1 ha rfl rfl ⟨rfl, hE591⟩
end Go.Proofs.Ytnebbhginakaiaa
