/- Walks, printed by gen.py. -/
import Derived.Test.YtnebbhginakaiaaDoorF
import Derived.Test.YtnebbhginakaiaaDoorW3
import Derived.Test.YtnebbhginakaiaaDoorProg
import Derived.KernelRfl
set_option maxRecDepth 100000
namespace Go.Proofs.YtnebbhginakaiaaDoor
open Go Go.RowKit

set_option maxHeartbeats 2000000 in
theorem undMap : Tryd.prog.underlying 72 = some (.map 68 2) := by kernel_rfl
theorem slTabs : SlT Tryd.prog 97 72 1 8 (.map none) := ⟨by kernel_rfl, by kernel_rfl, by rfl⟩
theorem zInt : ∀ w, (zeroValue 2).run Tryd.prog w = .ok (.int .i64 0) w := fun w => by
  obtain ⟨i, hi, hz, _⟩ := sl25.info
  simp [zeroValue, typeInfo, hi, hz]
theorem stR0 : stF Tryd.prog 76 0 = some 0 := by kernel_rfl
theorem stR1 : stF Tryd.prog 76 1 = some 1 := by kernel_rfl
theorem stR2 : stF Tryd.prog 76 2 = some 2 := by kernel_rfl
theorem stR3 : stF Tryd.prog 76 3 = some 3 := by kernel_rfl
theorem stR4 : stF Tryd.prog 76 4 = some 4 := by kernel_rfl
theorem stX0 : stF Tryd.prog 33 0 = some 0 := by kernel_rfl
theorem stX1 : stF Tryd.prog 33 1 = some 1 := by kernel_rfl
theorem stX2 : stF Tryd.prog 33 2 = some 2 := by kernel_rfl
theorem stX3 : stF Tryd.prog 33 3 = some 3 := by kernel_rfl
theorem gatT_put {κ : Type} [DecidableEq κ] (pick : Int → Int → Int) (T : Tf κ) (s : κ) (n : Int) : gatT pick T (s, n) = putT T s (match T s with | some o => pick o n | none => n) := rfl
section
variable {κ : Type} [DecidableEq κ] {K : Ky Tryd.prog 68 κ} {rp : Rp κ} {R : Ru κ} {W0 : World} {fa fd fm fb fp : FuncId} {ca cd cm cb cp : List Value} {kc : κ → List Value} {zc : List Value}
set_option maxHeartbeats 2000000 in
theorem W_gather (hA : KAgg K kc zc) (hR : RuW Tryd.prog K rp R W0 fa fd fm fb fp ca cd cm cb cp) {W : World} (hE : Ext W0 W) {m : Nat} {T : Tf κ} (hM : Mt K W m T) (h0 : W0.heap.size ≤ m) (s : κ) {n : Int} (hn : InI n) :
    Calls Tryd.prog 64 [.agg (rvOf fa fd fm fb fp ca cd cm cb cp).toArray, .map (some m), K.kv s, .int .i64 n].toArray W (Ret fun u w' => Mt K w' m (gatT R.pick T (s, n)) ∧ Chg [m] W w') := by
  refine f_enter Tryd.func64 rfl Tryd.ntmps64 rfl ?_
  intro a ha
  replace ha : Fr 25 [(0, .agg (rvOf fa fd fm fb fp ca cd cm cb cp).toArray), (1, .map (some m)), (2, K.kv s), (3, .int .i64 n)] a := ha
  refine wp_seq ?_; refine wp_region_lit ?_
  refine o_box (cs := rvOf fa fd fm fb fp ca cd cm cb cp) ha rfl rfl rfl ?_; clear ha a; intro b4 w4 hB4 hx4 hlo4 a ha
  refine o_boxK hA ha rfl rfl ?_; clear ha a; intro b6 w4 hB6 hx6 hlo6 a ha; replace hB4 := hB4.ext hx6; replace hx4 := hx4.trans hx6
  refine wpList_nil ?_; refine e_then ?_
  have hM4 := hM.ext hx4
  have hE4 := hE.trans hx4

  refine s_cut (fun a w => ∃ y : Int, Fr 25 [(1, .map (some m)), (6, .pointer (some ⟨b6, 0, none⟩)), (3, .int .i64 y)] a ∧ InI y ∧ Ext w4 w ∧ putT T s y = gatT R.pick T (s, n)) ?_ ?_
  · refine wp_seq ?_; refine wp_region_lit ?_
    refine op_g ha rfl (g_move rfl) ?_; clear ha a; intro a ha
    refine op_g ha rfl (g_loadK hA hB6 rfl) ?_; clear ha a; intro a ha
    rcases hM4.look2 undMap zInt s with ⟨hT, hl⟩ | ⟨y0, hT, hy0, hl⟩
    · refine op_g ha rfl (g_lookup2 rfl rfl hl) ?_; clear ha a; intro a ha
      refine op_g ha rfl (g_move rfl) ?_; clear ha a; intro a ha
      refine op_g ha rfl (g_extract rfl rfl) ?_; clear ha a; intro a ha
      refine op_g ha rfl (g_extract rfl rfl) ?_; clear ha a; intro a ha
      refine op_g ha rfl (g_assign rfl) ?_; clear ha a; intro a ha
      refine op_g ha rfl (g_assign rfl) ?_; clear ha a; intro a ha
      refine wpList_nil ?_; refine e_then ?_; refine wp_seq ?_; refine wp_region_lit ?_
      refine op_g ha rfl (g_move rfl) ?_; clear ha a; intro a ha
      refine wpList_nil ?_; refine e_then ?_
      refine c_false ha rfl ?_; refine wp_skip ?_; refine e_sq ?_
      exact ⟨n, ha.sub ⟨rfl, rfl, rfl, trivial⟩, hn, Chg.refl _ _, by rw [gatT_put, hT]⟩
    · refine op_g ha rfl (g_lookup2 rfl rfl hl) ?_; clear ha a; intro a ha
      refine op_g ha rfl (g_move rfl) ?_; clear ha a; intro a ha
      refine op_g ha rfl (g_extract rfl rfl) ?_; clear ha a; intro a ha
      refine op_g ha rfl (g_extract rfl rfl) ?_; clear ha a; intro a ha
      refine op_g ha rfl (g_assign rfl) ?_; clear ha a; intro a ha
      refine op_g ha rfl (g_assign rfl) ?_; clear ha a; intro a ha
      refine wpList_nil ?_; refine e_then ?_; refine wp_seq ?_; refine wp_region_lit ?_
      refine op_g ha rfl (g_move rfl) ?_; clear ha a; intro a ha
      refine wpList_nil ?_; refine e_then ?_
      refine c_true ha rfl ?_; refine wp_region_lit ?_
      refine op_g ha rfl (g_field0 stR4 rfl) ?_; clear ha a; intro a ha
      refine op_g ha rfl (g_load Tryd.isAgg58 rfl (hB4.cell (j := 4) rfl)) ?_; clear ha a; intro a ha
      refine op_g ha rfl (g_move rfl) ?_; clear ha a; intro a ha
      refine op_g ha rfl (g_move rfl) ?_; clear ha a; intro a ha
      refine o_callv (vals := [Value.int .i64 y0, .int .i64 n]) (cap := cp) ha rfl rfl rfl hR.ep (hR.pick hE4 hy0 hn).2 ?_; clear ha a; rintro v21 w21 ⟨rfl, hx21⟩ a ha
      refine op_g ha rfl (g_assign rfl) ?_; clear ha a; intro a ha
      refine wpList_nil ?_; refine e_sq ?_
      exact ⟨R.pick y0 n, ha.sub ⟨rfl, rfl, rfl, trivial⟩, (hR.pick hE4 hy0 hn).1, hx21, by rw [gatT_put, hT]⟩
  · rintro a w ⟨y, ha, hy, hx, he⟩
    refine wp_region_lit ?_
    refine op_g ha rfl (g_move rfl) ?_; clear ha a; intro a ha
    refine op_g ha rfl (g_loadK hA (hB6.ext hx) rfl) ?_; clear ha a; intro a ha
    refine op_g ha rfl (g_move rfl) ?_; clear ha a; intro a ha
    refine o_mapT ha undMap (hM4.ext hx) hy rfl rfl rfl ?_; intro w5 hM5 hc5
    refine wpList_nil ?_
    rw [he] at hM5
    exact f_end0 ha rfl ⟨hM5, Chg.trans (hx4.trans hx).chg hc5 (fun i hi => .inl hi)⟩
set_option maxHeartbeats 4000000 in
theorem W_run {byK : Nat} {zK : Value} (slS : SlT Tryd.prog 69 68 rp.sz byK zK) (hld : ∀ {w : World} {p : Addr} {cs : List Value} {f : List Nat} {o : Bool} {s : κ} {σ : Slots} {x : Operand}, rp.rep o w f cs s → At w p cs → ev σ x = some (.pointer (some p)) → Gives Tryd.prog (Ext w) σ (.load 68 x) (K.kv s))
    (hA : KAgg K kc zc) (hR : RuW Tryd.prog K rp R W0 fa fd fm fb fp ca cd cm cb cp) {vk vv vb vd : Value} {fk fv fg fh : List Nat} {kinds verts : List Int} {bags kids : List (List Int)} (hk : Ro Rp.int W0 fk vk kinds) (hv : Ro Rp.int W0 fv vv verts) (hb : Ro (Rp.sl 2 Rp.int) W0 fg vb bags) (hd : Ro (Rp.sl 2 Rp.int) W0 fh vd kids)
    {m0 : Nat} {T0 : Tf κ} (hM0 : Mt K W0 m0 T0) {res : Tf κ} (hF : runF F_impl_maskOf R T0 kinds verts bags kids = some res) :
    Calls Tryd.prog 42 [.agg #[vk, vv, vb, vd], .map (some m0), .agg (rvOf fa fd fm fb fp ca cd cm cb cp).toArray].toArray W0 (Ret fun u w' => ∃ m, u = .map (some m) ∧ Mt K w' m res ∧ Ext W0 w') := by
  refine f_enter Tryd.func42 rfl Tryd.ntmps42 rfl ?_
  intro a ha
  replace ha : Fr 181 [(0, .agg #[vk, vv, vb, vd]), (1, .map (some m0)), (2, .agg (rvOf fa fd fm fb fp ca cd cm cb cp).toArray)] a := ha
  refine wp_seq ?_; refine wp_region_lit ?_
  refine o_box (cs := [vk, vv, vb, vd]) ha rfl rfl rfl ?_; clear ha a; intro bX w3 hB3 hx3 hlo3 a ha
  refine o_box (cs := rvOf fa fd fm fb fp ca cd cm cb cp) ha rfl rfl rfl ?_; clear ha a; intro bR w5 hB5 hx5 hlo5 a ha
  refine op_g ha rfl (g_assign rfl) ?_; clear ha a; intro a ha
  refine wpList_nil ?_; refine e_then ?_; refine wp_seq ?_; refine wp_region_lit ?_
  refine o_lit0 Rp.mp ha rfl slTabs ?_; clear ha a; intro v7 w7 h7 hx7 a ha
  refine op_g ha rfl (g_assign rfl) ?_; clear ha a; intro a ha
  refine wpList_nil ?_
  have hI0 : RunI K 33 76 72 W0 bX bR [vk, vv, vb, vd] (rvOf fa fd fm fb fp ca cd cm cb cp) (w5.heap.size : Int) v7 [] ([] : List (Tf κ)) w7 := by
    have s1 := hB3.blt; have s2 := hB5.blt; have s3 := hx5.size; have s4 := hx3.size
    exact ⟨(hx3.trans hx5).trans hx7, (hB3.ext hx5).ext hx7, hB5.ext hx7, h7, .inr (by omega), by omega, by omega, rfl, fun i m T h => by simp at h⟩
  replace ha := ha.sub (σ' := [(1, .map (some m0)), (3, .pointer (some ⟨bX, 0, none⟩)), (5, .pointer (some ⟨bR, 0, none⟩)), (7, v7)]) ⟨rfl, rfl, rfl, rfl, trivial⟩
  refine e_then ?_; refine wp_seq ?_; refine wp_seq ?_; refine wp_region_lit ?_
  refine op_g ha rfl (g_field0 stX0 rfl) ?_; clear ha a; intro a ha
  refine op_g ha rfl (g_load Tryd.isAgg25 rfl (hI0.bx.cell (j := 0) rfl)) ?_; clear ha a; intro a ha
  refine op_g ha rfl (g_lenR sl25.und (hk.ext hI0.ext) rfl) ?_; clear ha a; intro a ha
  refine op_g ha rfl (g_move rfl) ?_; clear ha a; intro a ha
  refine wpList_nil ?_
  replace ha := ha.sub (σ' := [(1, .map (some m0)), (3, .pointer (some ⟨bX, 0, none⟩)), (5, .pointer (some ⟨bR, 0, none⟩)), (7, v7), (29, vk), (30, .int .i64 (kinds.length : Int)), (31, .int .i64 0)]) ⟨rfl, rfl, rfl, rfl, rfl, rfl, rfl, trivial⟩
  unfold runF at hF; obtain ⟨tsf, hlp, hF⟩ := cal_some hF; obtain ⟨n1, hn1⟩ := lp_some hlp; clear hlp
  generalize hb7 : (w5.heap.size : Int) = b7 at hI0
  refine e_then ?_
  refine c_loop (fun a w => ∃ (b7 : Int) (v7 : Value) (ms : List Nat), Fr 181 [(7, v7)] a ∧ RunI K 33 76 72 W0 bX bR [vk, vv, vb, vd] (rvOf fa fd fm fb fp ca cd cm cb cp)  b7 v7 ms tsf w)
    (fun n a w => ∃ (b7 : Int) (v7 : Value) (ms : List Nat) (ts : List (Tf κ)) (i : Int), Fr 181 [(1, .map (some m0)), (3, .pointer (some ⟨bX, 0, none⟩)), (5, .pointer (some ⟨bR, 0, none⟩)), (7, v7), (29, vk), (30, .int .i64 (kinds.length : Int)), (31, .int .i64 i)] a ∧ RunI K 33 76 72 W0 bX bR [vk, vv, vb, vd] (rvOf fa fd fm fb fp ca cd cm cb cp)  b7 v7 ms ts w ∧ InI i ∧ lpN (fun s => runL F_impl_maskOf R T0 kinds verts bags kids s.1 s.2) n (ts, i) = some tsf) n1
    ⟨b7, v7, [], [], 0, ha, hI0, by decide, hn1⟩ ?_ ?_
  · clear ha hI0 hn1 hb7; clear b7 h7; clear v7
    rintro n a w ⟨b7, v7, ms, ts, i, ha, hI, hIi, hF⟩
    cases n with
    | zero => exact (lpN_zero hF).elim
    | succ n =>
      obtain ⟨z, hF, hN⟩ := lpN_succ hF
      have hF : runL F_impl_maskOf R T0 kinds verts bags kids ts i = some z := hF; unfold runL at hF
      refine wp_seq ?_; refine wp_region_lit ?_
      refine op_g ha rfl (g_lss rfl rfl) ?_; clear ha a; intro a ha
      refine wpList_nil ?_; refine e_then ?_; refine wp_seq ?_
      refine c_cond (i < (kinds.length : Int)) ha rfl decide_eq_true_iff (fun hp => ?_) (fun hp => ?_)
      · replace hF := if_t hp hF
        refine wp_skip ?_; refine e_then ?_; refine wp_seq ?_; refine wp_block ?_; refine wp_seq ?_; refine wp_region_lit ?_
        obtain ⟨kind, g0, gk, hF⟩ := idx_some hF
        obtain ⟨p1, cs1, f1, hf1, hpb1, hat1, hr1, hi1⟩ := (hk.ext hI.ext).at g0 gk; obtain ⟨rfl, hIk, rfl⟩ := hr1
        refine op_g ha rfl (g_move rfl) ?_; clear ha a; intro a ha
        refine op_g ha rfl (hi1.gives sl25 rfl rfl) ?_; clear ha a; intro a ha
        refine op_g ha rfl (g_load Tryd.isAgg2 rfl hat1.one) ?_; clear ha a; intro a ha
        refine op_g ha rfl (g_assign rfl) ?_; clear ha a; intro a ha
        refine op_g ha rfl (g_assign rfl) ?_; clear ha a; intro a ha
        refine wpList_nil ?_
        replace ha := ha.sub (σ' := [(1, .map (some m0)), (3, .pointer (some ⟨bX, 0, none⟩)), (5, .pointer (some ⟨bR, 0, none⟩)), (7, v7), (8, .int .i64 i), (9, .int .i64 kind), (29, vk), (30, .int .i64 (kinds.length : Int)), (31, .int .i64 i)]) ⟨rfl, rfl, rfl, rfl, rfl, rfl, rfl, rfl, rfl, trivial⟩
        obtain ⟨v, _, gv, hF⟩ := idx_some hF
        obtain ⟨p2, cs2, f2, hf2, hpb2, hat2, hr2, hi2⟩ := (hv.ext hI.ext).at g0 gv; obtain ⟨rfl, hIv, rfl⟩ := hr2
        obtain ⟨ks, _, gks, hF⟩ := idx_some hF
        obtain ⟨p3, cs3, f3, hf3, hpb3, hat3, hr3, hi3⟩ := hd.at g0 gks; obtain ⟨vks, rfl, hks00⟩ := hr3; have hks00 : Ro Rp.int W0 f3 vks ks := hks00; have hks0 : ∀ {w2 : World}, Ext W0 w2 → Ro Rp.int w2 f3 vks ks := fun hx => hks00.ext hx; have hks := hks0 hI.ext; replace hat3 := hat3.keep (hI.ext.block _ (hd.bnd _ hpb3) (by simp))
        obtain ⟨T, hnode, hF⟩ := cal_some hF; obtain ⟨hl, hF⟩ := app_some hF; obtain ⟨hI1, hF⟩ := ck_some hF
        refine e_then ?_; refine wp_seq ?_; refine x_region [0, 1, 2, 3, 4, 5, 6, 7, 8, 9, 10, 11, 12, 13] hmix ?_
        have hS0 := RowKit.Below.refl w.heap.size w
        refine x_g 1 rfl (by kernel_rfl) (want0 _) ha rfl hS0 (g_field0 stX1 rfl) ?_; clear ha a; intro a ha
        refine x_g 2 rfl (by kernel_rfl) (want0 _) ha rfl hS0 (g_load Tryd.isAgg25 rfl (hI.bx.cell (j := 1) rfl)) ?_; clear ha a; intro a ha
        refine x_g 3 rfl (by kernel_rfl) (want0 _) ha rfl hS0 (g_move rfl) ?_; clear ha a; intro a ha
        refine x_g 4 rfl (by kernel_rfl) (want0 _) ha rfl hS0 (hi2.gives sl25 rfl rfl) ?_; clear ha a; intro a ha
        refine x_g 5 rfl (by kernel_rfl) (want0 _) ha rfl hS0 (g_load Tryd.isAgg2 rfl hat2.one) ?_; clear ha a; intro a ha
        refine x_g 6 rfl (by kernel_rfl) (want0 _) ha rfl hS0 (g_field0 stX3 rfl) ?_; clear ha a; intro a ha
        refine x_g 7 rfl (by kernel_rfl) (want0 _) ha rfl hS0 (g_load Tryd.isAgg22 rfl (hI.bx.cell (j := 3) rfl)) ?_; clear ha a; intro a ha
        refine x_g 8 rfl (by kernel_rfl) (want0 _) ha rfl hS0 (g_move rfl) ?_; clear ha a; intro a ha
        refine x_g 9 rfl (by kernel_rfl) (want0 _) ha rfl hS0 (hi3.gives sl22 rfl rfl) ?_; clear ha a; intro a ha
        refine x_g 10 rfl (by kernel_rfl) (want0 _) ha rfl hS0 (g_load Tryd.isAgg25 rfl hat3.one) ?_; clear ha a; intro a ha
        refine x_only 0 rfl (by kernel_rfl) ?_; intro wa hxa
        have hS1 := bel_step hS0 hxa
        refine o_newT K ha rfl ?_; clear ha a; intro m wb hM hxb hlo a ha
        refine wpList_nil (e_sq ?_); refine ⟨fun _ => ext_bel hS1.size hxb, ?_⟩
        have hS2 := bel_step hS1 hxb
        refine x_g 11 rfl (by kernel_rfl) (want0 _) ha rfl hS2 (g_assign rfl) ?_; clear ha a; intro a ha
        refine x_g 12 rfl (by kernel_rfl) (want0 _) ha rfl hS2 (g_assign rfl) ?_; clear ha a; intro a ha
        refine x_g 13 rfl (by kernel_rfl) (want0 _) ha rfl hS2 (g_assign rfl) ?_; clear ha a; intro a ha
        refine x_done (by kernel_rfl) ?_; intro wc hxc
        have hxw := (hxa.trans hxb).trans hxc
        have hIo := hI
        replace hI := hI.up hxw; replace hM := hM.ext hxc; replace hks := hks.ext hxw
        have h0m : W0.heap.size ≤ m := by have h1 := hIo.ext.size; have h2 := hxa.size; omega
        have hmms : m ∉ ms := fun h => by have h1 := hIo.old m h; have h2 := hxa.size; omega
        replace ha := ha.sub (σ' := [(1, .map (some m0)), (3, .pointer (some ⟨bX, 0, none⟩)), (5, .pointer (some ⟨bR, 0, none⟩)), (7, v7), (8, .int .i64 i), (9, .int .i64 kind), (10, .map (some m)), (11, .int .i64 v), (12, vks), (29, vk), (30, .int .i64 (kinds.length : Int)), (31, .int .i64 i)]) ⟨rfl, rfl, rfl, rfl, rfl, rfl, rfl, rfl, rfl, rfl, rfl, rfl, trivial⟩
        clear hi1 hat1 hpb1 hf1 hi2 hat2 hpb2 hf2 hi3 hat3 hpb3 hf3 hS0 hS1 hS2 hlo hxa hxb hxc
        generalize hw0 : w = wOld at hxw hIo; clear hw0
        generalize wc = w at hI hM hks hxw ha; clear hxw hIo hIk
        refine e_then ?_; refine s_cut (fun a w => ∃ mm, Fr 181 [(1, .map (some m0)), (3, .pointer (some ⟨bX, 0, none⟩)), (5, .pointer (some ⟨bR, 0, none⟩)), (7, v7), (10, .map (some mm)), (29, vk), (30, .int .i64 (kinds.length : Int)), (31, .int .i64 i)] a ∧ RunI K 33 76 72 W0 bX bR [vk, vv, vb, vd] (rvOf fa fd fm fb fp ca cd cm cb cp)  b7 v7 ms ts w ∧ Mt K w mm T) ?_ ?_
        · refine wp_seq ?_; refine wp_region_lit ?_
          refine op_g ha rfl (g_move rfl) ?_; clear ha a; intro a ha
          refine wpList_nil ?_; refine e_then ?_; refine wp_block ?_
          unfold nodeT at hnode
          replace ha := ha.sub (σ' := [(1, .map (some m0)), (3, .pointer (some ⟨bX, 0, none⟩)), (5, .pointer (some ⟨bR, 0, none⟩)), (7, v7), (8, .int .i64 i), (10, .map (some m)), (11, .int .i64 v), (12, vks), (29, vk), (30, .int .i64 (kinds.length : Int)), (31, .int .i64 i), (47, .int .i64 kind)]) ⟨rfl, rfl, rfl, rfl, rfl, rfl, rfl, rfl, rfl, rfl, rfl, rfl, trivial⟩
          refine wp_seq ?_; refine wp_region_lit ?_
          refine op_g ha rfl (g_eql rfl rfl) ?_; clear ha a; intro a ha
          refine op_g ha rfl (g_assign rfl) ?_; clear ha a; intro a ha
          refine wpList_nil ?_; refine e_then ?_
          refine c_cond (kind = 1) ha rfl decide_eq_true_iff (fun hp1 => ?_) (fun hp1 => ?_)
          · replace hnode := if_t hp1 hnode
            refine wp_region_lit ?_
            refine op_g ha rfl (g_move rfl) ?_; clear ha a; intro a ha
            refine op_g ha rfl (g_assign rfl) ?_; clear ha a; intro a ha
            refine wpList_nil ?_
            refine e_blk ?_; refine e_sq ?_
            obtain rfl := Option.some.inj hnode
            exact ⟨m0, ha.sub ⟨rfl, rfl, rfl, rfl, rfl, rfl, rfl, rfl, trivial⟩, hI, hM0.ext hI.ext⟩
          replace hnode := if_f hp1 hnode
          refine wp_seq ?_; refine wp_region_lit ?_
          replace ha := ha.sub (σ' := [(1, .map (some m0)), (3, .pointer (some ⟨bX, 0, none⟩)), (5, .pointer (some ⟨bR, 0, none⟩)), (7, v7), (8, .int .i64 i), (10, .map (some m)), (11, .int .i64 v), (12, vks), (29, vk), (30, .int .i64 (kinds.length : Int)), (31, .int .i64 i), (47, .int .i64 kind)]) ⟨rfl, rfl, rfl, rfl, rfl, rfl, rfl, rfl, rfl, rfl, rfl, rfl, trivial⟩
          refine op_g ha rfl (g_eql rfl rfl) ?_; clear ha a; intro a ha
          refine op_g ha rfl (g_assign rfl) ?_; clear ha a; intro a ha
          refine wpList_nil ?_; refine e_then ?_
          refine c_cond (kind = 2) ha rfl decide_eq_true_iff (fun hp2 => ?_) (fun hp2 => ?_)
          · replace hnode := if_t hp2 hnode
            obtain ⟨kA, _, gkA, hnode⟩ := idx_some hnode; obtain ⟨TkA, gk0A, gTA, hnode⟩ := idx_some hnode; obtain ⟨bg, _, gb, hnode⟩ := idx_some hnode; obtain ⟨mb, hmb, hnode⟩ := cal_some hnode
            replace ha := ha.sub (σ' := [(1, .map (some m0)), (3, .pointer (some ⟨bX, 0, none⟩)), (5, .pointer (some ⟨bR, 0, none⟩)), (7, v7), (8, .int .i64 i), (10, .map (some m)), (11, .int .i64 v), (12, vks), (29, vk), (30, .int .i64 (kinds.length : Int)), (31, .int .i64 i)]) ⟨rfl, rfl, rfl, rfl, rfl, rfl, rfl, rfl, rfl, rfl, rfl, trivial⟩
            refine wp_seq ?_; refine wp_region_lit ?_
            refine op_g ha rfl (g_move rfl) ?_; clear ha a; intro a ha
            refine op_g ha rfl (g_move rfl) ?_; clear ha a; intro a ha
            obtain ⟨pkA, ckA, fkA, _, _, hatkA, hrkA, hikA⟩ := hks.at (by decide) gkA; obtain ⟨rfl, hIkA, rfl⟩ := hrkA
            refine op_g ha rfl (hikA.gives sl25 rfl rfl) ?_; clear ha a; intro a ha
            refine op_g ha rfl (g_load Tryd.isAgg2 rfl hatkA.one) ?_; clear ha a; intro a ha
            obtain ⟨mkA, hmkA⟩ : ∃ mk, ms[kA.toNat]? = some mk := ⟨_, List.getElem?_eq_getElem (by rw [hI.len]; exact (List.getElem?_eq_some_iff.1 gTA).1)⟩
            obtain ⟨ptA, ctA, ftA, _, _, hattA, hrtA, hitA⟩ := hI.ow.at gk0A hmkA; obtain ⟨rfl, rfl⟩ := hrtA
            refine op_g ha rfl (hitA.gives slTabs rfl rfl) ?_; clear ha a; intro a ha
            refine op_g ha rfl (g_load Tryd.isAgg72 rfl hattA.one) ?_; clear ha a; intro a ha
            have hMkA := hI.mt _ _ _ hmkA gTA
            have hmkmA : mkA ≠ m := fun e => hmms (by rw [← e]; exact List.mem_of_getElem? hmkA)
            refine o_rangeT ha rfl undMap (.inr ⟨mkA, rfl, hMkA⟩) rfl ?_; clear ha a; intro lA rA wrA hLA hRgA hxrA hlorA a ha
            refine wpList_nil ?_
            have hksA : ∀ {w2 : World}, Ext W0 w2 → Ro Rp.int w2 f3 vks ks := fun {w2} hx => (hks0 hx)
            have h0rA : W0.heap.size ≤ rA := by have h1 := hI.ext.size; omega
            replace hI := hI.up hxrA; replace hM := hM.ext hxrA; replace hks := hks.ext hxrA
            replace ha := ha.sub (σ' := [(1, .map (some m0)), (3, .pointer (some ⟨bX, 0, none⟩)), (5, .pointer (some ⟨bR, 0, none⟩)), (7, v7), (8, .int .i64 i), (10, .map (some m)), (11, .int .i64 v), (12, vks), (29, vk), (30, .int .i64 (kinds.length : Int)), (31, .int .i64 i), (59, .pointer (some ⟨rA, 0, none⟩))]) ⟨rfl, rfl, rfl, rfl, rfl, rfl, rfl, rfl, rfl, rfl, rfl, rfl, trivial⟩
            refine e_then ?_
            refine c_loop (fun a w => Fr 181 [(1, .map (some m0)), (3, .pointer (some ⟨bX, 0, none⟩)), (5, .pointer (some ⟨bR, 0, none⟩)), (7, v7), (10, .map (some m)), (29, vk), (30, .int .i64 (kinds.length : Int)), (31, .int .i64 i)] a ∧ RunI K 33 76 72 W0 bX bR [vk, vv, vb, vd] (rvOf fa fd fm fb fp ca cd cm cb cp)  b7 v7 ms ts w ∧ Mt K w m T) (fun n a w => ∃ (done rest : List (κ × Int)), n = rest.length ∧ (done ++ rest).Perm lA ∧ Fr 181 [(1, .map (some m0)), (3, .pointer (some ⟨bX, 0, none⟩)), (5, .pointer (some ⟨bR, 0, none⟩)), (7, v7), (8, .int .i64 i), (10, .map (some m)), (11, .int .i64 v), (12, vks), (29, vk), (30, .int .i64 (kinds.length : Int)), (31, .int .i64 i), (59, .pointer (some ⟨rA, 0, none⟩))] a ∧ RunI K 33 76 72 W0 bX bR [vk, vv, vb, vd] (rvOf fa fd fm fb fp ca cd cm cb cp)  b7 v7 ms ts w ∧ Rg K w rA (some mkA) rest ∧ Mt K w m (gatL R.pick noT (done.flatMap (fun p => (cAdd R v mb p).getD [])))) lA.length
              ⟨[], lA, rfl, .refl _, ha, hI, hRgA, hM⟩ ?_ ?_
            · clear hRgA hatkA hattA; clear ha
              rintro n a w1 ⟨done, rest, rfl, hp, ha, hI, hRg, hM⟩
              have hE01 : Ext W0 w1 := hI.ext
              refine wp_seq ?_; refine wp_region_lit ?_; refine o_nextT ha rfl hRg rfl (fun hr a ha => ?_) (fun p rest' w2 hpr hpI hRg2 hc2 hen a ha => ?_)
              · refine op_g ha rfl (g_extract rfl rfl) ?_; clear ha a; intro a ha
                refine wpList_nil ?_; refine e_then ?_; refine wp_seq ?_; refine c_false ha rfl ?_; refine wp_exit ?_; refine e_then_exit ?_; refine e_lq_eq ?_; subst hr
                exact ⟨ha.sub ⟨rfl, rfl, rfl, rfl, rfl, rfl, rfl, rfl, trivial⟩, hI, by rw [← gatF_perm hR.picks hnode hLA (by simpa using hp)]; exact hM⟩
              · have hI2 := hI.chg hc2 (hI.offIt hRg h0rA)
                have hne2 := hRg.neMap hM
                have hM2 := hM.chg hc2 (by simp only [List.mem_singleton]; exact hne2.symm)
                have hE02 : Ext W0 w2 := hI2.ext
                have hTp := (hLA.mem _ _).2 (mem_step hp hpr)
                clear hRg hI hM
                refine op_g ha rfl (g_extract rfl rfl) ?_; clear ha a; intro a ha
                refine wpList_nil ?_; refine e_then ?_; refine wp_seq ?_; refine c_true ha rfl ?_; refine wp_skip ?_; refine e_then ?_; refine wp_block ?_; refine wp_seq ?_; refine wp_region_lit ?_
                refine o_entryT ha rfl rfl hen ?_; clear ha a; intro a ha
                refine op_g ha rfl (g_extract rfl rfl) ?_; clear ha a; intro a ha
                refine op_g ha rfl (g_extract rfl rfl) ?_; clear ha a; intro a ha
                refine o_allocK hA ha rfl ?_; clear ha a; intro bKA wz hBz hxz hloz a ha
                refine o_storeK hA (s := p.1) ha hBz rfl rfl rfl ?_; intro w2 hBbKA hcK
                have hxK := Ext.then hxz hcK (fun i hi => by rw [List.mem_singleton] at hi; subst hi; exact hloz)
                have hKAm : bKA ≠ m := by have := hM2.lt; omega
                replace hI2 := hI2.up hxK; replace hM2 := hM2.ext hxK; replace hRg2 := hRg2.ext hxK; replace hE02 := hE02.trans hxK
                clear hBz hxz hloz hcK hxK
                refine op_g ha rfl (g_assign rfl) ?_; clear ha a; intro a ha
                refine wpList_nil ?_
                replace ha := ha.sub (σ' := [(1, .map (some m0)), (3, .pointer (some ⟨bX, 0, none⟩)), (5, .pointer (some ⟨bR, 0, none⟩)), (7, v7), (8, .int .i64 i), (10, .map (some m)), (11, .int .i64 v), (12, vks), (29, vk), (30, .int .i64 (kinds.length : Int)), (31, .int .i64 i), (59, .pointer (some ⟨rA, 0, none⟩)), (13, .pointer (some ⟨bKA, 0, none⟩)), (14, .int .i64 p.2)]) ⟨rfl, rfl, rfl, rfl, rfl, rfl, rfl, rfl, rfl, rfl, rfl, rfl, rfl, rfl, trivial⟩
                refine e_then ?_
                clear hen
                obtain ⟨la, hla, hgl⟩ : ∃ la, R.add p.1 v mb = some la ∧ (cAdd R v mb p).getD [] = la.map (fun s => (s, p.2)) := by
                  have h := (gatF_some hnode).1 p.1 p.2 hTp
                  unfold cAdd at h ⊢
                  cases hq : R.add p.1 v mb with
                  | none => simp only [hq] at h; cases h
                  | some la => exact ⟨la, rfl, by simp [hq]⟩
                obtain ⟨pq, cq, fq, _, _, hatq, hrq, hiq⟩ := (hksA hE02).at (by decide) gkA; obtain ⟨rfl, _, rfl⟩ := hrq
                obtain ⟨pb, cb2, fb2, _, _, hatb, hrb, hib⟩ := (hb.ext hE02).at gk0A gb; obtain ⟨vbg, rfl, hbg⟩ := hrb; have hbg : Ro Rp.int w2 fb2 vbg bg := hbg
                refine wp_seq ?_; refine x_region [0, 1, 2, 3, 4, 5, 6, 7, 8, 9, 10, 11, 12, 13, 14] hmix ?_
                have hS0 := RowKit.Below.refl w2.heap.size w2
                have hmlt := hM2.lt
                refine x_g 0 rfl (by kernel_rfl) (want0 _) ha rfl hS0 (g_field0 stR0 rfl) ?_; clear ha a; intro a ha
                refine x_g 1 rfl (by kernel_rfl) (want0 _) ha rfl hS0 (g_load Tryd.isAgg71 rfl (hI2.br.cell (j := 0) rfl)) ?_; clear ha a; intro a ha
                refine x_g 2 rfl (by kernel_rfl) (want0 _) ha rfl hS0 (g_loadK hA hBbKA rfl) ?_; clear ha a; intro a ha
                refine x_g 3 rfl (by kernel_rfl) (want0 _) ha rfl hS0 (g_move rfl) ?_; clear ha a; intro a ha
                refine x_g 4 rfl (by kernel_rfl) (want0 _) ha rfl hS0 (g_field0 stX2 rfl) ?_; clear ha a; intro a ha
                refine x_g 5 rfl (by kernel_rfl) (want0 _) ha rfl hS0 (g_load Tryd.isAgg22 rfl (hI2.bx.cell (j := 2) rfl)) ?_; clear ha a; intro a ha
                refine x_g 6 rfl (by kernel_rfl) (want0 _) ha rfl hS0 (g_move rfl) ?_; clear ha a; intro a ha
                refine x_g 7 rfl (by kernel_rfl) (want0 _) ha rfl hS0 (hiq.gives sl25 rfl rfl) ?_; clear ha a; intro a ha
                refine x_g 8 rfl (by kernel_rfl) (want0 _) ha rfl hS0 (g_load Tryd.isAgg2 rfl hatq.one) ?_; clear ha a; intro a ha
                refine x_g 9 rfl (by kernel_rfl) (want0 _) ha rfl hS0 (hib.gives sl22 rfl rfl) ?_; clear ha a; intro a ha
                refine x_g 10 rfl (by kernel_rfl) (want0 _) ha rfl hS0 (g_load Tryd.isAgg25 rfl hatb.one) ?_; clear ha a; intro a ha
                refine x_call (.int .u32 (BitVec.toNat mb : Int)) 11 rfl (by kernel_rfl) (want0 _) ha rfl rfl Tryd.call59 hS0 (fun w' hw' => W_impl_maskOf (hbg.ext hw') hmb) (fun w' u w'' h => h) ?_; clear ha a; intro a ha
                refine x_g 14 rfl (by kernel_rfl) (want0 _) ha rfl hS0 (g_move rfl) ?_; clear ha a; intro a ha
                refine x_only 12 rfl (by kernel_rfl) ?_; intro wa hxa
                have hS1 := bel_step hS0 hxa
                refine o_callv (vals := [K.kv p.1, .int .i64 v, .int .u32 (BitVec.toNat mb : Int)]) (cap := ca) ha rfl rfl rfl hR.ea (hR.add (hE02.trans hxa) p.1 hIv mb hla) ?_; clear ha a; rintro u77 w77 ⟨f77, h77, hf77, hx77⟩ a ha
                refine wpList_nil (e_sq ?_); refine ⟨fun _ => ext_bel hS1.size hx77, ?_⟩
                have hS2 := bel_step hS1 hx77
                refine x_g 13 rfl (by kernel_rfl) (want0 _) ha rfl hS2 (g_lenR slS.und h77 rfl) ?_; clear ha a; intro a ha
                refine x_done (by kernel_rfl) ?_; intro w3 hx3
                have hx23 := (hxa.trans hx77).trans hx3
                replace hI2 := hI2.up hx23; replace hM2 := hM2.ext hx23; replace hRg2 := hRg2.ext hx23; replace h77 := h77.ext hx3
                have hm77 : ∀ b ∈ f77, b ∉ [m] := fun b hb hm => by rw [List.mem_singleton] at hm; subst hm; have h1 := hf77 b hb; have h4 := hxa.size; omega
                clear hS0 hS1 hS2 hatq hiq hatb hib hbg
                refine e_then ?_
                refine c_loop (fun a w => Fr 181 [(1, .map (some m0)), (3, .pointer (some ⟨bX, 0, none⟩)), (5, .pointer (some ⟨bR, 0, none⟩)), (7, v7), (8, .int .i64 i), (10, .map (some m)), (11, .int .i64 v), (12, vks), (29, vk), (30, .int .i64 (kinds.length : Int)), (31, .int .i64 i), (59, .pointer (some ⟨rA, 0, none⟩))] a ∧ RunI K 33 76 72 W0 bX bR [vk, vv, vb, vd] (rvOf fa fd fm fb fp ca cd cm cb cp)  b7 v7 ms ts w ∧ Rg K w rA (some mkA) rest' ∧ Mt K w m (gatL R.pick (gatL R.pick noT (done.flatMap fun p => (cAdd R v mb p).getD [])) (la.map fun s => (s, p.2))))
                  (fun n a w => ∃ j : Nat, n = la.length - j ∧ j ≤ la.length ∧ Fr 181 [(1, .map (some m0)), (3, .pointer (some ⟨bX, 0, none⟩)), (5, .pointer (some ⟨bR, 0, none⟩)), (7, v7), (8, .int .i64 i), (10, .map (some m)), (11, .int .i64 v), (12, vks), (29, vk), (30, .int .i64 (kinds.length : Int)), (31, .int .i64 i), (59, .pointer (some ⟨rA, 0, none⟩)), (77, u77), (78, .int .i64 (la.length : Int)), (79, .int .i64 (j : Int)), (14, .int .i64 p.2)] a ∧ RunI K 33 76 72 W0 bX bR [vk, vv, vb, vd] (rvOf fa fd fm fb fp ca cd cm cb cp)  b7 v7 ms ts w ∧ Rg K w rA (some mkA) rest' ∧ Ro rp w f77 u77 la ∧ Mt K w m (gatL R.pick (gatL R.pick noT (done.flatMap fun p => (cAdd R v mb p).getD [])) ((la.take j).map fun s => (s, p.2)))) (la.length - 0)
                  ⟨0, rfl, Nat.zero_le _, ha.sub ⟨rfl, rfl, rfl, rfl, rfl, rfl, rfl, rfl, rfl, rfl, rfl, rfl, rfl, rfl, rfl, rfl, trivial⟩, hI2, hRg2, h77, hM2⟩ ?_ ?_
                · clear hI2 hRg2 h77 hM2 ha; rintro n a w ⟨j, rfl, hj, ha, hI, hRg, h77, hM⟩
                  refine wp_seq ?_; refine wp_region_lit ?_
                  refine op_g ha rfl (g_lss rfl rfl) ?_; clear ha a; intro a ha
                  refine wpList_nil ?_; refine e_then ?_; refine wp_seq ?_
                  refine c_cond ((j : Int) < (la.length : Int)) ha rfl decide_eq_true_iff (fun hpj => ?_) (fun hpj => ?_)
                  · have hjl : j < la.length := by omega
                    obtain ⟨s, hs⟩ : ∃ s, la[j]? = some s := ⟨_, List.getElem?_eq_getElem hjl⟩
                    refine wp_skip ?_; refine e_then ?_; refine wp_seq ?_; refine wp_block ?_; refine wp_seq ?_; refine wp_region_lit ?_
                    obtain ⟨ps, cs, fs, _, _, hats, hrs, his⟩ := h77.at (i := (j : Int)) (by omega) (by rw [Int.toNat_natCast]; exact hs)
                    refine op_g ha rfl (his.gives slS rfl rfl) ?_; clear ha a; intro a ha
                    refine op_g ha rfl (hld hrs hats rfl) ?_; clear ha a; intro a ha
                    refine o_allocK hA ha rfl ?_; clear ha a; intro bKs wz hBz hxz hloz a ha
                    refine o_storeK hA (s := s) ha hBz rfl rfl rfl ?_; intro w hBbKs hcK
                    have hxK := Ext.then hxz hcK (fun i hi => by rw [List.mem_singleton] at hi; subst hi; exact hloz)
                    replace hI := hI.up hxK; replace hM := hM.ext hxK; replace hRg := hRg.ext hxK; replace h77 := h77.ext hxK
                    clear hBz hxz hloz hcK hxK
                    refine wpList_nil ?_; refine e_then ?_; refine wp_region_lit ?_
                    refine op_g ha rfl (g_loadA (cs := rvOf fa fd fm fb fp ca cd cm cb cp) Tryd.isAgg76 Tryd.sizeOf76 rfl (by simp [rvOf]) hI.br.all) ?_; clear ha a; intro a ha
                    refine op_g ha rfl (g_move rfl) ?_; clear ha a; intro a ha
                    refine op_g ha rfl (g_loadK hA hBbKs rfl) ?_; clear ha a; intro a ha
                    refine op_g ha rfl (g_move rfl) ?_; clear ha a; intro a ha
                    refine o_call ha rfl rfl Tryd.call64 (W_gather hA hR hI.ext hM h0m s hpI) ?_; clear ha a; rintro v87 w5 ⟨hM5, hc5⟩ a ha
                    refine wpList_nil ?_; refine e_blk ?_; refine e_then ?_; refine wp_region_lit ?_
                    have hoff := hI.offMap hM h0m hmms
                    have hI5 := hI.chg hc5 hoff
                    have hRg5 := hRg.chg hc5 (by simp only [List.mem_singleton]; exact hRg.neMap hM) (fun b hb => by obtain rfl := Option.some.inj hb; simp only [List.mem_singleton]; exact hmkmA)
                    have h775 := h77.chg hc5 hm77
                    have hIj : InI ((j : Int) + 1) := by
                      obtain ⟨_, cap, _, ⟨c1, c2⟩, _⟩ := h77
                      simp only [maxLen] at c2; unfold InI; omega
                    refine op_g ha rfl (g_add rfl rfl hIj) ?_; clear ha a; intro a ha
                    refine op_g ha rfl (g_move rfl) ?_; clear ha a; intro a ha
                    refine wpList_nil ?_; refine e_lq ?_
                    have htk : (la.take (j + 1)).map (fun s => (s, p.2)) = (la.take j).map (fun s => (s, p.2)) ++ [(s, p.2)] := by rw [List.take_add_one, hs]; simp
                    exact ⟨_, by omega, j + 1, rfl, by omega, ha.sub ⟨rfl, rfl, rfl, rfl, rfl, rfl, rfl, rfl, rfl, rfl, rfl, rfl, rfl, rfl, rfl, rfl, trivial⟩, hI5, hRg5, h775, by rw [htk, gatL_append]; exact hM5⟩
                  · refine wp_exit ?_; refine e_then_exit ?_; refine e_lq_eq ?_
                    have ej : j = la.length := by omega
                    rw [ej, List.take_length] at hM
                    exact ⟨ha.sub ⟨rfl, rfl, rfl, rfl, rfl, rfl, rfl, rfl, rfl, rfl, rfl, rfl, trivial⟩, hI, hRg, hM⟩
                · rintro a w ⟨ha, hI, hRg, hM⟩
                  refine e_blk ?_; refine e_lq ?_
                  exact ⟨_, len_step hpr, done ++ [p], rest', rfl, perm_step hp hpr, ha.sub ⟨rfl, rfl, rfl, rfl, rfl, rfl, rfl, rfl, rfl, rfl, rfl, rfl, trivial⟩, hI, hRg, by rw [gat_step, hgl]; exact hM⟩
            · rintro a w ⟨ha, hI, hM⟩
              refine e_blk ?_; refine e_sq ?_
              exact ⟨m, ha.sub ⟨rfl, rfl, rfl, rfl, rfl, rfl, rfl, rfl, trivial⟩, hI, hM⟩
          replace hnode := if_f hp2 hnode
          refine wp_seq ?_; refine wp_region_lit ?_
          replace ha := ha.sub (σ' := [(1, .map (some m0)), (3, .pointer (some ⟨bX, 0, none⟩)), (5, .pointer (some ⟨bR, 0, none⟩)), (7, v7), (8, .int .i64 i), (10, .map (some m)), (11, .int .i64 v), (12, vks), (29, vk), (30, .int .i64 (kinds.length : Int)), (31, .int .i64 i), (47, .int .i64 kind)]) ⟨rfl, rfl, rfl, rfl, rfl, rfl, rfl, rfl, rfl, rfl, rfl, rfl, trivial⟩
          refine op_g ha rfl (g_eql rfl rfl) ?_; clear ha a; intro a ha
          refine op_g ha rfl (g_assign rfl) ?_; clear ha a; intro a ha
          refine wpList_nil ?_; refine e_then ?_
          refine c_cond (kind = 3) ha rfl decide_eq_true_iff (fun hp3 => ?_) (fun hp3 => ?_)
          · replace hnode := if_t hp3 hnode
            obtain ⟨kA, _, gkA, hnode⟩ := idx_some hnode; obtain ⟨TkA, gk0A, gTA, hnode⟩ := idx_some hnode; obtain ⟨bg, _, gb, hnode⟩ := idx_some hnode; obtain ⟨mb, hmb, hnode⟩ := cal_some hnode
            replace ha := ha.sub (σ' := [(1, .map (some m0)), (3, .pointer (some ⟨bX, 0, none⟩)), (5, .pointer (some ⟨bR, 0, none⟩)), (7, v7), (8, .int .i64 i), (10, .map (some m)), (11, .int .i64 v), (12, vks), (29, vk), (30, .int .i64 (kinds.length : Int)), (31, .int .i64 i)]) ⟨rfl, rfl, rfl, rfl, rfl, rfl, rfl, rfl, rfl, rfl, rfl, trivial⟩
            refine wp_seq ?_; refine wp_region_lit ?_
            refine op_g ha rfl (g_move rfl) ?_; clear ha a; intro a ha
            refine op_g ha rfl (g_move rfl) ?_; clear ha a; intro a ha
            obtain ⟨pkA, ckA, fkA, _, _, hatkA, hrkA, hikA⟩ := hks.at (by decide) gkA; obtain ⟨rfl, hIkA, rfl⟩ := hrkA
            refine op_g ha rfl (hikA.gives sl25 rfl rfl) ?_; clear ha a; intro a ha
            refine op_g ha rfl (g_load Tryd.isAgg2 rfl hatkA.one) ?_; clear ha a; intro a ha
            obtain ⟨mkA, hmkA⟩ : ∃ mk, ms[kA.toNat]? = some mk := ⟨_, List.getElem?_eq_getElem (by rw [hI.len]; exact (List.getElem?_eq_some_iff.1 gTA).1)⟩
            obtain ⟨ptA, ctA, ftA, _, _, hattA, hrtA, hitA⟩ := hI.ow.at gk0A hmkA; obtain ⟨rfl, rfl⟩ := hrtA
            refine op_g ha rfl (hitA.gives slTabs rfl rfl) ?_; clear ha a; intro a ha
            refine op_g ha rfl (g_load Tryd.isAgg72 rfl hattA.one) ?_; clear ha a; intro a ha
            have hMkA := hI.mt _ _ _ hmkA gTA
            have hmkmA : mkA ≠ m := fun e => hmms (by rw [← e]; exact List.mem_of_getElem? hmkA)
            refine o_rangeT ha rfl undMap (.inr ⟨mkA, rfl, hMkA⟩) rfl ?_; clear ha a; intro lA rA wrA hLA hRgA hxrA hlorA a ha
            refine wpList_nil ?_
            have h0rA : W0.heap.size ≤ rA := by have h1 := hI.ext.size; omega
            replace hI := hI.up hxrA; replace hM := hM.ext hxrA; replace hks := hks.ext hxrA
            replace ha := ha.sub (σ' := [(1, .map (some m0)), (3, .pointer (some ⟨bX, 0, none⟩)), (5, .pointer (some ⟨bR, 0, none⟩)), (7, v7), (8, .int .i64 i), (10, .map (some m)), (11, .int .i64 v), (12, vks), (29, vk), (30, .int .i64 (kinds.length : Int)), (31, .int .i64 i), (97, .pointer (some ⟨rA, 0, none⟩))]) ⟨rfl, rfl, rfl, rfl, rfl, rfl, rfl, rfl, rfl, rfl, rfl, rfl, trivial⟩
            refine e_then ?_
            refine c_loop (fun a w => Fr 181 [(1, .map (some m0)), (3, .pointer (some ⟨bX, 0, none⟩)), (5, .pointer (some ⟨bR, 0, none⟩)), (7, v7), (10, .map (some m)), (29, vk), (30, .int .i64 (kinds.length : Int)), (31, .int .i64 i)] a ∧ RunI K 33 76 72 W0 bX bR [vk, vv, vb, vd] (rvOf fa fd fm fb fp ca cd cm cb cp)  b7 v7 ms ts w ∧ Mt K w m T) (fun n a w => ∃ (done rest : List (κ × Int)), n = rest.length ∧ (done ++ rest).Perm lA ∧ Fr 181 [(1, .map (some m0)), (3, .pointer (some ⟨bX, 0, none⟩)), (5, .pointer (some ⟨bR, 0, none⟩)), (7, v7), (8, .int .i64 i), (10, .map (some m)), (11, .int .i64 v), (12, vks), (29, vk), (30, .int .i64 (kinds.length : Int)), (31, .int .i64 i), (97, .pointer (some ⟨rA, 0, none⟩))] a ∧ RunI K 33 76 72 W0 bX bR [vk, vv, vb, vd] (rvOf fa fd fm fb fp ca cd cm cb cp)  b7 v7 ms ts w ∧ Rg K w rA (some mkA) rest ∧ Mt K w m (gatL R.pick noT (done.flatMap (fun p => (cDrop R v mb p).getD [])))) lA.length
              ⟨[], lA, rfl, .refl _, ha, hI, hRgA, hM⟩ ?_ ?_
            · clear hRgA hatkA hattA; clear ha
              rintro n a w1 ⟨done, rest, rfl, hp, ha, hI, hRg, hM⟩
              have hE01 : Ext W0 w1 := hI.ext
              refine wp_seq ?_; refine wp_region_lit ?_; refine o_nextT ha rfl hRg rfl (fun hr a ha => ?_) (fun p rest' w2 hpr hpI hRg2 hc2 hen a ha => ?_)
              · refine op_g ha rfl (g_extract rfl rfl) ?_; clear ha a; intro a ha
                refine wpList_nil ?_; refine e_then ?_; refine wp_seq ?_; refine c_false ha rfl ?_; refine wp_exit ?_; refine e_then_exit ?_; refine e_lq_eq ?_; subst hr
                exact ⟨ha.sub ⟨rfl, rfl, rfl, rfl, rfl, rfl, rfl, rfl, trivial⟩, hI, by rw [← gatF_perm hR.picks hnode hLA (by simpa using hp)]; exact hM⟩
              · have hI2 := hI.chg hc2 (hI.offIt hRg h0rA)
                have hne2 := hRg.neMap hM
                have hM2 := hM.chg hc2 (by simp only [List.mem_singleton]; exact hne2.symm)
                have hE02 : Ext W0 w2 := hI2.ext
                have hTp := (hLA.mem _ _).2 (mem_step hp hpr)
                clear hRg hI hM
                refine op_g ha rfl (g_extract rfl rfl) ?_; clear ha a; intro a ha
                refine wpList_nil ?_; refine e_then ?_; refine wp_seq ?_; refine c_true ha rfl ?_; refine wp_skip ?_; refine e_then ?_; refine wp_block ?_; refine wp_seq ?_; refine wp_region_lit ?_
                refine o_entryT ha rfl rfl hen ?_; clear ha a; intro a ha
                refine op_g ha rfl (g_extract rfl rfl) ?_; clear ha a; intro a ha
                refine op_g ha rfl (g_extract rfl rfl) ?_; clear ha a; intro a ha
                refine o_allocK hA ha rfl ?_; clear ha a; intro bKA wz hBz hxz hloz a ha
                refine o_storeK hA (s := p.1) ha hBz rfl rfl rfl ?_; intro w2 hBbKA hcK
                have hxK := Ext.then hxz hcK (fun i hi => by rw [List.mem_singleton] at hi; subst hi; exact hloz)
                have hKAm : bKA ≠ m := by have := hM2.lt; omega
                replace hI2 := hI2.up hxK; replace hM2 := hM2.ext hxK; replace hRg2 := hRg2.ext hxK; replace hE02 := hE02.trans hxK
                clear hBz hxz hloz hcK hxK
                refine op_g ha rfl (g_assign rfl) ?_; clear ha a; intro a ha
                refine wpList_nil ?_
                replace ha := ha.sub (σ' := [(1, .map (some m0)), (3, .pointer (some ⟨bX, 0, none⟩)), (5, .pointer (some ⟨bR, 0, none⟩)), (7, v7), (8, .int .i64 i), (10, .map (some m)), (11, .int .i64 v), (12, vks), (29, vk), (30, .int .i64 (kinds.length : Int)), (31, .int .i64 i), (97, .pointer (some ⟨rA, 0, none⟩)), (17, .pointer (some ⟨bKA, 0, none⟩)), (18, .int .i64 p.2)]) ⟨rfl, rfl, rfl, rfl, rfl, rfl, rfl, rfl, rfl, rfl, rfl, rfl, rfl, rfl, trivial⟩
                refine e_then ?_
                clear hen
                obtain ⟨Td, hTd, hgl⟩ : ∃ Td, R.drop p.1 v mb p.2 = some Td ∧ (cDrop R v mb p).getD [] = lst Td := by
                  have h := (gatF_some hnode).1 p.1 p.2 hTp
                  unfold cDrop at h ⊢
                  cases hq : R.drop p.1 v mb p.2 with
                  | none => simp only [hq] at h; cases h
                  | some la => exact ⟨la, rfl, by simp [hq]⟩
                obtain ⟨pb, cb2, fb2, _, _, hatb, hrb, hib⟩ := (hb.ext hE02).at g0 gb; obtain ⟨vbg, rfl, hbg⟩ := hrb; have hbg : Ro Rp.int w2 fb2 vbg bg := hbg
                refine wp_seq ?_; refine x_region [0, 1, 2, 3, 4, 5, 6, 7, 8, 9, 10, 11, 12] hmix ?_
                have hS0 := RowKit.Below.refl w2.heap.size w2
                have hmlt := hM2.lt
                refine x_g 0 rfl (by kernel_rfl) (want0 _) ha rfl hS0 (g_field0 stR1 rfl) ?_; clear ha a; intro a ha
                refine x_g 1 rfl (by kernel_rfl) (want0 _) ha rfl hS0 (g_load Tryd.isAgg73 rfl (hI2.br.cell (j := 1) rfl)) ?_; clear ha a; intro a ha
                refine x_g 2 rfl (by kernel_rfl) (want0 _) ha rfl hS0 (g_loadK hA hBbKA rfl) ?_; clear ha a; intro a ha
                refine x_g 3 rfl (by kernel_rfl) (want0 _) ha rfl hS0 (g_move rfl) ?_; clear ha a; intro a ha
                refine x_g 4 rfl (by kernel_rfl) (want0 _) ha rfl hS0 (g_field0 stX2 rfl) ?_; clear ha a; intro a ha
                refine x_g 5 rfl (by kernel_rfl) (want0 _) ha rfl hS0 (g_load Tryd.isAgg22 rfl (hI2.bx.cell (j := 2) rfl)) ?_; clear ha a; intro a ha
                refine x_g 6 rfl (by kernel_rfl) (want0 _) ha rfl hS0 (g_move rfl) ?_; clear ha a; intro a ha
                refine x_g 7 rfl (by kernel_rfl) (want0 _) ha rfl hS0 (hib.gives sl22 rfl rfl) ?_; clear ha a; intro a ha
                refine x_g 8 rfl (by kernel_rfl) (want0 _) ha rfl hS0 (g_load Tryd.isAgg25 rfl hatb.one) ?_; clear ha a; intro a ha
                refine x_call (.int .u32 (BitVec.toNat mb : Int)) 9 rfl (by kernel_rfl) (want0 _) ha rfl rfl Tryd.call59 hS0 (fun w' hw' => W_impl_maskOf (hbg.ext hw') hmb) (fun w' u w'' h => h) ?_; clear ha a; intro a ha
                refine x_g 10 rfl (by kernel_rfl) (want0 _) ha rfl hS0 (g_move rfl) ?_; clear ha a; intro a ha
                refine x_only 11 rfl (by kernel_rfl) ?_; intro wa hxa
                have hS1 := bel_step hS0 hxa
                refine o_callv (vals := [K.kv p.1, .int .i64 v, .int .u32 (BitVec.toNat mb : Int), .int .i64 p.2]) (cap := cd) ha rfl rfl rfl hR.ed (hR.drop (hE02.trans hxa) p.1 hIv mb hpI hTd) ?_; clear ha a; rintro u77 w77 ⟨mo, rfl, hMo, hmo, hx77⟩ a ha
                refine wpList_nil (e_sq ?_); refine ⟨fun _ => ext_bel hS1.size hx77, ?_⟩
                have hS2 := bel_step hS1 hx77
                refine x_only 12 rfl (by kernel_rfl) ?_; intro wb hxb
                have hS3 := bel_step hS2 hxb
                have hMob : Mv K wb mo Td := hMo.imp id (fun ⟨b, h1, h2⟩ => ⟨b, h1, h2.ext hxb⟩)
                refine o_rangeT ha rfl undMap hMob rfl ?_; clear ha a; intro lB rB wr hLB hRgB hxr hlor a ha
                refine wpList_nil (e_sq ?_); refine ⟨fun _ => ext_bel hS3.size hxr, ?_⟩
                refine x_done (by kernel_rfl) ?_; intro w3 hx3
                have hx2b := (hxa.trans hx77).trans hxb
                have hx23 := (hx2b.trans hxr).trans hx3
                have hmom : ∀ b, mo = some b → b ≠ m := fun b hb e => by have h1 := hmo b hb; have h2 := hxa.size; omega
                have hrAB : rA ≠ rB := by have h1 := hRg2.lt; have h2 := hx2b.size; omega
                have hmkB : mkA ≠ rB := by have h1 := (hI2.mapAt (List.mem_of_getElem? hmkA)).choose_spec.lt; have h2 := hx2b.size; omega
                have h0rB : W0.heap.size ≤ rB := by have h1 := hE02.size; have h2 := hx2b.size; omega
                replace hI2 := hI2.up hx23; replace hM2 := hM2.ext hx23; replace hRg2 := hRg2.ext hx23; replace hRgB := hRgB.ext hx3
                clear hS0 hS1 hS2 hS3 hatb hib hbg hMob hMo
                refine e_then ?_
                refine c_loop (fun a w => Fr 181 [(1, .map (some m0)), (3, .pointer (some ⟨bX, 0, none⟩)), (5, .pointer (some ⟨bR, 0, none⟩)), (7, v7), (8, .int .i64 i), (10, .map (some m)), (11, .int .i64 v), (12, vks), (29, vk), (30, .int .i64 (kinds.length : Int)), (31, .int .i64 i), (97, .pointer (some ⟨rA, 0, none⟩))] a ∧ RunI K 33 76 72 W0 bX bR [vk, vv, vb, vd] (rvOf fa fd fm fb fp ca cd cm cb cp)  b7 v7 ms ts w ∧ Rg K w rA (some mkA) rest' ∧ Mt K w m (gatL R.pick (gatL R.pick noT (done.flatMap (fun p => (cDrop R v mb p).getD []))) (lB.flatMap (fun q => [q]))))
                  (fun n a w => ∃ (doneB restB : List (κ × Int)), n = restB.length ∧ (doneB ++ restB).Perm lB ∧ Fr 181 [(1, .map (some m0)), (3, .pointer (some ⟨bX, 0, none⟩)), (5, .pointer (some ⟨bR, 0, none⟩)), (7, v7), (8, .int .i64 i), (10, .map (some m)), (11, .int .i64 v), (12, vks), (29, vk), (30, .int .i64 (kinds.length : Int)), (31, .int .i64 i), (97, .pointer (some ⟨rA, 0, none⟩)), (115, .pointer (some ⟨rB, 0, none⟩))] a ∧ RunI K 33 76 72 W0 bX bR [vk, vv, vb, vd] (rvOf fa fd fm fb fp ca cd cm cb cp)  b7 v7 ms ts w ∧ Rg K w rA (some mkA) rest' ∧ Rg K w rB (mo) restB ∧ Mt K w m (gatL R.pick (gatL R.pick noT (done.flatMap (fun p => (cDrop R v mb p).getD []))) (doneB.flatMap (fun q => [q])))) lB.length
                  ⟨[], lB, rfl, .refl _, ha.sub ⟨rfl, rfl, rfl, rfl, rfl, rfl, rfl, rfl, rfl, rfl, rfl, rfl, rfl, trivial⟩, hI2, hRg2, hRgB, hM2⟩ ?_ ?_
                · clear hI2 hRg2 hRgB hM2 ha; rintro n a w ⟨doneB, restB, rfl, hpB, ha, hI, hRg, hRgB, hM⟩
                  refine wp_seq ?_; refine wp_region_lit ?_; refine o_nextT ha rfl hRgB rfl (fun hr a ha => ?_) (fun q restB' w4 hqr hqI hRg4 hc4 hen a ha => ?_)
                  · refine op_g ha rfl (g_extract rfl rfl) ?_; clear ha a; intro a ha
                    refine wpList_nil ?_; refine e_then ?_; refine wp_seq ?_; refine c_false ha rfl ?_; refine wp_exit ?_; refine e_then_exit ?_; refine e_lq_eq ?_; subst hr
                    exact ⟨ha.sub ⟨rfl, rfl, rfl, rfl, rfl, rfl, rfl, rfl, rfl, rfl, rfl, rfl, trivial⟩, hI, hRg, by rw [← gatL_perm hR.picks ((show doneB.Perm lB by simpa using hpB).flatMap_right _)]; exact hM⟩
                  · have hI4 := hI.chg hc4 (hI.offIt hRgB h0rB)
                    have hM4 := hM.chg hc4 (by simp only [List.mem_singleton]; exact (hRgB.neMap hM).symm)
                    have hRgA4 := hRg.chg hc4 (by simp only [List.mem_singleton]; exact hrAB) (fun b hb => by obtain rfl := Option.some.inj hb; simp only [List.mem_singleton]; exact hmkB)
                    clear hRg hRgB hI hM
                    refine op_g ha rfl (g_extract rfl rfl) ?_; clear ha a; intro a ha
                    refine wpList_nil ?_; refine e_then ?_; refine wp_seq ?_; refine c_true ha rfl ?_; refine wp_skip ?_; refine e_then ?_; refine wp_block ?_; refine wp_seq ?_; refine wp_region_lit ?_
                    refine o_entryT ha rfl rfl hen ?_; clear ha a; intro a ha
                    refine op_g ha rfl (g_extract rfl rfl) ?_; clear ha a; intro a ha
                    refine op_g ha rfl (g_extract rfl rfl) ?_; clear ha a; intro a ha
                    refine o_allocK hA ha rfl ?_; clear ha a; intro bKB wz hBz hxz hloz a ha
                    refine o_storeK hA (s := q.1) ha hBz rfl rfl rfl ?_; intro w4 hBbKB hcK
                    have hxK := Ext.then hxz hcK (fun i hi => by rw [List.mem_singleton] at hi; subst hi; exact hloz)
                    replace hI4 := hI4.up hxK; replace hM4 := hM4.ext hxK; replace hRgA4 := hRgA4.ext hxK; replace hRg4 := hRg4.ext hxK
                    clear hBz hxz hloz hcK hxK
                    refine op_g ha rfl (g_assign rfl) ?_; clear ha a; intro a ha
                    refine wpList_nil ?_
                    replace ha := ha.sub (σ' := [(1, .map (some m0)), (3, .pointer (some ⟨bX, 0, none⟩)), (5, .pointer (some ⟨bR, 0, none⟩)), (7, v7), (8, .int .i64 i), (10, .map (some m)), (11, .int .i64 v), (12, vks), (29, vk), (30, .int .i64 (kinds.length : Int)), (31, .int .i64 i), (97, .pointer (some ⟨rA, 0, none⟩)), (115, .pointer (some ⟨rB, 0, none⟩)), (19, .pointer (some ⟨bKB, 0, none⟩)), (20, .int .i64 q.2)]) ⟨rfl, rfl, rfl, rfl, rfl, rfl, rfl, rfl, rfl, rfl, rfl, rfl, rfl, rfl, rfl, trivial⟩
                    refine e_then ?_
                    clear hen
                    refine wp_region_lit ?_
                    refine op_g ha rfl (g_loadA (cs := rvOf fa fd fm fb fp ca cd cm cb cp) Tryd.isAgg76 Tryd.sizeOf76 rfl (by simp [rvOf]) hI4.br.all) ?_; clear ha a; intro a ha
                    refine op_g ha rfl (g_move rfl) ?_; clear ha a; intro a ha
                    refine op_g ha rfl (g_loadK hA hBbKB rfl) ?_; clear ha a; intro a ha
                    refine op_g ha rfl (g_move rfl) ?_; clear ha a; intro a ha
                    refine o_call ha rfl rfl Tryd.call64 (W_gather hA hR hI4.ext hM4 h0m q.1 hqI) ?_; clear ha a; rintro v87 w5 ⟨hM5, hc5⟩ a ha
                    refine wpList_nil ?_
                    have hoff := hI4.offMap hM4 h0m hmms
                    have hI5 := hI4.chg hc5 hoff
                    have hRgA5 := hRgA4.chg hc5 (by simp only [List.mem_singleton]; exact hRgA4.neMap hM4) (fun b hb => by obtain rfl := Option.some.inj hb; simp only [List.mem_singleton]; exact hmkmA)
                    have hRgB5 := hRg4.chg hc5 (by simp only [List.mem_singleton]; exact hRg4.neMap hM4) (fun b hb => by simp only [List.mem_singleton]; exact hmom b hb)
                    refine e_blk ?_; refine e_lq ?_
                    exact ⟨_, len_step hqr, doneB ++ [q], restB', rfl, perm_step hpB hqr, ha.sub ⟨rfl, rfl, rfl, rfl, rfl, rfl, rfl, rfl, rfl, rfl, rfl, rfl, rfl, trivial⟩, hI5, hRgA5, hRgB5, by rw [gat_step]; exact hM5⟩
                · rintro a w ⟨ha, hI, hRg, hM⟩
                  refine e_blk ?_; refine e_lq ?_
                  rw [List.flatMap_singleton'] at hM
                  have hM : Mt K w m (gatL R.pick (gatL R.pick noT (done.flatMap (fun p => (cDrop R v mb p).getD []))) (((fun p => (cDrop R v mb p).getD [])) p)) := by rw [show ((fun p => (cDrop R v mb p).getD [])) p = lst Td from hgl, gatL_perm hR.picks ((lst_is hLB).perm hLB)]; exact hM
                  exact ⟨_, len_step hpr, done ++ [p], rest', rfl, perm_step hp hpr, ha.sub ⟨rfl, rfl, rfl, rfl, rfl, rfl, rfl, rfl, rfl, rfl, rfl, rfl, trivial⟩, hI, hRg, by rw [gat_step]; exact hM⟩
            · rintro a w ⟨ha, hI, hM⟩
              refine e_blk ?_; refine e_sq ?_
              exact ⟨m, ha.sub ⟨rfl, rfl, rfl, rfl, rfl, rfl, rfl, rfl, trivial⟩, hI, hM⟩
          replace hnode := if_f hp3 hnode
          refine wp_seq ?_; refine wp_region_lit ?_
          replace ha := ha.sub (σ' := [(1, .map (some m0)), (3, .pointer (some ⟨bX, 0, none⟩)), (5, .pointer (some ⟨bR, 0, none⟩)), (7, v7), (8, .int .i64 i), (10, .map (some m)), (11, .int .i64 v), (12, vks), (29, vk), (30, .int .i64 (kinds.length : Int)), (31, .int .i64 i), (47, .int .i64 kind)]) ⟨rfl, rfl, rfl, rfl, rfl, rfl, rfl, rfl, rfl, rfl, rfl, rfl, trivial⟩
          refine op_g ha rfl (g_eql rfl rfl) ?_; clear ha a; intro a ha
          refine op_g ha rfl (g_assign rfl) ?_; clear ha a; intro a ha
          refine wpList_nil ?_; refine e_then ?_
          refine c_cond (kind = 4) ha rfl decide_eq_true_iff (fun hp4 => ?_) (fun hp4 => ?_)
          · replace hnode := if_t hp4 hnode
            obtain ⟨kA, _, gkA, hnode⟩ := idx_some hnode; obtain ⟨TkA, gk0A, gTA, hnode⟩ := idx_some hnode; obtain ⟨kB, _, gkB, hnode⟩ := idx_some hnode; obtain ⟨TkB, gk0B, gTB, hnode⟩ := idx_some hnode
            replace ha := ha.sub (σ' := [(1, .map (some m0)), (3, .pointer (some ⟨bX, 0, none⟩)), (5, .pointer (some ⟨bR, 0, none⟩)), (7, v7), (8, .int .i64 i), (10, .map (some m)), (11, .int .i64 v), (12, vks), (29, vk), (30, .int .i64 (kinds.length : Int)), (31, .int .i64 i)]) ⟨rfl, rfl, rfl, rfl, rfl, rfl, rfl, rfl, rfl, rfl, rfl, trivial⟩
            refine wp_seq ?_; refine wp_region_lit ?_
            refine op_g ha rfl (g_move rfl) ?_; clear ha a; intro a ha
            refine op_g ha rfl (g_move rfl) ?_; clear ha a; intro a ha
            obtain ⟨pkA, ckA, fkA, _, _, hatkA, hrkA, hikA⟩ := hks.at (by decide) gkA; obtain ⟨rfl, hIkA, rfl⟩ := hrkA
            refine op_g ha rfl (hikA.gives sl25 rfl rfl) ?_; clear ha a; intro a ha
            refine op_g ha rfl (g_load Tryd.isAgg2 rfl hatkA.one) ?_; clear ha a; intro a ha
            obtain ⟨mkA, hmkA⟩ : ∃ mk, ms[kA.toNat]? = some mk := ⟨_, List.getElem?_eq_getElem (by rw [hI.len]; exact (List.getElem?_eq_some_iff.1 gTA).1)⟩
            obtain ⟨ptA, ctA, ftA, _, _, hattA, hrtA, hitA⟩ := hI.ow.at gk0A hmkA; obtain ⟨rfl, rfl⟩ := hrtA
            refine op_g ha rfl (hitA.gives slTabs rfl rfl) ?_; clear ha a; intro a ha
            refine op_g ha rfl (g_load Tryd.isAgg72 rfl hattA.one) ?_; clear ha a; intro a ha
            have hMkA := hI.mt _ _ _ hmkA gTA
            have hmkmA : mkA ≠ m := fun e => hmms (by rw [← e]; exact List.mem_of_getElem? hmkA)
            refine o_rangeT ha rfl undMap (.inr ⟨mkA, rfl, hMkA⟩) rfl ?_; clear ha a; intro lA rA wrA hLA hRgA hxrA hlorA a ha
            refine wpList_nil ?_
            have h0rA : W0.heap.size ≤ rA := by have h1 := hI.ext.size; omega
            replace hI := hI.up hxrA; replace hM := hM.ext hxrA; replace hks := hks.ext hxrA
            replace ha := ha.sub (σ' := [(1, .map (some m0)), (3, .pointer (some ⟨bX, 0, none⟩)), (5, .pointer (some ⟨bR, 0, none⟩)), (7, v7), (8, .int .i64 i), (10, .map (some m)), (11, .int .i64 v), (12, vks), (29, vk), (30, .int .i64 (kinds.length : Int)), (31, .int .i64 i), (134, .pointer (some ⟨rA, 0, none⟩))]) ⟨rfl, rfl, rfl, rfl, rfl, rfl, rfl, rfl, rfl, rfl, rfl, rfl, trivial⟩
            refine e_then ?_
            refine c_loop (fun a w => Fr 181 [(1, .map (some m0)), (3, .pointer (some ⟨bX, 0, none⟩)), (5, .pointer (some ⟨bR, 0, none⟩)), (7, v7), (10, .map (some m)), (29, vk), (30, .int .i64 (kinds.length : Int)), (31, .int .i64 i)] a ∧ RunI K 33 76 72 W0 bX bR [vk, vv, vb, vd] (rvOf fa fd fm fb fp ca cd cm cb cp)  b7 v7 ms ts w ∧ Mt K w m T) (fun n a w => ∃ (done rest : List (κ × Int)), n = rest.length ∧ (done ++ rest).Perm lA ∧ Fr 181 [(1, .map (some m0)), (3, .pointer (some ⟨bX, 0, none⟩)), (5, .pointer (some ⟨bR, 0, none⟩)), (7, v7), (8, .int .i64 i), (10, .map (some m)), (11, .int .i64 v), (12, vks), (29, vk), (30, .int .i64 (kinds.length : Int)), (31, .int .i64 i), (134, .pointer (some ⟨rA, 0, none⟩))] a ∧ RunI K 33 76 72 W0 bX bR [vk, vv, vb, vd] (rvOf fa fd fm fb fp ca cd cm cb cp)  b7 v7 ms ts w ∧ Rg K w rA (some mkA) rest ∧ Mt K w m (gatL R.pick noT (done.flatMap (fun p => (cMeet R TkB p).getD [])))) lA.length
              ⟨[], lA, rfl, .refl _, ha, hI, hRgA, hM⟩ ?_ ?_
            · clear hRgA hatkA hattA; clear ha
              rintro n a w1 ⟨done, rest, rfl, hp, ha, hI, hRg, hM⟩
              have hE01 : Ext W0 w1 := hI.ext
              refine wp_seq ?_; refine wp_region_lit ?_; refine o_nextT ha rfl hRg rfl (fun hr a ha => ?_) (fun p rest' w2 hpr hpI hRg2 hc2 hen a ha => ?_)
              · refine op_g ha rfl (g_extract rfl rfl) ?_; clear ha a; intro a ha
                refine wpList_nil ?_; refine e_then ?_; refine wp_seq ?_; refine c_false ha rfl ?_; refine wp_exit ?_; refine e_then_exit ?_; refine e_lq_eq ?_; subst hr
                exact ⟨ha.sub ⟨rfl, rfl, rfl, rfl, rfl, rfl, rfl, rfl, trivial⟩, hI, by rw [← gatF_perm hR.picks hnode hLA (by simpa using hp)]; exact hM⟩
              · have hI2 := hI.chg hc2 (hI.offIt hRg h0rA)
                have hne2 := hRg.neMap hM
                have hM2 := hM.chg hc2 (by simp only [List.mem_singleton]; exact hne2.symm)
                have hE02 : Ext W0 w2 := hI2.ext
                have hTp := (hLA.mem _ _).2 (mem_step hp hpr)
                clear hRg hI hM
                refine op_g ha rfl (g_extract rfl rfl) ?_; clear ha a; intro a ha
                refine wpList_nil ?_; refine e_then ?_; refine wp_seq ?_; refine c_true ha rfl ?_; refine wp_skip ?_; refine e_then ?_; refine wp_block ?_; refine wp_seq ?_; refine wp_region_lit ?_
                refine o_entryT ha rfl rfl hen ?_; clear ha a; intro a ha
                refine op_g ha rfl (g_extract rfl rfl) ?_; clear ha a; intro a ha
                refine op_g ha rfl (g_extract rfl rfl) ?_; clear ha a; intro a ha
                refine o_allocK hA ha rfl ?_; clear ha a; intro bKA wz hBz hxz hloz a ha
                refine o_storeK hA (s := p.1) ha hBz rfl rfl rfl ?_; intro w2 hBbKA hcK
                have hxK := Ext.then hxz hcK (fun i hi => by rw [List.mem_singleton] at hi; subst hi; exact hloz)
                have hKAm : bKA ≠ m := by have := hM2.lt; omega
                replace hI2 := hI2.up hxK; replace hM2 := hM2.ext hxK; replace hRg2 := hRg2.ext hxK; replace hE02 := hE02.trans hxK
                clear hBz hxz hloz hcK hxK
                refine op_g ha rfl (g_assign rfl) ?_; clear ha a; intro a ha
                refine wpList_nil ?_
                replace ha := ha.sub (σ' := [(1, .map (some m0)), (3, .pointer (some ⟨bX, 0, none⟩)), (5, .pointer (some ⟨bR, 0, none⟩)), (7, v7), (8, .int .i64 i), (10, .map (some m)), (11, .int .i64 v), (12, vks), (29, vk), (30, .int .i64 (kinds.length : Int)), (31, .int .i64 i), (134, .pointer (some ⟨rA, 0, none⟩)), (21, .pointer (some ⟨bKA, 0, none⟩)), (22, .int .i64 p.2)]) ⟨rfl, rfl, rfl, rfl, rfl, rfl, rfl, rfl, rfl, rfl, rfl, rfl, rfl, rfl, trivial⟩
                refine e_then ?_
                clear hen
                have hks := hks0 hE02
                refine wp_seq ?_; refine wp_region_lit ?_
                refine op_g ha rfl (g_move rfl) ?_; clear ha a; intro a ha
                refine op_g ha rfl (g_move rfl) ?_; clear ha a; intro a ha
                obtain ⟨pkB, ckB, fkB, _, _, hatkB, hrkB, hikB⟩ := hks.at (by decide) gkB; obtain ⟨rfl, hIkB, rfl⟩ := hrkB
                refine op_g ha rfl (hikB.gives sl25 rfl rfl) ?_; clear ha a; intro a ha
                refine op_g ha rfl (g_load Tryd.isAgg2 rfl hatkB.one) ?_; clear ha a; intro a ha
                obtain ⟨mkB, hmkB0⟩ : ∃ mk, ms[kB.toNat]? = some mk := ⟨_, List.getElem?_eq_getElem (by rw [hI2.len]; exact (List.getElem?_eq_some_iff.1 gTB).1)⟩
                obtain ⟨ptB, ctB, ftB, _, _, hattB, hrtB, hitB⟩ := hI2.ow.at gk0B hmkB0; obtain ⟨rfl, rfl⟩ := hrtB
                refine op_g ha rfl (hitB.gives slTabs rfl rfl) ?_; clear ha a; intro a ha
                refine op_g ha rfl (g_load Tryd.isAgg72 rfl hattB.one) ?_; clear ha a; intro a ha
                have hMkB := hI2.mt _ _ _ hmkB0 gTB
                have hmom : ∀ b, some mkB = some b → b ≠ m := fun b hb e => hmms (by rw [← e, ← Option.some.inj hb]; exact List.mem_of_getElem? hmkB0)
                refine o_rangeT ha rfl undMap (.inr ⟨mkB, rfl, hMkB⟩) rfl ?_; clear ha a; intro lB rB w3 hLB hRgB hxr hlor a ha
                refine wpList_nil ?_
                have hrAB : rA ≠ rB := by have h1 := hRg2.lt; omega
                have hmkB : mkA ≠ rB := by have h1 := (hI2.mapAt (List.mem_of_getElem? hmkA)).choose_spec.lt; omega
                have h0rB : W0.heap.size ≤ rB := by have h1 := hE02.size; omega
                have hKArB : bKA ≠ rB := by have h1 := hBbKA.blt; omega
                replace hBbKA := hBbKA.ext hxr
                replace hI2 := hI2.up hxr; replace hM2 := hM2.ext hxr; replace hRg2 := hRg2.ext hxr
                clear hatkB hikB hattB hitB hMkB
                refine e_then ?_
                refine c_loop (fun a w => Fr 181 [(1, .map (some m0)), (3, .pointer (some ⟨bX, 0, none⟩)), (5, .pointer (some ⟨bR, 0, none⟩)), (7, v7), (8, .int .i64 i), (10, .map (some m)), (11, .int .i64 v), (12, vks), (29, vk), (30, .int .i64 (kinds.length : Int)), (31, .int .i64 i), (134, .pointer (some ⟨rA, 0, none⟩))] a ∧ RunI K 33 76 72 W0 bX bR [vk, vv, vb, vd] (rvOf fa fd fm fb fp ca cd cm cb cp)  b7 v7 ms ts w ∧ Rg K w rA (some mkA) rest' ∧ Mt K w m (gatL R.pick (gatL R.pick noT (done.flatMap (fun p => (cMeet R TkB p).getD []))) (lB.flatMap (cMeet1 R p))))
                  (fun n a w => ∃ (doneB restB : List (κ × Int)), n = restB.length ∧ (doneB ++ restB).Perm lB ∧ Fr 181 [(1, .map (some m0)), (3, .pointer (some ⟨bX, 0, none⟩)), (5, .pointer (some ⟨bR, 0, none⟩)), (7, v7), (8, .int .i64 i), (10, .map (some m)), (11, .int .i64 v), (12, vks), (29, vk), (30, .int .i64 (kinds.length : Int)), (31, .int .i64 i), (134, .pointer (some ⟨rA, 0, none⟩)), (21, .pointer (some ⟨bKA, 0, none⟩)), (22, .int .i64 p.2), (146, .pointer (some ⟨rB, 0, none⟩))] a ∧ RunI K 33 76 72 W0 bX bR [vk, vv, vb, vd] (rvOf fa fd fm fb fp ca cd cm cb cp)  b7 v7 ms ts w ∧ Rg K w rA (some mkA) rest' ∧ Rg K w rB (some mkB) restB ∧ Mt K w m (gatL R.pick (gatL R.pick noT (done.flatMap (fun p => (cMeet R TkB p).getD []))) (doneB.flatMap (cMeet1 R p))) ∧ Bx w bKA (kc p.1) 68) lB.length
                  ⟨[], lB, rfl, .refl _, ha.sub ⟨rfl, rfl, rfl, rfl, rfl, rfl, rfl, rfl, rfl, rfl, rfl, rfl, rfl, rfl, rfl, trivial⟩, hI2, hRg2, hRgB, hM2, hBbKA⟩ ?_ ?_
                · clear hI2 hRg2 hRgB hM2 ha hBbKA; rintro n a w ⟨doneB, restB, rfl, hpB, ha, hI, hRg, hRgB, hM, hBbKA⟩
                  refine wp_seq ?_; refine wp_region_lit ?_; refine o_nextT ha rfl hRgB rfl (fun hr a ha => ?_) (fun q restB' w4 hqr hqI hRg4 hc4 hen a ha => ?_)
                  · refine op_g ha rfl (g_extract rfl rfl) ?_; clear ha a; intro a ha
                    refine wpList_nil ?_; refine e_then ?_; refine wp_seq ?_; refine c_false ha rfl ?_; refine wp_exit ?_; refine e_then_exit ?_; refine e_lq_eq ?_; subst hr
                    exact ⟨ha.sub ⟨rfl, rfl, rfl, rfl, rfl, rfl, rfl, rfl, rfl, rfl, rfl, rfl, trivial⟩, hI, hRg, by rw [← gatL_perm hR.picks ((show doneB.Perm lB by simpa using hpB).flatMap_right _)]; exact hM⟩
                  · have hI4 := hI.chg hc4 (hI.offIt hRgB h0rB)
                    have hM4 := hM.chg hc4 (by simp only [List.mem_singleton]; exact (hRgB.neMap hM).symm)
                    have hRgA4 := hRg.chg hc4 (by simp only [List.mem_singleton]; exact hrAB) (fun b hb => by obtain rfl := Option.some.inj hb; simp only [List.mem_singleton]; exact hmkB)
                    replace hBbKA := hBbKA.chg hc4 (by simp only [List.mem_singleton]; exact hKArB)
                    clear hRg hRgB hI hM
                    refine op_g ha rfl (g_extract rfl rfl) ?_; clear ha a; intro a ha
                    refine wpList_nil ?_; refine e_then ?_; refine wp_seq ?_; refine c_true ha rfl ?_; refine wp_skip ?_; refine e_then ?_; refine wp_block ?_; refine wp_seq ?_; refine wp_region_lit ?_
                    refine o_entryT ha rfl rfl hen ?_; clear ha a; intro a ha
                    refine op_g ha rfl (g_extract rfl rfl) ?_; clear ha a; intro a ha
                    refine op_g ha rfl (g_extract rfl rfl) ?_; clear ha a; intro a ha
                    refine o_allocK hA ha rfl ?_; clear ha a; intro bKB wz hBz hxz hloz a ha
                    refine o_storeK hA (s := q.1) ha hBz rfl rfl rfl ?_; intro w4 hBbKB hcK
                    have hxK := Ext.then hxz hcK (fun i hi => by rw [List.mem_singleton] at hi; subst hi; exact hloz)
                    replace hI4 := hI4.up hxK; replace hM4 := hM4.ext hxK; replace hRgA4 := hRgA4.ext hxK; replace hRg4 := hRg4.ext hxK; replace hBbKA := hBbKA.ext hxK
                    clear hBz hxz hloz hcK hxK
                    refine op_g ha rfl (g_assign rfl) ?_; clear ha a; intro a ha
                    refine wpList_nil ?_
                    replace ha := ha.sub (σ' := [(1, .map (some m0)), (3, .pointer (some ⟨bX, 0, none⟩)), (5, .pointer (some ⟨bR, 0, none⟩)), (7, v7), (8, .int .i64 i), (10, .map (some m)), (11, .int .i64 v), (12, vks), (29, vk), (30, .int .i64 (kinds.length : Int)), (31, .int .i64 i), (134, .pointer (some ⟨rA, 0, none⟩)), (21, .pointer (some ⟨bKA, 0, none⟩)), (22, .int .i64 p.2), (146, .pointer (some ⟨rB, 0, none⟩)), (23, .pointer (some ⟨bKB, 0, none⟩)), (24, .int .i64 q.2)]) ⟨rfl, rfl, rfl, rfl, rfl, rfl, rfl, rfl, rfl, rfl, rfl, rfl, rfl, rfl, rfl, rfl, rfl, trivial⟩
                    refine e_then ?_
                    clear hen
                    refine wp_seq ?_; refine wp_region_lit ?_
                    refine op_g ha rfl (g_field0 stR2 rfl) ?_; clear ha a; intro a ha
                    refine op_g ha rfl (g_load Tryd.isAgg74 rfl (hI4.br.cell (j := 2) rfl)) ?_; clear ha a; intro a ha
                    refine op_g ha rfl (g_loadK hA hBbKA rfl) ?_; clear ha a; intro a ha
                    refine op_g ha rfl (g_loadK hA hBbKB rfl) ?_; clear ha a; intro a ha
                    refine o_callv (vals := [K.kv p.1, K.kv q.1]) (cap := cm) ha rfl rfl rfl hR.em (hR.meet hI4.ext p.1 q.1) ?_; clear ha a; rintro v157 w4b ⟨rfl, hx4b⟩ a ha
                    refine op_g ha rfl (g_move rfl) ?_; clear ha a; intro a ha
                    refine op_g ha rfl (g_extract rfl rfl) ?_; clear ha a; intro a ha
                    refine op_g ha rfl (g_extract rfl rfl) ?_; clear ha a; intro a ha
                    replace hI4 := hI4.up hx4b; replace hM4 := hM4.ext hx4b; replace hRgA4 := hRgA4.ext hx4b; replace hRg4 := hRg4.ext hx4b
                    replace hBbKA := hBbKA.ext hx4b
                    refine o_allocK hA ha rfl ?_; clear ha a; intro bKC wz hBz hxz hloz a ha
                    refine o_storeK hA (s := (R.meet p.1 q.1).1) ha hBz rfl rfl rfl ?_; intro w4b hBbKC hcK
                    have hxK := Ext.then hxz hcK (fun i hi => by rw [List.mem_singleton] at hi; subst hi; exact hloz)
                    replace hI4 := hI4.up hxK; replace hM4 := hM4.ext hxK; replace hRgA4 := hRgA4.ext hxK; replace hRg4 := hRg4.ext hxK; replace hBbKA := hBbKA.ext hxK
                    clear hBz hxz hloz hcK hxK
                    refine op_g ha rfl (g_assign rfl) ?_; clear ha a; intro a ha
                    refine wpList_nil ?_; refine e_then ?_; refine wp_seq ?_; refine wp_region_lit ?_
                    refine op_g ha rfl (g_move rfl) ?_; clear ha a; intro a ha
                    refine wpList_nil ?_
                    replace ha := ha.sub (σ' := [(1, .map (some m0)), (3, .pointer (some ⟨bX, 0, none⟩)), (5, .pointer (some ⟨bR, 0, none⟩)), (7, v7), (8, .int .i64 i), (10, .map (some m)), (11, .int .i64 v), (12, vks), (29, vk), (30, .int .i64 (kinds.length : Int)), (31, .int .i64 i), (134, .pointer (some ⟨rA, 0, none⟩)), (21, .pointer (some ⟨bKA, 0, none⟩)), (22, .int .i64 p.2), (146, .pointer (some ⟨rB, 0, none⟩)), (23, .pointer (some ⟨bKB, 0, none⟩)), (24, .int .i64 q.2), (25, .pointer (some ⟨bKC, 0, none⟩)), (160, .bool (R.meet p.1 q.1).2)]) ⟨rfl, rfl, rfl, rfl, rfl, rfl, rfl, rfl, rfl, rfl, rfl, rfl, rfl, rfl, rfl, rfl, rfl, rfl, rfl, trivial⟩
                    refine e_then ?_
                    refine c_cond ((R.meet p.1 q.1).2 = true) ha rfl Iff.rfl (fun hpm => ?_) (fun hpm => ?_)
                    · have hcm : cMeet1 R p q = [((R.meet p.1 q.1).1, R.both p.2 q.2)] := by unfold cMeet1; rw [if_pos hpm]
                      refine x_region [0, 1, 2, 3, 4, 5, 6, 7] hmix ?_
                      have hS0 := RowKit.Below.refl w4b.heap.size w4b
                      refine x_g 0 rfl (by kernel_rfl) (want0 _) ha rfl hS0 (g_loadA (cs := rvOf fa fd fm fb fp ca cd cm cb cp) Tryd.isAgg76 Tryd.sizeOf76 rfl (by simp [rvOf]) hI4.br.all) ?_; clear ha a; intro a ha
                      refine x_g 1 rfl (by kernel_rfl) (want0 _) ha rfl hS0 (g_move rfl) ?_; clear ha a; intro a ha
                      refine x_g 2 rfl (by kernel_rfl) (want0 _) ha rfl hS0 (g_loadK hA hBbKC rfl) ?_; clear ha a; intro a ha
                      refine x_g 3 rfl (by kernel_rfl) (want0 _) ha rfl hS0 (g_field0 stR3 rfl) ?_; clear ha a; intro a ha
                      refine x_g 4 rfl (by kernel_rfl) (want0 _) ha rfl hS0 (g_load Tryd.isAgg58 rfl (hI4.br.cell (j := 3) rfl)) ?_; clear ha a; intro a ha
                      refine x_g 5 rfl (by kernel_rfl) (want0 _) ha rfl hS0 (g_move rfl) ?_; clear ha a; intro a ha
                      refine x_g 6 rfl (by kernel_rfl) (want0 _) ha rfl hS0 (g_move rfl) ?_; clear ha a; intro a ha
                      refine x_callv (vals := [Value.int .i64 p.2, .int .i64 q.2]) (cap := cb) (.int .i64 (R.both p.2 q.2)) 7 rfl (by kernel_rfl) (want0 _) ha rfl rfl rfl hR.eb hS0 (fun w' hw' => (hR.both (hI4.ext.trans hw') hpI hqI).2) (fun w' u w'' h => h) ?_; clear ha a; intro a ha
                      refine x_only 8 rfl (by kernel_rfl) ?_; intro wa hxa
                      replace hI4 := hI4.up hxa; replace hM4 := hM4.ext hxa; replace hRgA4 := hRgA4.ext hxa; replace hRg4 := hRg4.ext hxa; replace hBbKA := hBbKA.ext hxa
                      refine o_call ha rfl rfl Tryd.call64 (W_gather hA hR hI4.ext hM4 h0m (R.meet p.1 q.1).1 (hR.both hI4.ext hpI hqI).1) ?_; clear ha a; rintro v87 w5 ⟨hM5, hc5⟩ a ha
                      refine wpList_nil (e_sq ?_); refine ⟨fun h => absurd h (by decide), ?_⟩
                      have hoff := hI4.offMap hM4 h0m hmms
                      have hI5 := hI4.chg hc5 hoff
                      have hRgA5 := hRgA4.chg hc5 (by simp only [List.mem_singleton]; exact hRgA4.neMap hM4) (fun b hb => by obtain rfl := Option.some.inj hb; simp only [List.mem_singleton]; exact hmkmA)
                      have hRgB5 := hRg4.chg hc5 (by simp only [List.mem_singleton]; exact hRg4.neMap hM4) (fun b hb => by simp only [List.mem_singleton]; exact hmom b hb)
                      refine x_done (by kernel_rfl) ?_; intro w6 hx6
                      refine e_blk ?_; refine e_lq ?_
                      exact ⟨_, len_step hqr, doneB ++ [q], restB', rfl, perm_step hpB hqr, ha.sub ⟨rfl, rfl, rfl, rfl, rfl, rfl, rfl, rfl, rfl, rfl, rfl, rfl, rfl, rfl, rfl, trivial⟩, hI5.up hx6, hRgA5.ext hx6, hRgB5.ext hx6, by rw [gat_step, hcm]; exact hM5.ext hx6, (hBbKA.chg hc5 (by simp only [List.mem_singleton]; exact hKAm)).ext hx6⟩
                    · have hcm : cMeet1 R p q = [] := by unfold cMeet1; rw [if_neg hpm]
                      refine wp_skip ?_; refine e_blk ?_; refine e_lq ?_
                      exact ⟨_, len_step hqr, doneB ++ [q], restB', rfl, perm_step hpB hqr, ha.sub ⟨rfl, rfl, rfl, rfl, rfl, rfl, rfl, rfl, rfl, rfl, rfl, rfl, rfl, rfl, rfl, trivial⟩, hI4, hRgA4, hRg4, by rw [gat_step, hcm]; exact hM4, hBbKA⟩
                · rintro a w ⟨ha, hI, hRg, hM⟩
                  refine e_blk ?_; refine e_lq ?_
                  exact ⟨_, len_step hpr, done ++ [p], rest', rfl, perm_step hp hpr, ha.sub ⟨rfl, rfl, rfl, rfl, rfl, rfl, rfl, rfl, rfl, rfl, rfl, rfl, trivial⟩, hI, hRg, by rw [gat_step]; rw [show (cMeet R TkB p).getD [] = (lst TkB).flatMap (cMeet1 R p) from rfl, gatL_perm hR.picks (((lst_is hLB).perm hLB).flatMap_right _)]; exact hM⟩
            · rintro a w ⟨ha, hI, hM⟩
              refine e_blk ?_; refine e_sq ?_
              exact ⟨m, ha.sub ⟨rfl, rfl, rfl, rfl, rfl, rfl, rfl, rfl, trivial⟩, hI, hM⟩
          · replace hnode := if_f hp4 hnode
            refine wp_skip ?_; refine e_blk ?_; refine e_sq ?_
            obtain rfl := Option.some.inj hnode
            exact ⟨m, ha.sub ⟨rfl, rfl, rfl, rfl, rfl, rfl, rfl, rfl, trivial⟩, hI, hM⟩
        · clear hI hM ha hks; rintro a w ⟨mm, ha, hI, hM⟩
          refine wp_region_lit ?_
          refine op_g ha rfl (g_move rfl) ?_; clear ha a; intro a ha
          refine op_g ha rfl (g_move rfl) ?_; clear ha a; intro a ha
          refine o_lit1 (o := true) (y := mm) Rp.mp ha rfl slTabs rfl rfl rfl ⟨rfl, rfl⟩ ?_; clear ha a; intro v172 w172 h172 hx172 a ha
          replace hI := hI.up hx172; replace hM := hM.ext hx172
          refine o_append ha rfl slTabs rfl rfl rfl hI.ow h172.src (Nq.nil _) (by rw [hI.len]; exact hl) ?_; clear ha a; intro v173 w173 b173 h173 hc173 hb173 a ha
          refine op_g ha rfl (g_assign rfl) ?_; clear ha a; intro a ha
          refine wpList_nil ?_
          have hI9 := hI.push hc173 h173 hb173 hM
          refine e_blk ?_; refine e_then ?_; refine wp_region_lit ?_
          refine op_g ha rfl (g_add rfl rfl hI1) ?_; clear ha a; intro a ha
          refine op_g ha rfl (g_move rfl) ?_; clear ha a; intro a ha
          refine wpList_nil ?_; refine e_lq ?_
          obtain rfl := Option.some.inj hF
          exact ⟨_, Nat.lt_succ_self _, b173, v173, ms ++ [mm], ts ++ [T], i + 1, ha.sub ⟨rfl, rfl, rfl, rfl, rfl, rfl, rfl, trivial⟩, hI9, hI1, hN⟩
      · replace hF := if_f hp hF
        refine wp_exit ?_; refine e_then_exit ?_; refine e_lq_eq ?_; obtain rfl := Option.some.inj hF
        exact ⟨b7, v7, ms, ha.sub ⟨rfl, trivial⟩, (LK_inr hN).symm ▸ hI⟩
  · rintro a w ⟨b8, v8, ms, ha, hI⟩
    obtain ⟨hIl, hF⟩ := ck_some hF; obtain ⟨Tz, gz0, gz, hF⟩ := idx_some hF; obtain rfl := Option.some.inj hF
    refine e_then ?_; refine wp_seq ?_; refine wp_region_lit ?_
    refine op_g ha rfl (g_move rfl) ?_; clear ha a; intro a ha
    refine op_g ha rfl (g_move rfl) ?_; clear ha a; intro a ha
    refine op_g ha rfl (g_lenO slTabs.und hI.ow rfl) ?_; clear ha a; intro a ha
    have hle := hI.len
    rw [← hle] at hIl gz gz0
    refine op_g ha rfl (g_sub rfl rfl hIl) ?_; clear ha a; intro a ha
    obtain ⟨mz, hmz⟩ : ∃ mz, ms[((ms.length : Int) - 1).toNat]? = some mz := ⟨_, List.getElem?_eq_getElem (by omega)⟩
    obtain ⟨pt, ct, ft, _, _, hatt, hrt, hit⟩ := hI.ow.at gz0 hmz; obtain ⟨rfl, rfl⟩ := hrt
    refine op_g ha rfl (hit.gives slTabs rfl rfl) ?_; clear ha a; intro a ha
    refine op_g ha rfl (g_load Tryd.isAgg72 rfl hatt.one) ?_; clear ha a; intro a ha
    refine op_g ha rfl (g_assign rfl) ?_; clear ha a; intro a ha
    refine wpList_nil ?_; refine e_then ?_; refine wp_ret ?_
    exact f_ret1 ha rfl rfl ⟨mz, rfl, hI.mt _ _ _ hmz gz, hI.ext⟩
end

set_option maxHeartbeats 2000000 in
theorem W_sum {W : World} (x y : Int) :
    Calls Tryd.prog 30 [Value.int .i64 x, .int .i64 y].toArray W (Ret fun u w' => u = .int .i64 (wr (x + y)) ∧ Ext W w') := by
  refine f_enter Tryd.func30 rfl Tryd.ntmps30 rfl ?_
  intro a ha
  replace ha : Fr 8 [(0, .int .i64 x), (1, .int .i64 y)] a := ha
  refine wp_seq ?_; refine wp_region_lit ?_
  refine op_g ha rfl (g_assign rfl) ?_; clear ha a; intro a ha
  refine wpList_nil ?_
  refine e_then ?_
  refine wp_seq ?_; refine wp_region_lit ?_
  refine op_g ha rfl (g_move rfl) ?_; clear ha a; intro a ha
  refine op_g ha rfl (g_move rfl) ?_; clear ha a; intro a ha
  refine op_g ha rfl (g_addw rfl rfl) ?_; clear ha a; intro a ha
  refine op_g ha rfl (g_assign rfl) ?_; clear ha a; intro a ha
  refine wpList_nil ?_
  refine e_then ?_; refine wp_ret ?_
  exact f_ret1 ha rfl rfl ⟨rfl, Chg.refl _ _⟩

set_option maxHeartbeats 2000000 in
theorem W_product {W : World} (x y : Int) :
    Calls Tryd.prog 29 [Value.int .i64 x, .int .i64 y].toArray W (Ret fun u w' => u = .int .i64 (wr (x * y)) ∧ Ext W w') := by
  refine f_enter Tryd.func29 rfl Tryd.ntmps29 rfl ?_
  intro a ha
  replace ha : Fr 8 [(0, .int .i64 x), (1, .int .i64 y)] a := ha
  refine wp_seq ?_; refine wp_region_lit ?_
  refine op_g ha rfl (g_assign rfl) ?_; clear ha a; intro a ha
  refine wpList_nil ?_
  refine e_then ?_
  refine wp_seq ?_; refine wp_region_lit ?_
  refine op_g ha rfl (g_move rfl) ?_; clear ha a; intro a ha
  refine op_g ha rfl (g_move rfl) ?_; clear ha a; intro a ha
  refine op_g ha rfl (g_mulw rfl rfl) ?_; clear ha a; intro a ha
  refine op_g ha rfl (g_assign rfl) ?_; clear ha a; intro a ha
  refine wpList_nil ?_
  refine e_then ?_; refine wp_ret ?_
  exact f_ret1 ha rfl rfl ⟨rfl, Chg.refl _ _⟩

set_option maxHeartbeats 2000000 in
theorem W_math_bits_TrailingZeros32 {W : World} {a0 : BitVec 32} (hG : GT 0 W) {r : Int} (hF : F_math_bits_TrailingZeros32 a0 = some r) :
    Calls Tryd.prog 75 [.int .u32 (BitVec.toNat a0 : Int)].toArray W (Ret fun u w' => (u = .int .i64 r ∧ InI r) ∧ Ext W w') := by
  refine f_enter Tryd.func75 rfl Tryd.ntmps75 rfl ?_
  intro a ha
  replace ha : Fr 14 [(0, (.int .u32 (BitVec.toNat a0 : Int)))] a := ha; have hE : Chg [] W W := Chg.refl _ _
  unfold F_math_bits_TrailingZeros32 at hF
  refine wp_seq (wp_region_lit ?_); refine op_g ha rfl (g_assign rfl) ?_; intro a ha; refine wpList_nil (e_then (wp_seq (wp_seq (wp_region_lit ?_)))); refine op_g ha rfl (g_move rfl) ?_; intro a ha; refine op_g ha rfl (g32_eql (m := a0) (n := (0#32)) rfl rfl) ?_; intro a ha; refine wpList_nil (e_then ?_); refine c_cond (a0 = (0#32)) ha rfl (decide_eq_true_iff) (fun hp1 => ?_) (fun hp1 => ?_)
  · replace hF := if_t hp1 hF
    refine wp_seq (wp_region_lit ?_); refine op_g ha rfl (g_assign rfl) ?_; intro a ha; refine wpList_nil (e_then (wp_ret (e_then_ret ?_))); obtain rfl := Option.some.inj hF
    exact f_ret1 ha rfl rfl ⟨⟨rfl, (show InI 32 from by decide)⟩, hE⟩
  replace hF := if_f hp1 hF; refine wp_skip (e_then (wp_seq (wp_region_lit ?_))); refine op_g ha rfl (g_move rfl) ?_; intro a ha; refine op_g ha rfl (g_move rfl) ?_; intro a ha; refine op_g ha rfl (g32_neg (m := a0) rfl) ?_; intro a ha; refine op_g ha rfl (g32_and (m := a0) (n := (-a0)) rfl rfl) ?_; intro a ha; refine op_g ha rfl (g32_mul (m := (a0 &&& (-a0))) (n := (125613361#32)) rfl rfl) ?_; intro a ha; refine op_g ha rfl (g32_shr (m := ((a0 &&& (-a0)) * (125613361#32))) rfl rfl (show InU 27 from by decide).1) ?_; intro a ha; obtain ⟨x2, g3, gx4, hF⟩ := idx_some hF; refine op_g ha rfl (g_idxG un112 Tryd.sizeOf5 rfl g3 (idx_lt g3 gx4 (by decide))) ?_; intro a ha; refine op_g ha rfl (g_load Tryd.isAgg5 rfl (Tab.cell (hG.ext hE) gx4)) ?_; intro a ha; refine op_g ha rfl (g_conv8 (m := x2) un5 un3 rfl) ?_; intro a ha; refine op_g ha rfl (g_assign rfl) ?_; intro a ha; refine wpList_nil ?_; replace ha := ha.sub (σ' := [(2, (.int .i64 (BitVec.toNat x2 : Int)))]) ⟨rfl, trivial⟩; refine e_then (wp_ret ?_); obtain rfl := Option.some.inj hF
  exact f_ret1 ha rfl rfl ⟨⟨rfl, (in_u8 _)⟩, hE⟩
set_option maxHeartbeats 2000000 in
theorem W_impl_vset_least {W : World} {a0 : BitVec 32} (hG : GT 0 W) {r : Int} (hF : F_impl_vset_least a0 = some r) :
    Calls Tryd.prog 60 [.int .u32 (BitVec.toNat a0 : Int)].toArray W (Ret fun u w' => (u = .int .i64 r ∧ InI r) ∧ Ext W w') := by
  refine f_enter Tryd.func60 rfl Tryd.ntmps60 rfl ?_
  intro a ha
  replace ha : Fr 5 [(0, (.int .u32 (BitVec.toNat a0 : Int)))] a := ha; have hE : Chg [] W W := Chg.refl _ _
  unfold F_impl_vset_least at hF
  refine wp_seq (wp_region_lit ?_); refine op_g ha rfl (g_assign rfl) ?_; intro a ha; refine wpList_nil (e_then (wp_seq (wp_region_lit ?_))); refine op_g ha rfl (g_move rfl) ?_; intro a ha; obtain ⟨x1, hc2, hF⟩ := cal_some hF; refine o_call ha rfl rfl Tryd.call75 (W_math_bits_TrailingZeros32 (hG.ext hE) hc2) ?_; clear ha a; rintro v3 w4 ⟨⟨rfl, hI6⟩, hx5⟩ a ha; have hE7 := Ext.trans hE hx5; refine op_g ha rfl (g_assign rfl) ?_; intro a ha; refine wpList_nil (e_then (wp_ret ?_)); obtain rfl := Option.some.inj hF
  exact f_ret1 ha rfl rfl ⟨⟨rfl, hI6⟩, hE7⟩
set_option maxHeartbeats 2000000 in
theorem W_impl_vset_list {W : World} {a0 : BitVec 32} (hG : GT 0 W) {r : (List Int)} (hF : F_impl_vset_list a0 = some r) :
    Calls Tryd.prog 27 [.int .u32 (BitVec.toNat a0 : Int)].toArray W (Ret fun u w' => ∃ (b_u : Int), Ow Rp.int 3 true w' [] b_u u r ∧ Zn W b_u ∧ Ext W w') := by
  refine f_enter Tryd.func27 rfl Tryd.ntmps27 rfl ?_
  intro a ha
  replace ha : Fr 17 [(0, (.int .u32 (BitVec.toNat a0 : Int)))] a := ha; have hE : Chg [] W W := Chg.refl _ _
  unfold F_impl_vset_list at hF
  refine wp_seq (wp_region_lit ?_); refine op_g ha rfl (g_assign rfl) ?_; intro a ha; refine wpList_nil (e_then (wp_seq (wp_region_lit ?_))); refine o_lit0 Rp.int ha rfl sl54 ?_; clear ha a; intro v1 w2 h3 hx4 a ha; obtain ⟨b6, hb6⟩ : ∃ b : Int, b = W.heap.size := ⟨_, rfl⟩; rw [← hb6] at h3; have q7 := zn_of hb6; have q8 := Zn.upD q7 hE; have hE9 := Ext.trans hE hx4; refine op_g ha rfl (g_assign rfl) ?_; intro a ha; refine wpList_nil (e_then (wp_seq ?_)); obtain ⟨o109, ho110, hK111⟩ := bnd_some hF; obtain ⟨n112, hn113⟩ := lp_some ho110; clear ho110; refine c_loop (fun a w => ∃ (l106 : (List Int)) (v107 : Value) (b108 : Int), Fr 17 [(3, v107)] a ∧ Chg [] W w ∧ Ow Rp.int 3 true w [] b108 v107 l106 ∧ Zn W b108 ∧ o109 = .inl l106) (fun n a w => ∃ (u55 : BitVec 32) (l59 : (List Int)) (v60 : Value) (b61 : Int), Fr 17 [(0, (.int .u32 (BitVec.toNat u55 : Int))), (3, v60)] a ∧ Chg [] W w ∧ Ow Rp.int 3 true w [] b61 v60 l59 ∧ Zn W b61 ∧ lpN (fun s => F_impl_vset_list_l1 s.1 s.2) n (u55, l59) = some o109) n112 ⟨a0, ([] : (List Int)), v1, b6, ha.sub ⟨rfl, rfl, trivial⟩, hE9, h3, q8, hn113⟩ ?_ ?_
  · rintro m117 a w54 ⟨u55, l59, v60, b61, ha, hE62, h57, z58, hF⟩
    cases m117 with
    | zero => exact (lpN_zero hF).elim
    | succ m117 =>
      obtain ⟨z116, hF, hN115⟩ := lpN_succ hF; have hF : F_impl_vset_list_l1 u55 l59 = some z116 := hF; unfold F_impl_vset_list_l1 at hF; refine wp_seq (wp_seq (wp_region_lit ?_)); refine op_g ha rfl (g_move rfl) ?_; intro a ha; refine op_g ha rfl (g32_neq (m := u55) (n := (0#32)) rfl rfl) ?_; intro a ha; refine wpList_nil (e_then ?_); refine c_cond (u55 ≠ (0#32)) ha rfl (decide_eq_true_iff) (fun hp118 => ?_) (fun hp118 => ?_)
      · replace hF := if_t hp118 hF
        refine wp_skip (e_then (wp_seq (wp_block (wp_region_lit ?_)))); refine op_g ha rfl (g_move rfl) ?_; intro a ha; refine op_g ha rfl (g_move rfl) ?_; intro a ha; obtain ⟨x119, hc120, hF⟩ := cal_some hF; refine o_call ha rfl rfl Tryd.call60 (W_impl_vset_least (hG.ext hE62) hc120) ?_; clear ha a; rintro v121 w122 ⟨⟨rfl, hI124⟩, hx123⟩ a ha; replace h57 := h57.ext hx123; have hE125 := Ext.trans hE62 hx123; refine o_lit1 (o := true) (y := x119) Rp.int ha rfl sl54 rfl rfl rfl ⟨rfl, hI124, rfl⟩ ?_; clear ha a; intro v126 w127 h128 hx129 a ha; obtain ⟨b131, hb131⟩ : ∃ b : Int, b = w122.heap.size := ⟨_, rfl⟩; rw [← hb131] at h128; replace h57 := h57.ext hx129; have hE136 := Ext.trans hE125 hx129; obtain ⟨hl137, hF⟩ := app_some hF; refine o_append ha rfl sl54 rfl rfl rfl h57 h128.src (Nq.nil _) hl137 ?_; clear ha a; intro v138 w139 b140 h141 hc142 hb143 a ha; replace h141 : Ow Rp.int 3 true w139 [] b140 v138 _ := h141; have q147 := Zn.appD z58 hb143 hE136; have hE148 := Ext.then hE136 hc142 (Zn.bl z58); refine op_g ha rfl (g_assign rfl) ?_; intro a ha; refine wpList_nil (e_blk (e_then (wp_region_lit ?_))); refine op_g ha rfl (g_move rfl) ?_; intro a ha; refine op_g ha rfl (g_move rfl) ?_; intro a ha; refine op_g ha rfl (g32_sub (m := u55) (n := (1#32)) rfl rfl) ?_; intro a ha; refine op_g ha rfl (g32_and (m := u55) (n := (u55 - (1#32))) rfl rfl) ?_; intro a ha
        refine op_g ha rfl (g_assign rfl) ?_; intro a ha; refine wpList_nil (e_lq ?_); obtain rfl := Option.some.inj hF
        exact ⟨_, Nat.lt_succ_self _, u55 &&& (u55 - (1#32)), (l59 ++ ([x119])), v138, b140, ha.sub ⟨rfl, rfl, trivial⟩, hE148, h141, q147, hN115⟩
      replace hF := if_f hp118 hF; refine wp_exit (e_then_exit (e_lq_eq ?_)); obtain rfl := Option.some.inj hF
      exact ⟨l59, v60, b61, ha.sub ⟨rfl, trivial⟩, hE62, h57, z58, (LK_inr hN115).symm⟩
  rintro a w102 ⟨l106, v107, b108, ha, hE114, h104, z105, rfl⟩
  have hF : F_impl_vset_list_k2 l106 = some _ := hK111; clear hK111; unfold F_impl_vset_list_k2 at hF; refine e_then (wp_seq (wp_region_lit ?_)); refine op_g ha rfl (g_move rfl) ?_; intro a ha; refine op_g ha rfl (g_assign rfl) ?_; intro a ha; refine wpList_nil ?_; replace ha := ha.sub (σ' := [(2, v107)]) ⟨rfl, trivial⟩; refine e_then (wp_ret ?_); obtain rfl := Option.some.inj hF
  exact f_ret1 ha rfl rfl ⟨_, h104, z105, hE114⟩
set_option maxHeartbeats 2000000 in
def clC (s : Cl) : List Value := s.1.map fun x => Value.int .i8 x
theorem clC_len (s : Cl) : (clC s).length = 16 := by unfold clC; rw [List.length_map]; exact s.2.1
theorem kC (s : Cl) : ∃ kl, keyOf Tryd.prog 68 (.agg (clC s).toArray) = some kl :=
  asked_arr (P := Tryd.prog) (k := 68) (te := 66) (n := 16) (by kernel_rfl) (by kernel_rfl) (by kernel_rfl) (by kernel_rfl) (by kernel_rfl) (of_decide_eq_true (by kernel_rfl)) s.2.1 s.2.2
theorem i8_inj {a b : Int} (h : Value.int .i8 a = Value.int .i8 b) : a = b := by injection h
theorem map_inj8 : ∀ {xs ys : List Int}, (xs.map fun x => Value.int .i8 x) = (ys.map fun x => Value.int .i8 x) → xs = ys
  | [], [], _ => rfl
  | [], _ :: _, h => by cases h
  | _ :: _, [], h => by cases h
  | x :: xs, y :: ys, h => by
    rw [List.map_cons, List.map_cons, List.cons.injEq] at h
    rw [i8_inj h.1, map_inj8 h.2]
theorem kCinj (a b : Cl) (h : Value.agg (clC a).toArray = .agg (clC b).toArray) : a = b := by
  have h : (clC a).toArray = (clC b).toArray := by injection h
  exact Subtype.ext (map_inj8 (congrArg Array.toList h))
theorem lawC : WideMaps.KeyLaw Tryd.prog 68 := deep_law_laid (m := 2) (by kernel_rfl) (by omega) (of_decide_eq_true (by kernel_rfl)) (by kernel_rfl) (by kernel_rfl)
noncomputable def KC : Ky Tryd.prog 68 Cl := Ky.ofLaw (fun s => .agg (clC s).toArray) kCinj kC lawC
theorem hKC : KAgg KC clC (List.replicate 16 (.int .i8 0)) :=
  ⟨fun s => rfl, fun s h => (by have := clC_len s; rw [h] at this; cases this), fun s v hv => (by unfold clC at hv; obtain ⟨x, _, rfl⟩ := List.mem_map.1 hv; rfl), fun s => (by rw [clC_len, List.length_replicate]), fun s w => (by rw [clC_len]; exact Tryd.sizeOf68 w), fun w => (by rfl), Tryd.isAgg68⟩
/-- colours as elements of a slice -/
def RpC : Rp Cl where
  sz := 16
  pos := by decide
  rep := fun _ _ fp cs s => cs = clC s ∧ fp = []
  len := fun {o w fp cs x} h => by rw [h.1]; exact clC_len x
  one := fun {o w fp cs x} h c hc => by rw [h.1] at hc; exact hKC.one x c hc
  keep := fun h _ => h
  bnd := fun h => by simp [h.2]
  weak := fun h => h
theorem hldC {w : World} {p : Addr} {cs : List Value} {f : List Nat} {o : Bool} {s : Cl} {σ : Slots} {x : Operand} (h : RpC.rep o w f cs s) (hat : At w p cs) (hx : ev σ x = some (.pointer (some p))) : Gives Tryd.prog (Ext w) σ (.load 68 x) (KC.kv s) := by
  obtain ⟨rfl, _⟩ := h
  exact g_loadA (cs := clC s) Tryd.isAgg68 (fun w => by rw [clC_len]; exact Tryd.sizeOf68 w) hx (hKC.ne s) hat
theorem setC_some {s t : Cl} {v c : Int} (h : setC s v c = some t) : (0 ≤ v ∧ v < 16) ∧ (-128 ≤ c ∧ c ≤ 127) ∧ clC t = (clC s).set v.toNat (.int .i8 c) := by
  unfold setC at h
  split at h
  · rename_i c0
    obtain rfl := Option.some.inj h
    exact ⟨c0.1, c0.2, by unfold clC; rw [List.map_set]⟩
  · cases h
theorem undArr : Tryd.prog.underlying 68 = some (.array 16 66) := by kernel_rfl
theorem undEl : Tryd.prog.underlying 66 = some (.int .i8) := by kernel_rfl
set_option maxHeartbeats 2000000 in
theorem W_equalC {W : World} (s u : Cl) :
    Calls Tryd.prog 41 [KC.kv s, KC.kv u].toArray W (Ret fun v w' => v = .tuple #[KC.kv s, .bool (decide (s = u))] ∧ Ext W w') := by
  refine f_enter Tryd.func41 rfl Tryd.ntmps41 rfl ?_
  intro a ha
  replace ha : Fr 10 [(0, KC.kv s), (1, KC.kv u)] a := ha
  refine wp_seq ?_; refine wp_region_lit ?_
  refine o_boxK hKC (s := s) ha rfl rfl ?_; clear ha a; intro b2 w2 hB2 hx2 hlo2 a ha
  refine o_boxK hKC (s := u) ha rfl rfl ?_; clear ha a; intro b3 w3 hB3 hx3 hlo3 a ha
  refine o_allocK hKC ha rfl ?_; clear ha a; intro b4 w4 hB4 hx4 hlo4 a ha
  refine op_g ha rfl (g_assign rfl) ?_; clear ha a; intro a ha
  refine wpList_nil ?_
  refine e_then ?_
  have l2 := hB2.blt; have l3 := hB3.blt; have z3 := hx3.size; have z4 := hx4.size
  have hB2 := (hB2.ext hx3).ext hx4; have hB3 := hB3.ext hx4
  have n2 : b2 ∉ [b4] := fun h => by rw [List.mem_singleton] at h; omega
  have n3 : b3 ∉ [b4] := fun h => by rw [List.mem_singleton] at h; omega
  have hW4 : W.heap.size ≤ b4 := by have := hx2.size; omega
  have hE4 := (hx2.trans hx3).trans hx4
  refine wp_seq ?_; refine r_region (D := [b4]) [0, 1, 2, 3, 4, 5] hmix ?_
  have hS0 := BelD.refl [b4] w4.heap.size w4
  have hL2 : ∀ {σ : Slots} {x : Operand}, ev σ x = some (.pointer (some ⟨b2, 0, none⟩)) → Gives Tryd.prog (Chg [b4] w4) σ (.load 68 x) (KC.kv s) := fun hx => g_loadAR (cs := clC s) Tryd.isAgg68 (hKC.size s) hx (hKC.ne s) hB2.all n2
  have hL3 : ∀ {σ : Slots} {x : Operand}, ev σ x = some (.pointer (some ⟨b3, 0, none⟩)) → Gives Tryd.prog (Chg [b4] w4) σ (.load 68 x) (KC.kv u) := fun hx => g_loadAR (cs := clC u) Tryd.isAgg68 (hKC.size u) hx (hKC.ne u) hB3.all n3
  refine r_g 0 rfl (by kernel_rfl) (want0 _) ha rfl hS0 (hL2 rfl) ?_; clear ha a; intro a ha
  refine r_g 1 rfl (by kernel_rfl) (want0 _) ha rfl hS0 (hL2 rfl) ?_; clear ha a; intro a ha
  refine r_g 2 rfl (by kernel_rfl) (want0 _) ha rfl hS0 (hL3 rfl) ?_; clear ha a; intro a ha
  refine r_g 3 rfl (by kernel_rfl) (want0 _) ha rfl hS0 (g_eqlK hKC (m := 2) (by decide) (by kernel_rfl) (by kernel_rfl) kC lawC Tryd.eqGuardType68 rfl rfl) ?_; clear ha a; intro a ha
  refine r_only 4 rfl (by kernel_rfl) ?_; intro wa hxa
  have hS1 := beld_step hS0 hxa
  refine o_storeK hKC (s := s) ha (hB4.ext hxa) List.length_replicate rfl rfl ?_; intro wb hBb hcb
  have hbd := chg_beld hcb hS1.size (fun i hi => .inl hi)
  refine wpList_nil (e_sq ?_); refine ⟨fun _ => hbd, ?_⟩
  have hS2 := hS1.trans hbd
  refine r_g 5 rfl (by kernel_rfl) (want0 _) ha rfl hS2 (g_assign rfl) ?_; clear ha a; intro a ha
  refine r_done (by kernel_rfl) ?_; intro wc hxc
  refine e_then ?_; refine wp_ret ?_
  exact f_retC2 (cs := clC s) ha rfl rfl Tryd.isAgg68 (hKC.size s) (hBb.ext hxc) rfl ⟨rfl, (Ext.then (hE4.trans hxa) hcb (fun i hi => by rw [List.mem_singleton] at hi; subst hi; exact hW4)).trans hxc⟩
set_option maxHeartbeats 2000000 in
theorem W_colDrop {W : World} {s : Cl} {v : Int} (hv : InI v) {m : BitVec 32} {n : Int} (hn : InI n) {T : Tf Cl} (hF : (cal (setC s v 0) fun t => some (putT noT t n)) = some T) :
    Calls Tryd.prog 40 [KC.kv s, .int .i64 v, .int .u32 (BitVec.toNat m : Int), .int .i64 n].toArray W (Ret fun u w' => ∃ mo, u = .map mo ∧ Mv KC w' mo T ∧ (∀ b, mo = some b → W.heap.size ≤ b) ∧ Ext W w') := by
  refine f_enter Tryd.func40 rfl Tryd.ntmps40 rfl ?_
  intro a ha
  replace ha : Fr 15 [(0, KC.kv s), (1, .int .i64 v), (2, .int .u32 (BitVec.toNat m : Int)), (3, .int .i64 n)] a := ha
  obtain ⟨t, ht, hF⟩ := cal_some hF; obtain rfl := Option.some.inj hF
  obtain ⟨hv16, _, hset⟩ := setC_some ht
  refine wp_seq ?_; refine wp_region_lit ?_
  refine o_boxK hKC (s := s) ha rfl rfl ?_; clear ha a; intro b4 w4 hB hx4 hlo4 a ha
  refine op_g ha rfl (g_assign rfl) ?_; clear ha a; intro a ha
  refine wpList_nil ?_
  refine e_then ?_
  refine wp_seq ?_; refine wp_region_lit ?_
  refine op_g ha rfl (g_move rfl) ?_; clear ha a; intro a ha
  refine op_g ha rfl (g_idxBx undArr Tryd.sizeOf66 rfl rfl hv16.1 (by omega)) ?_; clear ha a; intro a ha
  refine o_storeB (j := 0 + v.toNat) (v := .int .i8 0) ha hB Tryd.sizeOf66 rfl rfl rfl rfl (by rw [clC_len]; omega) ?_; intro w5 hB5 hc5
  rw [Nat.zero_add, ← hset] at hB5
  have hE5 : Ext W w5 := hx4.then hc5 (fun i hi => by rw [List.mem_singleton] at hi; subst hi; exact hlo4)
  refine wpList_nil ?_
  refine e_then ?_
  refine wp_seq ?_; refine wp_region_lit ?_
  refine o_newT KC ha rfl ?_; clear ha a; intro mm w6 hM hx6 hlo6 a ha
  refine op_g ha rfl (g_loadK hKC (hB5.ext hx6) rfl) ?_; clear ha a; intro a ha
  refine op_g ha rfl (g_move rfl) ?_; clear ha a; intro a ha
  refine o_insT (K := KC) (s := t) ha undMap hM hn rfl rfl rfl ?_; intro w7 hM7 hc7
  refine op_g ha rfl (g_move rfl) ?_; clear ha a; intro a ha
  refine op_g ha rfl (g_assign rfl) ?_; clear ha a; intro a ha
  refine wpList_nil ?_
  refine e_then ?_
  refine wp_ret ?_
  have hs := hE5.size
  exact f_ret1 ha rfl rfl ⟨some mm, rfl, .inr ⟨mm, rfl, hM7⟩, fun b hb => by obtain rfl := Option.some.inj hb; omega, Ext.then (hE5.trans hx6) hc7 (fun i hi => by rw [List.mem_singleton] at hi; subst hi; omega)⟩
set_option maxHeartbeats 2000000 in
theorem W_clHas {W : World} {bs bC : Nat} {s : Cl} {c : Int} (hs : Bx W bs (clC s) 68) (hC : Bx W bC [.int .i8 c] 66) {u : Int} (hu : InI u) {r : Bool} (hF : clHas s c u = some r) :
    Calls Tryd.prog 39 [.int .i64 u, .pointer (some ⟨bs, 0, none⟩), .pointer (some ⟨bC, 0, none⟩)].toArray W (Ret fun v w' => v = .bool r ∧ Ext W w') := by
  refine f_enter Tryd.func39 rfl Tryd.ntmps39 rfl ?_
  intro a ha
  replace ha : Fr 10 [(0, .int .i64 u), (1, .pointer (some ⟨bs, 0, none⟩)), (2, .pointer (some ⟨bC, 0, none⟩))] a := ha
  unfold clHas at hF
  obtain ⟨x, h0, hx, hF⟩ := idx_some hF; obtain rfl := Option.some.inj hF
  have hlt : u.toNat < 16 := by have := (List.getElem?_eq_some_iff.1 hx).1; rw [s.2.1] at this; exact this
  have hcell : (clC s)[0 + u.toNat]? = some (.int .i8 x) := by rw [Nat.zero_add]; unfold clC; rw [List.getElem?_map, hx]; rfl
  refine wp_seq ?_; refine wp_region_lit ?_
  refine op_g ha rfl (g_assign rfl) ?_; clear ha a; intro a ha
  refine wpList_nil ?_
  refine e_then ?_
  refine wp_seq ?_; refine x_region [0, 1, 2, 3, 4, 5] hmix ?_
  have hS0 := RowKit.Below.refl W.heap.size W
  refine x_g 0 rfl (by kernel_rfl) (want0 _) ha rfl hS0 (g_move rfl) ?_; clear ha a; intro a ha
  refine x_g 1 rfl (by kernel_rfl) (want0 _) ha rfl hS0 (g_idxBx undArr Tryd.sizeOf66 rfl rfl h0 (by omega)) ?_; clear ha a; intro a ha
  refine x_g 2 rfl (by kernel_rfl) (want0 _) ha rfl hS0 (g_load Tryd.isAgg66 rfl (hs.cell hcell)) ?_; clear ha a; intro a ha
  refine x_g 3 rfl (by kernel_rfl) (want0 _) ha rfl hS0 (g_load Tryd.isAgg66 rfl (hC.cell (j := 0) rfl)) ?_; clear ha a; intro a ha
  refine x_g 4 rfl (by kernel_rfl) (want0 _) ha rfl hS0 (g_eql rfl rfl) ?_; clear ha a; intro a ha
  refine x_g 5 rfl (by kernel_rfl) (want0 _) ha rfl hS0 (g_assign rfl) ?_; clear ha a; intro a ha
  refine x_done (by kernel_rfl) ?_; intro w1 hx1
  refine e_then ?_; refine wp_ret ?_
  exact f_ret1 ha rfl rfl ⟨rfl, hx1⟩
set_option maxHeartbeats 4000000 in
theorem W_colAdd {W : World} {s : Cl} {v : Int} (hv : InI v) {m : BitVec 32} {k : Int} {bk bv : Nat} {va : Value} {fa : List Nat} {aa : List (BitVec 32)} (hA : Ro Rp.u32 W fa va aa) (hBk : Bx W bk [.int .i64 k] 2) (hBv : Bx W bv [va] 46) (hG : GT 0 W) (hk : 0 ≤ k ∧ k ≤ 4) {r : List Cl} (hF : clGo aa s v m k.toNat 1 [] = some r) :
    Calls Tryd.prog 37 [KC.kv s, .int .i64 v, .int .u32 (BitVec.toNat m : Int), .pointer (some ⟨bk, 0, none⟩), .pointer (some ⟨bv, 0, none⟩)].toArray W (Ret fun u w' => ∃ f, Ro RpC w' f u r ∧ (∀ k ∈ f, W.heap.size ≤ k) ∧ Ext W w') := by
  refine f_enter Tryd.func37 rfl Tryd.ntmps37 rfl ?_
  intro a ha
  replace ha : Fr 39 [(0, KC.kv s), (1, .int .i64 v), (2, .int .u32 (BitVec.toNat m : Int)), (3, .pointer (some ⟨bk, 0, none⟩)), (4, .pointer (some ⟨bv, 0, none⟩))] a := ha
  refine wp_seq ?_; refine wp_region_lit ?_
  refine o_boxK hKC (s := s) ha rfl rfl ?_; clear ha a; intro bs w5 hBs hx5 hlo5 a ha
  refine op_g ha rfl (g_assign rfl) ?_; clear ha a; intro a ha
  refine wpList_nil ?_
  refine e_then ?_
  refine wp_seq ?_; refine wp_region_lit ?_
  refine o_lit0 RpC ha rfl sl69 ?_; clear ha a; intro v9 w9 h9 hx9 a ha
  refine op_g ha rfl (g_assign rfl) ?_; clear ha a; intro a ha
  refine wpList_nil ?_
  refine e_then ?_
  refine wp_seq ?_
  refine wp_seq ?_; refine wp_region_lit ?_
  refine o_alloc (z := .int .i8 0) (cs := [.int .i8 0]) ha rfl (fun w => by rfl) rfl ?_; clear ha a; intro bC w10 hC0 hx10 hlo10 a ha
  refine o_storeB (j := 0) (v := .int .i8 1) ha hC0 Tryd.sizeOf66 rfl rfl rfl rfl (by simp) ?_; intro w11 hC hc11
  have hC : Bx w11 bC [.int .i8 1] 66 := hC
  refine wpList_nil ?_
  refine e_then ?_
  have l9 := h9.blt; have z5 := hx5.size; have z9 := hx9.size; have z10 := hx10.size; have l5 := hBs.blt
  have hne10 : bs ∉ [bC] := fun h => by rw [List.mem_singleton] at h; omega
  have hE11 : Ext W w11 := Ext.then ((hx5.trans hx9).trans hx10) hc11 (fun i hi => by rw [List.mem_singleton] at hi; subst hi; omega)
  have hBs := ((hBs.ext hx9).ext hx10).chg hc11 hne10
  have h9 := (h9.ext hx10).chg hc11 (fun i hi e => by rw [List.mem_singleton] at hi; subst hi; omega) (by simp)
  obtain ⟨b9, hb9⟩ : ∃ b9 : Int, b9 = (w5.heap.size : Int) := ⟨_, rfl⟩
  rw [← hb9] at h9
  refine c_loop (fun a w => ∃ b9 v9, Fr 39 [(9, v9)] a ∧ Ow RpC 68 true w [] b9 v9 r ∧ Zn W b9 ∧ Ext W w)
    (fun n a w => ∃ (b9 : Int) (v9 : Value) (bC : Nat) (c : Int) (out : List Cl), Fr 39 [(1, .int .i64 v), (2, .int .u32 (BitVec.toNat m : Int)), (3, .pointer (some ⟨bk, 0, none⟩)), (4, .pointer (some ⟨bv, 0, none⟩)), (5, .pointer (some ⟨bs, 0, none⟩)), (9, v9), (10, .pointer (some ⟨bC, 0, none⟩))] a ∧ Ow RpC 68 true w [] b9 v9 out ∧ Zn W b9 ∧ Bx w bC [.int .i8 c] 66 ∧ Bx w bs (clC s) 68 ∧ Ext W w ∧ (bC : Int) ≠ b9 ∧ (bs : Int) ≠ b9 ∧ W.heap.size ≤ bC ∧ 1 ≤ c ∧ out.length < c.toNat ∧ c + (n : Int) = k + 1 ∧ clGo aa s v m n c out = some r) k.toNat
    ⟨b9, v9, bC, 1, [], ha.sub ⟨rfl, rfl, rfl, rfl, rfl, rfl, rfl, trivial⟩, h9, .inr (by omega), hC, hBs, hE11, by omega, by omega, by omega, by decide, by decide, by omega, hF⟩ ?_ ?_
  · clear ha; rintro n a w ⟨b9, v9, bC, c, out, ha, h9, hz9, hC, hBs, hE, hCb, hsb, hWC, hc1, hol, hcn, hF⟩
    refine wp_seq ?_; refine wp_seq ?_; refine wp_region_lit ?_
    refine op_g ha rfl (g_load Tryd.isAgg66 rfl (hC.cell (j := 0) rfl)) ?_; clear ha a; intro a ha
    refine op_g ha rfl (gi8_conv undEl (by kernel_rfl) rfl (by omega)) ?_; clear ha a; intro a ha
    refine op_g ha rfl (g_load Tryd.isAgg2 rfl ((hBk.ext hE).cell (j := 0) rfl)) ?_; clear ha a; intro a ha
    refine op_g ha rfl (g_leq rfl rfl) ?_; clear ha a; intro a ha
    refine wpList_nil ?_
    refine e_then ?_
    refine c_cond (c ≤ k) ha rfl decide_eq_true_iff (fun hp => ?_) (fun hp => ?_)
    · refine wp_skip ?_; refine e_then ?_
      obtain ⟨n, rfl⟩ : ∃ n1, n = n1 + 1 := ⟨n - 1, by omega⟩
      have hF : (idx aa v fun av => cal (F_impl_vset_list (av &&& m)) fun l => cal (F_slices_ContainsFunc_int l (clHas s c)) fun r => if ¬ (r = true) then cal (setC s v c) fun t => clGo aa s v m n (c + 1) (out ++ [t]) else clGo aa s v m n (c + 1) out) = some r := hF
      obtain ⟨av, g0, ga, hF⟩ := idx_some hF; obtain ⟨l, hl, hF⟩ := cal_some hF; obtain ⟨cont, hcont, hF⟩ := cal_some hF
      replace ha := ha.sub (σ' := [(1, .int .i64 v), (2, .int .u32 (BitVec.toNat m : Int)), (3, .pointer (some ⟨bk, 0, none⟩)), (4, .pointer (some ⟨bv, 0, none⟩)), (5, .pointer (some ⟨bs, 0, none⟩)), (9, v9), (10, .pointer (some ⟨bC, 0, none⟩))]) ⟨rfl, rfl, rfl, rfl, rfl, rfl, rfl, trivial⟩
      refine s_cut (fun a w => ∃ (b9 : Int) (v9 : Value) (out : List Cl), Fr 39 [(1, .int .i64 v), (2, .int .u32 (BitVec.toNat m : Int)), (3, .pointer (some ⟨bk, 0, none⟩)), (4, .pointer (some ⟨bv, 0, none⟩)), (5, .pointer (some ⟨bs, 0, none⟩)), (9, v9), (10, .pointer (some ⟨bC, 0, none⟩))] a ∧ Ow RpC 68 true w [] b9 v9 out ∧ Zn W b9 ∧ Bx w bC [.int .i8 c] 66 ∧ Bx w bs (clC s) 68 ∧ Ext W w ∧ (bC : Int) ≠ b9 ∧ (bs : Int) ≠ b9 ∧ out.length ≤ c.toNat ∧ clGo aa s v m n (c + 1) out = some r) ?_ ?_
      · obtain ⟨p1, cs1, f1, hf1, hpb1, hat1, hr1, hi1⟩ := (hA.ext hE).at g0 ga; obtain ⟨rfl, rfl⟩ := hr1
        refine wp_block ?_; refine wp_seq ?_; refine wp_region_lit ?_
        refine op_g ha rfl (g_load Tryd.isAgg46 rfl ((hBv.ext hE).cell (j := 0) rfl)) ?_; clear ha a; intro a ha
        refine op_g ha rfl (g_move rfl) ?_; clear ha a; intro a ha
        refine op_g ha rfl (hi1.gives sl46 rfl rfl) ?_; clear ha a; intro a ha
        refine op_g ha rfl (g_load Tryd.isAgg49 rfl hat1.one) ?_; clear ha a; intro a ha
        refine op_g ha rfl (g_move rfl) ?_; clear ha a; intro a ha
        refine op_g ha rfl (g32_and (m := av) (n := m) rfl rfl) ?_; clear ha a; intro a ha
        refine o_call ha rfl rfl Tryd.call27 (W_impl_vset_list (hG.ext hE) hl) ?_; clear ha a; rintro vl w25 ⟨bL, hOL, hzL, hx25⟩ a ha
        obtain ⟨fL, hRL, hfL⟩ := hOL.roF
        refine op_g ha rfl (g_func (first := []) (cap := [.tmp 5, .tmp 10]) rfl rfl) ?_; clear ha a; intro a ha
        refine o_call ha rfl rfl Tryd.call38 (W_slices_ContainsFunc_int hRL (ga1 := 39) (ga1c := [.pointer (some ⟨bs, 0, none⟩), .pointer (some ⟨bC, 0, none⟩)]) (by intro _ hy z0 hz0 r hr; exact W_clHas ((hBs.ext hx25).ext hy) ((hC.ext hx25).ext hy) hz0 hr) Tryd.call39 hcont) ?_; clear ha a; rintro v27 w27 ⟨rfl, hx27⟩ a ha
        refine op_g ha rfl (g_not rfl) ?_; clear ha a; intro a ha
        refine wpList_nil ?_
        refine e_then ?_
        have hxx := hx25.trans hx27
        replace h9 := h9.ext hxx; replace hC := hC.ext hxx; replace hBs := hBs.ext hxx; replace hE := hE.trans hxx
        refine c_cond (¬ (cont = true)) ha rfl (n_iff Iff.rfl) (fun hp2 => ?_) (fun hp2 => ?_)
        · replace hF := if_t hp2 hF; obtain ⟨t, ht, hF⟩ := cal_some hF; obtain ⟨hv16, hc8, hset⟩ := setC_some ht
          refine wp_seq ?_; refine wp_region_lit ?_
          refine op_g ha rfl (g_loadK hKC hBs rfl) ?_; clear ha a; intro a ha
          refine o_allocK hKC ha rfl ?_; clear ha a; intro bN wn hN hxn hloN a ha
          refine o_storeK hKC (s := s) ha hN List.length_replicate rfl rfl ?_; intro wo hNo hco
          have hxo : Ext w27 wo := hxn.then hco (fun i hi => by rw [List.mem_singleton] at hi; subst hi; exact hloN)
          have z9 := h9.blt; have zC := hC.blt; have zS := hBs.blt
          have hWN : W.heap.size ≤ bN := Nat.le_trans hE.size hloN
          have n1 : bC ∉ [bN] := fun h => by rw [List.mem_singleton] at h; omega
          have n2 : bs ∉ [bN] := fun h => by rw [List.mem_singleton] at h; omega
          replace h9 := h9.ext hxo; replace hC := hC.ext hxo; replace hBs := hBs.ext hxo; replace hE := hE.trans hxo
          have hnN : ∀ i ∈ [bN], (i : Int) ≠ b9 := fun i hi e => by rw [List.mem_singleton] at hi; subst hi; omega
          refine wpList_nil ?_
          refine e_then ?_
          refine wp_seq ?_; refine wp_region_lit ?_
          refine op_g ha rfl (g_move rfl) ?_; clear ha a; intro a ha
          refine op_g ha rfl (g_load Tryd.isAgg66 rfl (hC.cell (j := 0) rfl)) ?_; clear ha a; intro a ha
          refine op_g ha rfl (g_idxBx undArr Tryd.sizeOf66 rfl rfl hv16.1 (by omega)) ?_; clear ha a; intro a ha
          refine o_storeB (j := 0 + v.toNat) (v := .int .i8 c) ha hNo Tryd.sizeOf66 rfl rfl rfl rfl (by rw [clC_len]; omega) ?_; intro wp hNp hcp
          rw [Nat.zero_add, ← hset] at hNp
          replace h9 := h9.chg hcp hnN (by simp); replace hC := hC.chg hcp n1; replace hBs := hBs.chg hcp n2; replace hE := hE.then hcp (fun i hi => by rw [List.mem_singleton] at hi; subst hi; exact hWN)
          refine wpList_nil ?_
          refine e_then ?_
          refine wp_region_lit ?_
          refine op_g ha rfl (g_move rfl) ?_; clear ha a; intro a ha
          refine op_g ha rfl (g_loadK hKC hNp rfl) ?_; clear ha a; intro a ha
          refine o_lit1 (o := true) (y := t) RpC ha rfl sl69 rfl rfl (hKC.cells t) ⟨rfl, rfl⟩ ?_; clear ha a; intro v35 w35 h35 hx35 a ha
          have z9 := (h9.ext hx35).blt
          refine o_append ha rfl sl69 rfl rfl rfl (h9.ext hx35) h35.src (Nq.nil _) (by simp only [lim, List.length_singleton]; omega) ?_; clear ha a; intro v36 w36 b36 h36 hc36 hb36 a ha
          refine op_g ha rfl (g_assign rfl) ?_; clear ha a; intro a ha
          refine wpList_nil ?_
          have e1 : b36 = b9 ∨ (w35.heap.size : Int) = b36 := hb36
          have lC := (hC.ext hx35).blt; have lS := (hBs.ext hx35).blt
          refine e_blk ?_; refine e_sq ?_
          refine ⟨b36, v36, out ++ [t], ha.sub ⟨rfl, rfl, rfl, rfl, rfl, rfl, rfl, trivial⟩, h36, ?_, (hC.ext hx35).chg hc36 (fun h => hCb (mem_bl.1 h)), (hBs.ext hx35).chg hc36 (fun h => hsb (mem_bl.1 h)), (hE.trans hx35).then hc36 (Zn.bl hz9), by rcases e1 with e | e <;> omega, by rcases e1 with e | e <;> omega, by rw [List.length_append, List.length_singleton]; omega, hF⟩
          exact hz9.app e1 (hE.trans hx35)
        · replace hF := if_f hp2 hF
          refine wp_skip ?_; refine e_blk ?_; refine e_sq ?_
          exact ⟨b9, v9, out, ha.sub ⟨rfl, rfl, rfl, rfl, rfl, rfl, rfl, trivial⟩, h9, hz9, hC, hBs, hE, hCb, hsb, by omega, hF⟩
      · clear ha; rintro a w ⟨b9, v9, out, ha, h9, hz9, hC, hBs, hE, hCb, hsb, hol, hF⟩
        refine wp_seq ?_; refine wp_seq ?_; refine wp_region_lit ?_
        refine op_g ha rfl (g_load Tryd.isAgg66 rfl (hC.cell (j := 0) rfl)) ?_; clear ha a; intro a ha
        refine wpList_nil ?_
        refine e_then ?_
        refine wp_region_lit ?_
        refine o_alloc (z := .int .i8 0) (cs := [.int .i8 0]) ha rfl (fun w => by rfl) rfl ?_; clear ha a; intro bD wq hD0 hxq hloq a ha
        refine o_storeB (j := 0) (v := .int .i8 c) ha hD0 Tryd.sizeOf66 rfl rfl rfl rfl (by simp) ?_; intro wr1 hD hcr
        have hD : Bx wr1 bD [.int .i8 c] 66 := hD
        refine wpList_nil ?_
        refine e_then ?_
        refine wp_region_lit ?_
        refine op_g ha rfl (g_load Tryd.isAgg66 rfl (hD.cell (j := 0) rfl)) ?_; clear ha a; intro a ha
        refine op_g ha rfl (gi8_add rfl rfl (by omega)) ?_; clear ha a; intro a ha
        refine o_storeB (j := 0) (v := .int .i8 (c + 1)) ha hD Tryd.sizeOf66 rfl rfl rfl rfl (by simp) ?_; intro wr2 hD2 hcr2
        have hD2 : Bx wr2 bD [.int .i8 (c + 1)] 66 := hD2
        refine wpList_nil ?_
        have l9 := h9.blt; have lS := hBs.blt; have zW := hE.size
        have nS : bs ∉ [bD] := fun h => by rw [List.mem_singleton] at h; omega
        have n9 : ∀ i ∈ [bD], (i : Int) ≠ b9 := fun i hi e => by rw [List.mem_singleton] at hi; subst hi; omega
        have hWD : ∀ i ∈ [bD], W.heap.size ≤ i := fun i hi => by rw [List.mem_singleton] at hi; subst hi; omega
        refine e_lq ?_
        exact ⟨n, Nat.lt_succ_self _, b9, v9, bD, c + 1, out, ha.sub ⟨rfl, rfl, rfl, rfl, rfl, rfl, rfl, trivial⟩, ((h9.ext hxq).chg hcr n9 (by simp)).chg hcr2 n9 (by simp), hz9, hD2, ((hBs.ext hxq).chg hcr nS).chg hcr2 nS, ((hE.trans hxq).then hcr hWD).then hcr2 hWD, by omega, hsb, by omega, by omega, by omega, by omega, hF⟩
    · refine wp_exit ?_; refine e_then_exit ?_; refine e_lq_eq ?_
      have hn0 : n = 0 := by omega
      subst hn0; obtain rfl := Option.some.inj hF
      exact ⟨b9, v9, ha.sub ⟨rfl, trivial⟩, h9, hz9, hE⟩
  · clear ha; rintro a w ⟨b9, v9, ha, h9, hz9, hE⟩
    refine e_then ?_
    refine wp_seq ?_; refine wp_region_lit ?_
    refine op_g ha rfl (g_move rfl) ?_; clear ha a; intro a ha
    refine op_g ha rfl (g_assign rfl) ?_; clear ha a; intro a ha
    refine wpList_nil ?_
    refine e_then ?_
    refine wp_ret ?_
    obtain ⟨f, hf, hfs⟩ := h9.roF
    exact f_ret1 ha rfl rfl ⟨f, hf, fun k hk => hz9.bl k (by have := hfs k hk; rwa [List.append_nil] at this), hE⟩
theorem col_ruw {W0 : World} {bk bv : Nat} {k : Int} {va : Value} {fn : List Nat} {aa : List (BitVec 32)} (hA : Ro Rp.u32 W0 fn va aa) (hBk : Bx W0 bk [.int .i64 k] 2) (hB : Bx W0 bv [va] 46) (hG : GT 0 W0) :
    RuW Tryd.prog KC RpC (clRu aa k) W0 37 40 41 29 30 [.pointer (some ⟨bk, 0, none⟩), .pointer (some ⟨bv, 0, none⟩)] [] [] [] [] where
  ea := Tryd.call37
  ed := Tryd.call40
  em := Tryd.call41
  eb := Tryd.call29
  ep := Tryd.call30
  add {w} hE s {v} hv m {r} hr := by
    by_cases hk : 0 ≤ k ∧ k ≤ 4
    · have hr : clGo aa s v m k.toNat 1 [] = some r := by
        have h : (if 0 ≤ k ∧ k ≤ 4 then clGo aa s v m k.toNat 1 [] else none) = some r := hr
        rwa [if_pos hk] at h
      exact W_colAdd hv (hA.ext hE) (hBk.ext hE) (hB.ext hE) (hG.ext hE) hk hr
    · exfalso
      have h : (if 0 ≤ k ∧ k ≤ 4 then clGo aa s v m k.toNat 1 [] else none) = some r := hr
      rw [if_neg hk] at h; cases h
  drop {w} hE s {v} hv m {n} hn {T} hT := W_colDrop hv hn hT
  meet {w} hE s t := W_equalC s t
  both {w} hE {x y} hx hy := ⟨wr_in _, W_product x y⟩
  pick {w} hE {x y} hx hy := ⟨wr_in _, W_sum x y⟩
  picks := picks_sum
set_option maxHeartbeats 2000000 in
theorem W_impl_ColoursBy {W : World} {va0_0 : Value} {fa0_0 : List Nat} {a0_0 : (List (List Int))} (ha0_0 : Ro (Rp.sl 2 Rp.int) W fa0_0 va0_0 a0_0) {va1_0 : Value} {fa1_0 : List Nat} {a1_0 : (List Int)} (ha1_0 : Ro Rp.int W fa1_0 va1_0 a1_0) {va1_1 : Value} {fa1_1 : List Nat} {a1_1 : (List Int)} (ha1_1 : Ro Rp.int W fa1_1 va1_1 a1_1) {va1_2 : Value} {fa1_2 : List Nat} {a1_2 : (List (List Int))} (ha1_2 : Ro (Rp.sl 2 Rp.int) W fa1_2 va1_2 a1_2) {va1_3 : Value} {fa1_3 : List Nat} {a1_3 : (List (List Int))} (ha1_3 : Ro (Rp.sl 2 Rp.int) W fa1_3 va1_3 a1_3) {a2 : Int} (ha2 : InI a2) (hG : GT 0 W) {r : Int} (hF : F_impl_ColoursBy a0_0 a1_0 a1_1 a1_2 a1_3 a2 = some r) :
    Calls Tryd.prog 14 [.agg #[va0_0], .agg #[va1_0, va1_1, va1_2, va1_3], .int .i64 a2].toArray W (Ret fun u w' => (u = .int .i64 r ∧ InI r) ∧ Ext W w') := by
  refine f_enter Tryd.func14 rfl Tryd.ntmps14 rfl ?_
  intro a ha
  replace ha : Fr 30 [(0, .agg #[va0_0]), (1, .agg #[va1_0, va1_1, va1_2, va1_3]), (2, .int .i64 a2)] a := ha
  unfold F_impl_ColoursBy at hF
  obtain ⟨ok, hok, hF⟩ := cal_some hF
  refine wp_seq ?_; refine wp_region_lit ?_
  refine o_box (cs := [va0_0]) ha rfl rfl rfl ?_; clear ha a; intro b2g w2 hGx hx2 hlo2 a ha
  refine o_box (cs := [va1_0, va1_1, va1_2, va1_3]) ha rfl rfl rfl ?_; clear ha a; intro b3x w3 hX hx3 hlo3 a ha
  refine o_box (cs := [.int .i64 a2]) ha rfl rfl rfl ?_; clear ha a; intro bk w3b hBk hx3b hlo3b a ha
  refine op_g ha rfl (g_assign rfl) ?_; clear ha a; intro a ha
  refine wpList_nil ?_
  replace hGx := (hGx.ext hx3).ext hx3b; replace hX := hX.ext hx3b
  have hE0 := (hx2.trans hx3).trans hx3b
  refine e_then ?_; refine wp_seq ?_
  refine wp_seq ?_; refine wp_region_lit ?_
  refine op_g ha rfl (g_loadA (cs := [va0_0]) Tryd.isAgg31 Tryd.sizeOf31 rfl (by simp) hGx.all) ?_; clear ha a; intro a ha
  refine op_g ha rfl (g_loadA (cs := [va1_0, va1_1, va1_2, va1_3]) Tryd.isAgg33 Tryd.sizeOf33 rfl (by simp) hX.all) ?_; clear ha a; intro a ha
  refine o_call ha rfl rfl Tryd.call21 (W_impl_NiceOk (ha0_0.ext hE0) (ha1_0.ext hE0) (ha1_1.ext hE0) (ha1_2.ext hE0) (ha1_3.ext hE0) hok) ?_; clear ha a; rintro v8 w8a ⟨rfl, hE1⟩ a ha
  refine op_g ha rfl (g_not rfl) ?_; clear ha a; intro a ha
  refine op_g ha rfl (g_move rfl) ?_; clear ha a; intro a ha
  by_cases hp : ¬ (ok = true)
  · rw [show (!ok) = true from (n_iff Iff.rfl).2 hp] at ha
    replace hF := if_t hp hF; obtain rfl := Option.some.inj hF
    refine op_unwant ha rfl (yields ha rfl rfl) rfl ?_; clear ha a; intro a ha
    refine op_unwant ha rfl (yields ha rfl rfl) rfl ?_; clear ha a; intro a ha
    refine op_unwant ha rfl (yields ha rfl rfl) rfl ?_; clear ha a; intro a ha
    refine op_g ha rfl (g_pick rfl rfl) ?_; clear ha a; intro a ha
    refine wpList_nil ?_
    refine e_then ?_; refine c_true ha rfl ?_
    refine wp_seq ?_; refine wp_region_lit ?_
    refine op_g ha rfl (g_assign rfl) ?_; clear ha a; intro a ha
    refine wpList_nil ?_
    refine e_then ?_; refine wp_ret ?_; refine e_then_ret ?_
    exact f_ret1 ha rfl rfl ⟨⟨rfl, by decide⟩, hE0.trans hE1⟩
  replace hF := if_f hp hF
  rw [show (!ok) = false from b_false (n_iff Iff.rfl) hp] at ha
  obtain ⟨ok2, hok2, hF⟩ := cal_some hF
  refine op_want (yields ha rfl rfl) ?_; refine op_g ha rfl (g_load Tryd.isAgg2 rfl ((hBk.ext hE1).cell (j := 0) rfl)) ?_; clear ha a; intro a ha
  refine op_want (yields ha rfl rfl) ?_; refine o_call ha rfl rfl Tryd.call36 (W_impl_inRange ha2 (by decide) (by decide) hok2) ?_; clear ha a; rintro v14 w14 ⟨rfl, hE2⟩ a ha
  refine op_want (yields ha rfl rfl) ?_; refine op_g ha rfl (g_not rfl) ?_; clear ha a; intro a ha
  refine op_g ha rfl (g_pick rfl rfl) ?_; clear ha a; intro a ha
  refine wpList_nil ?_
  replace hE1 := hE1.trans hE2
  have hE01 := hE0.trans hE1
  refine e_then ?_; refine c_cond (¬ (ok2 = true)) ha rfl (n_iff Iff.rfl) (fun hp2 => ?_) (fun hp2 => ?_)
  · replace hF := if_t hp2 hF; obtain rfl := Option.some.inj hF
    refine wp_seq ?_; refine wp_region_lit ?_
    refine op_g ha rfl (g_assign rfl) ?_; clear ha a; intro a ha
    refine wpList_nil ?_
    refine e_then ?_; refine wp_ret ?_; refine e_then_ret ?_
    exact f_ret1 ha rfl rfl ⟨⟨rfl, by decide⟩, hE01⟩
  replace hF := if_f hp2 hF
  obtain ⟨nets, hnets, hF⟩ := cal_some hF; obtain ⟨T, hrun, hF⟩ := cal_some hF
  refine wp_skip ?_; refine e_then ?_
  refine wp_seq ?_; refine wp_region_lit ?_
  refine op_g ha rfl (g_loadA (cs := [va0_0]) Tryd.isAgg31 Tryd.sizeOf31 rfl (by simp) (hGx.ext hE1).all) ?_; clear ha a; intro a ha
  refine o_call ha rfl rfl Tryd.call22 (W_impl_netsOf (ha0_0.ext hE01) hnets) ?_; clear ha a; rintro vn wn ⟨bn, hOn, _, hxn⟩ a ha
  obtain ⟨fn, hRn, _⟩ := hOn.roF
  refine o_alloc (z := .slice none 0 0) (cs := [.slice none 0 0]) ha rfl (fun w => by rfl) rfl ?_; clear ha a; intro bv w4 hB4 hx4 hlo4 a ha
  refine o_storeB (j := 0) (v := vn) ha hB4 Tryd.sizeOf46 rfl rfl hRn.cells hRn.oneC (by simp) ?_; intro w5 hB5 hc5
  have hB5 : Bx w5 bv [vn] 46 := hB5
  refine wpList_nil ?_
  refine e_then ?_
  have h45 : Ext wn w5 := hx4.then hc5 (fun i hi => by rw [List.mem_singleton] at hi; subst hi; exact hlo4)
  refine wp_seq ?_; refine wp_region_lit ?_
  refine op_g ha rfl (g_func (first := []) (cap := [.tmp 5, .tmp 7]) rfl rfl) ?_; clear ha a; intro a ha
  refine op_g ha rfl (g_build (vs := [(0, .func (.func 37) #[] #[.pointer (some ⟨bk, 0, none⟩), .pointer (some ⟨bv, 0, none⟩)]), (1, .func (.func 40) #[] #[]), (2, .func (.func 41) #[] #[]), (3, .func (.func 29) #[] #[]), (4, .func (.func 30) #[] #[])]) (cells := #[.func (.func 37) #[] #[.pointer (some ⟨bk, 0, none⟩), .pointer (some ⟨bv, 0, none⟩)], .func (.func 40) #[] #[], .func (.func 41) #[] #[], .func (.func 29) #[] #[], .func (.func 30) #[] #[]]) rfl (by rfl)) ?_; clear ha a; intro a ha
  refine o_alloc (z := .agg #[.nilFunc, .nilFunc, .nilFunc, .nilFunc, .nilFunc]) (cs := [.nilFunc, .nilFunc, .nilFunc, .nilFunc, .nilFunc]) ha rfl (fun w => by rfl) rfl ?_; clear ha a; intro bR w6 hB6 hx6 hlo6 a ha
  refine o_storeA (vs := rvOf 37 40 41 29 30 [.pointer (some ⟨bk, 0, none⟩), .pointer (some ⟨bv, 0, none⟩)] [] [] [] []) ha hB6 Tryd.sizeOf76 rfl rfl (by simp [rvOf, Value.oneCell']) rfl ?_; intro w7 hB7 hc7
  refine wpList_nil ?_
  refine e_then ?_
  have h67 : Ext w5 w7 := hx6.then hc7 (fun i hi => by rw [List.mem_singleton] at hi; subst hi; exact hlo6)
  have hall := h45.trans h67
  have hE7 := (hE01.trans hxn).trans hall
  have hz : ∀ {σ : Slots} {C : World → Prop}, Gives Tryd.prog C σ (.build 68 #[]) (KC.kv zeroC) := fun {σ C} => g_build (xs := []) (vs := []) (cells := (clC zeroC).toArray) rfl (by rfl)
  refine wp_seq ?_; refine x_region [0, 1, 2, 3, 4, 5, 6, 7, 8, 9] hmix ?_
  have hS0 := RowKit.Below.refl w7.heap.size w7
  refine x_g 0 rfl (by kernel_rfl) (want0 _) ha rfl hS0 (g_loadA (cs := [va1_0, va1_1, va1_2, va1_3]) Tryd.isAgg33 Tryd.sizeOf33 rfl (by simp) (((hX.ext hE1).ext hxn).ext hall).all) ?_; clear ha a; intro a ha
  refine x_g 2 rfl (by kernel_rfl) (want0 _) ha rfl hS0 (hz) ?_; clear ha a; intro a ha
  refine x_g 5 rfl (by kernel_rfl) (want0 _) ha rfl hS0 (g_loadA (cs := rvOf 37 40 41 29 30 [.pointer (some ⟨bk, 0, none⟩), .pointer (some ⟨bv, 0, none⟩)] [] [] [] []) Tryd.isAgg76 Tryd.sizeOf76 rfl (by simp [rvOf]) hB7.all) ?_; clear ha a; intro a ha
  refine x_g 7 rfl (by kernel_rfl) (want0 _) ha rfl hS0 (hz) ?_; clear ha a; intro a ha
  refine x_only 1 rfl (by kernel_rfl) ?_; intro wa hxa
  have hS1 := bel_step hS0 hxa
  refine o_newT KC ha rfl ?_; clear ha a; intro m wb hM hxb hlo a ha
  refine wpList_nil (e_sq ?_); refine ⟨fun _ => ext_bel hS1.size hxb, ?_⟩
  have hS2 := bel_step hS1 hxb
  have hlo2 : w7.heap.size ≤ m := Nat.le_trans hxa.size hlo
  refine x_only 3 rfl (by kernel_rfl) ?_; intro wc hxc
  have hS3 := bel_step hS2 hxc
  refine o_insT (K := KC) (s := zeroC) (n := 1) ha undMap (hM.ext hxc) (by decide) rfl rfl rfl ?_; intro wd hMd hcd
  have hbd := chg_bel hcd hS3.size (fun i hi => by rw [List.mem_singleton] at hi; subst hi; exact hlo2)
  refine wpList_nil (e_sq ?_); refine ⟨fun _ => hbd, ?_⟩
  have hS4 := hS3.trans hbd
  refine x_g 4 rfl (by kernel_rfl) (want0 _) ha rfl hS4 (g_move rfl) ?_; clear ha a; intro a ha
  refine x_only 6 rfl (by kernel_rfl) ?_; intro we hxe
  have hS5 := bel_step hS4 hxe
  have h7e : Ext w7 we := bel_ext hS5
  have hEn := hE7.trans h7e
  have hRU := col_ruw ((hRn.ext hall).ext h7e) ((((hBk.ext hE1).ext hxn).ext hall).ext h7e) ((hB5.ext h67).ext h7e) (hG.ext hEn)
  refine o_call ha rfl rfl Tryd.call42 (W_run sl69 hldC hKC hRU (ha1_0.ext hEn) (ha1_1.ext hEn) (ha1_2.ext hEn) (ha1_3.ext hEn) (hMd.ext hxe) hrun) ?_; clear ha a; rintro vm w10 ⟨mz, rfl, hMz, hx10⟩ a ha
  refine wpList_nil (e_sq ?_); refine ⟨fun _ => ext_bel hS5.size hx10, ?_⟩
  have hS6 := bel_step hS5 hx10
  refine x_only 8 rfl (by kernel_rfl) ?_; intro wf hxf
  refine op_g ha rfl (g_lookup1 rfl rfl ((hMz.ext hxf).look1 (K := KC) undMap zInt zeroC)) ?_; clear ha a; intro a ha
  refine wpList_nil (e_sq ?_); refine ⟨fun _ => RowKit.Below.refl _ _, ?_⟩
  have hS7 := bel_step hS6 hxf
  refine x_g 9 rfl (by kernel_rfl) (want0 _) ha rfl hS7 (g_assign rfl) ?_; clear ha a; intro a ha
  refine x_done (by kernel_rfl) ?_; intro wg hxg
  refine e_then ?_; refine wp_ret ?_
  obtain rfl := Option.some.inj hF
  refine f_ret1 ha rfl rfl ⟨⟨rfl, ?_⟩, ((hEn.trans hx10).trans hxf).trans hxg⟩
  cases hT : T zeroC with
  | none => decide
  | some y => exact hMz.inI hT

set_option maxHeartbeats 2000000 in
theorem W_laws_eqInt64S {W : World} {va0 : Value} {fa0 : List Nat} {a0 : (List Int)} (ha0 : Ro Rp.int W fa0 va0 a0) {va1 : Value} {fa1 : List Nat} {a1 : (List Int)} (ha1 : Ro Rp.int W fa1 va1 a1) {r : Bool} (hF : F_laws_eqInt64S a0 a1 = some r) :
    Calls Tryd.prog 33 [va0, va1].toArray W (Ret fun u w' => u = .bool r ∧ Ext W w') := by
  refine f_enter Tryd.func33 rfl Tryd.ntmps33 rfl ?_
  intro a ha
  replace ha : Fr 26 [(0, va0), (1, va1)] a := ha; have hE : Chg [] W W := Chg.refl _ _
  unfold F_laws_eqInt64S at hF
  refine wp_seq (wp_region_lit ?_); refine op_g ha rfl (g_assign rfl) ?_; intro a ha; refine wpList_nil (e_then (wp_seq (wp_seq (wp_region_lit ?_)))); refine op_g ha rfl (g_move rfl) ?_; intro a ha; refine op_g ha rfl (g_lenR sl25.und ha0 rfl) ?_; intro a ha; refine op_g ha rfl (g_move rfl) ?_; intro a ha; refine op_g ha rfl (g_lenR sl25.und ha1 rfl) ?_; intro a ha; refine op_g ha rfl (g_neq rfl rfl) ?_; intro a ha; refine wpList_nil (e_then ?_); refine c_cond ((a0.length : Int) ≠ (a1.length : Int)) ha rfl (decide_eq_true_iff) (fun hp1 => ?_) (fun hp1 => ?_)
  · replace hF := if_t hp1 hF
    refine wp_seq (wp_region_lit ?_); refine op_g ha rfl (g_assign rfl) ?_; intro a ha; refine wpList_nil (e_then (wp_ret (e_then_ret ?_))); obtain rfl := Option.some.inj hF
    exact f_ret1 ha rfl rfl ⟨rfl, hE⟩
  replace hF := if_f hp1 hF; refine wp_skip (e_then (wp_seq (wp_seq (wp_region_lit ?_)))); refine op_g ha rfl (g_assign rfl) ?_; intro a ha; refine wpList_nil ?_; replace ha := ha.sub (σ' := [(0, va0), (1, va1), (5, (.int .i64 0))]) ⟨rfl, rfl, rfl, trivial⟩; refine e_then ?_; obtain ⟨o77, ho78, hK79⟩ := bnd_some hF; obtain ⟨n80, hn81⟩ := lp_some ho78; clear ho78; refine c_loop (fun a w => Fr 26 [] a ∧ Chg [] W w ∧ o77 = .inl ()) (fun n a w => ∃ (i39 : Int), Fr 26 [(0, va0), (1, va1), (5, (.int .i64 i39))] a ∧ Chg [] W w ∧ InI i39 ∧ lpN (fun s => F_laws_eqInt64S_l1 a0 a1 s) n i39 = some o77) n80 ⟨0, ha.sub ⟨rfl, rfl, rfl, trivial⟩, hE, (show InI 0 from by decide), hn81⟩ ?_ ?_
  · rintro m85 a w38 ⟨i39, ha, hE41, hI40, hF⟩
    cases m85 with
    | zero => exact (lpN_zero hF).elim
    | succ m85 =>
      obtain ⟨z84, hF, hN83⟩ := lpN_succ hF; have hF : F_laws_eqInt64S_l1 a0 a1 i39 = some z84 := hF; unfold F_laws_eqInt64S_l1 at hF; refine wp_seq (wp_seq (wp_region_lit ?_)); refine op_g ha rfl (g_move rfl) ?_; intro a ha; refine op_g ha rfl (g_move rfl) ?_; intro a ha; refine op_g ha rfl (g_lenR sl25.und ha0 rfl) ?_; intro a ha; refine op_g ha rfl (g_lss rfl rfl) ?_; intro a ha; refine wpList_nil (e_then ?_); refine c_cond (i39 < (a0.length : Int)) ha rfl (decide_eq_true_iff) (fun hp86 => ?_) (fun hp86 => ?_)
      · replace hF := if_t hp86 hF
        refine wp_skip (e_then (wp_seq (wp_block (wp_seq ?_)))); refine d_quiet hmix (by kernel_rfl) ?_; refine q_g ha rfl (g_move rfl) ?_; intro a ha; refine q_g ha rfl (g_move rfl) ?_; intro a ha; obtain ⟨x87, g88, gx89, hF⟩ := idx_some hF; obtain ⟨p90, cs91, f92, hf93, hpb94, hat95, hr96, hi97⟩ := ha0.at g88 gx89; obtain ⟨rfl, hI98, rfl⟩ := hr96; refine q_g ha rfl (hi97.gives sl25 rfl rfl) ?_; intro a ha; refine q_g ha rfl (g_load0 hE41 Tryd.isAgg2 rfl hat95.one) ?_; intro a ha; refine q_g ha rfl (g_move rfl) ?_; intro a ha; refine q_g ha rfl (g_move rfl) ?_; intro a ha; obtain ⟨x99, g100, gx101, hF⟩ := idx_some hF; obtain ⟨p102, cs103, f104, hf105, hpb106, hat107, hr108, hi109⟩ := ha1.at g100 gx101; obtain ⟨rfl, hI110, rfl⟩ := hr108; refine q_g ha rfl (hi109.gives sl25 rfl rfl) ?_; intro a ha; refine q_g ha rfl (g_load0 hE41 Tryd.isAgg2 rfl hat107.one) ?_; intro a ha; refine q_g ha rfl (g_neq rfl rfl) ?_; intro a ha; refine q_nil ?_; intro w111 hx112; have hE113 := Ext.trans hE41 hx112; refine e_then ?_; refine c_cond (x87 ≠ x99) ha rfl (decide_eq_true_iff) (fun hp114 => ?_) (fun hp114 => ?_)
        · replace hF := if_t hp114 hF
          refine wp_seq (wp_region_lit ?_); refine op_g ha rfl (g_assign rfl) ?_; intro a ha; refine wpList_nil (e_then (wp_ret (e_blk_ret (e_then_ret (e_lq_ret (e_then_ret ?_)))))); obtain rfl := Option.some.inj hF; have e115 := LK_inr hN83; subst e115; have e116 := BK_inr hK79; subst e116
          exact f_ret1 ha rfl rfl ⟨rfl, hE113⟩
        replace hF := if_f hp114 hF; refine wp_skip (e_blk (e_then (wp_region_lit ?_))); refine op_g ha rfl (g_move rfl) ?_; intro a ha; obtain ⟨hI117, hF⟩ := ck_some hF; refine op_g ha rfl (g_add rfl rfl hI117) ?_; intro a ha; refine op_g ha rfl (g_assign rfl) ?_; intro a ha; refine wpList_nil ?_; replace ha := ha.sub (σ' := [(0, va0), (1, va1), (5, (.int .i64 (i39 + 1)))]) ⟨rfl, rfl, rfl, trivial⟩; refine e_lq ?_; obtain rfl := Option.some.inj hF
        exact ⟨_, Nat.lt_succ_self _, i39 + 1, ha.sub ⟨rfl, rfl, rfl, trivial⟩, hE113, hI117, hN83⟩
      replace hF := if_f hp86 hF; refine wp_exit (e_then_exit (e_lq_eq ?_)); obtain rfl := Option.some.inj hF
      exact ⟨ha.sub trivial, hE41, (LK_inr hN83).symm⟩
  rintro a w76 ⟨ha, hE82, rfl⟩
  have hF : F_laws_eqInt64S_k2 = some _ := hK79; clear hK79; unfold F_laws_eqInt64S_k2 at hF; refine e_then (wp_seq (wp_region_lit ?_)); refine op_g ha rfl (g_assign rfl) ?_; intro a ha; refine wpList_nil (e_then (wp_ret ?_)); obtain rfl := Option.some.inj hF
  exact f_ret1 ha rfl rfl ⟨rfl, hE82⟩
set_option maxHeartbeats 2000000 in
theorem W_laws_eqInt64SS {W : World} {va0 : Value} {fa0 : List Nat} {a0 : (List (List Int))} (ha0 : Ro (Rp.sl 2 Rp.int) W fa0 va0 a0) {va1 : Value} {fa1 : List Nat} {a1 : (List (List Int))} (ha1 : Ro (Rp.sl 2 Rp.int) W fa1 va1 a1) {r : Bool} (hF : F_laws_eqInt64SS a0 a1 = some r) :
    Calls Tryd.prog 32 [va0, va1].toArray W (Ret fun u w' => u = .bool r ∧ Ext W w') := by
  refine f_enter Tryd.func32 rfl Tryd.ntmps32 rfl ?_
  intro a ha
  replace ha : Fr 27 [(0, va0), (1, va1)] a := ha; have hE : Chg [] W W := Chg.refl _ _
  unfold F_laws_eqInt64SS at hF
  refine wp_seq (wp_region_lit ?_); refine op_g ha rfl (g_assign rfl) ?_; intro a ha; refine wpList_nil (e_then (wp_seq (wp_seq (wp_region_lit ?_)))); refine op_g ha rfl (g_move rfl) ?_; intro a ha; refine op_g ha rfl (g_lenR sl22.und ha0 rfl) ?_; intro a ha; refine op_g ha rfl (g_move rfl) ?_; intro a ha; refine op_g ha rfl (g_lenR sl22.und ha1 rfl) ?_; intro a ha; refine op_g ha rfl (g_neq rfl rfl) ?_; intro a ha; refine wpList_nil (e_then ?_); refine c_cond ((a0.length : Int) ≠ (a1.length : Int)) ha rfl (decide_eq_true_iff) (fun hp1 => ?_) (fun hp1 => ?_)
  · replace hF := if_t hp1 hF
    refine wp_seq (wp_region_lit ?_); refine op_g ha rfl (g_assign rfl) ?_; intro a ha; refine wpList_nil (e_then (wp_ret (e_then_ret ?_))); obtain rfl := Option.some.inj hF
    exact f_ret1 ha rfl rfl ⟨rfl, hE⟩
  replace hF := if_f hp1 hF; refine wp_skip (e_then (wp_seq (wp_seq (wp_region_lit ?_)))); refine op_g ha rfl (g_assign rfl) ?_; intro a ha; refine wpList_nil ?_; replace ha := ha.sub (σ' := [(0, va0), (1, va1), (5, (.int .i64 0))]) ⟨rfl, rfl, rfl, trivial⟩; refine e_then ?_; obtain ⟨o93, ho94, hK95⟩ := bnd_some hF; obtain ⟨n96, hn97⟩ := lp_some ho94; clear ho94; refine c_loop (fun a w => Fr 27 [] a ∧ Chg [] W w ∧ o93 = .inl ()) (fun n a w => ∃ (i47 : Int), Fr 27 [(0, va0), (1, va1), (5, (.int .i64 i47))] a ∧ Chg [] W w ∧ InI i47 ∧ lpN (fun s => F_laws_eqInt64SS_l1 a0 a1 s) n i47 = some o93) n96 ⟨0, ha.sub ⟨rfl, rfl, rfl, trivial⟩, hE, (show InI 0 from by decide), hn97⟩ ?_ ?_
  · rintro m101 a w46 ⟨i47, ha, hE49, hI48, hF⟩
    cases m101 with
    | zero => exact (lpN_zero hF).elim
    | succ m101 =>
      obtain ⟨z100, hF, hN99⟩ := lpN_succ hF; have hF : F_laws_eqInt64SS_l1 a0 a1 i47 = some z100 := hF; unfold F_laws_eqInt64SS_l1 at hF; refine wp_seq (wp_seq (wp_region_lit ?_)); refine op_g ha rfl (g_move rfl) ?_; intro a ha; refine op_g ha rfl (g_move rfl) ?_; intro a ha; refine op_g ha rfl (g_lenR sl22.und ha0 rfl) ?_; intro a ha; refine op_g ha rfl (g_lss rfl rfl) ?_; intro a ha; refine wpList_nil (e_then ?_); refine c_cond (i47 < (a0.length : Int)) ha rfl (decide_eq_true_iff) (fun hp102 => ?_) (fun hp102 => ?_)
      · replace hF := if_t hp102 hF
        refine wp_skip (e_then (wp_seq (wp_block (wp_seq ?_)))); refine d_quiet hmix (by kernel_rfl) ?_; refine q_g ha rfl (g_move rfl) ?_; intro a ha; refine q_g ha rfl (g_move rfl) ?_; intro a ha; obtain ⟨x103, g104, gx105, hF⟩ := idx_some hF; obtain ⟨p106, cs107, f108, hf109, hpb110, hat111, hr112, hi113⟩ := ha0.at g104 gx105; obtain ⟨v114, rfl, h115⟩ := hr112; have h115 : Ro Rp.int W f108 v114 x103 := h115; refine q_g ha rfl (hi113.gives sl22 rfl rfl) ?_; intro a ha; refine q_g ha rfl (g_load0 hE49 Tryd.isAgg25 rfl hat111.one) ?_; intro a ha; refine q_g ha rfl (g_move rfl) ?_; intro a ha; refine q_g ha rfl (g_move rfl) ?_; intro a ha; obtain ⟨x117, g118, gx119, hF⟩ := idx_some hF; obtain ⟨p120, cs121, f122, hf123, hpb124, hat125, hr126, hi127⟩ := ha1.at g118 gx119; obtain ⟨v128, rfl, h129⟩ := hr126; have h129 : Ro Rp.int W f122 v128 x117 := h129; refine q_g ha rfl (hi127.gives sl22 rfl rfl) ?_; intro a ha; refine q_g ha rfl (g_load0 hE49 Tryd.isAgg25 rfl hat125.one) ?_; intro a ha; obtain ⟨x133, hc134, hF⟩ := cal_some hF; refine q_call (.bool x133) ha rfl rfl Tryd.call33 (fun w132 hx131 => W_laws_eqInt64S (h115.ext (Ext.trans hE49 hx131)) (h129.ext (Ext.trans hE49 hx131)) hc134) (fun _ _ _ h => ⟨h.1, h.2⟩) ?_; intro a ha; refine q_g ha rfl (g_not rfl) ?_; intro a ha; refine q_nil ?_; intro w135 hx136; have hE137 := Ext.trans hE49 hx136
        refine e_then ?_; refine c_cond (¬ (x133 = true)) ha rfl (n_iff (Iff.rfl)) (fun hp138 => ?_) (fun hp138 => ?_)
        · replace hF := if_t hp138 hF
          refine wp_seq (wp_region_lit ?_); refine op_g ha rfl (g_assign rfl) ?_; intro a ha; refine wpList_nil (e_then (wp_ret (e_blk_ret (e_then_ret (e_lq_ret (e_then_ret ?_)))))); obtain rfl := Option.some.inj hF; have e139 := LK_inr hN99; subst e139; have e140 := BK_inr hK95; subst e140
          exact f_ret1 ha rfl rfl ⟨rfl, hE137⟩
        replace hF := if_f hp138 hF; refine wp_skip (e_blk (e_then (wp_region_lit ?_))); refine op_g ha rfl (g_move rfl) ?_; intro a ha; obtain ⟨hI141, hF⟩ := ck_some hF; refine op_g ha rfl (g_add rfl rfl hI141) ?_; intro a ha; refine op_g ha rfl (g_assign rfl) ?_; intro a ha; refine wpList_nil ?_; replace ha := ha.sub (σ' := [(0, va0), (1, va1), (5, (.int .i64 (i47 + 1)))]) ⟨rfl, rfl, rfl, trivial⟩; refine e_lq ?_; obtain rfl := Option.some.inj hF
        exact ⟨_, Nat.lt_succ_self _, i47 + 1, ha.sub ⟨rfl, rfl, rfl, trivial⟩, hE137, hI141, hN99⟩
      replace hF := if_f hp102 hF; refine wp_exit (e_then_exit (e_lq_eq ?_)); obtain rfl := Option.some.inj hF
      exact ⟨ha.sub trivial, hE49, (LK_inr hN99).symm⟩
  rintro a w92 ⟨ha, hE98, rfl⟩
  have hF : F_laws_eqInt64SS_k2 = some _ := hK95; clear hK95; unfold F_laws_eqInt64SS_k2 at hF; refine e_then (wp_seq (wp_region_lit ?_)); refine op_g ha rfl (g_assign rfl) ?_; intro a ha; refine wpList_nil (e_then (wp_ret ?_)); obtain rfl := Option.some.inj hF
  exact f_ret1 ha rfl rfl ⟨rfl, hE98⟩
set_option maxHeartbeats 2000000 in
theorem W_laws_eqGraph {W : World} {va0_0 : Value} {fa0_0 : List Nat} {a0_0 : (List (List Int))} (ha0_0 : Ro (Rp.sl 2 Rp.int) W fa0_0 va0_0 a0_0) {va1_0 : Value} {fa1_0 : List Nat} {a1_0 : (List (List Int))} (ha1_0 : Ro (Rp.sl 2 Rp.int) W fa1_0 va1_0 a1_0) {r : Bool} (hF : F_laws_eqGraph a0_0 a1_0 = some r) :
    Calls Tryd.prog 11 [.agg #[va0_0], .agg #[va1_0]].toArray W (Ret fun u w' => u = .bool r ∧ Ext W w') := by
  refine f_enter Tryd.func11 rfl Tryd.ntmps11 rfl ?_
  intro a ha
  replace ha : Fr 11 [(0, (.agg #[va0_0])), (1, (.agg #[va1_0]))] a := ha; have hE : Chg [] W W := Chg.refl _ _
  unfold F_laws_eqGraph at hF
  refine wp_seq (wp_region_lit ?_); refine o_box ha rfl rfl rfl ?_; clear ha a; intro b1 w2 hB3 hx4 hlo5 a ha; have hE8 := Ext.trans hE hx4; refine o_box ha rfl rfl rfl ?_; clear ha a; intro b9 w10 hB11 hx12 hlo13 a ha; replace hB3 := hB3.ext hx12; have hE18 := Ext.trans hE8 hx12; refine op_g ha rfl (g_assign rfl) ?_; intro a ha; refine wpList_nil (e_then (wp_seq (wp_seq (wp_region_lit ?_)))); refine op_g ha rfl (g_field0 st31_0 rfl) ?_; intro a ha; refine op_g ha rfl (g_load Tryd.isAgg22 rfl (hB3.cell rfl)) ?_; intro a ha; refine op_g ha rfl (g_field0 st31_0 rfl) ?_; intro a ha; refine op_g ha rfl (g_load Tryd.isAgg22 rfl (hB11.cell rfl)) ?_; intro a ha; obtain ⟨x19, hc20, hF⟩ := cal_some hF; refine o_call ha rfl rfl Tryd.call32 (W_laws_eqInt64SS (ha0_0.ext hE18) (ha1_0.ext hE18) hc20) ?_; clear ha a; rintro v21 w22 ⟨rfl, hx23⟩ a ha; have hE24 := Ext.trans hE18 hx23; refine op_g ha rfl (g_not rfl) ?_; intro a ha; refine wpList_nil (e_then ?_); refine c_cond (¬ (x19 = true)) ha rfl (n_iff (Iff.rfl)) (fun hp25 => ?_) (fun hp25 => ?_)
  · replace hF := if_t hp25 hF
    refine wp_seq (wp_region_lit ?_); refine op_g ha rfl (g_assign rfl) ?_; intro a ha; refine wpList_nil (e_then (wp_ret (e_then_ret ?_))); obtain rfl := Option.some.inj hF
    exact f_ret1 ha rfl rfl ⟨rfl, hE24⟩
  replace hF := if_f hp25 hF; refine wp_skip (e_then (wp_seq (wp_region_lit ?_))); refine op_g ha rfl (g_assign rfl) ?_; intro a ha; refine wpList_nil ?_; replace ha := ha.sub (σ' := [(4, (.bool true))]) ⟨rfl, trivial⟩; refine e_then (wp_ret ?_); obtain rfl := Option.some.inj hF
  exact f_ret1 ha rfl rfl ⟨rfl, hE24⟩
set_option maxHeartbeats 2000000 in
theorem W_laws_eqNice {W : World} {va0_0 : Value} {fa0_0 : List Nat} {a0_0 : (List Int)} (ha0_0 : Ro Rp.int W fa0_0 va0_0 a0_0) {va0_1 : Value} {fa0_1 : List Nat} {a0_1 : (List Int)} (ha0_1 : Ro Rp.int W fa0_1 va0_1 a0_1) {va0_2 : Value} {fa0_2 : List Nat} {a0_2 : (List (List Int))} (ha0_2 : Ro (Rp.sl 2 Rp.int) W fa0_2 va0_2 a0_2) {va0_3 : Value} {fa0_3 : List Nat} {a0_3 : (List (List Int))} (ha0_3 : Ro (Rp.sl 2 Rp.int) W fa0_3 va0_3 a0_3) {va1_0 : Value} {fa1_0 : List Nat} {a1_0 : (List Int)} (ha1_0 : Ro Rp.int W fa1_0 va1_0 a1_0) {va1_1 : Value} {fa1_1 : List Nat} {a1_1 : (List Int)} (ha1_1 : Ro Rp.int W fa1_1 va1_1 a1_1) {va1_2 : Value} {fa1_2 : List Nat} {a1_2 : (List (List Int))} (ha1_2 : Ro (Rp.sl 2 Rp.int) W fa1_2 va1_2 a1_2) {va1_3 : Value} {fa1_3 : List Nat} {a1_3 : (List (List Int))} (ha1_3 : Ro (Rp.sl 2 Rp.int) W fa1_3 va1_3 a1_3) {r : Bool} (hF : F_laws_eqNice a0_0 a0_1 a0_2 a0_3 a1_0 a1_1 a1_2 a1_3 = some r) :
    Calls Tryd.prog 12 [.agg #[va0_0, va0_1, va0_2, va0_3], .agg #[va1_0, va1_1, va1_2, va1_3]].toArray W (Ret fun u w' => u = .bool r ∧ Ext W w') := by
  refine f_enter Tryd.func12 rfl Tryd.ntmps12 rfl ?_
  intro a ha
  replace ha : Fr 29 [(0, (.agg #[va0_0, va0_1, va0_2, va0_3])), (1, (.agg #[va1_0, va1_1, va1_2, va1_3]))] a := ha; have hE : Chg [] W W := Chg.refl _ _
  unfold F_laws_eqNice at hF
  refine wp_seq (wp_region_lit ?_); refine o_box ha rfl rfl rfl ?_; clear ha a; intro b1 w2 hB3 hx4 hlo5 a ha; have hE8 := Ext.trans hE hx4; refine o_box ha rfl rfl rfl ?_; clear ha a; intro b9 w10 hB11 hx12 hlo13 a ha; replace hB3 := hB3.ext hx12; have hE18 := Ext.trans hE8 hx12; refine op_g ha rfl (g_assign rfl) ?_; intro a ha; refine wpList_nil (e_then (wp_seq (wp_seq (wp_region_lit ?_)))); refine op_g ha rfl (g_field0 st33_0 rfl) ?_; intro a ha; refine op_g ha rfl (g_load Tryd.isAgg25 rfl (hB3.cell rfl)) ?_; intro a ha; refine op_g ha rfl (g_field0 st33_0 rfl) ?_; intro a ha; refine op_g ha rfl (g_load Tryd.isAgg25 rfl (hB11.cell rfl)) ?_; intro a ha; obtain ⟨x19, hc20, hF⟩ := cal_some hF; refine o_call ha rfl rfl Tryd.call33 (W_laws_eqInt64S (ha0_0.ext hE18) (ha1_0.ext hE18) hc20) ?_; clear ha a; rintro v21 w22 ⟨rfl, hx23⟩ a ha; replace hB3 := hB3.ext hx23; replace hB11 := hB11.ext hx23; have hE24 := Ext.trans hE18 hx23; refine op_g ha rfl (g_not rfl) ?_; intro a ha; refine wpList_nil (e_then ?_); refine c_cond (¬ (x19 = true)) ha rfl (n_iff (Iff.rfl)) (fun hp25 => ?_) (fun hp25 => ?_)
  · replace hF := if_t hp25 hF
    refine wp_seq (wp_region_lit ?_); refine op_g ha rfl (g_assign rfl) ?_; intro a ha; refine wpList_nil (e_then (wp_ret (e_then_ret ?_))); obtain rfl := Option.some.inj hF
    exact f_ret1 ha rfl rfl ⟨rfl, hE24⟩
  replace hF := if_f hp25 hF; refine wp_skip (e_then (wp_seq (wp_seq (wp_region_lit ?_)))); refine op_g ha rfl (g_field0 st33_1 rfl) ?_; intro a ha; refine op_g ha rfl (g_load Tryd.isAgg25 rfl (hB3.cell rfl)) ?_; intro a ha; refine op_g ha rfl (g_field0 st33_1 rfl) ?_; intro a ha; refine op_g ha rfl (g_load Tryd.isAgg25 rfl (hB11.cell rfl)) ?_; intro a ha; obtain ⟨x26, hc27, hF⟩ := cal_some hF; refine o_call ha rfl rfl Tryd.call33 (W_laws_eqInt64S (ha0_1.ext hE24) (ha1_1.ext hE24) hc27) ?_; clear ha a; rintro v28 w29 ⟨rfl, hx30⟩ a ha; replace hB3 := hB3.ext hx30; replace hB11 := hB11.ext hx30; have hE31 := Ext.trans hE24 hx30; refine op_g ha rfl (g_not rfl) ?_; intro a ha; refine wpList_nil ?_; replace ha := ha.sub (σ' := [(2, (.pointer (some ⟨b1, 0, none⟩))), (3, (.pointer (some ⟨b9, 0, none⟩))), (16, (.bool (!x26)))]) ⟨rfl, rfl, rfl, trivial⟩; refine e_then ?_; refine c_cond (¬ (x26 = true)) ha rfl (n_iff (Iff.rfl)) (fun hp32 => ?_) (fun hp32 => ?_)
  · replace hF := if_t hp32 hF
    refine wp_seq (wp_region_lit ?_); refine op_g ha rfl (g_assign rfl) ?_; intro a ha; refine wpList_nil (e_then (wp_ret (e_then_ret ?_))); obtain rfl := Option.some.inj hF
    exact f_ret1 ha rfl rfl ⟨rfl, hE31⟩
  replace hF := if_f hp32 hF; refine wp_skip (e_then (wp_seq (wp_seq (wp_region_lit ?_)))); refine op_g ha rfl (g_field0 st33_2 rfl) ?_; intro a ha; refine op_g ha rfl (g_load Tryd.isAgg22 rfl (hB3.cell rfl)) ?_; intro a ha; refine op_g ha rfl (g_field0 st33_2 rfl) ?_; intro a ha; refine op_g ha rfl (g_load Tryd.isAgg22 rfl (hB11.cell rfl)) ?_; intro a ha; obtain ⟨x33, hc34, hF⟩ := cal_some hF; refine o_call ha rfl rfl Tryd.call32 (W_laws_eqInt64SS (ha0_2.ext hE31) (ha1_2.ext hE31) hc34) ?_; clear ha a; rintro v35 w36 ⟨rfl, hx37⟩ a ha; replace hB3 := hB3.ext hx37; replace hB11 := hB11.ext hx37; have hE38 := Ext.trans hE31 hx37; refine op_g ha rfl (g_not rfl) ?_; intro a ha; refine wpList_nil (e_then ?_); refine c_cond (¬ (x33 = true)) ha rfl (n_iff (Iff.rfl)) (fun hp39 => ?_) (fun hp39 => ?_)
  · replace hF := if_t hp39 hF
    refine wp_seq (wp_region_lit ?_); refine op_g ha rfl (g_assign rfl) ?_; intro a ha; refine wpList_nil (e_then (wp_ret (e_then_ret ?_))); obtain rfl := Option.some.inj hF
    exact f_ret1 ha rfl rfl ⟨rfl, hE38⟩
  replace hF := if_f hp39 hF; refine wp_skip (e_then (wp_seq (wp_seq (wp_region_lit ?_)))); refine op_g ha rfl (g_field0 st33_3 rfl) ?_; intro a ha; refine op_g ha rfl (g_load Tryd.isAgg22 rfl (hB3.cell rfl)) ?_; intro a ha; refine op_g ha rfl (g_field0 st33_3 rfl) ?_; intro a ha; refine op_g ha rfl (g_load Tryd.isAgg22 rfl (hB11.cell rfl)) ?_; intro a ha; obtain ⟨x40, hc41, hF⟩ := cal_some hF; refine o_call ha rfl rfl Tryd.call32 (W_laws_eqInt64SS (ha0_3.ext hE38) (ha1_3.ext hE38) hc41) ?_; clear ha a; rintro v42 w43 ⟨rfl, hx44⟩ a ha; have hE45 := Ext.trans hE38 hx44; refine op_g ha rfl (g_not rfl) ?_; intro a ha; refine wpList_nil ?_; replace ha := ha.sub (σ' := [(28, (.bool (!x40)))]) ⟨rfl, trivial⟩; refine e_then ?_; refine c_cond (¬ (x40 = true)) ha rfl (n_iff (Iff.rfl)) (fun hp46 => ?_) (fun hp46 => ?_)
  · replace hF := if_t hp46 hF
    refine wp_seq (wp_region_lit ?_); refine op_g ha rfl (g_assign rfl) ?_; intro a ha; refine wpList_nil (e_then (wp_ret (e_then_ret ?_))); obtain rfl := Option.some.inj hF
    exact f_ret1 ha rfl rfl ⟨rfl, hE45⟩
  replace hF := if_f hp46 hF; refine wp_skip (e_then (wp_seq (wp_region_lit ?_))); refine op_g ha rfl (g_assign rfl) ?_; intro a ha; refine wpList_nil (e_then (wp_ret ?_)); obtain rfl := Option.some.inj hF
  exact f_ret1 ha rfl rfl ⟨rfl, hE45⟩
set_option maxHeartbeats 2000000 in
theorem W_laws_FnExactColoursBy {W : World} {va0_0 : Value} {fa0_0 : List Nat} {a0_0 : (List (List Int))} (ha0_0 : Ro (Rp.sl 2 Rp.int) W fa0_0 va0_0 a0_0) {va1_0 : Value} {fa1_0 : List Nat} {a1_0 : (List Int)} (ha1_0 : Ro Rp.int W fa1_0 va1_0 a1_0) {va1_1 : Value} {fa1_1 : List Nat} {a1_1 : (List Int)} (ha1_1 : Ro Rp.int W fa1_1 va1_1 a1_1) {va1_2 : Value} {fa1_2 : List Nat} {a1_2 : (List (List Int))} (ha1_2 : Ro (Rp.sl 2 Rp.int) W fa1_2 va1_2 a1_2) {va1_3 : Value} {fa1_3 : List Nat} {a1_3 : (List (List Int))} (ha1_3 : Ro (Rp.sl 2 Rp.int) W fa1_3 va1_3 a1_3) {a2 : Int} (ha2 : InI a2) (hG : GT 0 W) {r : Bool} (hF : F_laws_FnExactColoursBy a0_0 a1_0 a1_1 a1_2 a1_3 a2 = some r) :
    Calls Tryd.prog 4 [.agg #[va0_0], .agg #[va1_0, va1_1, va1_2, va1_3], .int .i64 a2].toArray W (Ret fun u w' => u = .bool r ∧ Ext W w') := by
  refine f_enter Tryd.func4 rfl Tryd.ntmps4 rfl ?_
  intro a ha
  replace ha : Fr 49 [(0, (.agg #[va0_0])), (1, (.agg #[va1_0, va1_1, va1_2, va1_3])), (2, (.int .i64 a2))] a := ha; have hE : Chg [] W W := Chg.refl _ _
  unfold F_laws_FnExactColoursBy at hF
  refine wp_seq (wp_region_lit ?_); refine o_box ha rfl rfl rfl ?_; clear ha a; intro b1 w2 hB3 hx4 hlo5 a ha; have hE8 := Ext.trans hE hx4; refine o_box ha rfl rfl rfl ?_; clear ha a; intro b9 w10 hB11 hx12 hlo13 a ha; replace hB3 := hB3.ext hx12; have hE18 := Ext.trans hE8 hx12; refine op_g ha rfl (g_assign rfl) ?_; intro a ha; refine wpList_nil (e_then (wp_seq (wp_region_lit ?_))); refine op_g ha rfl (g_assign rfl) ?_; intro a ha; refine wpList_nil (e_then (wp_seq (wp_region_lit ?_))); refine op_g ha rfl (g_loadA (cs := [va0_0]) Tryd.isAgg24 Tryd.sizeOf24 rfl (by simp) hB3.all) ?_; intro a ha; refine op_g ha rfl (g_move rfl) ?_; intro a ha; obtain ⟨x19, hc20, hF⟩ := cal_some hF; refine o_call ha rfl rfl Tryd.call5 (W_laws_szGraph (ha0_0.ext hE18) (show InI 1048576 from by decide) hc20) ?_; clear ha a; rintro v21 w22 ⟨⟨rfl, hI24⟩, hx23⟩ a ha; replace hB3 := hB3.ext hx23; replace hB11 := hB11.ext hx23; have hE25 := Ext.trans hE18 hx23; refine op_g ha rfl (g_assign rfl) ?_; intro a ha; refine wpList_nil (e_then (wp_seq (wp_seq (wp_region_lit ?_)))); refine op_g ha rfl (g_move rfl) ?_; intro a ha; refine op_g ha rfl (g_lss rfl rfl) ?_; intro a ha; refine wpList_nil ?_; replace ha := ha.sub (σ' := [(2, (.int .i64 a2)), (3, (.pointer (some ⟨b1, 0, none⟩))), (4, (.pointer (some ⟨b9, 0, none⟩))), (7, (.int .i64 x19)), (16, (.bool (decide (x19 < 0))))]) ⟨rfl, rfl, rfl, rfl, rfl, trivial⟩
  refine e_then ?_; refine c_cond (x19 < 0) ha rfl (decide_eq_true_iff) (fun hp26 => ?_) (fun hp26 => ?_)
  · replace hF := if_t hp26 hF
    refine wp_seq (wp_region_lit ?_); refine op_g ha rfl (g_assign rfl) ?_; intro a ha; refine wpList_nil (e_then (wp_ret (e_then_ret ?_))); obtain rfl := Option.some.inj hF
    exact f_ret1 ha rfl rfl ⟨rfl, hE25⟩
  replace hF := if_f hp26 hF; refine wp_skip (e_then (wp_seq (wp_region_lit ?_))); refine op_g ha rfl (g_loadA (cs := [va1_0, va1_1, va1_2, va1_3]) Tryd.isAgg27 Tryd.sizeOf27 rfl (by simp) hB11.all) ?_; intro a ha; refine op_g ha rfl (g_move rfl) ?_; intro a ha; obtain ⟨x27, hc28, hF⟩ := cal_some hF; refine o_call ha rfl rfl Tryd.call6 (W_laws_szNice (ha1_0.ext hE25) (ha1_1.ext hE25) (ha1_2.ext hE25) (ha1_3.ext hE25) hI24 hc28) ?_; clear ha a; rintro v29 w30 ⟨⟨rfl, hI32⟩, hx31⟩ a ha; replace hB3 := hB3.ext hx31; replace hB11 := hB11.ext hx31; have hE33 := Ext.trans hE25 hx31; refine op_g ha rfl (g_assign rfl) ?_; intro a ha; refine wpList_nil (e_then (wp_seq (wp_seq (wp_region_lit ?_)))); refine op_g ha rfl (g_move rfl) ?_; intro a ha; refine op_g ha rfl (g_lss rfl rfl) ?_; intro a ha; refine wpList_nil (e_then ?_); refine c_cond (x27 < 0) ha rfl (decide_eq_true_iff) (fun hp34 => ?_) (fun hp34 => ?_)
  · replace hF := if_t hp34 hF
    refine wp_seq (wp_region_lit ?_); refine op_g ha rfl (g_assign rfl) ?_; intro a ha; refine wpList_nil ?_; replace ha := ha.sub (σ' := [(6, (.bool true))]) ⟨rfl, trivial⟩; refine e_then (wp_ret (e_then_ret ?_)); obtain rfl := Option.some.inj hF
    exact f_ret1 ha rfl rfl ⟨rfl, hE33⟩
  replace hF := if_f hp34 hF; refine wp_skip (e_then (wp_seq ?_)); refine d_region [0, 1, 2, 3, 4, 5, 6] hmix ?_; refine u_g 0 rfl (by kernel_rfl) (want0 _) ha rfl (g_loadA (cs := [va0_0]) Tryd.isAgg24 Tryd.sizeOf24 rfl (by simp) hB3.all) ?_; intro a ha; refine u_g 2 rfl (by kernel_rfl) (want0 _) ha rfl (g_loadA (cs := [va1_0, va1_1, va1_2, va1_3]) Tryd.isAgg27 Tryd.sizeOf27 rfl (by simp) hB11.all) ?_; intro a ha; refine u_g 4 rfl (by kernel_rfl) (want0 _) ha rfl (g_move rfl) ?_; intro a ha; refine u_only 1 rfl (by kernel_rfl) ?_; intro w35 hx36; replace hB3 := hB3.ext hx36; replace hB11 := hB11.ext hx36; have hE37 := Ext.trans hE33 hx36; obtain ⟨x38, hc39, hF⟩ := cal_some hF; refine o_call ha rfl rfl Tryd.call8 (W_laws_toGraph (ha0_0.ext hE37) hc39) ?_; clear ha a; rintro v40 w41 ⟨u43, b44, fs48, rfl, h45, z46, zf49, nd50, hx42⟩ a ha; replace hB3 := hB3.ext hx42; replace hB11 := hB11.ext hx42; have hE57 := Ext.trans hE37 hx42; refine wpList_nil (e_sq ?_)
  refine ⟨fun _ => hx42, ?_⟩
  refine u_only 3 rfl (by kernel_rfl) ?_; intro w60 hx61; replace hB3 := hB3.ext hx61; replace hB11 := hB11.ext hx61; replace h45 := h45.ext hx61; have hE62 := Ext.trans hE57 hx61; obtain ⟨x63, hc64, hF⟩ := cal_some hF; refine o_call ha rfl rfl Tryd.call9 (W_laws_toNice (ha1_0.ext hE62) (ha1_1.ext hE62) (ha1_2.ext hE62) (ha1_3.ext hE62) hc64) ?_; clear ha a; rintro v65 w66 ⟨u68, u69, u70, u71, b72, b76, b80, fs84, b87, fs91, rfl, h73, z74, h77, z78, h81, z82, zf85, nd86, h88, z89, zf92, nd93, q94, q95, q96, q97, q98, q99, q100, q101, q102, q103, q104, q105, q106, q107, q108, q109, q110, q111, hx67⟩ a ha; replace hB3 := hB3.ext hx67; replace hB11 := hB11.ext hx67; replace h45 := h45.ext hx67; have hE146 := Ext.trans hE62 hx67; refine wpList_nil (e_sq ?_)
  refine ⟨fun _ => hx67, ?_⟩
  obtain ⟨fp155, hro156, hs157⟩ := h45.roF; obtain ⟨fp158, hro159, hs160⟩ := h73.roF; obtain ⟨fp161, hro162, hs163⟩ := h77.roF; obtain ⟨fp164, hro165, hs166⟩ := h81.roF; obtain ⟨fp167, hro168, hs169⟩ := h88.roF; obtain ⟨x170, hc171, hF⟩ := cal_some hF; refine u_call (.int .i64 x170) 5 rfl (by kernel_rfl) (want0 _) ha rfl rfl Tryd.call13 (fun w154 hx153 => W_spec_ColoursBy (hro156.ext hx153) (hro159.ext hx153) (hro162.ext hx153) (hro165.ext hx153) (hro168.ext hx153) ha2 hc171) (fun _ _ _ h => ⟨h.1.1, h.2⟩) ?_; intro a ha; have hI172 : InI x170 := calls_fact (w := w66) (W_spec_ColoursBy (hro156.ext (Chg.refl _ _)) (hro159.ext (Chg.refl _ _)) (hro162.ext (Chg.refl _ _)) (hro165.ext (Chg.refl _ _)) (hro168.ext (Chg.refl _ _)) ha2 hc171) (fun _ _ h => h.1.2); refine u_g 6 rfl (by kernel_rfl) (want0 _) ha rfl (g_assign rfl) ?_; intro a ha; refine u_done (by kernel_rfl) ?_; intro w173 hx174; replace hB3 := hB3.ext hx174; replace hB11 := hB11.ext hx174; have hE175 := Ext.trans hE146 hx174; refine e_then (wp_seq (wp_region_lit ?_)); refine op_g ha rfl (g_loadA (cs := [va0_0]) Tryd.isAgg24 Tryd.sizeOf24 rfl (by simp) hB3.all) ?_; intro a ha; obtain ⟨x176, hc177, hF⟩ := cal_some hF; refine o_call ha rfl rfl Tryd.call8 (W_laws_toGraph (ha0_0.ext hE175) hc177) ?_; clear ha a; rintro v178 w179 ⟨u181, b182, fs186, rfl, h183, z184, zf187, nd188, hx180⟩ a ha; replace hB3 := hB3.ext hx180; replace hB11 := hB11.ext hx180; have hE195 := Ext.trans hE175 hx180
  refine o_alloc (cs := [(.slice none 0 0)]) ha rfl Tryd.zeroValue31 rfl ?_; clear ha a; intro b198 w199 hB200 hx201 hlo202 a ha; have q203 := Zn.one hlo202; have q204 := Nq.new hB3.fpb q203; have q206 := Nq.new hB11.fpb q203; have q208 := Nq.new h183.fpb q203; have q211 := Zn.upD q203 hE195; replace hB3 := hB3.ext hx201; replace hB11 := hB11.ext hx201; replace h183 := h183.ext hx201; have hE212 := Ext.trans hE195 hx201
  refine o_storeA (vs := [u181]) ha hB200 Tryd.sizeOf31 rfl rfl (by intro c hc; simp only [List.mem_cons, List.not_mem_nil, or_false] at hc; rcases hc with hc <;> subst hc <;> first | rfl | exact h183.oneC) rfl ?_; intro w213 hB214 hc215
  replace hc215 := hc215.bl; replace hB214 : Bx w213 b198 [u181] 31 := hB214; replace hB3 := hB3.nq hc215 q204; replace hB11 := hB11.nq hc215 q206; replace h183 := h183.nq hc215 q208; have hE216 := Ext.then hE212 hc215 (Zn.bl q211); refine wpList_nil (e_then (wp_seq (wp_region_lit ?_))); refine op_g ha rfl (g_loadA (cs := [va1_0, va1_1, va1_2, va1_3]) Tryd.isAgg27 Tryd.sizeOf27 rfl (by simp) hB11.all) ?_; intro a ha; obtain ⟨x217, hc218, hF⟩ := cal_some hF; refine o_call ha rfl rfl Tryd.call9 (W_laws_toNice (ha1_0.ext hE216) (ha1_1.ext hE216) (ha1_2.ext hE216) (ha1_3.ext hE216) hc218) ?_; clear ha a; rintro v219 w220 ⟨u222, u223, u224, u225, b226, b230, b234, fs238, b241, fs245, rfl, h227, z228, h231, z232, h235, z236, zf239, nd240, h242, z243, zf246, nd247, q248, q249, q250, q251, q252, q253, q254, q255, q256, q257, q258, q259, q260, q261, q262, q263, q264, q265, hx221⟩ a ha; replace hB3 := hB3.ext hx221; replace hB11 := hB11.ext hx221; replace h183 := h183.ext hx221; replace hB214 := hB214.ext hx221; have hE310 := Ext.trans hE216 hx221; refine o_alloc (cs := [(.slice none 0 0), (.slice none 0 0), (.slice none 0 0), (.slice none 0 0)]) ha rfl Tryd.zeroValue33 rfl ?_; clear ha a; intro b317 w318 hB319 hx320 hlo321 a ha; have q322 := Zn.one hlo321; have q323 := Nq.new hB3.fpb q322; have q325 := Nq.new hB11.fpb q322; have q327 := Nq.new h183.fpb q322; have q330 := Nq.new hB214.fpb q322; have q332 := Nq.new h227.fpb q322; have q334 := Nq.new h231.fpb q322
  have q336 := Nq.new h235.fpb q322; have q339 := Nq.new h242.fpb q322; have q342 := Zn.upD q322 hE310; replace hB3 := hB3.ext hx320; replace hB11 := hB11.ext hx320; replace h183 := h183.ext hx320; replace hB214 := hB214.ext hx320; replace h227 := h227.ext hx320; replace h231 := h231.ext hx320; replace h235 := h235.ext hx320; replace h242 := h242.ext hx320; have hE343 := Ext.trans hE310 hx320
  refine o_storeA (vs := [u222, u223, u224, u225]) ha hB319 Tryd.sizeOf33 rfl rfl (by intro c hc; simp only [List.mem_cons, List.not_mem_nil, or_false] at hc; rcases hc with hc | hc | hc | hc <;> subst hc <;> first | rfl | exact h227.oneC | exact h231.oneC | exact h235.oneC | exact h242.oneC) rfl ?_; intro w344 hB345 hc346
  replace hc346 := hc346.bl; replace hB345 : Bx w344 b317 [u222, u223, u224, u225] 33 := hB345; replace hB3 := hB3.nq hc346 q323; replace hB11 := hB11.nq hc346 q325; replace h183 := h183.nq hc346 q327; replace hB214 := hB214.nq hc346 q330; replace h227 := h227.nq hc346 q332; replace h231 := h231.nq hc346 q334; replace h235 := h235.nq hc346 q336; replace h242 := h242.nq hc346 q339; have hE347 := Ext.then hE343 hc346 (Zn.bl q342); refine wpList_nil (e_then (wp_seq (wp_region_lit ?_))); refine op_g ha rfl (g_loadA (cs := [u181]) Tryd.isAgg31 Tryd.sizeOf31 rfl (by simp) hB214.all) ?_; intro a ha; refine op_g ha rfl (g_loadA (cs := [u222, u223, u224, u225]) Tryd.isAgg33 Tryd.sizeOf33 rfl (by simp) hB345.all) ?_; intro a ha; refine op_g ha rfl (g_move rfl) ?_; intro a ha; obtain ⟨fp348, hro349, hs350⟩ := h183.roF; obtain ⟨fp351, hro352, hs353⟩ := h227.roF; obtain ⟨fp354, hro355, hs356⟩ := h231.roF; obtain ⟨fp357, hro358, hs359⟩ := h235.roF; obtain ⟨fp360, hro361, hs362⟩ := h242.roF; obtain ⟨x363, hc364, hF⟩ := cal_some hF; refine o_call ha rfl rfl Tryd.call14 (W_impl_ColoursBy hro349 hro352 hro355 hro358 hro361 ha2 (hG.ext hE347) hc364) ?_; clear ha a; rintro v365 w366 ⟨⟨rfl, hI368⟩, hx367⟩ a ha; replace hB3 := hB3.ext hx367; replace hB11 := hB11.ext hx367; replace h183 := h183.ext hx367; replace hB214 := hB214.ext hx367; replace h227 := h227.ext hx367; replace h231 := h231.ext hx367; replace h235 := h235.ext hx367; replace h242 := h242.ext hx367
  replace hB345 := hB345.ext hx367; have hE369 := Ext.trans hE347 hx367; refine op_g ha rfl (g_assign rfl) ?_; intro a ha; refine wpList_nil ?_; replace ha := ha.sub (σ' := [(3, (.pointer (some ⟨b1, 0, none⟩))), (4, (.pointer (some ⟨b9, 0, none⟩))), (8, (.int .i64 x170)), (9, (.pointer (some ⟨b198, 0, none⟩))), (10, (.pointer (some ⟨b317, 0, none⟩))), (11, (.int .i64 x363))]) ⟨rfl, rfl, rfl, rfl, rfl, rfl, trivial⟩; refine e_then (wp_seq (wp_seq (wp_region_lit ?_))); refine op_g ha rfl (g_move rfl) ?_; intro a ha; refine op_g ha rfl (g_move rfl) ?_; intro a ha; refine op_g ha rfl (g_neq rfl rfl) ?_; intro a ha; refine wpList_nil (e_then ?_); refine c_cond (x363 ≠ x170) ha rfl (decide_eq_true_iff) (fun hp370 => ?_) (fun hp370 => ?_)
  · replace hF := if_t hp370 hF
    refine wp_seq (wp_region_lit ?_); refine op_g ha rfl (g_assign rfl) ?_; intro a ha; refine wpList_nil (e_then (wp_ret (e_then_ret ?_))); obtain rfl := Option.some.inj hF
    exact f_ret1 ha rfl rfl ⟨rfl, hE369⟩
  replace hF := if_f hp370 hF; refine wp_skip (e_then (wp_seq (wp_seq ?_))); refine d_region [0, 1, 2, 3, 4] hmix ?_; refine u_g 0 rfl (by kernel_rfl) (want0 _) ha rfl (g_loadA (cs := [u181]) Tryd.isAgg31 Tryd.sizeOf31 rfl (by simp) hB214.all) ?_; intro a ha; refine u_g 1 rfl (by kernel_rfl) (want0 _) ha rfl (g_loadA (cs := [va0_0]) Tryd.isAgg24 Tryd.sizeOf24 rfl (by simp) hB3.all) ?_; intro a ha; refine u_only 2 rfl (by kernel_rfl) ?_; intro w371 hx372; replace hB11 := hB11.ext hx372; replace h183 := h183.ext hx372; replace h227 := h227.ext hx372; replace h231 := h231.ext hx372; replace h235 := h235.ext hx372; replace h242 := h242.ext hx372; replace hB345 := hB345.ext hx372; have hE373 := Ext.trans hE369 hx372; obtain ⟨x374, hc375, hF⟩ := cal_some hF; refine o_call ha rfl rfl Tryd.call8 (W_laws_toGraph (ha0_0.ext hE373) hc375) ?_; clear ha a; rintro v376 w377 ⟨u379, b380, fs384, rfl, h381, z382, zf385, nd386, hx378⟩ a ha; replace hB11 := hB11.ext hx378; replace h183 := h183.ext hx378; replace h227 := h227.ext hx378; replace h231 := h231.ext hx378; replace h235 := h235.ext hx378; replace h242 := h242.ext hx378; replace hB345 := hB345.ext hx378; have hE417 := Ext.trans hE373 hx378; refine wpList_nil (e_sq ?_)
  refine ⟨fun _ => hx378, ?_⟩
  obtain ⟨fp422, hro423, hs424⟩ := h183.roF; obtain ⟨fp425, hro426, hs427⟩ := h381.roF; obtain ⟨x428, hc429, hF⟩ := cal_some hF; refine u_call (.bool x428) 3 rfl (by kernel_rfl) (want0 _) ha rfl rfl Tryd.call11 (fun w421 hx420 => W_laws_eqGraph (hro423.ext hx420) (hro426.ext hx420) hc429) (fun _ _ _ h => ⟨h.1, h.2⟩) ?_; intro a ha; refine u_g 4 rfl (by kernel_rfl) (want0 _) ha rfl (g_not rfl) ?_; intro a ha; refine u_done (by kernel_rfl) ?_; intro w430 hx431; replace hB11 := hB11.ext hx431; replace h227 := h227.ext hx431; replace h231 := h231.ext hx431; replace h235 := h235.ext hx431; replace h242 := h242.ext hx431; replace hB345 := hB345.ext hx431; have hE432 := Ext.trans hE417 hx431; refine e_then ?_; refine c_cond (¬ (x428 = true)) ha rfl (n_iff (Iff.rfl)) (fun hp433 => ?_) (fun hp433 => ?_)
  · replace hF := if_t hp433 hF
    refine wp_seq (wp_region_lit ?_); refine op_g ha rfl (g_assign rfl) ?_; intro a ha; refine wpList_nil ?_; replace ha := ha.sub (σ' := [(6, (.bool false))]) ⟨rfl, trivial⟩; refine e_then (wp_ret (e_then_ret ?_)); obtain rfl := Option.some.inj hF
    exact f_ret1 ha rfl rfl ⟨rfl, hE432⟩
  replace hF := if_f hp433 hF; refine wp_skip (e_then (wp_seq (wp_seq ?_))); refine d_region [0, 1, 2, 3, 4] hmix ?_; refine u_g 0 rfl (by kernel_rfl) (want0 _) ha rfl (g_loadA (cs := [u222, u223, u224, u225]) Tryd.isAgg33 Tryd.sizeOf33 rfl (by simp) hB345.all) ?_; intro a ha; refine u_g 1 rfl (by kernel_rfl) (want0 _) ha rfl (g_loadA (cs := [va1_0, va1_1, va1_2, va1_3]) Tryd.isAgg27 Tryd.sizeOf27 rfl (by simp) hB11.all) ?_; intro a ha; refine u_only 2 rfl (by kernel_rfl) ?_; intro w434 hx435; replace h227 := h227.ext hx435; replace h231 := h231.ext hx435; replace h235 := h235.ext hx435; replace h242 := h242.ext hx435; have hE436 := Ext.trans hE432 hx435; obtain ⟨x437, hc438, hF⟩ := cal_some hF; refine o_call ha rfl rfl Tryd.call9 (W_laws_toNice (ha1_0.ext hE436) (ha1_1.ext hE436) (ha1_2.ext hE436) (ha1_3.ext hE436) hc438) ?_; clear ha a; rintro v439 w440 ⟨u442, u443, u444, u445, b446, b450, b454, fs458, b461, fs465, rfl, h447, z448, h451, z452, h455, z456, zf459, nd460, h462, z463, zf466, nd467, q468, q469, q470, q471, q472, q473, q474, q475, q476, q477, q478, q479, q480, q481, q482, q483, q484, q485, hx441⟩ a ha; replace h227 := h227.ext hx441; replace h231 := h231.ext hx441; replace h235 := h235.ext hx441; replace h242 := h242.ext hx441; have hE554 := Ext.trans hE436 hx441; refine wpList_nil (e_sq ?_)
  refine ⟨fun _ => hx441, ?_⟩
  obtain ⟨fp563, hro564, hs565⟩ := h227.roF; obtain ⟨fp566, hro567, hs568⟩ := h231.roF; obtain ⟨fp569, hro570, hs571⟩ := h235.roF; obtain ⟨fp572, hro573, hs574⟩ := h242.roF; obtain ⟨fp575, hro576, hs577⟩ := h447.roF; obtain ⟨fp578, hro579, hs580⟩ := h451.roF; obtain ⟨fp581, hro582, hs583⟩ := h455.roF; obtain ⟨fp584, hro585, hs586⟩ := h462.roF; obtain ⟨x587, hc588, hF⟩ := cal_some hF; refine u_call (.bool x587) 3 rfl (by kernel_rfl) (want0 _) ha rfl rfl Tryd.call12 (fun w562 hx561 => W_laws_eqNice (hro564.ext hx561) (hro567.ext hx561) (hro570.ext hx561) (hro573.ext hx561) (hro576.ext hx561) (hro579.ext hx561) (hro582.ext hx561) (hro585.ext hx561) hc588) (fun _ _ _ h => ⟨h.1, h.2⟩) ?_; intro a ha; refine u_g 4 rfl (by kernel_rfl) (want0 _) ha rfl (g_not rfl) ?_; intro a ha; refine u_done (by kernel_rfl) ?_; intro w589 hx590; have hE591 := Ext.trans hE554 hx590; refine e_then ?_; refine c_cond (¬ (x587 = true)) ha rfl (n_iff (Iff.rfl)) (fun hp592 => ?_) (fun hp592 => ?_)
  · replace hF := if_t hp592 hF
    refine wp_seq (wp_region_lit ?_); refine op_g ha rfl (g_assign rfl) ?_; intro a ha; refine wpList_nil (e_then (wp_ret (e_then_ret ?_))); obtain rfl := Option.some.inj hF
    exact f_ret1 ha rfl rfl ⟨rfl, hE591⟩
  replace hF := if_f hp592 hF; refine wp_skip (e_then (wp_seq (wp_region_lit ?_))); refine op_g ha rfl (g_assign rfl) ?_; intro a ha; refine wpList_nil (e_then (wp_ret ?_)); obtain rfl := Option.some.inj hF
  exact f_ret1 ha rfl rfl ⟨rfl, hE591⟩
end Go.Proofs.YtnebbhginakaiaaDoor
