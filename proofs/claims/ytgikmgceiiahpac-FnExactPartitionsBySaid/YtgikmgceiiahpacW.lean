/- Walks, printed by gen.py. -/
import Derived.Test.YtgikmgceiiahpacF
import Derived.Test.YtgikmgceiiahpacW1
import Derived.Test.YtgikmgceiiahpacProg
import Derived.KernelRfl
set_option maxRecDepth 100000
namespace Go.Proofs.Ytgikmgceiiahpac
open Go Go.RowKit

set_option maxHeartbeats 2000000 in
theorem W_impl_countPartitions_step {rc : (List (BitVec 32)) → Int → (List (BitVec 32)) → (List Int) → Option ((List (BitVec 32)) × (List Int))} (ih : ∀ {W : World} {va0 : Value} {fa0 : List Nat} {a0 : (List (BitVec 32))} (ha0 : Ro Rp.u32 W fa0 va0 a0) {a1 : Int} (ha1 : InI a1) {va2 : Value} {ba2 : Int} {a2 : (List (BitVec 32))} (ha2 : Ow Rp.u32 51 true W [] ba2 va2 a2) {va3 : Value} {ba3 : Int} {a3 : (List Int)} (ha3 : Ow Rp.int 2 true W [] ba3 va3 a3) (qa0 : Nq fa0 ba2) (qa0_1 : Nq fa0 ba3) (qa2a3 : Nq (bl ba2 ++ []) ba3) (qa3a2 : Nq (bl ba3 ++ []) ba2) {r : ((List (BitVec 32)) × (List Int))} (hF : rc a0 a1 a2 a3 = some r),
    Calls Try.prog 22 [va0, .int .i64 a1, va2, va3].toArray W (Ret fun u w' => u = .tuple #[] ∧ Ow Rp.u32 51 true w' [] ba2 va2 r.1 ∧ Ow Rp.int 2 true w' [] ba3 va3 r.2 ∧ Chg (bl ba2 ++ bl ba3) W w')) {W : World} {va0 : Value} {fa0 : List Nat} {a0 : (List (BitVec 32))} (ha0 : Ro Rp.u32 W fa0 va0 a0) {a1 : Int} (ha1 : InI a1) {va2 : Value} {ba2 : Int} {a2 : (List (BitVec 32))} (ha2 : Ow Rp.u32 51 true W [] ba2 va2 a2) {va3 : Value} {ba3 : Int} {a3 : (List Int)} (ha3 : Ow Rp.int 2 true W [] ba3 va3 a3) (qa0 : Nq fa0 ba2) (qa0_1 : Nq fa0 ba3) (qa2a3 : Nq (bl ba2 ++ []) ba3) (qa3a2 : Nq (bl ba3 ++ []) ba2) {r : ((List (BitVec 32)) × (List Int))} (hF : F_impl_countPartitions_body rc a0 a1 a2 a3 = some r) :
    Calls Try.prog 22 [va0, .int .i64 a1, va2, va3].toArray W (Ret fun u w' => u = .tuple #[] ∧ Ow Rp.u32 51 true w' [] ba2 va2 r.1 ∧ Ow Rp.int 2 true w' [] ba3 va3 r.2 ∧ Chg (bl ba2 ++ bl ba3) W w') := by
  refine f_enter Try.func22 rfl Try.ntmps22 rfl ?_
  intro a ha
  replace ha : Fr 69 [(0, va0), (1, (.int .i64 a1)), (2, va2), (3, va3)] a := ha
  have hE : Chg (bl ba2 ++ bl ba3) W W := Chg.refl _ _
  unfold F_impl_countPartitions_body at hF
  refine wp_seq ?_
  refine wp_seq ?_
  refine wp_region_lit ?_
  refine op_g ha rfl (g_move rfl) ?_; clear ha a; intro a ha
  refine op_g ha rfl (g_move rfl) ?_; clear ha a; intro a ha
  refine op_g ha rfl (g_lenR sl43.und ha0 rfl) ?_; clear ha a; intro a ha
  refine op_g ha rfl (g_eql rfl rfl) ?_; clear ha a; intro a ha
  refine wpList_nil ?_
  replace ha := ha.sub (σ' := [(0, va0), (1, (.int .i64 a1)), (2, va2), (3, va3), (12, (.bool (decide (a1 = (a0.length : Int)))))]) ⟨rfl, rfl, rfl, rfl, rfl, trivial⟩
  refine e_then ?_
  refine c_cond (a1 = (a0.length : Int)) ha rfl (decide_eq_true_iff) (fun hp1 => ?_) (fun hp1 => ?_)
  · replace hF := if_t hp1 hF
    refine wp_seq ?_
    refine wp_region_lit ?_
    refine op_g ha rfl (g_move rfl) ?_; clear ha a; intro a ha
    refine op_g ha rfl (g_move rfl) ?_; clear ha a; intro a ha
    refine op_g ha rfl (g_lenO sl42.und ha2 rfl) ?_; clear ha a; intro a ha
    obtain ⟨x2, g3, gx4, hF⟩ := idx_some hF
    obtain ⟨p5, cs6, f7, hf8, hpb9, hat10, hr11, hi12⟩ := ha3.at g3 gx4
    obtain ⟨rfl, hI13, rfl⟩ := hr11
    refine op_g ha rfl (hi12.gives sl26 rfl rfl) ?_; clear ha a; intro a ha
    refine op_g ha rfl (g_load Try.isAgg2 rfl hat10.one) ?_; clear ha a; intro a ha
    obtain ⟨hI14, hF⟩ := ck_some hF
    refine op_g ha rfl (g_add rfl rfl hI14) ?_; clear ha a; intro a ha
    obtain ⟨x16, g17, gx18, hF⟩ := idx_some hF
    obtain ⟨p19, cs20, f21, hf22, hpb23, hat24, hr25, hi26⟩ := ha3.at g17 gx18
    obtain ⟨rfl, hI27, rfl⟩ := hr25
    refine op_g ha rfl (hi26.gives sl26 rfl rfl) ?_; clear ha a; intro a ha
    refine o_storeE (f := []) (q := x2 + 1) ha Try.sizeOf2 rfl rfl rfl ha3 hi26 ⟨rfl, hI14, rfl⟩ (Nq.nil _) ?_; intro w28 fs29 h30 hc31 hs32
    obtain rfl := Subst.nil hs32
    replace ha0 := ha0.nq hc31 qa0_1
    replace ha2 := ha2.nq hc31 qa2a3
    have hE33 := Chg.join hE hc31 (S2.par (fun _ h => List.mem_append_right _ h))
    refine wpList_nil ?_
    replace ha := ha.sub (σ' := []) trivial
    refine e_then ?_
    refine wp_ret ?_
    refine e_then_ret ?_
    obtain rfl := Option.some.inj hF
    exact f_ret0 ha rfl ⟨rfl, ha2, h30, hE33⟩
  · replace hF := if_f hp1 hF
    refine wp_skip ?_
    refine e_then ?_
    refine wp_seq ?_
    refine wp_seq ?_
    refine wp_region_lit ?_
    refine op_g ha rfl (g_move rfl) ?_; clear ha a; intro a ha
    refine op_g ha rfl (g_lenO sl42.und ha2 rfl) ?_; clear ha a; intro a ha
    refine op_g ha rfl (g_move rfl) ?_; clear ha a; intro a ha
    refine wpList_nil ?_
    replace ha := ha.sub (σ' := [(0, va0), (1, (.int .i64 a1)), (2, va2), (3, va3), (21, (.int .i64 (a2.length : Int))), (22, (.int .i64 0))]) ⟨rfl, rfl, rfl, rfl, rfl, rfl, trivial⟩
    refine e_then ?_
    obtain ⟨o345, ho346, hK347⟩ := bnd_some hF
    obtain ⟨n348, hn349⟩ := lp_some ho346; clear ho346
    refine c_loop (fun a w => ∃ (l334 : (List (BitVec 32))) (l338 : (List Int)), Fr 69 [(0, va0), (1, (.int .i64 a1)), (2, va2), (3, va3)] a ∧ Chg (bl ba2 ++ bl ba3) W w ∧ Ro Rp.u32 w fa0 va0 a0 ∧ Ow Rp.u32 51 true w [] ba2 va2 l334 ∧ Ow Rp.int 2 true w [] ba3 va3 l338 ∧ Nq (fa0) ba2 ∧ Nq (fa0) ba3 ∧ Nq (bl ba2 ++ []) ba3 ∧ Nq (bl ba3 ++ []) ba2 ∧ o345 = .inl (l334, l338)) (fun n a w => ∃ (l182 : (List (BitVec 32))) (l186 : (List Int)) (i189 : Int), Fr 69 [(0, va0), (1, (.int .i64 a1)), (2, va2), (3, va3), (21, (.int .i64 (a2.length : Int))), (22, (.int .i64 i189))] a ∧ Chg (bl ba2 ++ bl ba3) W w ∧ InI i189 ∧ Ro Rp.u32 w fa0 va0 a0 ∧ Ow Rp.u32 51 true w [] ba2 va2 l182 ∧ Ow Rp.int 2 true w [] ba3 va3 l186 ∧ Nq (fa0) ba2 ∧ Nq (fa0) ba3 ∧ Nq (bl ba2 ++ []) ba3 ∧ Nq (bl ba3 ++ []) ba2 ∧ lpN (fun s => F_impl_countPartitions_l1 a0 a1 a2 rc s.1 s.2.1 s.2.2) n (l182, l186, i189) = some o345) n348 ⟨a2, a3, 0, ha.sub ⟨rfl, rfl, rfl, rfl, rfl, rfl, trivial⟩, hE, (show InI 0 from by decide), ha0, ha2, ha3, qa0, qa0_1, qa2a3, qa3a2, hn349⟩ ?_ ?_
    · rintro m353 a w178 ⟨l182, l186, i189, ha, hE195, hI190, h180, h181, h185, q191, q192, q193, q194, hF⟩
      cases m353 with
      | zero => exact (lpN_zero hF).elim
      | succ m353 =>
        obtain ⟨z352, hF, hN351⟩ := lpN_succ hF
        have hF : F_impl_countPartitions_l1 a0 a1 a2 rc l182 l186 i189 = some z352 := hF; unfold F_impl_countPartitions_l1 at hF
        refine wp_seq ?_
        refine wp_region_lit ?_
        refine op_g ha rfl (g_lss rfl rfl) ?_; clear ha a; intro a ha
        refine wpList_nil ?_
        replace ha := ha.sub (σ' := [(0, va0), (1, (.int .i64 a1)), (2, va2), (3, va3), (21, (.int .i64 (a2.length : Int))), (22, (.int .i64 i189)), (23, (.bool (decide (i189 < (a2.length : Int)))))]) ⟨rfl, rfl, rfl, rfl, rfl, rfl, rfl, trivial⟩
        refine e_then ?_
        refine wp_seq ?_
        refine c_cond (i189 < (a2.length : Int)) ha rfl (decide_eq_true_iff) (fun hp354 => ?_) (fun hp354 => ?_)
        · replace hF := if_t hp354 hF
          refine wp_skip ?_
          refine e_then ?_
          refine wp_seq ?_
          refine wp_block ?_
          refine wp_seq ?_
          refine wp_region_lit ?_
          refine op_g ha rfl (g_move rfl) ?_; clear ha a; intro a ha
          refine op_g ha rfl (g_assign rfl) ?_; clear ha a; intro a ha
          refine wpList_nil ?_
          replace ha := ha.sub (σ' := [(0, va0), (1, (.int .i64 a1)), (2, va2), (3, va3), (8, (.int .i64 i189)), (21, (.int .i64 (a2.length : Int))), (22, (.int .i64 i189))]) ⟨rfl, rfl, rfl, rfl, rfl, rfl, rfl, trivial⟩
          refine e_then ?_
          refine wp_seq ?_
          refine d_quiet hmix (by kernel_rfl) ?_
          refine q_g ha rfl (g_move rfl) ?_; clear ha a; intro a ha
          refine q_g ha rfl (g_move rfl) ?_; clear ha a; intro a ha
          obtain ⟨x355, g356, gx357, hF⟩ := idx_some hF
          obtain ⟨p358, cs359, f360, hf361, hpb362, hat363, hr364, hi365⟩ := h181.at g356 gx357
          obtain ⟨rfl, rfl⟩ := hr364
          refine q_g ha rfl (hi365.gives sl42 rfl rfl) ?_; clear ha a; intro a ha
          refine q_g ha rfl (g_load Try.isAgg51 rfl hat363.one) ?_; clear ha a; intro a ha
          refine q_g ha rfl (g_move rfl) ?_; clear ha a; intro a ha
          refine q_g ha rfl (g_move rfl) ?_; clear ha a; intro a ha
          obtain ⟨x366, g367, gx368, hF⟩ := idx_some hF
          obtain ⟨p369, cs370, f371, hf372, hpb373, hat374, hr375, hi376⟩ := h180.at g367 gx368
          obtain ⟨rfl, rfl⟩ := hr375
          refine q_g ha rfl (hi376.gives sl43 rfl rfl) ?_; clear ha a; intro a ha
          refine q_g ha rfl (g_load Try.isAgg51 rfl hat374.one) ?_; clear ha a; intro a ha
          refine q_g ha rfl (g32_and (m := x355) (n := x366) rfl rfl) ?_; clear ha a; intro a ha
          refine q_g ha rfl (g32_eql (m := (x355 &&& x366)) (n := (0#32)) rfl rfl) ?_; clear ha a; intro a ha
          refine q_nil ?_; intro w377 hx378
          replace h180 := h180.ext hx378
          replace h181 := h181.ext hx378
          replace h185 := h185.ext hx378
          have hE379 := Chg.more hE195 hx378
          replace ha := ha.sub (σ' := [(0, va0), (1, (.int .i64 a1)), (2, va2), (3, va3), (8, (.int .i64 i189)), (21, (.int .i64 (a2.length : Int))), (22, (.int .i64 i189)), (34, (.bool (decide ((x355 &&& x366) = (0#32)))))]) ⟨rfl, rfl, rfl, rfl, rfl, rfl, rfl, rfl, trivial⟩
          refine e_then ?_
          refine c_cond ((x355 &&& x366) = (0#32)) ha rfl (decide_eq_true_iff) (fun hp380 => ?_) (fun hp380 => ?_)
          · replace hF := if_t hp380 hF
            refine wp_seq ?_
            refine d_region 8 hmix ?_
            refine u_g 0 rfl (by kernel_rfl) (want0 _) ha rfl (g_move rfl) ?_; clear ha a; intro a ha
            refine u_g 1 rfl (by kernel_rfl) (want0 _) ha rfl (g_move rfl) ?_; clear ha a; intro a ha
            obtain ⟨x381, g382, gx383, hF⟩ := idx_some hF
            obtain ⟨p384, cs385, f386, hf387, hpb388, hat389, hr390, hi391⟩ := h181.at g382 gx383
            obtain ⟨rfl, rfl⟩ := hr390
            refine u_g 2 rfl (by kernel_rfl) (want0 _) ha rfl (hi391.gives sl42 rfl rfl) ?_; clear ha a; intro a ha
            refine u_g 3 rfl (by kernel_rfl) (want0 _) ha rfl (g_load Try.isAgg51 rfl hat389.one) ?_; clear ha a; intro a ha
            refine u_g 4 rfl (by kernel_rfl) (want0 _) ha rfl (g_move rfl) ?_; clear ha a; intro a ha
            obtain ⟨x394, hc395, hF⟩ := cal_some hF
            refine u_call (.int .u32 (BitVec.toNat x394 : Int)) 5 rfl (by kernel_rfl) (want0 _) ha rfl rfl Try.call34 (fun w393 hx392 => W_impl_one ha1 hc395) (fun _ _ _ h => ⟨h.1, h.2⟩) ?_; clear ha a; intro a ha
            refine u_g 6 rfl (by kernel_rfl) (want0 _) ha rfl (g32_or (m := x381) (n := x394) rfl rfl) ?_; clear ha a; intro a ha
            obtain ⟨x396, g397, gx398, hF⟩ := idx_some hF
            obtain ⟨p399, cs400, f401, hf402, hpb403, hat404, hr405, hi406⟩ := h181.at g397 gx398
            obtain ⟨rfl, rfl⟩ := hr405
            refine u_g 7 rfl (by kernel_rfl) (want0 _) ha rfl (hi406.gives sl42 rfl rfl) ?_; clear ha a; intro a ha
            refine u_only 8 rfl (by kernel_rfl) ?_; intro w407 hx408
            replace h180 := h180.ext hx408
            replace h181 := h181.ext hx408
            replace h185 := h185.ext hx408
            have hE409 := Chg.more hE379 hx408
            refine o_storeE (f := []) (q := x381 ||| x394) ha Try.sizeOf51 rfl rfl rfl h181 hi406 ⟨rfl, rfl⟩ (Nq.nil _) ?_; intro w410 fs411 h412 hc413 hs414
            obtain rfl := Subst.nil hs414
            replace h180 := h180.nq hc413 q191
            replace h185 := h185.nq hc413 q194
            have hE415 := Chg.join hE409 hc413 (S2.par (fun _ h => List.mem_append_left _ h))
            refine wpList_nil (e_sq ?_)
            refine ⟨fun h => absurd h (by decide), ?_⟩
            refine u_done (by kernel_rfl) ?_; intro w416 hx417
            replace h180 := h180.ext hx417
            replace h412 := h412.ext hx417
            replace h185 := h185.ext hx417
            have hE418 := Chg.more hE415 hx417
            replace ha := ha.sub (σ' := [(0, va0), (1, (.int .i64 a1)), (2, va2), (3, va3), (8, (.int .i64 i189)), (21, (.int .i64 (a2.length : Int))), (22, (.int .i64 i189))]) ⟨rfl, rfl, rfl, rfl, rfl, rfl, rfl, trivial⟩
            refine e_then ?_
            refine wp_seq ?_
            refine wp_region_lit ?_
            refine op_g ha rfl (g_move rfl) ?_; clear ha a; intro a ha
            refine op_g ha rfl (g_move rfl) ?_; clear ha a; intro a ha
            obtain ⟨hI419, hF⟩ := ck_some hF
            refine op_g ha rfl (g_add rfl rfl hI419) ?_; clear ha a; intro a ha
            refine op_g ha rfl (g_move rfl) ?_; clear ha a; intro a ha
            refine op_g ha rfl (g_move rfl) ?_; clear ha a; intro a ha
            obtain ⟨x421, hc422, hF⟩ := cal_some hF
            refine o_call ha rfl rfl Try.call22 (ih h180 hI419 h412 h185 q191 q192 q193 q194 hc422) ?_; clear ha a; rintro v423 w424 ⟨rfl, h426, h427, hx425⟩ a ha
            replace h180 := h180.off hx425 (Off.two (Off.flat q191) (Off.flat q192))
            have hE428 := Chg.join hE418 hx425 (S2.app (S2.par (fun _ h => List.mem_append_left _ h)) (S2.par (fun _ h => List.mem_append_right _ h)))
            refine wpList_nil ?_
            replace ha := ha.sub (σ' := [(0, va0), (1, (.int .i64 a1)), (2, va2), (3, va3), (8, (.int .i64 i189)), (21, (.int .i64 (a2.length : Int))), (22, (.int .i64 i189))]) ⟨rfl, rfl, rfl, rfl, rfl, rfl, rfl, trivial⟩
            refine e_then ?_
            refine d_region 8 hmix ?_
            refine u_g 0 rfl (by kernel_rfl) (want0 _) ha rfl (g_move rfl) ?_; clear ha a; intro a ha
            refine u_g 1 rfl (by kernel_rfl) (want0 _) ha rfl (g_move rfl) ?_; clear ha a; intro a ha
            obtain ⟨x429, g430, gx431, hF⟩ := idx_some hF
            obtain ⟨p432, cs433, f434, hf435, hpb436, hat437, hr438, hi439⟩ := h426.at g430 gx431
            obtain ⟨rfl, rfl⟩ := hr438
            refine u_g 2 rfl (by kernel_rfl) (want0 _) ha rfl (hi439.gives sl42 rfl rfl) ?_; clear ha a; intro a ha
            refine u_g 3 rfl (by kernel_rfl) (want0 _) ha rfl (g_load Try.isAgg51 rfl hat437.one) ?_; clear ha a; intro a ha
            refine u_g 4 rfl (by kernel_rfl) (want0 _) ha rfl (g_move rfl) ?_; clear ha a; intro a ha
            obtain ⟨x442, hc443, hF⟩ := cal_some hF
            refine u_call (.int .u32 (BitVec.toNat x442 : Int)) 5 rfl (by kernel_rfl) (want0 _) ha rfl rfl Try.call34 (fun w441 hx440 => W_impl_one ha1 hc443) (fun _ _ _ h => ⟨h.1, h.2⟩) ?_; clear ha a; intro a ha
            refine u_g 6 rfl (by kernel_rfl) (want0 _) ha rfl (g32_andNot (m := x429) (n := x442) rfl rfl) ?_; clear ha a; intro a ha
            obtain ⟨x444, g445, gx446, hF⟩ := idx_some hF
            obtain ⟨p447, cs448, f449, hf450, hpb451, hat452, hr453, hi454⟩ := h426.at g445 gx446
            obtain ⟨rfl, rfl⟩ := hr453
            refine u_g 7 rfl (by kernel_rfl) (want0 _) ha rfl (hi454.gives sl42 rfl rfl) ?_; clear ha a; intro a ha
            refine u_only 8 rfl (by kernel_rfl) ?_; intro w455 hx456
            replace h180 := h180.ext hx456
            replace h426 := h426.ext hx456
            replace h427 := h427.ext hx456
            have hE457 := Chg.more hE428 hx456
            refine o_storeE (f := []) (q := x429 &&& ~~~x442) ha Try.sizeOf51 rfl rfl rfl h426 hi454 ⟨rfl, rfl⟩ (Nq.nil _) ?_; intro w458 fs459 h460 hc461 hs462
            obtain rfl := Subst.nil hs462
            replace h180 := h180.nq hc461 q191
            replace h427 := h427.nq hc461 q194
            have hE463 := Chg.join hE457 hc461 (S2.par (fun _ h => List.mem_append_left _ h))
            refine wpList_nil (e_sq ?_)
            refine ⟨fun h => absurd h (by decide), ?_⟩
            refine u_done (by kernel_rfl) ?_; intro w464 hx465
            replace h180 := h180.ext hx465
            replace h460 := h460.ext hx465
            replace h427 := h427.ext hx465
            have hE466 := Chg.more hE463 hx465
            replace ha := ha.sub (σ' := [(0, va0), (1, (.int .i64 a1)), (2, va2), (3, va3), (21, (.int .i64 (a2.length : Int))), (22, (.int .i64 i189))]) ⟨rfl, rfl, rfl, rfl, rfl, rfl, trivial⟩
            refine e_blk ?_
            refine e_then ?_
            refine wp_region_lit ?_
            obtain ⟨hI467, hF⟩ := ck_some hF
            refine op_g ha rfl (g_add rfl rfl hI467) ?_; clear ha a; intro a ha
            refine op_g ha rfl (g_move rfl) ?_; clear ha a; intro a ha
            refine wpList_nil ?_
            replace ha := ha.sub (σ' := [(0, va0), (1, (.int .i64 a1)), (2, va2), (3, va3), (21, (.int .i64 (a2.length : Int))), (22, (.int .i64 (i189 + 1)))]) ⟨rfl, rfl, rfl, rfl, rfl, rfl, trivial⟩
            refine e_lq ?_
            obtain rfl := Option.some.inj hF
            exact ⟨_, Nat.lt_succ_self _, (x421.1.set ((i189 : Int).toNat) (x429 &&& ~~~x442)), x421.2, i189 + 1, ha.sub ⟨rfl, rfl, rfl, rfl, rfl, rfl, trivial⟩, hE466, hI467, h180, h460, h427, q191, q192, q193, q194, hN351⟩
          · replace hF := if_f hp380 hF
            refine wp_skip ?_
            refine e_blk ?_
            refine e_then ?_
            refine wp_region_lit ?_
            obtain ⟨hI469, hF⟩ := ck_some hF
            refine op_g ha rfl (g_add rfl rfl hI469) ?_; clear ha a; intro a ha
            refine op_g ha rfl (g_move rfl) ?_; clear ha a; intro a ha
            refine wpList_nil ?_
            replace ha := ha.sub (σ' := [(0, va0), (1, (.int .i64 a1)), (2, va2), (3, va3), (21, (.int .i64 (a2.length : Int))), (22, (.int .i64 (i189 + 1)))]) ⟨rfl, rfl, rfl, rfl, rfl, rfl, trivial⟩
            refine e_lq ?_
            obtain rfl := Option.some.inj hF
            exact ⟨_, Nat.lt_succ_self _, l182, l186, i189 + 1, ha.sub ⟨rfl, rfl, rfl, rfl, rfl, rfl, trivial⟩, hE379, hI469, h180, h181, h185, q191, q192, q193, q194, hN351⟩
        · replace hF := if_f hp354 hF
          refine wp_exit ?_
          refine e_then_exit ?_
          refine e_lq_eq ?_
          obtain rfl := Option.some.inj hF
          exact ⟨l182, l186, ha.sub ⟨rfl, rfl, rfl, rfl, trivial⟩, hE195, h180, h181, h185, q191, q192, q193, q194, (LK_inr hN351).symm⟩
    · rintro a w330 ⟨l334, l338, ha, hE350, h332, h333, h337, q341, q342, q343, q344, rfl⟩
      have hF : F_impl_countPartitions_k2 a0 a1 rc l334 l338 = some _ := hK347; clear hK347; unfold F_impl_countPartitions_k2 at hF
      refine e_then ?_
      refine wp_region_lit ?_
      refine op_g ha rfl (g_move rfl) ?_; clear ha a; intro a ha
      refine op_g ha rfl (g_move rfl) ?_; clear ha a; intro a ha
      obtain ⟨hI471, hF⟩ := ck_some hF
      refine op_g ha rfl (g_add rfl rfl hI471) ?_; clear ha a; intro a ha
      refine op_g ha rfl (g_move rfl) ?_; clear ha a; intro a ha
      obtain ⟨fp473, hro474, hs475⟩ := h333.roF
      obtain ⟨x476, hc477, hF⟩ := cal_some hF
      refine o_call ha rfl rfl Try.call35 (W_slices_Clone_implvset hro474 hc477) ?_; clear ha a; rintro v478 w479 ⟨b481, h482, z483, hx480⟩ a ha
      have q485 := Nq.new h332.bnd z483
      have q486 := Nq.new h333.fpb z483
      have q487 := Nq.madeO z483 h333.blt
      have q488 := Nq.new h337.fpb z483
      have q489 := Nq.madeO z483 h337.blt
      replace h332 := h332.ext hx480
      replace h333 := h333.ext hx480
      replace h337 := h337.ext hx480
      have hE490 := Chg.more hE350 hx480
      have q491 := Zn.upD z483 hE350
      refine op_g ha rfl (g_move rfl) ?_; clear ha a; intro a ha
      obtain ⟨x492, hc493, hF⟩ := cal_some hF
      refine o_call ha rfl rfl Try.call34 (W_impl_one ha1 hc493) ?_; clear ha a; rintro v494 w495 ⟨rfl, hx496⟩ a ha
      replace h332 := h332.ext hx496
      replace h333 := h333.ext hx496
      replace h337 := h337.ext hx496
      replace h482 := h482.ext hx496
      have hE497 := Chg.more hE490 hx496
      refine o_lit1 (o := true) (y := x492) Rp.u32 ha rfl sl42 rfl rfl rfl ⟨rfl, rfl⟩ ?_; clear ha a; intro v498 w499 h500 hx501 a ha
      obtain ⟨b503, hb503⟩ : ∃ b : Int, b = w495.heap.size := ⟨_, rfl⟩; rw [← hb503] at h500
      have q504 := zn_of hb503
      have q505 := Nq.new h332.bnd q504
      have q506 := Nq.new h333.fpb q504
      have q507 := Nq.madeO q504 h333.blt
      have q508 := Nq.new h337.fpb q504
      have q509 := Nq.madeO q504 h337.blt
      have q510 := Nq.new h482.fpb q504
      have q511 := Nq.madeO q504 h482.blt
      have q512 := Zn.upD q504 hE497
      replace h332 := h332.ext hx501
      replace h333 := h333.ext hx501
      replace h337 := h337.ext hx501
      replace h482 := h482.ext hx501
      have hE513 := Chg.more hE497 hx501
      obtain ⟨hl514, hF⟩ := app_some hF
      refine o_append ha rfl sl42 rfl rfl rfl h482 h500.src (Nq.nil _) hl514 ?_; clear ha a; intro v515 w516 b517 h518 hc519 hb520 a ha
      replace h518 : Ow Rp.u32 51 true w516 [] b517 v515 _ := h518
      have q522 := Nq.appY q485 h332.bnd hb520
      have q523 := Nq.appY q486 h333.fpb hb520
      have q524 := Nq.appX q487 (Nq.nil _) hb520 h333.blt
      have q525 := Nq.appY q488 h337.fpb hb520
      have q526 := Nq.appX q489 (Nq.nil _) hb520 h337.blt
      have q527 := Nq.appY q511 h500.fpb hb520
      have q528 := Nq.appX q510 (Nq.nil _) hb520 h500.blt
      have q529 := Zn.appD q491 hb520 hE513
      replace h332 := h332.nq hc519 q485
      replace h333 := h333.nq hc519 q486
      replace h337 := h337.nq hc519 q488
      replace h500 := h500.nq hc519 q511
      have hE530 := Chg.own hE513 hc519 (Zn.bl q491)
      refine op_g ha rfl (g_move rfl) ?_; clear ha a; intro a ha
      obtain ⟨x531, hc532, hF⟩ := cal_some hF
      refine o_call ha rfl rfl Try.call22 (ih h332 hI471 h518 h337 q522 q342 q526 q525 hc532) ?_; clear ha a; rintro v533 w534 ⟨rfl, h536, h537, hx535⟩ a ha
      replace h332 := h332.off hx535 (Off.two (Off.flat q522) (Off.flat q342))
      replace h333 := h333.off hx535 (Off.two (Off.flat q523) (Off.flat q343))
      replace h500 := h500.off hx535 (Off.two (Off.flat q527) (Off.flat q509))
      have hE538 := Chg.join hE530 hx535 (S2.app (S2.own (Zn.bl q529)) (S2.par (fun _ h => List.mem_append_right _ h)))
      refine wpList_nil ?_
      replace ha := ha.sub (σ' := []) trivial
      obtain rfl := Option.some.inj hF
      exact f_end0 ha rfl ⟨rfl, h333, h537, hE538⟩
theorem W_impl_countPartitions_n (n : Nat) : ∀ {W : World} {va0 : Value} {fa0 : List Nat} {a0 : (List (BitVec 32))} (ha0 : Ro Rp.u32 W fa0 va0 a0) {a1 : Int} (ha1 : InI a1) {va2 : Value} {ba2 : Int} {a2 : (List (BitVec 32))} (ha2 : Ow Rp.u32 51 true W [] ba2 va2 a2) {va3 : Value} {ba3 : Int} {a3 : (List Int)} (ha3 : Ow Rp.int 2 true W [] ba3 va3 a3) (qa0 : Nq fa0 ba2) (qa0_1 : Nq fa0 ba3) (qa2a3 : Nq (bl ba2 ++ []) ba3) (qa3a2 : Nq (bl ba3 ++ []) ba2) {r : ((List (BitVec 32)) × (List Int))} (hF : itN (fun (rc : ((List (BitVec 32)) × Int × (List (BitVec 32)) × (List Int)) → Option ((List (BitVec 32)) × (List Int))) a => F_impl_countPartitions_body (fun z0 z1 z2 z3 => rc (z0, z1, z2, z3)) a.1 a.2.1 a.2.2.1 a.2.2.2) n (a0, a1, a2, a3) = some r),
    Calls Try.prog 22 [va0, .int .i64 a1, va2, va3].toArray W (Ret fun u w' => u = .tuple #[] ∧ Ow Rp.u32 51 true w' [] ba2 va2 r.1 ∧ Ow Rp.int 2 true w' [] ba3 va3 r.2 ∧ Chg (bl ba2 ++ bl ba3) W w') := by
  induction n with
  | zero => intro W va0 fa0 a0 ha0 a1 ha1 va2 ba2 a2 ha2 va3 ba3 a3 ha3 qa0 qa0_1 qa2a3 qa3a2 r hF; cases hF
  | succ n ih => intro W va0 fa0 a0 ha0 a1 ha1 va2 ba2 a2 ha2 va3 ba3 a3 ha3 qa0 qa0_1 qa2a3 qa3a2 r hF; exact W_impl_countPartitions_step (rc := fun z0 z1 z2 z3 => itN (fun (rc : ((List (BitVec 32)) × Int × (List (BitVec 32)) × (List Int)) → Option ((List (BitVec 32)) × (List Int))) a => F_impl_countPartitions_body (fun z0 z1 z2 z3 => rc (z0, z1, z2, z3)) a.1 a.2.1 a.2.2.1 a.2.2.2) n (z0, z1, z2, z3)) @ih ha0 ha1 ha2 ha3 qa0 qa0_1 qa2a3 qa3a2 hF
theorem W_impl_countPartitions {W : World} {va0 : Value} {fa0 : List Nat} {a0 : (List (BitVec 32))} (ha0 : Ro Rp.u32 W fa0 va0 a0) {a1 : Int} (ha1 : InI a1) {va2 : Value} {ba2 : Int} {a2 : (List (BitVec 32))} (ha2 : Ow Rp.u32 51 true W [] ba2 va2 a2) {va3 : Value} {ba3 : Int} {a3 : (List Int)} (ha3 : Ow Rp.int 2 true W [] ba3 va3 a3) (qa0 : Nq fa0 ba2) (qa0_1 : Nq fa0 ba3) (qa2a3 : Nq (bl ba2 ++ []) ba3) (qa3a2 : Nq (bl ba3 ++ []) ba2) {r : ((List (BitVec 32)) × (List Int))} (hF : F_impl_countPartitions a0 a1 a2 a3 = some r) :
    Calls Try.prog 22 [va0, .int .i64 a1, va2, va3].toArray W (Ret fun u w' => u = .tuple #[] ∧ Ow Rp.u32 51 true w' [] ba2 va2 r.1 ∧ Ow Rp.int 2 true w' [] ba3 va3 r.2 ∧ Chg (bl ba2 ++ bl ba3) W w') := by
  obtain ⟨n, hn⟩ := fixO_some hF
  exact W_impl_countPartitions_n n ha0 ha1 ha2 ha3 qa0 qa0_1 qa2a3 qa3a2 hn
set_option maxHeartbeats 2000000 in
theorem W_impl_PartitionsBy {W : World} {va0_0 : Value} {fa0_0 : List Nat} {a0_0 : (List (List Int))} (ha0_0 : Ro (Rp.sl 2 Rp.int) W fa0_0 va0_0 a0_0) {r : (List Int)} (hF : F_impl_PartitionsBy a0_0 = some r) :
    Calls Try.prog 8 [.agg #[va0_0]].toArray W (Ret fun u w' => ∃ (b_u : Int), Ow Rp.int 2 true w' [] b_u u r ∧ Zn W b_u ∧ Ext W w') := by
  refine f_enter Try.func8 rfl Try.ntmps8 rfl ?_
  intro a ha
  replace ha : Fr 17 [(0, (.agg #[va0_0]))] a := ha
  have hE : Chg [] W W := Chg.refl _ _
  unfold F_impl_PartitionsBy at hF
  refine wp_seq ?_
  refine wp_region_lit ?_
  refine o_box ha rfl rfl rfl ?_; clear ha a; intro b1 w2 hB3 hx4 hlo5 a ha
  have q6 := Zn.one hlo5
  have q7 := Zn.upD q6 hE
  have hE8 := Ext.trans hE hx4
  refine op_g ha rfl (g_assign rfl) ?_; clear ha a; intro a ha
  refine wpList_nil ?_
  replace ha := ha.sub (σ' := [(1, (.pointer (some ⟨b1, 0, none⟩)))]) ⟨rfl, trivial⟩
  refine e_then ?_
  refine wp_seq ?_
  refine wp_seq ?_
  refine wp_region_lit ?_
  refine op_g ha rfl (g_loadA (cs := [va0_0]) Try.isAgg28 Try.sizeOf28 rfl (by simp) hB3.all) ?_; clear ha a; intro a ha
  obtain ⟨x9, hc10, hF⟩ := cal_some hF
  refine o_call ha rfl rfl Try.call21 (W_impl_isSmall (ha0_0.ext hE8) hc10) ?_; clear ha a; rintro v11 w12 ⟨rfl, hx13⟩ a ha
  replace hB3 := hB3.ext hx13
  have hE14 := Ext.trans hE8 hx13
  refine op_g ha rfl (g_not rfl) ?_; clear ha a; intro a ha
  refine wpList_nil ?_
  replace ha := ha.sub (σ' := [(1, (.pointer (some ⟨b1, 0, none⟩))), (6, (.bool (!x9)))]) ⟨rfl, rfl, trivial⟩
  refine e_then ?_
  refine c_cond (¬ (x9 = true)) ha rfl (n_iff (Iff.rfl)) (fun hp15 => ?_) (fun hp15 => ?_)
  · replace hF := if_t hp15 hF
    refine wp_seq ?_
    refine wp_region_lit ?_
    refine op_g ha rfl (g_assign rfl) ?_; clear ha a; intro a ha
    refine wpList_nil ?_
    replace ha := ha.sub (σ' := [(2, (.slice none 0 0))]) ⟨rfl, trivial⟩
    refine e_then ?_
    refine wp_ret ?_
    refine e_then_ret ?_
    obtain rfl := Option.some.inj hF
    exact f_ret1 ha rfl rfl ⟨-1, (Ow.nil (by decide)), (.inl (by decide)), hE14⟩
  · replace hF := if_f hp15 hF
    refine wp_skip ?_
    refine e_then ?_
    refine wp_seq ?_
    refine wp_region_lit ?_
    refine op_g ha rfl (g_field0 st28_0 rfl) ?_; clear ha a; intro a ha
    refine op_g ha rfl (g_load Try.isAgg22 rfl (hB3.cell rfl)) ?_; clear ha a; intro a ha
    refine op_g ha rfl (g_lenR sl22.und ha0_0 rfl) ?_; clear ha a; intro a ha
    obtain ⟨hI16, hF⟩ := ck_some hF
    refine op_g ha rfl (g_add rfl rfl hI16) ?_; clear ha a; intro a ha
    obtain ⟨g22, g22b, hF⟩ := mkS_some hF
    refine o_make (z0 := (0 : Int)) Rp.int ha rfl sl26 rfl (fun w => ⟨rfl, by decide, rfl⟩) rfl g22 g22b ?_; clear ha a; intro v18 w19 h20 hx21 a ha
    obtain ⟨b25, hb25⟩ : ∃ b : Int, b = w12.heap.size := ⟨_, rfl⟩; rw [← hb25] at h20
    have q26 := zn_of hb25
    have q27 := Nq.new hB3.fpb q26
    have q28 := Nq.madeO q26 hB3.bi
    have q29 := Zn.upD q26 hE14
    replace hB3 := hB3.ext hx21
    have hE30 := Ext.trans hE14 hx21
    refine op_g ha rfl (g_assign rfl) ?_; clear ha a; intro a ha
    refine wpList_nil ?_
    replace ha := ha.sub (σ' := [(1, (.pointer (some ⟨b1, 0, none⟩))), (3, v18)]) ⟨rfl, rfl, trivial⟩
    refine e_then ?_
    refine wp_seq ?_
    refine wp_region_lit ?_
    refine op_g ha rfl (g_loadA (cs := [va0_0]) Try.isAgg28 Try.sizeOf28 rfl (by simp) hB3.all) ?_; clear ha a; intro a ha
    obtain ⟨x31, hc32, hF⟩ := cal_some hF
    refine o_call ha rfl rfl Try.call23 (W_impl_netsOf (ha0_0.ext hE30) hc32) ?_; clear ha a; rintro v33 w34 ⟨b36, h37, z38, hx35⟩ a ha
    have q40 := Nq.new hB3.fpb z38
    have q41 := Nq.madeO z38 hB3.bi
    have q42 := Nq.new h20.fpb z38
    have q43 := Nq.madeO z38 h20.blt
    replace hB3 := hB3.ext hx35
    replace h20 := h20.ext hx35
    have hE44 := Ext.trans hE30 hx35
    have q45 := Zn.upD z38 hE30
    refine op_g ha rfl (g_move rfl) ?_; clear ha a; intro a ha
    obtain ⟨fp46, hro47, hs48⟩ := h37.roF
    obtain ⟨b51, hb51⟩ : ∃ b : Int, b = -1 := ⟨_, rfl⟩
    have h50 : Ow Rp.u32 51 true w34 [] b51 (.slice none 0 0) [] := Ow.nil (by omega)
    have q52 := (.inl (by omega) : Zn w34 b51)
    have q53 := Nq.new hB3.fpb q52
    have q54 := Nq.madeO q52 hB3.bi
    have q55 := Nq.new h20.fpb q52
    have q56 := Nq.madeO q52 h20.blt
    have q57 := Nq.new h37.fpb q52
    have q58 := Nq.madeO q52 h37.blt
    have q59 := Zn.upD q52 hE44
    obtain ⟨x60, hc61, hF⟩ := cal_some hF
    refine o_call ha rfl rfl Try.call22 (W_impl_countPartitions hro47 (show InI 0 from by decide) h50 h20 (Nq.mono q57 hs48) (Nq.mono q43 hs48) q56 q55 hc61) ?_; clear ha a; rintro v62 w63 ⟨rfl, h65, h66, hx64⟩ a ha
    replace hB3 := hB3.off hx64 (Off.two (Off.flat q53) (Off.flat q27))
    replace h37 := h37.off hx64 (Off.two (Off.flat q57) (Off.flat q43))
    have hE67 := Chg.join hE44 hx64 (S2.app (S2.own (Zn.bl q59)) (S2.own (Zn.bl q29)))
    refine wpList_nil ?_
    replace ha := ha.sub (σ' := [(3, v18)]) ⟨rfl, trivial⟩
    refine e_then ?_
    refine wp_seq ?_
    refine wp_region_lit ?_
    refine op_g ha rfl (g_move rfl) ?_; clear ha a; intro a ha
    refine op_g ha rfl (g_assign rfl) ?_; clear ha a; intro a ha
    refine wpList_nil ?_
    replace ha := ha.sub (σ' := [(2, v18)]) ⟨rfl, trivial⟩
    refine e_then ?_
    refine wp_ret ?_
    obtain rfl := Option.some.inj hF
    exact f_ret1 ha rfl rfl ⟨_, h66, q29, hE67⟩
set_option maxHeartbeats 2000000 in
theorem W_laws_eqInt64S {W : World} {va0 : Value} {fa0 : List Nat} {a0 : (List Int)} (ha0 : Ro Rp.int W fa0 va0 a0) {va1 : Value} {fa1 : List Nat} {a1 : (List Int)} (ha1 : Ro Rp.int W fa1 va1 a1) {r : Bool} (hF : F_laws_eqInt64S a0 a1 = some r) :
    Calls Try.prog 9 [va0, va1].toArray W (Ret fun u w' => u = .bool r ∧ Ext W w') := by
  refine f_enter Try.func9 rfl Try.ntmps9 rfl ?_
  intro a ha
  replace ha : Fr 26 [(0, va0), (1, va1)] a := ha
  have hE : Chg [] W W := Chg.refl _ _
  unfold F_laws_eqInt64S at hF
  refine wp_seq ?_
  refine wp_region_lit ?_
  refine op_g ha rfl (g_assign rfl) ?_; clear ha a; intro a ha
  refine wpList_nil ?_
  replace ha := ha.sub (σ' := [(0, va0), (1, va1)]) ⟨rfl, rfl, trivial⟩
  refine e_then ?_
  refine wp_seq ?_
  refine wp_seq ?_
  refine wp_region_lit ?_
  refine op_g ha rfl (g_move rfl) ?_; clear ha a; intro a ha
  refine op_g ha rfl (g_lenR sl26.und ha0 rfl) ?_; clear ha a; intro a ha
  refine op_g ha rfl (g_move rfl) ?_; clear ha a; intro a ha
  refine op_g ha rfl (g_lenR sl26.und ha1 rfl) ?_; clear ha a; intro a ha
  refine op_g ha rfl (g_neq rfl rfl) ?_; clear ha a; intro a ha
  refine wpList_nil ?_
  replace ha := ha.sub (σ' := [(0, va0), (1, va1), (10, (.bool (decide ((a0.length : Int) ≠ (a1.length : Int)))))]) ⟨rfl, rfl, rfl, trivial⟩
  refine e_then ?_
  refine c_cond ((a0.length : Int) ≠ (a1.length : Int)) ha rfl (decide_eq_true_iff) (fun hp1 => ?_) (fun hp1 => ?_)
  · replace hF := if_t hp1 hF
    refine wp_seq ?_
    refine wp_region_lit ?_
    refine op_g ha rfl (g_assign rfl) ?_; clear ha a; intro a ha
    refine wpList_nil ?_
    replace ha := ha.sub (σ' := [(4, (.bool false))]) ⟨rfl, trivial⟩
    refine e_then ?_
    refine wp_ret ?_
    refine e_then_ret ?_
    obtain rfl := Option.some.inj hF
    exact f_ret1 ha rfl rfl ⟨rfl, hE⟩
  · replace hF := if_f hp1 hF
    refine wp_skip ?_
    refine e_then ?_
    refine wp_seq ?_
    refine wp_seq ?_
    refine wp_region_lit ?_
    refine op_g ha rfl (g_assign rfl) ?_; clear ha a; intro a ha
    refine wpList_nil ?_
    replace ha := ha.sub (σ' := [(0, va0), (1, va1), (5, (.int .i64 0))]) ⟨rfl, rfl, rfl, trivial⟩
    refine e_then ?_
    obtain ⟨o77, ho78, hK79⟩ := bnd_some hF
    obtain ⟨n80, hn81⟩ := lp_some ho78; clear ho78
    refine c_loop (fun a w => Fr 26 [] a ∧ Chg [] W w ∧ o77 = .inl ()) (fun n a w => ∃ (i39 : Int), Fr 26 [(0, va0), (1, va1), (5, (.int .i64 i39))] a ∧ Chg [] W w ∧ InI i39 ∧ lpN (fun s => F_laws_eqInt64S_l1 a0 a1 s) n i39 = some o77) n80 ⟨0, ha.sub ⟨rfl, rfl, rfl, trivial⟩, hE, (show InI 0 from by decide), hn81⟩ ?_ ?_
    · rintro m85 a w38 ⟨i39, ha, hE41, hI40, hF⟩
      cases m85 with
      | zero => exact (lpN_zero hF).elim
      | succ m85 =>
        obtain ⟨z84, hF, hN83⟩ := lpN_succ hF
        have hF : F_laws_eqInt64S_l1 a0 a1 i39 = some z84 := hF; unfold F_laws_eqInt64S_l1 at hF
        refine wp_seq ?_
        refine wp_seq ?_
        refine wp_region_lit ?_
        refine op_g ha rfl (g_move rfl) ?_; clear ha a; intro a ha
        refine op_g ha rfl (g_move rfl) ?_; clear ha a; intro a ha
        refine op_g ha rfl (g_lenR sl26.und ha0 rfl) ?_; clear ha a; intro a ha
        refine op_g ha rfl (g_lss rfl rfl) ?_; clear ha a; intro a ha
        refine wpList_nil ?_
        replace ha := ha.sub (σ' := [(0, va0), (1, va1), (5, (.int .i64 i39)), (14, (.bool (decide (i39 < (a0.length : Int)))))]) ⟨rfl, rfl, rfl, rfl, trivial⟩
        refine e_then ?_
        refine c_cond (i39 < (a0.length : Int)) ha rfl (decide_eq_true_iff) (fun hp86 => ?_) (fun hp86 => ?_)
        · replace hF := if_t hp86 hF
          refine wp_skip ?_
          refine e_then ?_
          refine wp_seq ?_
          refine wp_block ?_
          refine wp_seq ?_
          refine d_quiet hmix (by kernel_rfl) ?_
          refine q_g ha rfl (g_move rfl) ?_; clear ha a; intro a ha
          refine q_g ha rfl (g_move rfl) ?_; clear ha a; intro a ha
          obtain ⟨x87, g88, gx89, hF⟩ := idx_some hF
          obtain ⟨p90, cs91, f92, hf93, hpb94, hat95, hr96, hi97⟩ := ha0.at g88 gx89
          obtain ⟨rfl, hI98, rfl⟩ := hr96
          refine q_g ha rfl (hi97.gives sl26 rfl rfl) ?_; clear ha a; intro a ha
          refine q_g ha rfl (g_load0 hE41 Try.isAgg2 rfl hat95.one) ?_; clear ha a; intro a ha
          refine q_g ha rfl (g_move rfl) ?_; clear ha a; intro a ha
          refine q_g ha rfl (g_move rfl) ?_; clear ha a; intro a ha
          obtain ⟨x99, g100, gx101, hF⟩ := idx_some hF
          obtain ⟨p102, cs103, f104, hf105, hpb106, hat107, hr108, hi109⟩ := ha1.at g100 gx101
          obtain ⟨rfl, hI110, rfl⟩ := hr108
          refine q_g ha rfl (hi109.gives sl26 rfl rfl) ?_; clear ha a; intro a ha
          refine q_g ha rfl (g_load0 hE41 Try.isAgg2 rfl hat107.one) ?_; clear ha a; intro a ha
          refine q_g ha rfl (g_neq rfl rfl) ?_; clear ha a; intro a ha
          refine q_nil ?_; intro w111 hx112
          have hE113 := Ext.trans hE41 hx112
          replace ha := ha.sub (σ' := [(0, va0), (1, va1), (5, (.int .i64 i39)), (25, (.bool (decide (x87 ≠ x99))))]) ⟨rfl, rfl, rfl, rfl, trivial⟩
          refine e_then ?_
          refine c_cond (x87 ≠ x99) ha rfl (decide_eq_true_iff) (fun hp114 => ?_) (fun hp114 => ?_)
          · replace hF := if_t hp114 hF
            refine wp_seq ?_
            refine wp_region_lit ?_
            refine op_g ha rfl (g_assign rfl) ?_; clear ha a; intro a ha
            refine wpList_nil ?_
            replace ha := ha.sub (σ' := [(4, (.bool false))]) ⟨rfl, trivial⟩
            refine e_then ?_
            refine wp_ret ?_
            refine e_blk_ret ?_
            refine e_then_ret ?_
            refine e_lq_ret ?_
            refine e_then_ret ?_
            obtain rfl := Option.some.inj hF
            have e115 := LK_inr hN83; subst e115
            have e116 := BK_inr hK79; subst e116
            exact f_ret1 ha rfl rfl ⟨rfl, hE113⟩
          · replace hF := if_f hp114 hF
            refine wp_skip ?_
            refine e_blk ?_
            refine e_then ?_
            refine wp_region_lit ?_
            refine op_g ha rfl (g_move rfl) ?_; clear ha a; intro a ha
            obtain ⟨hI117, hF⟩ := ck_some hF
            refine op_g ha rfl (g_add rfl rfl hI117) ?_; clear ha a; intro a ha
            refine op_g ha rfl (g_assign rfl) ?_; clear ha a; intro a ha
            refine wpList_nil ?_
            replace ha := ha.sub (σ' := [(0, va0), (1, va1), (5, (.int .i64 (i39 + 1)))]) ⟨rfl, rfl, rfl, trivial⟩
            refine e_lq ?_
            obtain rfl := Option.some.inj hF
            exact ⟨_, Nat.lt_succ_self _, i39 + 1, ha.sub ⟨rfl, rfl, rfl, trivial⟩, hE113, hI117, hN83⟩
        · replace hF := if_f hp86 hF
          refine wp_exit ?_
          refine e_then_exit ?_
          refine e_lq_eq ?_
          obtain rfl := Option.some.inj hF
          exact ⟨ha.sub trivial, hE41, (LK_inr hN83).symm⟩
    · rintro a w76 ⟨ha, hE82, rfl⟩
      have hF : F_laws_eqInt64S_k2 = some _ := hK79; clear hK79; unfold F_laws_eqInt64S_k2 at hF
      refine e_then ?_
      refine wp_seq ?_
      refine wp_region_lit ?_
      refine op_g ha rfl (g_assign rfl) ?_; clear ha a; intro a ha
      refine wpList_nil ?_
      refine e_then ?_
      refine wp_ret ?_
      obtain rfl := Option.some.inj hF
      exact f_ret1 ha rfl rfl ⟨rfl, hE82⟩
set_option maxHeartbeats 2000000 in
theorem W_laws_eqInt64SS {W : World} {va0 : Value} {fa0 : List Nat} {a0 : (List (List Int))} (ha0 : Ro (Rp.sl 2 Rp.int) W fa0 va0 a0) {va1 : Value} {fa1 : List Nat} {a1 : (List (List Int))} (ha1 : Ro (Rp.sl 2 Rp.int) W fa1 va1 a1) {r : Bool} (hF : F_laws_eqInt64SS a0 a1 = some r) :
    Calls Try.prog 24 [va0, va1].toArray W (Ret fun u w' => u = .bool r ∧ Ext W w') := by
  refine f_enter Try.func24 rfl Try.ntmps24 rfl ?_
  intro a ha
  replace ha : Fr 27 [(0, va0), (1, va1)] a := ha
  have hE : Chg [] W W := Chg.refl _ _
  unfold F_laws_eqInt64SS at hF
  refine wp_seq ?_
  refine wp_region_lit ?_
  refine op_g ha rfl (g_assign rfl) ?_; clear ha a; intro a ha
  refine wpList_nil ?_
  replace ha := ha.sub (σ' := [(0, va0), (1, va1)]) ⟨rfl, rfl, trivial⟩
  refine e_then ?_
  refine wp_seq ?_
  refine wp_seq ?_
  refine wp_region_lit ?_
  refine op_g ha rfl (g_move rfl) ?_; clear ha a; intro a ha
  refine op_g ha rfl (g_lenR sl22.und ha0 rfl) ?_; clear ha a; intro a ha
  refine op_g ha rfl (g_move rfl) ?_; clear ha a; intro a ha
  refine op_g ha rfl (g_lenR sl22.und ha1 rfl) ?_; clear ha a; intro a ha
  refine op_g ha rfl (g_neq rfl rfl) ?_; clear ha a; intro a ha
  refine wpList_nil ?_
  replace ha := ha.sub (σ' := [(0, va0), (1, va1), (10, (.bool (decide ((a0.length : Int) ≠ (a1.length : Int)))))]) ⟨rfl, rfl, rfl, trivial⟩
  refine e_then ?_
  refine c_cond ((a0.length : Int) ≠ (a1.length : Int)) ha rfl (decide_eq_true_iff) (fun hp1 => ?_) (fun hp1 => ?_)
  · replace hF := if_t hp1 hF
    refine wp_seq ?_
    refine wp_region_lit ?_
    refine op_g ha rfl (g_assign rfl) ?_; clear ha a; intro a ha
    refine wpList_nil ?_
    replace ha := ha.sub (σ' := [(4, (.bool false))]) ⟨rfl, trivial⟩
    refine e_then ?_
    refine wp_ret ?_
    refine e_then_ret ?_
    obtain rfl := Option.some.inj hF
    exact f_ret1 ha rfl rfl ⟨rfl, hE⟩
  · replace hF := if_f hp1 hF
    refine wp_skip ?_
    refine e_then ?_
    refine wp_seq ?_
    refine wp_seq ?_
    refine wp_region_lit ?_
    refine op_g ha rfl (g_assign rfl) ?_; clear ha a; intro a ha
    refine wpList_nil ?_
    replace ha := ha.sub (σ' := [(0, va0), (1, va1), (5, (.int .i64 0))]) ⟨rfl, rfl, rfl, trivial⟩
    refine e_then ?_
    obtain ⟨o93, ho94, hK95⟩ := bnd_some hF
    obtain ⟨n96, hn97⟩ := lp_some ho94; clear ho94
    refine c_loop (fun a w => Fr 27 [] a ∧ Chg [] W w ∧ o93 = .inl ()) (fun n a w => ∃ (i47 : Int), Fr 27 [(0, va0), (1, va1), (5, (.int .i64 i47))] a ∧ Chg [] W w ∧ InI i47 ∧ lpN (fun s => F_laws_eqInt64SS_l1 a0 a1 s) n i47 = some o93) n96 ⟨0, ha.sub ⟨rfl, rfl, rfl, trivial⟩, hE, (show InI 0 from by decide), hn97⟩ ?_ ?_
    · rintro m101 a w46 ⟨i47, ha, hE49, hI48, hF⟩
      cases m101 with
      | zero => exact (lpN_zero hF).elim
      | succ m101 =>
        obtain ⟨z100, hF, hN99⟩ := lpN_succ hF
        have hF : F_laws_eqInt64SS_l1 a0 a1 i47 = some z100 := hF; unfold F_laws_eqInt64SS_l1 at hF
        refine wp_seq ?_
        refine wp_seq ?_
        refine wp_region_lit ?_
        refine op_g ha rfl (g_move rfl) ?_; clear ha a; intro a ha
        refine op_g ha rfl (g_move rfl) ?_; clear ha a; intro a ha
        refine op_g ha rfl (g_lenR sl22.und ha0 rfl) ?_; clear ha a; intro a ha
        refine op_g ha rfl (g_lss rfl rfl) ?_; clear ha a; intro a ha
        refine wpList_nil ?_
        replace ha := ha.sub (σ' := [(0, va0), (1, va1), (5, (.int .i64 i47)), (14, (.bool (decide (i47 < (a0.length : Int)))))]) ⟨rfl, rfl, rfl, rfl, trivial⟩
        refine e_then ?_
        refine c_cond (i47 < (a0.length : Int)) ha rfl (decide_eq_true_iff) (fun hp102 => ?_) (fun hp102 => ?_)
        · replace hF := if_t hp102 hF
          refine wp_skip ?_
          refine e_then ?_
          refine wp_seq ?_
          refine wp_block ?_
          refine wp_seq ?_
          refine d_quiet hmix (by kernel_rfl) ?_
          refine q_g ha rfl (g_move rfl) ?_; clear ha a; intro a ha
          refine q_g ha rfl (g_move rfl) ?_; clear ha a; intro a ha
          obtain ⟨x103, g104, gx105, hF⟩ := idx_some hF
          obtain ⟨p106, cs107, f108, hf109, hpb110, hat111, hr112, hi113⟩ := ha0.at g104 gx105
          obtain ⟨v114, rfl, h115⟩ := hr112
          have h115 : Ro Rp.int W f108 v114 x103 := h115
          refine q_g ha rfl (hi113.gives sl22 rfl rfl) ?_; clear ha a; intro a ha
          refine q_g ha rfl (g_load0 hE49 Try.isAgg26 rfl hat111.one) ?_; clear ha a; intro a ha
          refine q_g ha rfl (g_move rfl) ?_; clear ha a; intro a ha
          refine q_g ha rfl (g_move rfl) ?_; clear ha a; intro a ha
          obtain ⟨x117, g118, gx119, hF⟩ := idx_some hF
          obtain ⟨p120, cs121, f122, hf123, hpb124, hat125, hr126, hi127⟩ := ha1.at g118 gx119
          obtain ⟨v128, rfl, h129⟩ := hr126
          have h129 : Ro Rp.int W f122 v128 x117 := h129
          refine q_g ha rfl (hi127.gives sl22 rfl rfl) ?_; clear ha a; intro a ha
          refine q_g ha rfl (g_load0 hE49 Try.isAgg26 rfl hat125.one) ?_; clear ha a; intro a ha
          obtain ⟨x133, hc134, hF⟩ := cal_some hF
          refine q_call (.bool x133) ha rfl rfl Try.call9 (fun w132 hx131 => W_laws_eqInt64S (h115.ext (Ext.trans hE49 hx131)) (h129.ext (Ext.trans hE49 hx131)) hc134) (fun _ _ _ h => ⟨h.1, h.2⟩) ?_; clear ha a; intro a ha
          refine q_g ha rfl (g_not rfl) ?_; clear ha a; intro a ha
          refine q_nil ?_; intro w135 hx136
          have hE137 := Ext.trans hE49 hx136
          replace ha := ha.sub (σ' := [(0, va0), (1, va1), (5, (.int .i64 i47)), (26, (.bool (!x133)))]) ⟨rfl, rfl, rfl, rfl, trivial⟩
          refine e_then ?_
          refine c_cond (¬ (x133 = true)) ha rfl (n_iff (Iff.rfl)) (fun hp138 => ?_) (fun hp138 => ?_)
          · replace hF := if_t hp138 hF
            refine wp_seq ?_
            refine wp_region_lit ?_
            refine op_g ha rfl (g_assign rfl) ?_; clear ha a; intro a ha
            refine wpList_nil ?_
            replace ha := ha.sub (σ' := [(4, (.bool false))]) ⟨rfl, trivial⟩
            refine e_then ?_
            refine wp_ret ?_
            refine e_blk_ret ?_
            refine e_then_ret ?_
            refine e_lq_ret ?_
            refine e_then_ret ?_
            obtain rfl := Option.some.inj hF
            have e139 := LK_inr hN99; subst e139
            have e140 := BK_inr hK95; subst e140
            exact f_ret1 ha rfl rfl ⟨rfl, hE137⟩
          · replace hF := if_f hp138 hF
            refine wp_skip ?_
            refine e_blk ?_
            refine e_then ?_
            refine wp_region_lit ?_
            refine op_g ha rfl (g_move rfl) ?_; clear ha a; intro a ha
            obtain ⟨hI141, hF⟩ := ck_some hF
            refine op_g ha rfl (g_add rfl rfl hI141) ?_; clear ha a; intro a ha
            refine op_g ha rfl (g_assign rfl) ?_; clear ha a; intro a ha
            refine wpList_nil ?_
            replace ha := ha.sub (σ' := [(0, va0), (1, va1), (5, (.int .i64 (i47 + 1)))]) ⟨rfl, rfl, rfl, trivial⟩
            refine e_lq ?_
            obtain rfl := Option.some.inj hF
            exact ⟨_, Nat.lt_succ_self _, i47 + 1, ha.sub ⟨rfl, rfl, rfl, trivial⟩, hE137, hI141, hN99⟩
        · replace hF := if_f hp102 hF
          refine wp_exit ?_
          refine e_then_exit ?_
          refine e_lq_eq ?_
          obtain rfl := Option.some.inj hF
          exact ⟨ha.sub trivial, hE49, (LK_inr hN99).symm⟩
    · rintro a w92 ⟨ha, hE98, rfl⟩
      have hF : F_laws_eqInt64SS_k2 = some _ := hK95; clear hK95; unfold F_laws_eqInt64SS_k2 at hF
      refine e_then ?_
      refine wp_seq ?_
      refine wp_region_lit ?_
      refine op_g ha rfl (g_assign rfl) ?_; clear ha a; intro a ha
      refine wpList_nil ?_
      refine e_then ?_
      refine wp_ret ?_
      obtain rfl := Option.some.inj hF
      exact f_ret1 ha rfl rfl ⟨rfl, hE98⟩
set_option maxHeartbeats 2000000 in
theorem W_laws_eqGraph {W : World} {va0_0 : Value} {fa0_0 : List Nat} {a0_0 : (List (List Int))} (ha0_0 : Ro (Rp.sl 2 Rp.int) W fa0_0 va0_0 a0_0) {va1_0 : Value} {fa1_0 : List Nat} {a1_0 : (List (List Int))} (ha1_0 : Ro (Rp.sl 2 Rp.int) W fa1_0 va1_0 a1_0) {r : Bool} (hF : F_laws_eqGraph a0_0 a1_0 = some r) :
    Calls Try.prog 10 [.agg #[va0_0], .agg #[va1_0]].toArray W (Ret fun u w' => u = .bool r ∧ Ext W w') := by
  refine f_enter Try.func10 rfl Try.ntmps10 rfl ?_
  intro a ha
  replace ha : Fr 11 [(0, (.agg #[va0_0])), (1, (.agg #[va1_0]))] a := ha
  have hE : Chg [] W W := Chg.refl _ _
  unfold F_laws_eqGraph at hF
  refine wp_seq ?_
  refine wp_region_lit ?_
  refine o_box ha rfl rfl rfl ?_; clear ha a; intro b1 w2 hB3 hx4 hlo5 a ha
  have q6 := Zn.one hlo5
  have q7 := Zn.upD q6 hE
  have hE8 := Ext.trans hE hx4
  refine o_box ha rfl rfl rfl ?_; clear ha a; intro b9 w10 hB11 hx12 hlo13 a ha
  have q14 := Zn.one hlo13
  have q15 := Nq.new hB3.fpb q14
  have q16 := Nq.made1 hlo13 hB3.bi
  have q17 := Zn.upD q14 hE8
  replace hB3 := hB3.ext hx12
  have hE18 := Ext.trans hE8 hx12
  refine op_g ha rfl (g_assign rfl) ?_; clear ha a; intro a ha
  refine wpList_nil ?_
  replace ha := ha.sub (σ' := [(2, (.pointer (some ⟨b1, 0, none⟩))), (3, (.pointer (some ⟨b9, 0, none⟩)))]) ⟨rfl, rfl, trivial⟩
  refine e_then ?_
  refine wp_seq ?_
  refine wp_seq ?_
  refine wp_region_lit ?_
  refine op_g ha rfl (g_field0 st28_0 rfl) ?_; clear ha a; intro a ha
  refine op_g ha rfl (g_load Try.isAgg22 rfl (hB3.cell rfl)) ?_; clear ha a; intro a ha
  refine op_g ha rfl (g_field0 st28_0 rfl) ?_; clear ha a; intro a ha
  refine op_g ha rfl (g_load Try.isAgg22 rfl (hB11.cell rfl)) ?_; clear ha a; intro a ha
  obtain ⟨x19, hc20, hF⟩ := cal_some hF
  refine o_call ha rfl rfl Try.call24 (W_laws_eqInt64SS (ha0_0.ext hE18) (ha1_0.ext hE18) hc20) ?_; clear ha a; rintro v21 w22 ⟨rfl, hx23⟩ a ha
  replace hB3 := hB3.ext hx23
  replace hB11 := hB11.ext hx23
  have hE24 := Ext.trans hE18 hx23
  refine op_g ha rfl (g_not rfl) ?_; clear ha a; intro a ha
  refine wpList_nil ?_
  replace ha := ha.sub (σ' := [(10, (.bool (!x19)))]) ⟨rfl, trivial⟩
  refine e_then ?_
  refine c_cond (¬ (x19 = true)) ha rfl (n_iff (Iff.rfl)) (fun hp25 => ?_) (fun hp25 => ?_)
  · replace hF := if_t hp25 hF
    refine wp_seq ?_
    refine wp_region_lit ?_
    refine op_g ha rfl (g_assign rfl) ?_; clear ha a; intro a ha
    refine wpList_nil ?_
    replace ha := ha.sub (σ' := [(4, (.bool false))]) ⟨rfl, trivial⟩
    refine e_then ?_
    refine wp_ret ?_
    refine e_then_ret ?_
    obtain rfl := Option.some.inj hF
    exact f_ret1 ha rfl rfl ⟨rfl, hE24⟩
  · replace hF := if_f hp25 hF
    refine wp_skip ?_
    refine e_then ?_
    refine wp_seq ?_
    refine wp_region_lit ?_
    refine op_g ha rfl (g_assign rfl) ?_; clear ha a; intro a ha
    refine wpList_nil ?_
    replace ha := ha.sub (σ' := [(4, (.bool true))]) ⟨rfl, trivial⟩
    refine e_then ?_
    refine wp_ret ?_
    obtain rfl := Option.some.inj hF
    exact f_ret1 ha rfl rfl ⟨rfl, hE24⟩
set_option maxHeartbeats 2000000 in
theorem W_laws_markInt64S {W : World} {va0 : Value} {ba0 : Int} {a0 : (List Int)} (ha0 : Ow Rp.int 2 true W [] ba0 va0 a0) {a1 : Int} (ha1 : InI a1) {r : (Int × (List Int))} (hF : F_laws_markInt64S a0 a1 = some r) :
    Calls Try.prog 12 [va0, .int .i64 a1].toArray W (Ret fun u w' => (u = .int .i64 r.1 ∧ InI r.1) ∧ Ow Rp.int 2 true w' [] ba0 va0 r.2 ∧ Chg (bl ba0) W w') := by
  refine f_enter Try.func12 rfl Try.ntmps12 rfl ?_
  intro a ha
  replace ha : Fr 19 [(0, va0), (1, (.int .i64 a1))] a := ha
  have hE : Chg (bl ba0) W W := Chg.refl _ _
  unfold F_laws_markInt64S at hF
  refine wp_seq ?_
  refine wp_region_lit ?_
  refine op_g ha rfl (g_assign rfl) ?_; clear ha a; intro a ha
  refine wpList_nil ?_
  replace ha := ha.sub (σ' := [(0, va0), (1, (.int .i64 a1))]) ⟨rfl, rfl, trivial⟩
  refine e_then ?_
  refine wp_seq ?_
  refine wp_seq ?_
  refine wp_region_lit ?_
  refine op_g ha rfl (g_assign rfl) ?_; clear ha a; intro a ha
  refine wpList_nil ?_
  refine e_then ?_
  obtain ⟨o85, ho86, hK87⟩ := bnd_some hF
  obtain ⟨n88, hn89⟩ := lp_some ho86; clear ho86
  refine c_loop (fun a w => ∃ (i79 : Int) (l82 : (List Int)), Fr 19 [(1, (.int .i64 i79))] a ∧ Chg (bl ba0) W w ∧ InI i79 ∧ Ow Rp.int 2 true w [] ba0 va0 l82 ∧ o85 = .inl (i79, l82)) (fun n a w => ∃ (l38 : (List Int)) (i41 : Int) (i43 : Int), Fr 19 [(0, va0), (1, (.int .i64 i41)), (5, (.int .i64 i43))] a ∧ Chg (bl ba0) W w ∧ InI i41 ∧ InI i43 ∧ Ow Rp.int 2 true w [] ba0 va0 l38 ∧ lpN (fun s => F_laws_markInt64S_l1 s.1 s.2.1 s.2.2) n (l38, i41, i43) = some o85) n88 ⟨a0, a1, 0, ha.sub ⟨rfl, rfl, rfl, trivial⟩, hE, ha1, (show InI 0 from by decide), ha0, hn89⟩ ?_ ?_
  · rintro m93 a w36 ⟨l38, i41, i43, ha, hE45, hI42, hI44, h37, hF⟩
    cases m93 with
    | zero => exact (lpN_zero hF).elim
    | succ m93 =>
      obtain ⟨z92, hF, hN91⟩ := lpN_succ hF
      have hF : F_laws_markInt64S_l1 l38 i41 i43 = some z92 := hF; unfold F_laws_markInt64S_l1 at hF
      refine wp_seq ?_
      refine wp_seq ?_
      refine wp_region_lit ?_
      refine op_g ha rfl (g_move rfl) ?_; clear ha a; intro a ha
      refine op_g ha rfl (g_move rfl) ?_; clear ha a; intro a ha
      refine op_g ha rfl (g_lenO sl26.und h37 rfl) ?_; clear ha a; intro a ha
      refine op_g ha rfl (g_lss rfl rfl) ?_; clear ha a; intro a ha
      refine wpList_nil ?_
      replace ha := ha.sub (σ' := [(0, va0), (1, (.int .i64 i41)), (5, (.int .i64 i43)), (9, (.bool (decide (i43 < (l38.length : Int)))))]) ⟨rfl, rfl, rfl, rfl, trivial⟩
      refine e_then ?_
      refine c_cond (i43 < (l38.length : Int)) ha rfl (decide_eq_true_iff) (fun hp94 => ?_) (fun hp94 => ?_)
      · replace hF := if_t hp94 hF
        refine wp_skip ?_
        refine e_then ?_
        refine wp_seq ?_
        refine wp_block ?_
        refine wp_seq ?_
        refine wp_region_lit ?_
        refine op_g ha rfl (g_move rfl) ?_; clear ha a; intro a ha
        refine op_g ha rfl (g_move rfl) ?_; clear ha a; intro a ha
        refine op_g ha rfl (g_move rfl) ?_; clear ha a; intro a ha
        obtain ⟨x95, g96, gx97, hF⟩ := idx_some hF
        obtain ⟨p98, cs99, f100, hf101, hpb102, hat103, hr104, hi105⟩ := h37.at g96 gx97
        obtain ⟨rfl, hI106, rfl⟩ := hr104
        refine op_g ha rfl (hi105.gives sl26 rfl rfl) ?_; clear ha a; intro a ha
        refine o_storeE (f := []) (q := i41) ha Try.sizeOf2 rfl rfl rfl h37 hi105 ⟨rfl, hI42, rfl⟩ (Nq.nil _) ?_; intro w107 fs108 h109 hc110 hs111
        obtain rfl := Subst.nil hs111
        have hE112 := Chg.same hE45 hc110
        refine wpList_nil ?_
        replace ha := ha.sub (σ' := [(0, va0), (1, (.int .i64 i41)), (5, (.int .i64 i43))]) ⟨rfl, rfl, rfl, trivial⟩
        refine e_then ?_
        refine wp_region_lit ?_
        refine op_g ha rfl (g_move rfl) ?_; clear ha a; intro a ha
        obtain ⟨hI113, hF⟩ := ck_some hF
        refine op_g ha rfl (g_add rfl rfl hI113) ?_; clear ha a; intro a ha
        refine op_g ha rfl (g_assign rfl) ?_; clear ha a; intro a ha
        refine wpList_nil ?_
        replace ha := ha.sub (σ' := [(0, va0), (1, (.int .i64 (i41 + 1))), (5, (.int .i64 i43))]) ⟨rfl, rfl, rfl, trivial⟩
        refine e_blk ?_
        refine e_then ?_
        refine wp_region_lit ?_
        refine op_g ha rfl (g_move rfl) ?_; clear ha a; intro a ha
        obtain ⟨hI115, hF⟩ := ck_some hF
        refine op_g ha rfl (g_add rfl rfl hI115) ?_; clear ha a; intro a ha
        refine op_g ha rfl (g_assign rfl) ?_; clear ha a; intro a ha
        refine wpList_nil ?_
        replace ha := ha.sub (σ' := [(0, va0), (1, (.int .i64 (i41 + 1))), (5, (.int .i64 (i43 + 1)))]) ⟨rfl, rfl, rfl, trivial⟩
        refine e_lq ?_
        obtain rfl := Option.some.inj hF
        exact ⟨_, Nat.lt_succ_self _, (l38.set ((i43 : Int).toNat) i41), i41 + 1, i43 + 1, ha.sub ⟨rfl, rfl, rfl, trivial⟩, hE112, hI113, hI115, h109, hN91⟩
      · replace hF := if_f hp94 hF
        refine wp_exit ?_
        refine e_then_exit ?_
        refine e_lq_eq ?_
        obtain rfl := Option.some.inj hF
        exact ⟨i41, l38, ha.sub ⟨rfl, trivial⟩, hE45, hI42, h37, (LK_inr hN91).symm⟩
  · rintro a w78 ⟨i79, l82, ha, hE90, hI80, h81, rfl⟩
    have hF : F_laws_markInt64S_k2 i79 l82 = some _ := hK87; clear hK87; unfold F_laws_markInt64S_k2 at hF
    refine e_then ?_
    refine wp_seq ?_
    refine wp_region_lit ?_
    refine op_g ha rfl (g_move rfl) ?_; clear ha a; intro a ha
    refine op_g ha rfl (g_assign rfl) ?_; clear ha a; intro a ha
    refine wpList_nil ?_
    replace ha := ha.sub (σ' := [(4, (.int .i64 i79))]) ⟨rfl, trivial⟩
    refine e_then ?_
    refine wp_ret ?_
    obtain rfl := Option.some.inj hF
    exact f_ret1 ha rfl rfl ⟨⟨rfl, hI80⟩, h81, hE90⟩
set_option maxHeartbeats 2000000 in
theorem W_laws_markInt64SS {W : World} {va0 : Value} {ba0 : Int} {fa0 : List Nat} {a0 : (List (List Int))} (ha0 : Ow (Rp.sl 2 Rp.int) 26 true W fa0 ba0 va0 a0) (nda0 : (bl ba0 ++ fa0).Nodup) {a1 : Int} (ha1 : InI a1) {r : (Int × (List (List Int)))} (hF : F_laws_markInt64SS a0 a1 = some r) :
    Calls Try.prog 25 [va0, .int .i64 a1].toArray W (Ret fun u w' => (u = .int .i64 r.1 ∧ InI r.1) ∧ Ow (Rp.sl 2 Rp.int) 26 true w' fa0 ba0 va0 r.2 ∧ Chg ((bl ba0 ++ fa0)) W w') := by
  refine f_enter Try.func25 rfl Try.ntmps25 rfl ?_
  intro a ha
  replace ha : Fr 19 [(0, va0), (1, (.int .i64 a1))] a := ha
  have hE : Chg ((bl ba0 ++ fa0)) W W := Chg.refl _ _
  unfold F_laws_markInt64SS at hF
  refine wp_seq ?_
  refine wp_region_lit ?_
  refine op_g ha rfl (g_assign rfl) ?_; clear ha a; intro a ha
  refine wpList_nil ?_
  replace ha := ha.sub (σ' := [(0, va0), (1, (.int .i64 a1))]) ⟨rfl, rfl, trivial⟩
  refine e_then ?_
  refine wp_seq ?_
  refine wp_seq ?_
  refine wp_region_lit ?_
  refine op_g ha rfl (g_assign rfl) ?_; clear ha a; intro a ha
  refine wpList_nil ?_
  refine e_then ?_
  obtain ⟨o101, ho102, hK103⟩ := bnd_some hF
  obtain ⟨n104, hn105⟩ := lp_some ho102; clear ho102
  refine c_loop (fun a w => ∃ (i95 : Int) (l98 : (List (List Int))), Fr 19 [(1, (.int .i64 i95))] a ∧ Chg ((bl ba0 ++ fa0)) W w ∧ InI i95 ∧ Ow (Rp.sl 2 Rp.int) 26 true w fa0 ba0 va0 l98 ∧ o101 = .inl (i95, l98)) (fun n a w => ∃ (l46 : (List (List Int))) (i49 : Int) (i51 : Int), Fr 19 [(0, va0), (1, (.int .i64 i49)), (5, (.int .i64 i51))] a ∧ Chg ((bl ba0 ++ fa0)) W w ∧ InI i49 ∧ InI i51 ∧ Ow (Rp.sl 2 Rp.int) 26 true w fa0 ba0 va0 l46 ∧ lpN (fun s => F_laws_markInt64SS_l1 s.1 s.2.1 s.2.2) n (l46, i49, i51) = some o101) n104 ⟨a0, a1, 0, ha.sub ⟨rfl, rfl, rfl, trivial⟩, hE, ha1, (show InI 0 from by decide), ha0, hn105⟩ ?_ ?_
  · rintro m109 a w44 ⟨l46, i49, i51, ha, hE53, hI50, hI52, h45, hF⟩
    cases m109 with
    | zero => exact (lpN_zero hF).elim
    | succ m109 =>
      obtain ⟨z108, hF, hN107⟩ := lpN_succ hF
      have hF : F_laws_markInt64SS_l1 l46 i49 i51 = some z108 := hF; unfold F_laws_markInt64SS_l1 at hF
      refine wp_seq ?_
      refine wp_seq ?_
      refine wp_region_lit ?_
      refine op_g ha rfl (g_move rfl) ?_; clear ha a; intro a ha
      refine op_g ha rfl (g_move rfl) ?_; clear ha a; intro a ha
      refine op_g ha rfl (g_lenO sl22.und h45 rfl) ?_; clear ha a; intro a ha
      refine op_g ha rfl (g_lss rfl rfl) ?_; clear ha a; intro a ha
      refine wpList_nil ?_
      replace ha := ha.sub (σ' := [(0, va0), (1, (.int .i64 i49)), (5, (.int .i64 i51)), (9, (.bool (decide (i51 < (l46.length : Int)))))]) ⟨rfl, rfl, rfl, rfl, trivial⟩
      refine e_then ?_
      refine c_cond (i51 < (l46.length : Int)) ha rfl (decide_eq_true_iff) (fun hp110 => ?_) (fun hp110 => ?_)
      · replace hF := if_t hp110 hF
        refine wp_skip ?_
        refine e_then ?_
        refine wp_seq ?_
        refine wp_block ?_
        refine wp_region_lit ?_
        refine op_g ha rfl (g_move rfl) ?_; clear ha a; intro a ha
        refine op_g ha rfl (g_move rfl) ?_; clear ha a; intro a ha
        obtain ⟨x111, g112, gx113, hF⟩ := idx_some hF
        obtain ⟨p114, cs115, f116, hf117, hpb118, hat119, hr120, hi121⟩ := h45.at g112 gx113
        replace hr120 := (Rp.sl 2 Rp.int).weak hr120
        obtain ⟨v122, rfl, h123⟩ := hr120
        have h123 : Ro Rp.int w44 f116 v122 x111 := h123
        have q125 := Nq.mono (Ow.ne h45) hf117
        refine op_g ha rfl (hi121.gives sl22 rfl rfl) ?_; clear ha a; intro a ha
        refine op_g ha rfl (g_load Try.isAgg26 rfl hat119.one) ?_; clear ha a; intro a ha
        refine op_g ha rfl (g_move rfl) ?_; clear ha a; intro a ha
        obtain ⟨b126, h127, hm128, hb129⟩ := Ow.row (k := 0) (lens_sl 2 Rp.int) scal_int h45 nda0 gx113 hi121 hat119 rfl rfl
        obtain ⟨x130, hc131, hF⟩ := cal_some hF
        refine o_call ha rfl rfl Try.call12 (W_laws_markInt64S h127 hI50 hc131) ?_; clear ha a; rintro v132 w133 ⟨⟨rfl, hI135⟩, h136, hx134⟩ a ha
        have h137 := hb129 w133 _ hx134 h136
        have hE138 := Chg.join hE53 hx134 (S2.par hm128)
        refine op_g ha rfl (g_assign rfl) ?_; clear ha a; intro a ha
        refine wpList_nil ?_
        replace ha := ha.sub (σ' := [(0, va0), (1, (.int .i64 x130.1)), (5, (.int .i64 i51))]) ⟨rfl, rfl, rfl, trivial⟩
        refine e_blk ?_
        refine e_then ?_
        refine wp_region_lit ?_
        refine op_g ha rfl (g_move rfl) ?_; clear ha a; intro a ha
        obtain ⟨hI139, hF⟩ := ck_some hF
        refine op_g ha rfl (g_add rfl rfl hI139) ?_; clear ha a; intro a ha
        refine op_g ha rfl (g_assign rfl) ?_; clear ha a; intro a ha
        refine wpList_nil ?_
        replace ha := ha.sub (σ' := [(0, va0), (1, (.int .i64 x130.1)), (5, (.int .i64 (i51 + 1)))]) ⟨rfl, rfl, rfl, trivial⟩
        refine e_lq ?_
        obtain rfl := Option.some.inj hF
        exact ⟨_, Nat.lt_succ_self _, (l46.set ((i51 : Int).toNat) x130.2), x130.1, i51 + 1, ha.sub ⟨rfl, rfl, rfl, trivial⟩, hE138, hI135, hI139, h137, hN107⟩
      · replace hF := if_f hp110 hF
        refine wp_exit ?_
        refine e_then_exit ?_
        refine e_lq_eq ?_
        obtain rfl := Option.some.inj hF
        exact ⟨i49, l46, ha.sub ⟨rfl, trivial⟩, hE53, hI50, h45, (LK_inr hN107).symm⟩
  · rintro a w94 ⟨i95, l98, ha, hE106, hI96, h97, rfl⟩
    have hF : F_laws_markInt64SS_k2 i95 l98 = some _ := hK103; clear hK103; unfold F_laws_markInt64SS_k2 at hF
    refine e_then ?_
    refine wp_seq ?_
    refine wp_region_lit ?_
    refine op_g ha rfl (g_move rfl) ?_; clear ha a; intro a ha
    refine op_g ha rfl (g_assign rfl) ?_; clear ha a; intro a ha
    refine wpList_nil ?_
    replace ha := ha.sub (σ' := [(4, (.int .i64 i95))]) ⟨rfl, trivial⟩
    refine e_then ?_
    refine wp_ret ?_
    obtain rfl := Option.some.inj hF
    exact f_ret1 ha rfl rfl ⟨⟨rfl, hI96⟩, h97, hE106⟩
set_option maxHeartbeats 2000000 in
theorem W_laws_markGraph {W : World} {va0_0 : Value} {ba0_0 : Int} {fa0_0 : List Nat} {a0_0 : (List (List Int))} (ha0_0 : Ow (Rp.sl 2 Rp.int) 26 true W fa0_0 ba0_0 va0_0 a0_0) (nda0_0 : (bl ba0_0 ++ fa0_0).Nodup) {a1 : Int} (ha1 : InI a1) {r : (Int × (List (List Int)))} (hF : F_laws_markGraph a0_0 a1 = some r) :
    Calls Try.prog 11 [.agg #[va0_0], .int .i64 a1].toArray W (Ret fun u w' => (u = .int .i64 r.1 ∧ InI r.1) ∧ Ow (Rp.sl 2 Rp.int) 26 true w' fa0_0 ba0_0 va0_0 r.2 ∧ Chg ((bl ba0_0 ++ fa0_0)) W w') := by
  refine f_enter Try.func11 rfl Try.ntmps11 rfl ?_
  intro a ha
  replace ha : Fr 10 [(0, (.agg #[va0_0])), (1, (.int .i64 a1))] a := ha
  have hE : Chg ((bl ba0_0 ++ fa0_0)) W W := Chg.refl _ _
  unfold F_laws_markGraph at hF
  refine wp_seq ?_
  refine wp_region_lit ?_
  refine o_box ha rfl rfl rfl ?_; clear ha a; intro b1 w2 hB3 hx4 hlo5 a ha
  have q6 := Zn.one hlo5
  have q7 := Nq.new ha0_0.fpb q6
  have q8 := Nq.made1 hlo5 ha0_0.blt
  have q9 := Zn.upD q6 hE
  replace ha0_0 := ha0_0.ext hx4
  have hE10 := Chg.more hE hx4
  refine op_g ha rfl (g_assign rfl) ?_; clear ha a; intro a ha
  refine wpList_nil ?_
  replace ha := ha.sub (σ' := [(1, (.int .i64 a1)), (2, (.pointer (some ⟨b1, 0, none⟩)))]) ⟨rfl, rfl, trivial⟩
  refine e_then ?_
  refine wp_seq ?_
  refine wp_region_lit ?_
  refine op_g ha rfl (g_field0 st28_0 rfl) ?_; clear ha a; intro a ha
  refine op_g ha rfl (g_load Try.isAgg22 rfl (hB3.cell rfl)) ?_; clear ha a; intro a ha
  refine op_g ha rfl (g_move rfl) ?_; clear ha a; intro a ha
  obtain ⟨x11, hc12, hF⟩ := cal_some hF
  refine o_call ha rfl rfl Try.call25 (W_laws_markInt64SS ha0_0 nda0_0 ha1 hc12) ?_; clear ha a; rintro v13 w14 ⟨⟨rfl, hI16⟩, h17, hx15⟩ a ha
  have hE18 := Chg.join hE10 hx15 (S2.par (fun _ h => h))
  refine op_g ha rfl (g_assign rfl) ?_; clear ha a; intro a ha
  refine wpList_nil ?_
  replace ha := ha.sub (σ' := [(1, (.int .i64 x11.1))]) ⟨rfl, trivial⟩
  refine e_then ?_
  refine wp_seq ?_
  refine wp_region_lit ?_
  refine op_g ha rfl (g_move rfl) ?_; clear ha a; intro a ha
  refine op_g ha rfl (g_assign rfl) ?_; clear ha a; intro a ha
  refine wpList_nil ?_
  replace ha := ha.sub (σ' := [(4, (.int .i64 x11.1))]) ⟨rfl, trivial⟩
  refine e_then ?_
  refine wp_ret ?_
  obtain rfl := Option.some.inj hF
  exact f_ret1 ha rfl rfl ⟨⟨rfl, hI16⟩, h17, hE18⟩
set_option maxHeartbeats 2000000 in
theorem W_laws_heldInt64S {W : World} {va0 : Value} {fa0 : List Nat} {a0 : (List Int)} (ha0 : Ro Rp.int W fa0 va0 a0) {a1 : Int} (ha1 : InI a1) {r : Int} (hF : F_laws_heldInt64S a0 a1 = some r) :
    Calls Try.prog 13 [va0, .int .i64 a1].toArray W (Ret fun u w' => (u = .int .i64 r ∧ InI r) ∧ Ext W w') := by
  refine f_enter Try.func13 rfl Try.ntmps13 rfl ?_
  intro a ha
  replace ha : Fr 21 [(0, va0), (1, (.int .i64 a1))] a := ha
  have hE : Chg [] W W := Chg.refl _ _
  unfold F_laws_heldInt64S at hF
  refine wp_seq ?_
  refine wp_region_lit ?_
  refine op_g ha rfl (g_assign rfl) ?_; clear ha a; intro a ha
  refine wpList_nil ?_
  replace ha := ha.sub (σ' := [(0, va0), (1, (.int .i64 a1))]) ⟨rfl, rfl, trivial⟩
  refine e_then ?_
  refine wp_seq ?_
  refine wp_seq ?_
  refine wp_region_lit ?_
  refine op_g ha rfl (g_assign rfl) ?_; clear ha a; intro a ha
  refine wpList_nil ?_
  refine e_then ?_
  obtain ⟨o58, ho59, hK60⟩ := bnd_some hF
  obtain ⟨n61, hn62⟩ := lp_some ho59; clear ho59
  refine c_loop (fun a w => ∃ (i56 : Int), Fr 21 [(1, (.int .i64 i56))] a ∧ Chg [] W w ∧ InI i56 ∧ o58 = .inl i56) (fun n a w => ∃ (i27 : Int) (i29 : Int), Fr 21 [(0, va0), (1, (.int .i64 i27)), (5, (.int .i64 i29))] a ∧ Chg [] W w ∧ InI i27 ∧ InI i29 ∧ lpN (fun s => F_laws_heldInt64S_l1 a0 s.1 s.2) n (i27, i29) = some o58) n61 ⟨a1, 0, ha.sub ⟨rfl, rfl, rfl, trivial⟩, hE, ha1, (show InI 0 from by decide), hn62⟩ ?_ ?_
  · rintro m66 a w26 ⟨i27, i29, ha, hE31, hI28, hI30, hF⟩
    cases m66 with
    | zero => exact (lpN_zero hF).elim
    | succ m66 =>
      obtain ⟨z65, hF, hN64⟩ := lpN_succ hF
      have hF : F_laws_heldInt64S_l1 a0 i27 i29 = some z65 := hF; unfold F_laws_heldInt64S_l1 at hF
      refine wp_seq ?_
      refine wp_seq ?_
      refine wp_region_lit ?_
      refine op_g ha rfl (g_move rfl) ?_; clear ha a; intro a ha
      refine op_g ha rfl (g_move rfl) ?_; clear ha a; intro a ha
      refine op_g ha rfl (g_lenR sl26.und ha0 rfl) ?_; clear ha a; intro a ha
      refine op_g ha rfl (g_lss rfl rfl) ?_; clear ha a; intro a ha
      refine wpList_nil ?_
      replace ha := ha.sub (σ' := [(0, va0), (1, (.int .i64 i27)), (5, (.int .i64 i29)), (9, (.bool (decide (i29 < (a0.length : Int)))))]) ⟨rfl, rfl, rfl, rfl, trivial⟩
      refine e_then ?_
      refine c_cond (i29 < (a0.length : Int)) ha rfl (decide_eq_true_iff) (fun hp67 => ?_) (fun hp67 => ?_)
      · replace hF := if_t hp67 hF
        refine wp_skip ?_
        refine e_then ?_
        refine wp_seq ?_
        refine wp_block ?_
        refine wp_seq ?_
        refine wp_seq ?_
        refine wp_region_lit ?_
        refine op_g ha rfl (g_move rfl) ?_; clear ha a; intro a ha
        refine op_g ha rfl (g_move rfl) ?_; clear ha a; intro a ha
        obtain ⟨x68, g69, gx70, hF⟩ := idx_some hF
        obtain ⟨p71, cs72, f73, hf74, hpb75, hat76, hr77, hi78⟩ := ha0.at g69 gx70
        obtain ⟨rfl, hI79, rfl⟩ := hr77
        refine op_g ha rfl (hi78.gives sl26 rfl rfl) ?_; clear ha a; intro a ha
        refine op_g ha rfl (g_load0 hE31 Try.isAgg2 rfl hat76.one) ?_; clear ha a; intro a ha
        refine op_g ha rfl (g_move rfl) ?_; clear ha a; intro a ha
        refine op_g ha rfl (g_neq rfl rfl) ?_; clear ha a; intro a ha
        refine wpList_nil ?_
        replace ha := ha.sub (σ' := [(0, va0), (1, (.int .i64 i27)), (5, (.int .i64 i29)), (17, (.bool (decide (x68 ≠ i27))))]) ⟨rfl, rfl, rfl, rfl, trivial⟩
        refine e_then ?_
        refine c_cond (x68 ≠ i27) ha rfl (decide_eq_true_iff) (fun hp80 => ?_) (fun hp80 => ?_)
        · replace hF := if_t hp80 hF
          refine wp_seq ?_
          refine wp_region_lit ?_
          refine op_g ha rfl (g_assign rfl) ?_; clear ha a; intro a ha
          refine wpList_nil ?_
          replace ha := ha.sub (σ' := [(4, (.int .i64 (-1)))]) ⟨rfl, trivial⟩
          refine e_then ?_
          refine wp_ret ?_
          refine e_then_ret ?_
          refine e_blk_ret ?_
          refine e_then_ret ?_
          refine e_lq_ret ?_
          refine e_then_ret ?_
          obtain rfl := Option.some.inj hF
          have e81 := LK_inr hN64; subst e81
          have e82 := BK_inr hK60; subst e82
          exact f_ret1 ha rfl rfl ⟨⟨rfl, (show InI (-1) from by decide)⟩, hE31⟩
        · replace hF := if_f hp80 hF
          refine wp_skip ?_
          refine e_then ?_
          refine wp_region_lit ?_
          refine op_g ha rfl (g_move rfl) ?_; clear ha a; intro a ha
          obtain ⟨hI83, hF⟩ := ck_some hF
          refine op_g ha rfl (g_add rfl rfl hI83) ?_; clear ha a; intro a ha
          refine op_g ha rfl (g_assign rfl) ?_; clear ha a; intro a ha
          refine wpList_nil ?_
          replace ha := ha.sub (σ' := [(0, va0), (1, (.int .i64 (i27 + 1))), (5, (.int .i64 i29))]) ⟨rfl, rfl, rfl, trivial⟩
          refine e_blk ?_
          refine e_then ?_
          refine wp_region_lit ?_
          refine op_g ha rfl (g_move rfl) ?_; clear ha a; intro a ha
          obtain ⟨hI85, hF⟩ := ck_some hF
          refine op_g ha rfl (g_add rfl rfl hI85) ?_; clear ha a; intro a ha
          refine op_g ha rfl (g_assign rfl) ?_; clear ha a; intro a ha
          refine wpList_nil ?_
          replace ha := ha.sub (σ' := [(0, va0), (1, (.int .i64 (i27 + 1))), (5, (.int .i64 (i29 + 1)))]) ⟨rfl, rfl, rfl, trivial⟩
          refine e_lq ?_
          obtain rfl := Option.some.inj hF
          exact ⟨_, Nat.lt_succ_self _, i27 + 1, i29 + 1, ha.sub ⟨rfl, rfl, rfl, trivial⟩, hE31, hI83, hI85, hN64⟩
      · replace hF := if_f hp67 hF
        refine wp_exit ?_
        refine e_then_exit ?_
        refine e_lq_eq ?_
        obtain rfl := Option.some.inj hF
        exact ⟨i27, ha.sub ⟨rfl, trivial⟩, hE31, hI28, (LK_inr hN64).symm⟩
  · rintro a w55 ⟨i56, ha, hE63, hI57, rfl⟩
    have hF : F_laws_heldInt64S_k2 i56 = some _ := hK60; clear hK60; unfold F_laws_heldInt64S_k2 at hF
    refine e_then ?_
    refine wp_seq ?_
    refine wp_region_lit ?_
    refine op_g ha rfl (g_move rfl) ?_; clear ha a; intro a ha
    refine op_g ha rfl (g_assign rfl) ?_; clear ha a; intro a ha
    refine wpList_nil ?_
    replace ha := ha.sub (σ' := [(4, (.int .i64 i56))]) ⟨rfl, trivial⟩
    refine e_then ?_
    refine wp_ret ?_
    obtain rfl := Option.some.inj hF
    exact f_ret1 ha rfl rfl ⟨⟨rfl, hI57⟩, hE63⟩
set_option maxHeartbeats 2000000 in
theorem W_laws_FnExactPartitionsBy {W : World} {va0_0 : Value} {fa0_0 : List Nat} {a0_0 : (List (List Int))} (ha0_0 : Ro (Rp.sl 2 Rp.int) W fa0_0 va0_0 a0_0) {r : Bool} (hF : F_laws_FnExactPartitionsBy a0_0 = some r) :
    Calls Try.prog 3 [.agg #[va0_0]].toArray W (Ret fun u w' => u = .bool r ∧ Ext W w') := by
  refine f_enter Try.func3 rfl Try.ntmps3 rfl ?_
  intro a ha
  replace ha : Fr 69 [(0, (.agg #[va0_0]))] a := ha
  have hE : Chg [] W W := Chg.refl _ _
  unfold F_laws_FnExactPartitionsBy at hF
  refine wp_seq ?_
  refine wp_region_lit ?_
  refine o_box ha rfl rfl rfl ?_; clear ha a; intro b1 w2 hB3 hx4 hlo5 a ha
  have q6 := Zn.one hlo5
  have q7 := Zn.upD q6 hE
  have hE8 := Ext.trans hE hx4
  refine op_g ha rfl (g_assign rfl) ?_; clear ha a; intro a ha
  refine wpList_nil ?_
  replace ha := ha.sub (σ' := [(1, (.pointer (some ⟨b1, 0, none⟩)))]) ⟨rfl, trivial⟩
  refine e_then ?_
  refine wp_seq ?_
  refine wp_region_lit ?_
  refine op_g ha rfl (g_assign rfl) ?_; clear ha a; intro a ha
  refine wpList_nil ?_
  refine e_then ?_
  refine wp_seq ?_
  refine wp_region_lit ?_
  refine op_g ha rfl (g_loadA (cs := [va0_0]) Try.isAgg24 Try.sizeOf24 rfl (by simp) hB3.all) ?_; clear ha a; intro a ha
  refine op_g ha rfl (g_move rfl) ?_; clear ha a; intro a ha
  obtain ⟨x9, hc10, hF⟩ := cal_some hF
  refine o_call ha rfl rfl Try.call5 (W_laws_szGraph (ha0_0.ext hE8) (show InI 1048576 from by decide) hc10) ?_; clear ha a; rintro v11 w12 ⟨⟨rfl, hI14⟩, hx13⟩ a ha
  replace hB3 := hB3.ext hx13
  have hE15 := Ext.trans hE8 hx13
  refine op_g ha rfl (g_assign rfl) ?_; clear ha a; intro a ha
  refine wpList_nil ?_
  replace ha := ha.sub (σ' := [(1, (.pointer (some ⟨b1, 0, none⟩))), (3, (.int .i64 x9))]) ⟨rfl, rfl, trivial⟩
  refine e_then ?_
  refine wp_seq ?_
  refine wp_seq ?_
  refine wp_region_lit ?_
  refine op_g ha rfl (g_move rfl) ?_; clear ha a; intro a ha
  refine op_g ha rfl (g_lss rfl rfl) ?_; clear ha a; intro a ha
  refine wpList_nil ?_
  replace ha := ha.sub (σ' := [(1, (.pointer (some ⟨b1, 0, none⟩))), (15, (.bool (decide (x9 < 0))))]) ⟨rfl, rfl, trivial⟩
  refine e_then ?_
  refine c_cond (x9 < 0) ha rfl (decide_eq_true_iff) (fun hp16 => ?_) (fun hp16 => ?_)
  · replace hF := if_t hp16 hF
    refine wp_seq ?_
    refine wp_region_lit ?_
    refine op_g ha rfl (g_assign rfl) ?_; clear ha a; intro a ha
    refine wpList_nil ?_
    replace ha := ha.sub (σ' := [(2, (.bool true))]) ⟨rfl, trivial⟩
    refine e_then ?_
    refine wp_ret ?_
    refine e_then_ret ?_
    obtain rfl := Option.some.inj hF
    exact f_ret1 ha rfl rfl ⟨rfl, hE15⟩
  · replace hF := if_f hp16 hF
    refine wp_skip ?_
    refine e_then ?_
    refine wp_seq ?_
    refine wp_region_lit ?_
    refine op_g ha rfl (g_loadA (cs := [va0_0]) Try.isAgg24 Try.sizeOf24 rfl (by simp) hB3.all) ?_; clear ha a; intro a ha
    obtain ⟨x17, hc18, hF⟩ := cal_some hF
    refine o_call ha rfl rfl Try.call7 (W_laws_toGraph (ha0_0.ext hE15) hc18) ?_; clear ha a; rintro v19 w20 ⟨u22, b23, fs27, rfl, h24, z25, zf28, nd29, hx21⟩ a ha
    have q30 := Nq.new hB3.fpb z25
    have q31 := Nq.madeF z25 zf28 hB3.bi
    have q32 := Nf.new hB3.fpb zf28
    replace hB3 := hB3.ext hx21
    have hE33 := Ext.trans hE15 hx21
    have q34 := Zn.upD z25 hE15
    have q35 := zf_up zf28 hE15
    obtain ⟨fp36, hro37, hs38⟩ := h24.roF
    obtain ⟨x39, hc40, hF⟩ := cal_some hF
    refine o_call ha rfl rfl Try.call6 (W_spec_PartitionsBy hro37 hc40) ?_; clear ha a; rintro v41 w42 ⟨b44, h45, z46, hx43⟩ a ha
    have q48 := Nq.new hB3.fpb z46
    have q49 := Nq.madeO z46 hB3.bi
    have q50 := Nq.new h24.fpb z46
    have q51 := Nq.madeO z46 h24.blt
    have q52 := Nf.old z46 (zf_nil _) h24.bnd
    replace hB3 := hB3.ext hx43
    replace h24 := h24.ext hx43
    have hE53 := Ext.trans hE33 hx43
    have q54 := Zn.upD z46 hE33
    refine op_g ha rfl (g_assign rfl) ?_; clear ha a; intro a ha
    refine wpList_nil ?_
    replace ha := ha.sub (σ' := [(1, (.pointer (some ⟨b1, 0, none⟩))), (4, v41)]) ⟨rfl, rfl, trivial⟩
    refine e_then ?_
    refine wp_seq ?_
    refine wp_region_lit ?_
    refine op_g ha rfl (g_loadA (cs := [va0_0]) Try.isAgg24 Try.sizeOf24 rfl (by simp) hB3.all) ?_; clear ha a; intro a ha
    obtain ⟨x55, hc56, hF⟩ := cal_some hF
    refine o_call ha rfl rfl Try.call7 (W_laws_toGraph (ha0_0.ext hE53) hc56) ?_; clear ha a; rintro v57 w58 ⟨u60, b61, fs65, rfl, h62, z63, zf66, nd67, hx59⟩ a ha
    have q68 := Nq.new hB3.fpb z63
    have q69 := Nq.madeF z63 zf66 hB3.bi
    have q70 := Nq.new h45.fpb z63
    have q71 := Nq.madeF z63 zf66 h45.blt
    have q72 := Nf.new hB3.fpb zf66
    have q73 := Nf.new h45.fpb zf66
    replace hB3 := hB3.ext hx59
    replace h45 := h45.ext hx59
    have hE74 := Ext.trans hE53 hx59
    have q75 := Zn.upD z63 hE53
    have q76 := zf_up zf66 hE53
    refine o_alloc (cs := [(.slice none 0 0)]) ha rfl Try.zeroValue28 rfl ?_; clear ha a; intro b77 w78 hB79 hx80 hlo81 a ha
    have q82 := Zn.one hlo81
    have q83 := Nq.new hB3.fpb q82
    have q84 := Nq.made1 hlo81 hB3.bi
    have q85 := Nq.new h45.fpb q82
    have q86 := Nq.made1 hlo81 h45.blt
    have q87 := Nq.new h62.fpb q82
    have q88 := Nq.made1 hlo81 h62.blt
    have q89 := Zn.upD q82 hE74
    replace hB3 := hB3.ext hx80
    replace h45 := h45.ext hx80
    replace h62 := h62.ext hx80
    have hE90 := Ext.trans hE74 hx80
    refine o_storeA (vs := [u60]) ha hB79 Try.sizeOf28 rfl rfl (by intro c hc; simp only [List.mem_cons, List.not_mem_nil, or_false] at hc; rcases hc with hc <;> subst hc <;> first | rfl | exact h62.oneC) rfl ?_; intro w91 hB92 hc93
    replace hc93 := hc93.bl
    replace hB92 : Bx w91 b77 [u60] 28 := hB92
    replace hB3 := hB3.nq hc93 q83
    replace h45 := h45.nq hc93 q85
    replace h62 := h62.nq hc93 q87
    have hE94 := Ext.then hE90 hc93 (Zn.bl q89)
    refine wpList_nil ?_
    replace ha := ha.sub (σ' := [(1, (.pointer (some ⟨b1, 0, none⟩))), (4, v41), (5, (.pointer (some ⟨b77, 0, none⟩)))]) ⟨rfl, rfl, rfl, trivial⟩
    refine e_then ?_
    refine wp_seq ?_
    refine wp_region_lit ?_
    refine op_g ha rfl (g_loadA (cs := [u60]) Try.isAgg28 Try.sizeOf28 rfl (by simp) hB92.all) ?_; clear ha a; intro a ha
    obtain ⟨fp95, hro96, hs97⟩ := h62.roF
    obtain ⟨x98, hc99, hF⟩ := cal_some hF
    refine o_call ha rfl rfl Try.call8 (W_impl_PartitionsBy hro96 hc99) ?_; clear ha a; rintro v100 w101 ⟨b103, h104, z105, hx102⟩ a ha
    have q107 := Nq.new hB3.fpb z105
    have q108 := Nq.madeO z105 hB3.bi
    have q109 := Nq.new h45.fpb z105
    have q110 := Nq.madeO z105 h45.blt
    have q111 := Nq.new h62.fpb z105
    have q112 := Nq.madeO z105 h62.blt
    have q113 := Nq.new hB92.fpb z105
    have q114 := Nq.madeO z105 hB92.bi
    have q115 := Nf.old z105 (zf_nil _) h62.bnd
    replace hB3 := hB3.ext hx102
    replace h45 := h45.ext hx102
    replace h62 := h62.ext hx102
    replace hB92 := hB92.ext hx102
    have hE116 := Ext.trans hE94 hx102
    have q117 := Zn.upD z105 hE94
    refine op_g ha rfl (g_assign rfl) ?_; clear ha a; intro a ha
    refine wpList_nil ?_
    replace ha := ha.sub (σ' := [(1, (.pointer (some ⟨b1, 0, none⟩))), (4, v41), (5, (.pointer (some ⟨b77, 0, none⟩))), (6, v100)]) ⟨rfl, rfl, rfl, rfl, trivial⟩
    refine e_then ?_
    refine wp_seq ?_
    refine wp_seq ?_
    refine wp_region_lit ?_
    refine op_g ha rfl (g_move rfl) ?_; clear ha a; intro a ha
    refine op_g ha rfl (g_move rfl) ?_; clear ha a; intro a ha
    obtain ⟨fp118, hro119, hs120⟩ := h104.roF
    obtain ⟨fp121, hro122, hs123⟩ := h45.roF
    obtain ⟨x124, hc125, hF⟩ := cal_some hF
    refine o_call ha rfl rfl Try.call9 (W_laws_eqInt64S hro119 hro122 hc125) ?_; clear ha a; rintro v126 w127 ⟨rfl, hx128⟩ a ha
    replace hB3 := hB3.ext hx128
    replace h45 := h45.ext hx128
    replace h62 := h62.ext hx128
    replace hB92 := hB92.ext hx128
    replace h104 := h104.ext hx128
    have hE129 := Ext.trans hE116 hx128
    refine op_g ha rfl (g_not rfl) ?_; clear ha a; intro a ha
    refine wpList_nil ?_
    replace ha := ha.sub (σ' := [(1, (.pointer (some ⟨b1, 0, none⟩))), (4, v41), (5, (.pointer (some ⟨b77, 0, none⟩))), (6, v100), (26, (.bool (!x124)))]) ⟨rfl, rfl, rfl, rfl, rfl, trivial⟩
    refine e_then ?_
    refine c_cond (¬ (x124 = true)) ha rfl (n_iff (Iff.rfl)) (fun hp130 => ?_) (fun hp130 => ?_)
    · replace hF := if_t hp130 hF
      refine wp_seq ?_
      refine wp_region_lit ?_
      refine op_g ha rfl (g_assign rfl) ?_; clear ha a; intro a ha
      refine wpList_nil ?_
      replace ha := ha.sub (σ' := [(2, (.bool false))]) ⟨rfl, trivial⟩
      refine e_then ?_
      refine wp_ret ?_
      refine e_then_ret ?_
      obtain rfl := Option.some.inj hF
      exact f_ret1 ha rfl rfl ⟨rfl, hE129⟩
    · replace hF := if_f hp130 hF
      refine wp_skip ?_
      refine e_then ?_
      refine wp_seq ?_
      refine wp_seq ?_
      refine d_region 5 hmix ?_
      refine u_g 0 rfl (by kernel_rfl) (want0 _) ha rfl (g_loadA (cs := [u60]) Try.isAgg28 Try.sizeOf28 rfl (by simp) hB92.all) ?_; clear ha a; intro a ha
      refine u_g 1 rfl (by kernel_rfl) (want0 _) ha rfl (g_loadA (cs := [va0_0]) Try.isAgg24 Try.sizeOf24 rfl (by simp) hB3.all) ?_; clear ha a; intro a ha
      refine u_only 2 rfl (by kernel_rfl) ?_; intro w131 hx132
      replace hB3 := hB3.ext hx132
      replace h45 := h45.ext hx132
      replace h62 := h62.ext hx132
      replace hB92 := hB92.ext hx132
      replace h104 := h104.ext hx132
      have hE133 := Ext.trans hE129 hx132
      obtain ⟨x134, hc135, hF⟩ := cal_some hF
      refine o_call ha rfl rfl Try.call7 (W_laws_toGraph (ha0_0.ext hE133) hc135) ?_; clear ha a; rintro v136 w137 ⟨u139, b140, fs144, rfl, h141, z142, zf145, nd146, hx138⟩ a ha
      have q147 := Nq.new hB3.fpb z142
      have q148 := Nq.madeF z142 zf145 hB3.bi
      have q149 := Nq.new h45.fpb z142
      have q150 := Nq.madeF z142 zf145 h45.blt
      have q151 := Nq.new h62.fpb z142
      have q152 := Nq.madeF z142 zf145 h62.blt
      have q153 := Nq.new hB92.fpb z142
      have q154 := Nq.madeF z142 zf145 hB92.bi
      have q155 := Nq.new h104.fpb z142
      have q156 := Nq.madeF z142 zf145 h104.blt
      have q157 := Nf.new hB3.fpb zf145
      have q158 := Nf.new h45.fpb zf145
      have q159 := Nf.new h62.fpb zf145
      have q160 := Nf.old z142 zf145 h62.bnd
      have q161 := Nf.new hB92.fpb zf145
      have q162 := Nf.new h104.fpb zf145
      replace hB3 := hB3.ext hx138
      replace h45 := h45.ext hx138
      replace h62 := h62.ext hx138
      replace hB92 := hB92.ext hx138
      replace h104 := h104.ext hx138
      have hE163 := Ext.trans hE133 hx138
      have q164 := Zn.upD z142 hE133
      have q165 := zf_up zf145 hE133
      refine wpList_nil (e_sq ?_)
      refine ⟨fun _ => hx138, ?_⟩
      obtain ⟨fp168, hro169, hs170⟩ := h62.roF
      obtain ⟨fp171, hro172, hs173⟩ := h141.roF
      obtain ⟨x174, hc175, hF⟩ := cal_some hF
      refine u_call (.bool x174) 3 rfl (by kernel_rfl) (want0 _) ha rfl rfl Try.call10 (fun w167 hx166 => W_laws_eqGraph (hro169.ext hx166) (hro172.ext hx166) hc175) (fun _ _ _ h => ⟨h.1, h.2⟩) ?_; clear ha a; intro a ha
      refine u_g 4 rfl (by kernel_rfl) (want0 _) ha rfl (g_not rfl) ?_; clear ha a; intro a ha
      refine u_done (by kernel_rfl) ?_; intro w176 hx177
      replace hB3 := hB3.ext hx177
      replace h45 := h45.ext hx177
      replace h62 := h62.ext hx177
      replace hB92 := hB92.ext hx177
      replace h104 := h104.ext hx177
      replace h141 := h141.ext hx177
      have hE178 := Ext.trans hE163 hx177
      replace ha := ha.sub (σ' := [(1, (.pointer (some ⟨b1, 0, none⟩))), (4, v41), (5, (.pointer (some ⟨b77, 0, none⟩))), (6, v100), (31, (.bool (!x174)))]) ⟨rfl, rfl, rfl, rfl, rfl, trivial⟩
      refine e_then ?_
      refine c_cond (¬ (x174 = true)) ha rfl (n_iff (Iff.rfl)) (fun hp179 => ?_) (fun hp179 => ?_)
      · replace hF := if_t hp179 hF
        refine wp_seq ?_
        refine wp_region_lit ?_
        refine op_g ha rfl (g_assign rfl) ?_; clear ha a; intro a ha
        refine wpList_nil ?_
        replace ha := ha.sub (σ' := [(2, (.bool false))]) ⟨rfl, trivial⟩
        refine e_then ?_
        refine wp_ret ?_
        refine e_then_ret ?_
        obtain rfl := Option.some.inj hF
        exact f_ret1 ha rfl rfl ⟨rfl, hE178⟩
      · replace hF := if_f hp179 hF
        refine wp_skip ?_
        refine e_then ?_
        refine wp_seq ?_
        refine wp_region_lit ?_
        refine op_g ha rfl (g_assign rfl) ?_; clear ha a; intro a ha
        refine wpList_nil ?_
        replace ha := ha.sub (σ' := [(1, (.pointer (some ⟨b1, 0, none⟩))), (4, v41), (5, (.pointer (some ⟨b77, 0, none⟩))), (6, v100), (7, (.int .i64 1))]) ⟨rfl, rfl, rfl, rfl, rfl, trivial⟩
        refine e_then ?_
        refine wp_seq ?_
        refine wp_region_lit ?_
        refine op_g ha rfl (g_loadA (cs := [u60]) Try.isAgg28 Try.sizeOf28 rfl (by simp) hB92.all) ?_; clear ha a; intro a ha
        refine op_g ha rfl (g_move rfl) ?_; clear ha a; intro a ha
        obtain ⟨x180, hc181, hF⟩ := cal_some hF
        refine o_call ha rfl rfl Try.call11 (W_laws_markGraph h62 nd67 (show InI 1 from by decide) hc181) ?_; clear ha a; rintro v182 w183 ⟨⟨rfl, hI185⟩, h186, hx184⟩ a ha
        replace hB3 := hB3.off hx184 (Off.nest q68 q72)
        replace h45 := h45.off hx184 (Off.nest q70 q73)
        replace h104 := h104.off hx184 (Off.nest q112 q115)
        have hE187 := Chg.join hE178 hx184 (S2.nest q75 q76)
        refine op_g ha rfl (g_assign rfl) ?_; clear ha a; intro a ha
        refine wpList_nil ?_
        replace ha := ha.sub (σ' := [(1, (.pointer (some ⟨b1, 0, none⟩))), (4, v41), (6, v100), (7, (.int .i64 x180.1))]) ⟨rfl, rfl, rfl, rfl, trivial⟩
        refine e_then ?_
        refine wp_seq ?_
        refine wp_seq ?_
        refine wp_region_lit ?_
        refine op_g ha rfl (g_move rfl) ?_; clear ha a; intro a ha
        refine op_g ha rfl (g_lss rfl rfl) ?_; clear ha a; intro a ha
        refine op_g ha rfl (g_move rfl) ?_; clear ha a; intro a ha
        by_cases hp202 : x180.1 < 0
        · replace hF := if_t hp202 hF
          rw [show (decide (x180.1 < 0)) = true from (decide_eq_true_iff).2 hp202] at ha
          refine op_unwant ha rfl (yields ha rfl rfl) rfl ?_; clear ha a; intro a ha
          refine op_unwant ha rfl (yields ha rfl rfl) rfl ?_; clear ha a; intro a ha
          refine op_unwant ha rfl (yields ha rfl rfl) rfl ?_; clear ha a; intro a ha
          refine op_unwant ha rfl (yields ha rfl rfl) rfl ?_; clear ha a; intro a ha
          refine op_g ha rfl (g_pick rfl rfl) ?_; clear ha a; intro a ha
          refine wpList_nil ?_
          replace ha := ha.sub (σ' := [(1, (.pointer (some ⟨b1, 0, none⟩))), (4, v41), (6, v100), (42, (.bool true))]) ⟨rfl, rfl, rfl, rfl, trivial⟩
          refine e_then ?_
          refine c_true ha rfl ?_
          refine wp_seq ?_
          refine wp_region_lit ?_
          refine op_g ha rfl (g_assign rfl) ?_; clear ha a; intro a ha
          refine wpList_nil ?_
          replace ha := ha.sub (σ' := [(2, (.bool false))]) ⟨rfl, trivial⟩
          refine e_then ?_
          refine wp_ret ?_
          refine e_then_ret ?_
          obtain rfl := Option.some.inj hF
          exact f_ret1 ha rfl rfl ⟨rfl, hE187⟩
        · replace hF := if_f hp202 hF
          rw [show (decide (x180.1 < 0)) = false from b_false (decide_eq_true_iff) hp202] at ha
          refine op_want (yields ha rfl rfl) ?_
          refine op_g ha rfl (g_move rfl) ?_; clear ha a; intro a ha
          refine op_want (yields ha rfl rfl) ?_
          refine op_g ha rfl (g_move rfl) ?_; clear ha a; intro a ha
          refine op_want (yields ha rfl rfl) ?_
          obtain ⟨fp203, hro204, hs205⟩ := h104.roF
          obtain ⟨fp206, hro207, hs208⟩ := h45.roF
          obtain ⟨x209, hc210, hF⟩ := cal_some hF
          refine o_call ha rfl rfl Try.call9 (W_laws_eqInt64S hro204 hro207 hc210) ?_; clear ha a; rintro v211 w212 ⟨rfl, hx213⟩ a ha
          replace hB3 := hB3.ext hx213
          replace h45 := h45.ext hx213
          replace h104 := h104.ext hx213
          have hE214 := Ext.trans hE187 hx213
          refine op_want (yields ha rfl rfl) ?_
          refine op_g ha rfl (g_not rfl) ?_; clear ha a; intro a ha
          refine op_g ha rfl (g_pick rfl rfl) ?_; clear ha a; intro a ha
          refine wpList_nil ?_
          replace ha := ha.sub (σ' := [(1, (.pointer (some ⟨b1, 0, none⟩))), (4, v41), (6, v100), (42, (.bool (!x209)))]) ⟨rfl, rfl, rfl, rfl, trivial⟩
          refine e_then ?_
          refine c_cond (¬ (x209 = true)) ha rfl (n_iff (Iff.rfl)) (fun hp215 => ?_) (fun hp215 => ?_)
          · replace hF := if_t hp215 hF
            refine wp_seq ?_
            refine wp_region_lit ?_
            refine op_g ha rfl (g_assign rfl) ?_; clear ha a; intro a ha
            refine wpList_nil ?_
            replace ha := ha.sub (σ' := [(2, (.bool false))]) ⟨rfl, trivial⟩
            refine e_then ?_
            refine wp_ret ?_
            refine e_then_ret ?_
            obtain rfl := Option.some.inj hF
            exact f_ret1 ha rfl rfl ⟨rfl, hE214⟩
          · replace hF := if_f hp215 hF
            refine wp_skip ?_
            refine e_then ?_
            refine wp_seq ?_
            refine wp_region_lit ?_
            refine op_g ha rfl (g_assign rfl) ?_; clear ha a; intro a ha
            refine wpList_nil ?_
            replace ha := ha.sub (σ' := [(1, (.pointer (some ⟨b1, 0, none⟩))), (4, v41), (6, v100), (8, (.int .i64 1))]) ⟨rfl, rfl, rfl, rfl, trivial⟩
            refine e_then ?_
            refine wp_seq ?_
            refine wp_region_lit ?_
            refine op_g ha rfl (g_move rfl) ?_; clear ha a; intro a ha
            refine op_g ha rfl (g_move rfl) ?_; clear ha a; intro a ha
            obtain ⟨x216, hc217, hF⟩ := cal_some hF
            refine o_call ha rfl rfl Try.call12 (W_laws_markInt64S h104 (show InI 1 from by decide) hc217) ?_; clear ha a; rintro v218 w219 ⟨⟨rfl, hI221⟩, h222, hx220⟩ a ha
            replace hB3 := hB3.nq hx220 q107
            replace h45 := h45.nq hx220 q109
            have hE223 := Ext.then hE214 hx220 (Zn.bl q117)
            refine op_g ha rfl (g_assign rfl) ?_; clear ha a; intro a ha
            refine wpList_nil ?_
            replace ha := ha.sub (σ' := [(1, (.pointer (some ⟨b1, 0, none⟩))), (4, v41), (6, v100), (8, (.int .i64 x216.1))]) ⟨rfl, rfl, rfl, rfl, trivial⟩
            refine e_then ?_
            refine wp_seq ?_
            refine wp_region_lit ?_
            refine op_g ha rfl (g_assign rfl) ?_; clear ha a; intro a ha
            refine wpList_nil ?_
            replace ha := ha.sub (σ' := [(1, (.pointer (some ⟨b1, 0, none⟩))), (4, v41), (6, v100), (8, (.int .i64 x216.1)), (9, (.int .i64 1))]) ⟨rfl, rfl, rfl, rfl, rfl, trivial⟩
            refine e_then ?_
            refine wp_seq ?_
            refine wp_region_lit ?_
            refine op_g ha rfl (g_move rfl) ?_; clear ha a; intro a ha
            refine op_g ha rfl (g_move rfl) ?_; clear ha a; intro a ha
            obtain ⟨fp224, hro225, hs226⟩ := h222.roF
            obtain ⟨x227, hc228, hF⟩ := cal_some hF
            refine o_call ha rfl rfl Try.call13 (W_laws_heldInt64S hro225 (show InI 1 from by decide) hc228) ?_; clear ha a; rintro v229 w230 ⟨⟨rfl, hI232⟩, hx231⟩ a ha
            replace hB3 := hB3.ext hx231
            replace h45 := h45.ext hx231
            replace h222 := h222.ext hx231
            have hE233 := Ext.trans hE223 hx231
            refine op_g ha rfl (g_assign rfl) ?_; clear ha a; intro a ha
            refine wpList_nil ?_
            replace ha := ha.sub (σ' := [(1, (.pointer (some ⟨b1, 0, none⟩))), (4, v41), (6, v100), (8, (.int .i64 x216.1)), (9, (.int .i64 x227))]) ⟨rfl, rfl, rfl, rfl, rfl, trivial⟩
            refine e_then ?_
            refine wp_seq ?_
            refine wp_seq ?_
            refine wp_region_lit ?_
            refine op_g ha rfl (g_move rfl) ?_; clear ha a; intro a ha
            refine op_g ha rfl (g_lss rfl rfl) ?_; clear ha a; intro a ha
            refine wpList_nil ?_
            replace ha := ha.sub (σ' := [(1, (.pointer (some ⟨b1, 0, none⟩))), (4, v41), (6, v100), (8, (.int .i64 x216.1)), (9, (.int .i64 x227)), (50, (.bool (decide (x227 < 0))))]) ⟨rfl, rfl, rfl, rfl, rfl, rfl, trivial⟩
            refine e_then ?_
            refine c_cond (x227 < 0) ha rfl (decide_eq_true_iff) (fun hp234 => ?_) (fun hp234 => ?_)
            · replace hF := if_t hp234 hF
              refine wp_seq ?_
              refine wp_region_lit ?_
              refine op_g ha rfl (g_assign rfl) ?_; clear ha a; intro a ha
              refine wpList_nil ?_
              replace ha := ha.sub (σ' := [(2, (.bool false))]) ⟨rfl, trivial⟩
              refine e_then ?_
              refine wp_ret ?_
              refine e_then_ret ?_
              obtain rfl := Option.some.inj hF
              exact f_ret1 ha rfl rfl ⟨rfl, hE233⟩
            · replace hF := if_f hp234 hF
              refine wp_skip ?_
              refine e_then ?_
              refine wp_seq ?_
              refine wp_seq ?_
              refine wp_region_lit ?_
              refine op_g ha rfl (g_move rfl) ?_; clear ha a; intro a ha
              refine op_g ha rfl (g_move rfl) ?_; clear ha a; intro a ha
              refine op_g ha rfl (g_neq rfl rfl) ?_; clear ha a; intro a ha
              refine wpList_nil ?_
              replace ha := ha.sub (σ' := [(1, (.pointer (some ⟨b1, 0, none⟩))), (4, v41), (6, v100), (8, (.int .i64 x216.1)), (53, (.bool (decide (x227 ≠ x216.1))))]) ⟨rfl, rfl, rfl, rfl, rfl, trivial⟩
              refine e_then ?_
              refine c_cond (x227 ≠ x216.1) ha rfl (decide_eq_true_iff) (fun hp235 => ?_) (fun hp235 => ?_)
              · replace hF := if_t hp235 hF
                refine wp_seq ?_
                refine wp_region_lit ?_
                refine op_g ha rfl (g_assign rfl) ?_; clear ha a; intro a ha
                refine wpList_nil ?_
                replace ha := ha.sub (σ' := [(2, (.bool false))]) ⟨rfl, trivial⟩
                refine e_then ?_
                refine wp_ret ?_
                refine e_then_ret ?_
                obtain rfl := Option.some.inj hF
                exact f_ret1 ha rfl rfl ⟨rfl, hE233⟩
              · replace hF := if_f hp235 hF
                refine wp_skip ?_
                refine e_then ?_
                refine wp_seq ?_
                refine wp_region_lit ?_
                refine op_g ha rfl (g_loadA (cs := [va0_0]) Try.isAgg24 Try.sizeOf24 rfl (by simp) hB3.all) ?_; clear ha a; intro a ha
                obtain ⟨x236, hc237, hF⟩ := cal_some hF
                refine o_call ha rfl rfl Try.call7 (W_laws_toGraph (ha0_0.ext hE233) hc237) ?_; clear ha a; rintro v238 w239 ⟨u241, b242, fs246, rfl, h243, z244, zf247, nd248, hx240⟩ a ha
                have q249 := Nq.new hB3.fpb z244
                have q250 := Nq.madeF z244 zf247 hB3.bi
                have q251 := Nq.new h45.fpb z244
                have q252 := Nq.madeF z244 zf247 h45.blt
                have q253 := Nq.new h222.fpb z244
                have q254 := Nq.madeF z244 zf247 h222.blt
                have q255 := Nf.new hB3.fpb zf247
                have q256 := Nf.new h45.fpb zf247
                have q257 := Nf.new h222.fpb zf247
                replace hB3 := hB3.ext hx240
                replace h45 := h45.ext hx240
                replace h222 := h222.ext hx240
                have hE258 := Ext.trans hE233 hx240
                have q259 := Zn.upD z244 hE233
                have q260 := zf_up zf247 hE233
                obtain ⟨fp261, hro262, hs263⟩ := h243.roF
                obtain ⟨x264, hc265, hF⟩ := cal_some hF
                refine o_call ha rfl rfl Try.call8 (W_impl_PartitionsBy hro262 hc265) ?_; clear ha a; rintro v266 w267 ⟨b269, h270, z271, hx268⟩ a ha
                have q273 := Nq.new hB3.fpb z271
                have q274 := Nq.madeO z271 hB3.bi
                have q275 := Nq.new h45.fpb z271
                have q276 := Nq.madeO z271 h45.blt
                have q277 := Nq.new h222.fpb z271
                have q278 := Nq.madeO z271 h222.blt
                have q279 := Nq.new h243.fpb z271
                have q280 := Nq.madeO z271 h243.blt
                have q281 := Nf.old z271 (zf_nil _) h243.bnd
                replace hB3 := hB3.ext hx268
                replace h45 := h45.ext hx268
                replace h222 := h222.ext hx268
                replace h243 := h243.ext hx268
                have hE282 := Ext.trans hE258 hx268
                have q283 := Zn.upD z271 hE258
                refine op_g ha rfl (g_assign rfl) ?_; clear ha a; intro a ha
                refine wpList_nil ?_
                replace ha := ha.sub (σ' := [(4, v41), (6, v100), (8, (.int .i64 x216.1)), (10, v266)]) ⟨rfl, rfl, rfl, rfl, trivial⟩
                refine e_then ?_
                refine wp_seq ?_
                refine wp_seq ?_
                refine wp_region_lit ?_
                refine op_g ha rfl (g_move rfl) ?_; clear ha a; intro a ha
                refine op_g ha rfl (g_move rfl) ?_; clear ha a; intro a ha
                obtain ⟨fp284, hro285, hs286⟩ := h270.roF
                obtain ⟨fp287, hro288, hs289⟩ := h45.roF
                obtain ⟨x290, hc291, hF⟩ := cal_some hF
                refine o_call ha rfl rfl Try.call9 (W_laws_eqInt64S hro285 hro288 hc291) ?_; clear ha a; rintro v292 w293 ⟨rfl, hx294⟩ a ha
                replace h45 := h45.ext hx294
                replace h222 := h222.ext hx294
                replace h270 := h270.ext hx294
                have hE295 := Ext.trans hE282 hx294
                refine op_g ha rfl (g_not rfl) ?_; clear ha a; intro a ha
                refine wpList_nil ?_
                replace ha := ha.sub (σ' := [(6, v100), (8, (.int .i64 x216.1)), (60, (.bool (!x290)))]) ⟨rfl, rfl, rfl, trivial⟩
                refine e_then ?_
                refine c_cond (¬ (x290 = true)) ha rfl (n_iff (Iff.rfl)) (fun hp296 => ?_) (fun hp296 => ?_)
                · replace hF := if_t hp296 hF
                  refine wp_seq ?_
                  refine wp_region_lit ?_
                  refine op_g ha rfl (g_assign rfl) ?_; clear ha a; intro a ha
                  refine wpList_nil ?_
                  replace ha := ha.sub (σ' := [(2, (.bool false))]) ⟨rfl, trivial⟩
                  refine e_then ?_
                  refine wp_ret ?_
                  refine e_then_ret ?_
                  obtain rfl := Option.some.inj hF
                  exact f_ret1 ha rfl rfl ⟨rfl, hE295⟩
                · replace hF := if_f hp296 hF
                  refine wp_skip ?_
                  refine e_then ?_
                  refine wp_seq ?_
                  refine wp_region_lit ?_
                  refine op_g ha rfl (g_assign rfl) ?_; clear ha a; intro a ha
                  refine wpList_nil ?_
                  replace ha := ha.sub (σ' := [(6, v100), (8, (.int .i64 x216.1)), (9, (.int .i64 1))]) ⟨rfl, rfl, rfl, trivial⟩
                  refine e_then ?_
                  refine wp_seq ?_
                  refine wp_region_lit ?_
                  refine op_g ha rfl (g_move rfl) ?_; clear ha a; intro a ha
                  refine op_g ha rfl (g_move rfl) ?_; clear ha a; intro a ha
                  obtain ⟨fp297, hro298, hs299⟩ := h222.roF
                  obtain ⟨x300, hc301, hF⟩ := cal_some hF
                  refine o_call ha rfl rfl Try.call13 (W_laws_heldInt64S hro298 (show InI 1 from by decide) hc301) ?_; clear ha a; rintro v302 w303 ⟨⟨rfl, hI305⟩, hx304⟩ a ha
                  replace h222 := h222.ext hx304
                  have hE306 := Ext.trans hE295 hx304
                  refine op_g ha rfl (g_assign rfl) ?_; clear ha a; intro a ha
                  refine wpList_nil ?_
                  replace ha := ha.sub (σ' := [(8, (.int .i64 x216.1)), (9, (.int .i64 x300))]) ⟨rfl, rfl, trivial⟩
                  refine e_then ?_
                  refine wp_seq ?_
                  refine wp_seq ?_
                  refine wp_region_lit ?_
                  refine op_g ha rfl (g_move rfl) ?_; clear ha a; intro a ha
                  refine op_g ha rfl (g_lss rfl rfl) ?_; clear ha a; intro a ha
                  refine wpList_nil ?_
                  replace ha := ha.sub (σ' := [(8, (.int .i64 x216.1)), (9, (.int .i64 x300)), (65, (.bool (decide (x300 < 0))))]) ⟨rfl, rfl, rfl, trivial⟩
                  refine e_then ?_
                  refine c_cond (x300 < 0) ha rfl (decide_eq_true_iff) (fun hp307 => ?_) (fun hp307 => ?_)
                  · replace hF := if_t hp307 hF
                    refine wp_seq ?_
                    refine wp_region_lit ?_
                    refine op_g ha rfl (g_assign rfl) ?_; clear ha a; intro a ha
                    refine wpList_nil ?_
                    replace ha := ha.sub (σ' := [(2, (.bool false))]) ⟨rfl, trivial⟩
                    refine e_then ?_
                    refine wp_ret ?_
                    refine e_then_ret ?_
                    obtain rfl := Option.some.inj hF
                    exact f_ret1 ha rfl rfl ⟨rfl, hE306⟩
                  · replace hF := if_f hp307 hF
                    refine wp_skip ?_
                    refine e_then ?_
                    refine wp_seq ?_
                    refine wp_seq ?_
                    refine wp_region_lit ?_
                    refine op_g ha rfl (g_move rfl) ?_; clear ha a; intro a ha
                    refine op_g ha rfl (g_move rfl) ?_; clear ha a; intro a ha
                    refine op_g ha rfl (g_neq rfl rfl) ?_; clear ha a; intro a ha
                    refine wpList_nil ?_
                    replace ha := ha.sub (σ' := [(68, (.bool (decide (x300 ≠ x216.1))))]) ⟨rfl, trivial⟩
                    refine e_then ?_
                    refine c_cond (x300 ≠ x216.1) ha rfl (decide_eq_true_iff) (fun hp308 => ?_) (fun hp308 => ?_)
                    · replace hF := if_t hp308 hF
                      refine wp_seq ?_
                      refine wp_region_lit ?_
                      refine op_g ha rfl (g_assign rfl) ?_; clear ha a; intro a ha
                      refine wpList_nil ?_
                      replace ha := ha.sub (σ' := [(2, (.bool false))]) ⟨rfl, trivial⟩
                      refine e_then ?_
                      refine wp_ret ?_
                      refine e_then_ret ?_
                      obtain rfl := Option.some.inj hF
                      exact f_ret1 ha rfl rfl ⟨rfl, hE306⟩
                    · replace hF := if_f hp308 hF
                      refine wp_skip ?_
                      refine e_then ?_
                      refine wp_seq ?_
                      refine wp_region_lit ?_
                      refine op_g ha rfl (g_assign rfl) ?_; clear ha a; intro a ha
                      refine wpList_nil ?_
                      replace ha := ha.sub (σ' := [(2, (.bool true))]) ⟨rfl, trivial⟩
                      refine e_then ?_
                      refine wp_ret ?_
                      obtain rfl := Option.some.inj hF
                      exact f_ret1 ha rfl rfl ⟨rfl, hE306⟩
end Go.Proofs.Ytgikmgceiiahpac
