/- slices.Values, slices.Collect and slices.Sort at lists of numbers: what they give. The values come in their order; a list sorted is the list merge-sorted. -/
import Derived.RangeFuncBox
import Derived.RangeFuncLeaves
import Derived.Shelf.Abstract
import Derived.WalkKit
import Derived.OwnWalkIn
import Derived.TacticsInMore
import Derived.LoopNIn
import Derived.LoopIn
import Derived.Maps.AppendAt
import Derived.Shelf.SortM.Plain
import Derived.Shelf.SortM.SortNone
import Derived.Sort.OwnSortedInts
import Derived.Test.YtmaaloijdjnblaaGreatDoorF
import Derived.Test.YtmaaloijdjnblaaGreatDoorDeep
import Derived.Test.YtmaaloijdjnblaaGreatDoorProg
import Derived.Test.YtmaaloijdjnblaaGreatDoorLays
namespace Go.Proofs.YtmaaloijdjnblaaGreatDoor
open Go Go.RowKit Go.Shelf Go.Sort

/-- the first k values -/
def upto {α : Type} (f : Nat → α) (k : Nat) : List α := (List.range k).map f
theorem upto_succ {α : Type} (f : Nat → α) (k : Nat) : upto f (k + 1) = upto f k ++ [f k] := by simp [upto, List.range_succ]
theorem upto_len {α : Type} (f : Nat → α) (k : Nat) : (upto f k).length = k := by simp [upto]
theorem upto_all (zs : List Int) : upto (fun j => zs[j]?.getD 0) zs.length = zs := by
  apply List.ext_getElem
  · simp [upto]
  · intro i h1 h2
    simp [upto, h2]
theorem upto_take (zs : List Int) {k : Nat} (hk : k ≤ zs.length) : upto (fun j => zs[j]?.getD 0) k = zs.take k := by
  apply List.ext_getElem
  · simp [upto, hk]
  · intro i h1 h2
    have : i < zs.length := by simp [upto] at h1; omega
    simp [upto, this]
/-- the slice value sv holds the numbers zs, in a block below n₀; or it has none -/
def Ints (n₀ : Nat) (W : World) (sv : Value) (zs : List Int) : Prop :=
  (∃ a cap, sv = .slice a 0 cap ∧ zs = []) ∨ ∃ b off cap, sv = .slice (some ⟨b, off, none⟩) zs.length cap ∧ b < n₀ ∧ ∀ j, j < zs.length → W.cell? ⟨b, off + j, none⟩ = some (.int .i64 (zs[j]?.getD 0))
theorem Ints.below {n₀ : Nat} {A B : World} (h : Below n₀ A B) {sv : Value} {zs : List Int} : Ints n₀ A sv zs → Ints n₀ B sv zs
  | .inl e => .inl e
  | .inr ⟨b, off, cap, e, hb, hc⟩ => .inr ⟨b, off, cap, e, hb, fun j hj => (h.cell (p := ⟨b, off + j, none⟩) hb).trans (hc j hj)⟩
theorem repL_ints {o : Bool} {w : World} : ∀ {xs : List Int} {fp cs}, RepL Rp.int o w fp cs xs → cs = xs.map (Value.int .i64) ∧ fp = [] ∧ ∀ x ∈ xs, InI x
  | [], _, _, ⟨h1, h2⟩ => ⟨h2, h1, fun x hx => by cases hx⟩
  | x :: xs, _, _, ⟨f, fs, c, cs', hf, hc, hx, hr⟩ => by
    obtain ⟨h1, h2, h3⟩ := hx
    obtain ⟨k1, k2, k3⟩ := repL_ints hr
    subst h1 h3 k1 k2
    refine ⟨by rw [hc]; rfl, by rw [hf]; rfl, fun y hy => ?_⟩
    rcases List.mem_cons.1 hy with e | e
    · rw [e]; exact h2
    · exact k3 y e
theorem repL_mk {o : Bool} {w : World} : ∀ {xs : List Int}, (∀ x ∈ xs, InI x) → RepL Rp.int o w [] (xs.map (Value.int .i64)) xs
  | [], _ => ⟨rfl, rfl⟩
  | x :: xs, h => ⟨[], [], [.int .i64 x], _, rfl, rfl, ⟨rfl, h x (List.mem_cons_self ..), rfl⟩, repL_mk fun y hy => h y (List.mem_cons_of_mem _ hy)⟩
theorem Ro.ints {w : World} {fp : List Nat} {v : Value} {xs : List Int} (h : Ro Rp.int w fp v xs) : Ints w.heap.size w v xs ∧ ∀ x ∈ xs, InI x := by
  obtain ⟨a, cap, hv, hl, ⟨hx, hf⟩ | ⟨b, off, cs, fs, ha, hf, hb, hat, hr⟩⟩ := h
  · subst hx
    exact ⟨.inl ⟨a, cap, hv, rfl⟩, fun x hx => by cases hx⟩
  · obtain ⟨rfl, rfl, hI⟩ := repL_ints hr
    refine ⟨.inr ⟨b, off, cap, by rw [hv, ha], hb, fun j hj => ?_⟩, hI⟩
    have := hat j (.int .i64 (xs[j]?.getD 0)) (by simp [hj])
    rwa [Addr.add_lit'] at this
/-- a row of the call's own is an owned slice -/
theorem ow_of_row {w0 w : World} {E : TypeId} {v : Value} {xs : List Int} (h : w.ownsRow w0.heap.size E 1 v xs.length (xs.map (Value.int .i64))) (hI : ∀ x ∈ xs, InI x) : ∃ b : Int, Ow Rp.int E true w [] b v xs ∧ Zn w0 b := by
  rcases h.2 with ⟨rfl, h0⟩ | ⟨g, cap, cur, rfl, hb, hg, h1, h2, h3, h4⟩
  · exact ⟨-1, .inl ⟨by omega, rfl, List.length_eq_zero_iff.1 h0, rfl⟩, .inl (by omega)⟩
  · refine ⟨(g : Int), .inr ⟨g, cap, cur, _, rfl, rfl, hg, h1, h2, h3, h4, repL_mk hI, fun k hk => by cases hk⟩, .inr (by omega)⟩
theorem ow_row {w : World} {E : TypeId} {b : Int} {v : Value} {xs : List Int} (h : Ow Rp.int E true w [] b v xs) : (∀ x ∈ xs, InI x) ∧ ((b < 0 ∧ v = .slice none 0 0 ∧ xs = []) ∨
    ∃ (g cap : Nat) (cur : Array Value), b = (g : Int) ∧ v = .slice (some ⟨g, 0, none⟩) xs.length cap ∧ w.heap[g]? = some (.cells cur E (0, 0)) ∧ xs.length ≤ cap ∧ cap ≤ maxLen ∧ cur.size = cap * 1 ∧ cur.toList.take (xs.length * 1) = xs.map (Value.int .i64)) := by
  rcases h with ⟨h1, h2, rfl, _⟩ | ⟨g, cap, cur, cs, hb, hv, hg, h1, h2, h3, h4, hr, _⟩
  · exact ⟨fun x hx => (by cases hx), .inl ⟨h1, h2, rfl⟩⟩
  · obtain ⟨rfl, _, hI⟩ := repL_ints hr
    exact ⟨hI, .inr ⟨g, cap, cur, hb, hv, hg, h1, h2, h3, h4⟩⟩
theorem below_ext {w w' : World} (h : Below w.heap.size w w') : Ext w w' := ⟨h.os, h.tape, h.output, h.size, fun k hk _ => h.block k hk⟩
theorem mem_msort {x : Int} {xs : List Int} : x ∈ xs.mergeSort (fun x y => decide (x ≤ y)) ↔ x ∈ xs := (List.mergeSort_perm xs _).mem_iff

/-! ## int -/
theorem infoint : (Tryz.prog.info? 3).map (fun i => (i.zero, i.size, i.bytes)) = some (some (.int .i64 0), 1, 8) := by kernel_rfl
set_option maxRecDepth 100000 in
set_option maxHeartbeats 2000000 in
theorem values1_int (F : Fence) (n : Nat) (h7 : F.fn 77) (hro : F.round = none) (hn : 1 ≤ n) (l Bs n₀ b off len cap : Nat) (zs : List Int) (hreach : len * 8 ≤ 140737488351232) (hb : b < n₀) (J Jx : List Int → World → Prop)
    (hY : ∀ pre x W, J pre W → pre.length < len → YieldAt F (n - 1) Tryz.prog l #[.int .i64 x] W fun e W' =>
      (e = .returned (.bool true) ∧ J (pre ++ [x]) W' ∧ Below n₀ W W') ∨ (e = .returned (.bool false) ∧ Jx (pre ++ [x]) W'))
    (W : World) (hBs : W.cell? ⟨Bs, 0, none⟩ = some (.slice (some ⟨b, off, none⟩) len cap)) (hc : ∀ j, j < len → W.cell? ⟨b, off + j, none⟩ = some (.int .i64 (zs[j]?.getD 0))) (h0 : J [] W) :
    CallsIn F n Tryz.prog 77 #[.func (.yield l) #[] #[], .pointer (some ⟨Bs, 0, none⟩)] W fun e W' => (∃ v, e = .returned v) ∧
      ((∃ ys, ys = upto (fun j => zs[j]?.getD 0) len ∧ J ys W') ∨ (∃ pre, (∃ k, k ≤ len ∧ pre = upto (fun j => zs[j]?.getD 0) k) ∧ Jx pre W')) := by
  refine callsIn_of_wp Tryz.func77 rfl h7 ?_ hro
  simp only [Tryz.ntmps77, List.size_toArray, List.length_cons, List.length_nil, Nat.reduceAdd, Nat.reduceSub, Array.replicate_succ, Array.replicate_zero, List.push_toArray, List.append_toArray, List.nil_append, List.cons_append]
  gi_wp2
  gi_loopw [7] (fun i wr => ∃ k : Nat, k ≤ len ∧ i = .int .i64 k ∧ J (upto (fun j => zs[j]?.getD 0) k) wr ∧ Below n₀ W wr)
    (fun i _ => len - (intOf i).toNat)
  case atStart => exact ⟨0, Nat.zero_le _, rfl, h0, Below.refl _ _⟩
  case round =>
    obtain ⟨k, hk, rfl, hJs, hnx⟩ := hrel
    have hcx : k < len → wr.cell? ⟨b, off + k, none⟩ = some (.int .i64 (zs[k]?.getD 0)) := fun h => (hnx.cell (p := ⟨b, off + k, none⟩) hb).trans (hc k h)
    by_cases hlt : k < len
    · obtain ⟨fn, tmps, assign, body, hy, hR⟩ := hY _ (zs[k]?.getD 0) wr hJs (by rw [upto_len]; exact hlt)
      have hcx' := hcx hlt
      gi_wp2
      refine hR.mono ?_
      rintro e W3 (⟨rfl, hJ3, hk3⟩ | ⟨rfl, hJx3⟩)
      · gi_wp2
        go_roundw
        case rel => exact ⟨k + 1, by omega, by simp, by rw [upto_succ]; exact hJ3, hnx.trans hk3⟩
        case measure => simp [intOf]; omega
      · gi_wp2
        refine bodyPost_ret (results_none rfl _ _ _) rfl ?_
        exact ⟨⟨_, rfl⟩, .inr ⟨_, ⟨k + 1, by omega, (upto_succ _ _).symm⟩, hJx3⟩⟩
    · obtain rfl : k = len := by omega
      gi_wp2
      go_end0
      exact ⟨⟨_, rfl⟩, .inl ⟨_, rfl, hJs⟩⟩
set_option maxRecDepth 100000 in
set_option maxHeartbeats 1000000 in
theorem values0_int (F : Fence) (n : Nat) (h7 : F.fn 77) (hro : F.round = none) (l Bs : Nat) (a : Option Addr) (cap : Nat) (J : List Int → World → Prop) (W : World) (hBs : W.cell? ⟨Bs, 0, none⟩ = some (.slice a 0 cap)) (h0 : J [] W) :
    CallsIn F n Tryz.prog 77 #[.func (.yield l) #[] #[], .pointer (some ⟨Bs, 0, none⟩)] W fun e W' => (∃ v, e = .returned v) ∧ J [] W' := by
  refine callsIn_of_wp Tryz.func77 rfl h7 ?_ hro
  simp only [Tryz.ntmps77, List.size_toArray, List.length_cons, List.length_nil, Nat.reduceAdd, Nat.reduceSub, Array.replicate_succ, Array.replicate_zero, List.push_toArray, List.append_toArray, List.nil_append, List.cons_append]
  gi_wp2
  gi_loopw [7] (fun i wr => i = .int .i64 0 ∧ J [] wr) (fun _ _ => 0)
  case atStart => exact ⟨rfl, h0⟩
  case round =>
    obtain ⟨rfl, hJs⟩ := hrel
    gi_wp2
    go_end0
    exact ⟨⟨_, rfl⟩, hJs⟩
set_option maxHeartbeats 1000000 in
theorem values_int (F : Fence) (n : Nat) (h5 : F.fn 69) (hro : F.round = none) (a : Option Addr) (len cap : Nat) (w : World) :
    CallsIn F n Tryz.prog 69 #[.slice a len cap] w fun e w' => e = .returned (.func (.func 77) #[] #[.pointer (some ⟨w.heap.size, 0, none⟩)]) ∧ w' = w.alloc (.cells #[.slice a len cap] 66) := by
  refine callsIn_of_wp Tryz.func69 rfl h5 ?_ hro
  simp only [Tryz.ntmps69, List.size_toArray, List.length_cons, List.length_nil, Nat.reduceAdd, Nat.reduceSub, Array.replicate_succ, Array.replicate_zero, List.push_toArray, List.append_toArray, List.nil_append, List.cons_append]
  gi_wp2
  go_ret
  exact ⟨rfl, rfl⟩
theorem stops_int (F : Fence) (n : Nat) (h7 : F.fn 77) (hro : F.round = none) (hn : 1 ≤ n) (Bs n₀ : Nat) (sv : Value) (zs : List Int) (hreach : zs.length * 8 ≤ 140737488351232) (w : World) (hBs : Bs < w.heap.size) (hn₀ : n₀ ≤ w.heap.size)
    (hc : w.cell? ⟨Bs, 0, none⟩ = some sv) (hI : Ints n₀ w sv zs) :
    SeqStopsK F n Tryz.prog 77 #[.pointer (some ⟨Bs, 0, none⟩)] (fun x : Int => #[Value.int .i64 x]) (Below n₀) (fun ys => ys = zs) (fun pre => pre <+: zs) zs.length w := fun l J Jx W hW _ _ hY h0 => by
  have hc' := (hW.cell (p := ⟨Bs, 0, none⟩) hBs).trans hc
  rcases hI.below (hW.mono hn₀) with ⟨a, cap, rfl, rfl⟩ | ⟨b, off, cap, rfl, hb, hcs⟩
  · exact (values0_int F n h7 hro l Bs a cap J W hc' h0).mono fun e W' ⟨he, hj⟩ => ⟨he, .inl ⟨_, rfl, hj⟩⟩
  · refine (values1_int F n h7 hro hn l Bs n₀ b off zs.length cap zs hreach hb J Jx hY W hc' hcs h0).mono ?_
    rintro e W' ⟨he, ⟨ys, rfl, hj⟩ | ⟨pre, ⟨k, hk, rfl⟩, hj⟩⟩
    · exact ⟨he, .inl ⟨_, upto_all zs, hj⟩⟩
    · exact ⟨he, .inr ⟨_, by rw [upto_take zs hk]; exact List.take_prefix _ _, hj⟩⟩
set_option maxRecDepth 100000 in
set_option maxHeartbeats 2000000 in
theorem appendSeq_int (F : Fence) (n : Nat) (h3 : F.fn 81) (h5 : F.fn 77) (hro : F.round = none) (hn : 3 ≤ n) (Bs : Nat) (sv : Value) (zs : List Int) (hlen : zs.length ≤ 1099511627776) (w : World) (hBs : Bs < w.heap.size) (hcs : w.cell? ⟨Bs, 0, none⟩ = some sv) (hL : Ints w.heap.size w sv zs) :
    CallsIn F n Tryz.prog 81 #[.slice none 0 0, .func (.func 77) #[] #[.pointer (some ⟨Bs, 0, none⟩)]] w fun e W' => ∃ v, e = .returned v ∧ W'.ownsRow w.heap.size 3 1 v zs.length (zs.map (Value.int .i64)) ∧ Below w.heap.size w W' := by
  have h1 : 1 ≤ n := by omega
  obtain ⟨i0, hi, hz0, hz1, hz2⟩ := info_parts infoint
  refine callsIn_of_wp_marks Tryz.func81 rfl h3 ?_ hro
  simp only [Tryz.ntmps81, List.size_toArray, List.length_cons, List.length_nil, Nat.reduceAdd, Nat.reduceSub, Array.replicate_succ, Array.replicate_zero, List.push_toArray, List.append_toArray, List.nil_append, List.cons_append]
  gi_wp2
  have bO := Boxed.new w 66 (.slice none 0 0)
  have hB0 : Below w.heap.size w (w.alloc (.cells #[.slice none 0 0] 66)) := (Below.refl _ w).alloc (Nat.le_refl _) _
  refine wpIn_rangeFunc_ownG hro h1 (gf := 77) (lb := #[.pointer (some ⟨Bs, 0, none⟩)]) rfl h5 (enters_of Tryz.func77 (by kernel_rfl) rfl)
    (stops_int F (n - 1) h5 hro (by omega) Bs w.heap.size sv zs (by omega) _ (by simp; omega) (by simp) ((hB0.cell (p := ⟨Bs, 0, none⟩) hBs).trans hcs) (hL.below hB0)) belowK_t (belowK_b (by simp)) (Below.refl _ _) (fun _ => rfl)
    (fun (pre : List Int) W => (∃ v, Boxed W w.heap.size 66 v ∧ W.ownsRow w.heap.size 3 1 v pre.length (pre.map (Value.int .i64)) ∧ True) ∧ Below w.heap.size w W)
    (fun _ _ _ => False)
    (OwnFrom.and (Own.from (holdsRow_own w.heap.size w.heap.size 66 3 1 (fun (pre : List Int) => pre.length) (fun (pre : List Int) => pre.map (Value.int .i64)) (fun _ _ => True)) _) (ownFrom_below (Nat.le_refl _) (by simp)))
    (fun _ _ _ _ _ hs _ _ => hs)
    ⟨⟨_, bO, World.ownsRow_nil _ _ _ _, trivial⟩, hB0⟩
    (fun x => { tmps := #[.slice none 0 0, .func (.func 77) #[] #[.pointer (some ⟨Bs, 0, none⟩)], .pointer (some ⟨w.heap.size, 0, none⟩), undef, .slice none 0 0, .int .i64 x, .func (.func 77) #[] #[.pointer (some ⟨Bs, 0, none⟩)], .int .i64 x, undef, undef, undef, undef, undef], defers := [] }) ?assign ?body ?done ?stop
  case assign =>
    intro l x W K hK
    gi_wp2_with (rw [Oper.semAt_eq _ _ _ (fun c h => by cases h)]; go_simp; try go_bits)
    exact hK
  case body =>
    rintro l pre x W ⟨⟨v, hv, hrow, _⟩, hB⟩ hlt
    have hc := hv.cell
    gi_wp2_with (first | (gi_at_builtin; refine wpListIn_append_own _ rfl _ _ 66 rfl w.heap.size 3 i0 (.int .i64 0) 1 8 Tryz.underlying66 hi hz0 hz1 hz2 rfl (by decide) _ _ _ rfl (hrow.alloc _) ⟨W.heap.size, 0, none⟩ 1 1 [.int .i64 x] rfl rfl (cell_one_new _ _ _) (by simp [Value.oneCell']) (by unfold maxLen; omega) (by omega) (by have := hB.size; simp; omega) ?_; intro v' w1 hown' hgrow _; obtain ⟨g', cap', rfl⟩ := ownsRow_succ hown'; obtain ⟨hv1, hv2, hr2, hk2, hb2⟩ := hv.appended (by decide) hrow hB.size (Nat.le_refl _) hown' hgrow; have hc1 := hv1.cell; have hf1 := hv1.frozen) | (rw [Oper.semAt_eq _ _ _ (fun c h => by cases h)]; go_simp; try go_bits))
    exact ⟨hk2.from _, hb2, ⟨_, hv2, by simpa using hr2, trivial⟩, hB.trans hb2⟩
  case done =>
    rintro D ys W hD rfl ⟨⟨v, hv, hrow, _⟩, hB⟩ hK
    have hc := hv.cell
    gi_wp2
    refine ⟨by simp, .inl ⟨_, _, rfl, run_takeDeferred hK, ?_⟩⟩
    exact ⟨_, results_tmp rfl _ _ _, v, rfl, ownsRow_putObj hrow _ hK rfl, hB.trans (belowK_b (w := w) (Nat.le_refl _) W D _ _ (by simp at hD; omega) hK rfl rfl)⟩
  case stop =>
    rintro D c pre W _ _ h _
    exact h.elim
set_option maxHeartbeats 1000000 in
theorem collect_int (F : Fence) (n : Nat) (h8 : F.fn 75) (h3 : F.fn 81) (h5 : F.fn 77) (hro : F.round = none) (hn : 4 ≤ n) (Bs : Nat) (sv : Value) (zs : List Int) (hlen : zs.length ≤ 1099511627776) (w : World) (hBs : Bs < w.heap.size) (hcs : w.cell? ⟨Bs, 0, none⟩ = some sv) (hL : Ints w.heap.size w sv zs) :
    CallsIn F n Tryz.prog 75 #[.func (.func 77) #[] #[.pointer (some ⟨Bs, 0, none⟩)]] w fun e W' => ∃ v, e = .returned v ∧ W'.ownsRow w.heap.size 3 1 v zs.length (zs.map (Value.int .i64)) ∧ Below w.heap.size w W' := by
  have h1 : 1 ≤ n := by omega
  refine callsIn_of_wp Tryz.func75 rfl h8 ?_ hro
  simp only [Tryz.ntmps75, List.size_toArray, List.length_cons, List.length_nil, Nat.reduceAdd, Nat.reduceSub, Array.replicate_succ, Array.replicate_zero, List.push_toArray, List.append_toArray, List.nil_append, List.cons_append]
  gi_wp2_with (gi_at_call 81; refine (appendSeq_int F (n - 1) h3 h5 hro (by omega) Bs sv zs hlen _ hBs hcs hL).mono ?_; rintro e w' ⟨v, rfl, hrow, hb⟩)
  go_ret
  exact ⟨v, rfl, hrow, hb⟩
/-- a sequence: the value that slices.Values gives, and what it will give -/
def Seq3 (w : World) (u : Value) (xs : List Int) : Prop := ∃ (Bs : Nat) (sv : Value), u = .func (.func 77) #[] #[.pointer (some ⟨Bs, 0, none⟩)] ∧ Bs < w.heap.size ∧ w.cell? ⟨Bs, 0, none⟩ = some sv ∧ Ints w.heap.size w sv xs ∧ ∀ x ∈ xs, InI x
theorem W_slices_Values_int {W : World} {va0 : Value} {fa0 : List Nat} {a0 : (List Int)} (ha0 : Ro Rp.int W fa0 va0 a0) {r : (List Int)} (hF : F_slices_Values_int a0 = some r) :
    Calls Tryz.prog 69 [va0].toArray W (Ret fun u w' => Seq3 w' u r ∧ Ext W w') := by
  obtain rfl : a0 = r := Option.some.inj hF
  obtain ⟨hI, hN⟩ := ha0.ints
  obtain ⟨a, cap, hv, _⟩ := ha0
  subst hv
  refine callsIn_wide.1 ((values_int Fence.wide 5 trivial rfl a _ cap W).mono ?_)
  rintro e w' ⟨rfl, rfl⟩
  refine ⟨_, rfl, ⟨W.heap.size, .slice a a0.length cap, rfl, by simp, by simp, ?_, hN⟩, Ext.alloc _ _⟩
  have hb := (Ext.alloc W (.cells #[.slice a a0.length cap] 66)).below
  rcases hI with h | ⟨b, off, cap', h1, h2, h3⟩
  · exact .inl h
  · exact .inr ⟨b, off, cap', h1, Nat.lt_of_lt_of_le h2 hb.size, fun j hj => (hb.cell (p := ⟨b, off + j, none⟩) h2).trans (h3 j hj)⟩
theorem W_slices_Collect_int {W : World} {va0 : Value} {a0 : (List Int)} (ha0 : Seq3 W va0 a0) {r : (List Int)} (hF : F_slices_Collect_int a0 = some r) :
    Calls Tryz.prog 75 [va0].toArray W (Ret fun u w' => ∃ (b_u : Int), Ow Rp.int 3 true w' [] b_u u r ∧ Zn W b_u ∧ Ext W w') := by
  unfold F_slices_Collect_int at hF
  split at hF
  case isFalse => cases hF
  rename_i hl
  obtain rfl : a0 = r := Option.some.inj hF
  obtain ⟨Bs, sv, rfl, hBs, hc, hI, hN⟩ := ha0
  refine callsIn_wide.1 ((collect_int Fence.wide 5 trivial trivial trivial rfl (by omega) Bs sv a0 (by omega) W hBs hc hI).mono ?_)
  rintro e w' ⟨v, rfl, hrow, hb⟩
  obtain ⟨b, h1, h2⟩ := ow_of_row hrow hN
  exact ⟨v, rfl, b, h1, h2, below_ext hb⟩
theorem W_slices_Sort_int {W : World} {va0 : Value} {ba0 : Int} {a0 : (List Int)} (ha0 : Ow Rp.int 3 true W [] ba0 va0 a0) {r : (List Int)} (hF : F_slices_Sort_int a0 = some r) :
    Calls Tryz.prog 76 [va0].toArray W (Ret fun u w' => u = .tuple #[] ∧ Ow Rp.int 3 true w' [] ba0 va0 r ∧ Chg (bl ba0) W w') := by
  unfold F_slices_Sort_int at hF
  split at hF
  case isFalse => cases hF
  rename_i hl
  obtain rfl : a0.mergeSort (fun x y => decide (x ≤ y)) = r := Option.some.inj hF
  obtain ⟨hN, ⟨hb, rfl, rfl⟩ | ⟨g, cap, cur, rfl, rfl, hg, h1, h2, h3, h4⟩⟩ := ow_row ha0
  · refine (AnyM.slices_Sort_int_none Srt.int none 0 W).mono ?_
    rintro e w' ⟨rfl, rfl⟩
    exact ⟨_, rfl, rfl, by simpa using ha0, Chg.refl _ _⟩
  · refine (AnyM.slices_Sort_int Srt.int g 0 cap a0 W (holds_of_blockI hg (by simpa using h4)) (lt_size hg) (by omega)).mono ?_
    rintro e w' ⟨rfl, k, os, rfl⟩
    have hle : (a0.mergeSort (fun x y => decide (x ≤ y))).length = a0.length := List.length_mergeSort ..
    have hr := ownsRow_sortedI (n := k) (os := os) hle (Nat.zero_le g) hg h1 h2 h3
    refine ⟨_, rfl, rfl, ?_, ?_⟩
    · rcases hr.2 with ⟨h, _⟩ | ⟨g', cap', cur', hv, _, hg', q1, q2, q3, q4⟩
      · cases h
      · cases hv
        refine .inr ⟨g, cap, cur', _, rfl, by rw [hle], hg', by rw [hle]; exact q1, q2, q3, by rw [hle]; exact q4, repL_mk fun x hx => hN x (mem_msort.1 hx), fun k hk => by cases hk⟩
    · have := Chg.of_grown (grownBy_sortedI (w := W) (g := g) (n := k) (os := os) (a0.mergeSort fun x y => decide (x ≤ y)).toArray)
      simpa [bl] using this
/-! ## slices.Insert of one number, slices.Grow of nil -/
theorem zeros_size (n : Nat) : (Builtin.zeroCells (Value.int .i64 0).cells n).size = n := by simp [Builtin.zeroCells, Value.cells]
theorem cells_setCells {E : TypeId} {fz : Nat × Nat} (g : Nat) : ∀ (vs : List Value) (o : Nat) (w : World) (cur : Array Value), w.heap[g]? = some (.cells cur E fz) → o + vs.length ≤ cur.size →
    ∃ cur' : Array Value, (w.setCells g o vs).heap[g]? = some (.cells cur' E fz) ∧ cur'.size = cur.size ∧ ∀ j, cur'[j]? = if o ≤ j ∧ j < o + vs.length then vs[j - o]? else cur[j]?
  | [], o, w, cur, h, _ => ⟨cur, h, rfl, fun j => by rw [if_neg (by simp only [List.length_nil]; omega)]⟩
  | v :: r, o, w, cur, h, hl => by
    have h1 : (w.setCell ⟨g, o, none⟩ v).heap[g]? = some (.cells (cur.setIfInBounds o v) E fz) := by simp [World.setCell, Array.getElem?_modify, h]
    simp only [List.length_cons] at hl
    obtain ⟨cur', a1, a2, a3⟩ := cells_setCells g r (o + 1) _ _ h1 (by simp; omega)
    refine ⟨cur', a1, by rw [a2]; simp, fun j => ?_⟩
    rw [a3, Array.getElem?_setIfInBounds]
    simp only [List.length_cons]
    by_cases e : j = o
    · subst e; rw [if_neg (by omega), if_pos rfl, if_pos (by omega), if_pos ⟨by omega, by omega⟩]; simp
    · by_cases h2 : o + 1 ≤ j ∧ j < o + 1 + r.length
      · rw [if_pos h2, if_pos ⟨by omega, by omega⟩, show j - o = (j - (o + 1)) + 1 by omega]; simp
      · rw [if_neg h2, if_neg (fun h => e h.symm), if_neg (by omega)]
theorem chg_setCells (g : Nat) : ∀ (vs : List Value) (o : Nat) (w : World), Chg [g] w (w.setCells g o vs)
  | [], _, w => Chg.refl _ _
  | v :: r, o, w => (Chg.setCell w ⟨g, o, none⟩ v).same (chg_setCells g r (o + 1) _)
theorem ow_ints {w : World} {E : TypeId} {g cap : Nat} {cur : Array Value} {r : List Int} (h : w.heap[g]? = some (.cells cur E (0, 0))) (hs : cur.size = cap) (hl : r.length ≤ cap) (hm : cap ≤ maxLen) (hr : ∀ (j : Nat) (hj : j < r.length), cur[j]? = some (.int .i64 r[j])) (hI : ∀ x ∈ r, InI x) :
    Ow Rp.int E true w [] g (.slice (some ⟨g, 0, none⟩) r.length cap) r := by
  refine .inr ⟨g, cap, cur, r.map (.int .i64), rfl, rfl, h, hl, hm, by simp [Rp.int, hs], ?_, repL_mk hI, fun k hk => by cases hk⟩
  apply List.ext_getElem?
  intro j
  show (cur.toList.take (r.length * 1))[j]? = _
  rw [List.getElem?_take, List.getElem?_map]
  by_cases hj : j < r.length
  · rw [if_pos (by omega), List.getElem?_eq_getElem hj, Array.getElem?_toList, hr j hj]; rfl
  · rw [if_neg (by omega), List.getElem?_eq_none (by omega)]; rfl
theorem cell_row {w : World} {E : TypeId} {g : Nat} {cur : Array Value} {n : Nat} {xs : List Int} (h : w.heap[g]? = some (.cells cur E (0, 0))) (ht : cur.toList.take (n * 1) = xs.map (.int .i64)) (hn : xs.length = n) : ∀ j v, (xs.map (Value.int .i64))[j]? = some v → w.cell? ⟨g, 0 + j, none⟩ = some v := fun j v hj => by
  rw [← ht, List.getElem?_take] at hj
  split at hj
  · rw [Nat.zero_add]; simp [World.cell?, h]; simpa using hj
  · cases hj
theorem cur_row {cur : Array Value} {n : Nat} {xs : List Int} (ht : cur.toList.take (n * 1) = xs.map (.int .i64)) (hn : xs.length = n) (j : Nat) (hj : j < xs.length) : cur[j]? = some (.int .i64 xs[j]) := by
  have : (cur.toList.take (n * 1))[j]? = some (.int .i64 xs[j]) := by rw [ht]; simp [hj]
  rw [List.getElem?_take, if_pos (by omega)] at this
  simpa using this
theorem one_ints (xs : List Int) : ∀ v ∈ xs.map (Value.int .i64), v.oneCell' = true := fun v hv => by
  obtain ⟨x, _, rfl⟩ := List.mem_map.1 hv; rfl
theorem ins_get (xs : List Int) (x : Int) (i j : Nat) (hi : i ≤ xs.length) (hj : j < (xs.take i ++ x :: xs.drop i).length) : (j < i → (xs.take i ++ x :: xs.drop i)[j]? = xs[j]?) ∧ (j = i → (xs.take i ++ x :: xs.drop i)[j]? = some x) ∧ (i < j → (xs.take i ++ x :: xs.drop i)[j]? = (xs.drop i)[j - (i + 1)]?) := by
  have hl : (xs.take i).length = i := by simp; omega
  refine ⟨fun h => ?_, fun h => ?_, fun h => ?_⟩
  · rw [List.getElem?_append_left (by omega), List.getElem?_take, if_pos h]
  · rw [List.getElem?_append_right (by omega), hl, h, Nat.sub_self]; rfl
  · rw [List.getElem?_append_right (by omega), hl, show j - i = (j - (i + 1)) + 1 by omega]; rfl
theorem map_get {xs : List Int} {j : Nat} {x : Int} (h : xs[j]? = some x) : (xs.map (Value.int .i64))[j]? = some (.int .i64 x) := by rw [List.getElem?_map, h]; rfl
set_option maxHeartbeats 1000000 in
theorem W_slices_Insert_int {W : World} {va0 : Value} {b0 : Int} {a0 : List Int} (ha0 : Ow Rp.int 3 true W [] b0 va0 a0) {a1 : Int} {va2 : Value} {b2 : Int} {x : Int} (ha2 : Ow Rp.int 3 true W [] b2 va2 [x]) (hne : b2 ≠ b0) {r : List Int} (hF : F_slices_Insert_int a0 a1 x = some r) :
    Calls Tryz.prog 71 [va0, .int .i64 a1, va2].toArray W (Ret fun u w' => ∃ b' : Int, Ow Rp.int 3 true w' [] b' u r ∧ Chg (bl b0) W w' ∧ (b' = b0 ∨ (W.heap.size : Int) = b')) := by
  unfold F_slices_Insert_int at hF
  split at hF
  case isFalse => cases hF
  rename_i hp
  obtain ⟨h0, h1, hl⟩ := hp
  obtain rfl := Option.some.inj hF
  obtain ⟨i, rfl⟩ := Int.eq_ofNat_of_zero_le h0
  simp only [Int.toNat_natCast]
  obtain ⟨hN2, ⟨_, _, h⟩ | ⟨g2, cap2, cur2, rfl, rfl, hg2, k1, k2, k3, k4⟩⟩ := ow_row ha2
  · cases h
  have hvs : ∀ j v, [Value.int .i64 x][j]? = some v → W.cell? ⟨g2, 0 + j, none⟩ = some v := cell_row (n := 1) (xs := [x]) hg2 k4 rfl
  have h1v : ∀ v ∈ [Value.int .i64 x], v.oneCell' = true := one_ints [x]
  obtain ⟨hN, hcase⟩ := ow_row ha0
  have hNr : ∀ y ∈ a0.take i ++ x :: a0.drop i, InI y := fun y hy => by
    rcases List.mem_append.1 hy with h | h
    · exact hN y (List.mem_of_mem_take h)
    · rcases List.mem_cons.1 h with h | h
      · rw [h]; exact hN2 x (by simp)
      · exact hN y (List.mem_of_mem_drop h)
  have hi : i ≤ a0.length := by omega
  have hrl : (a0.take i ++ x :: a0.drop i).length = a0.length + 1 := by simp; omega
  have hlm : a0.length + 1 ≤ maxLen := by simp only [maxLen]; omega
  have fin : ∀ {w' : World} {g cap : Nat} {cur : Array Value}, w'.heap[g]? = some (.cells cur 3 (0, 0)) → cur.size = cap → a0.length + 1 ≤ cap → cap ≤ maxLen → (∀ (j : Nat) (y : Int), (a0.take i ++ x :: a0.drop i)[j]? = some y → cur[j]? = some (.int .i64 y)) →
      Ow Rp.int 3 true w' [] g (.slice (some ⟨g, 0, none⟩) (a0.length + 1) cap) (a0.take i ++ x :: a0.drop i) := fun h hs hc hm hr => by
    have := ow_ints (r := a0.take i ++ x :: a0.drop i) h hs (by omega) hm (fun j hj => hr j _ (List.getElem?_eq_getElem hj)) hNr
    rwa [hrl] at this
  rcases hcase with ⟨hb, rfl, rfl⟩ | ⟨g, cap, cur, rfl, rfl, hg, h1', h2, h3, h4⟩
  · have hi0 : i = 0 := by simpa using hi
    subst hi0
    refine (Any2.slices_Insert_int_end_grow Ins.int none 0 0 g2 0 1 cap2 [] [.int .i64 x] W (by omega) (by omega) (by omega) (by omega) rfl rfl (fun _ => rfl) (fun a h => by cases h) hvs h1v).mono ?_
    rintro e w' ⟨rfl, rfl⟩
    have hE : Ins.int_ren.t 3 = 3 := rfl
    rw [hE]
    have hge := grownCap_ge W (0 + 1) 0 3
    have hle := grownCap_le_maxLen W (0 + 1) 0 3 hlm
    generalize grownCap W (0 + 1) 0 3 = G at *
    refine ⟨_, rfl, W.heap.size, fin (heap_alloc_new _ _) (by rw [Array.size_append, zeros_size]; simp; omega) hge hle (fun j y hj => ?_), ((Ext.drew W).trans (Ext.alloc _ _)).chg, .inr rfl⟩
    simp only [List.take_zero, List.nil_append, List.drop_zero] at hj
    cases j with
    | zero =>
      simp only [List.getElem?_cons_zero, Option.some.injEq] at hj; subst hj
      rw [Array.getElem?_append_left (by simp)]; simp
    | succ j => simp at hj
  · have hgl := lt_size hg
    have hcs := cell_row (xs := a0) hg h4 rfl
    have hcl : (a0.map (Value.int .i64)).length = a0.length := by simp
    have h1c := one_ints a0
    have hsz : cur.size = cap := by omega
    have hcell : ∀ j, j < cap → (W.cell? ⟨g, 0 + j, none⟩).isSome = true := fun j hj => by
      rw [Nat.zero_add]; simp [World.cell?, hg]; omega
    have hfz : ∀ j, W.frozen? ⟨g, j, none⟩ = false := fun j => by simp [World.frozen?, hg]
    have hng : g2 ≠ g := fun e => hne (by rw [e])
    have hbl : bl (g : Int) = [g] := by simp [bl]
    rcases Nat.lt_or_ge i a0.length with hin | hin
    · rcases Nat.lt_or_ge a0.length cap with hroom | hroom
      · -- in place
        refine (Any2.slices_Insert_int_shift Ins.int g 0 a0.length cap i g2 0 1 cap2 (a0.map (.int .i64)) [.int .i64 x] W hin (by omega) (by omega) (by simp only [maxLen] at h2; omega) hng hcl rfl hcs (fun j hj => hcell j (by omega)) (fun j _ => hfz _) hvs h1c h1v
          3 3 cur2.size cur.size (by simp [World.shape?, hg2]) (by simp [World.shape?, hg]) (by omega) (by simp [World.frozen?, hg2]) (by simp [World.frozen?, hg2])).mono ?_
        rintro e w' ⟨rfl, rfl⟩
        have hd1 : ((a0.map (Value.int .i64)).drop i).length = a0.length - i := by simp
        obtain ⟨c1, p1, p2, p3⟩ := cells_setCells (w := W.drew) g ((a0.map (Value.int .i64)).drop i) (0 + (i + 1)) cur hg (by omega)
        obtain ⟨c2, q1, q2, q3⟩ := cells_setCells g [Value.int .i64 x] (0 + i) _ c1 p1 (by simp; omega)
        refine ⟨_, rfl, g, fin q1 (by omega) (by omega) h2 (fun j y hj => ?_), ?_, .inl rfl⟩
        · have hjl : j < (a0.take i ++ x :: a0.drop i).length := (List.getElem?_eq_some_iff.1 hj).1
          obtain ⟨g1, g2', g3⟩ := ins_get a0 x i j hi hjl
          rw [q3, p3]
          simp only [List.length_singleton, Nat.zero_add, hd1]
          rcases Nat.lt_trichotomy j i with h | h | h
          · rw [if_neg (by omega), if_neg (by omega)]
            rw [g1 h] at hj
            have := (List.getElem?_eq_some_iff.1 hj)
            obtain ⟨hj1, rfl⟩ := this
            exact cur_row h4 rfl j hj1
          · subst h
            rw [g2' rfl] at hj
            rw [if_pos ⟨by omega, by omega⟩, Nat.sub_self]
            simpa using hj
          · rw [if_neg (by omega), if_pos ⟨by omega, by omega⟩]
            rw [g3 h] at hj
            rw [← List.map_drop]; exact map_get hj
        · rw [hbl]
          exact (Chg.trans (Ext.drew W).chg (chg_setCells g _ _ _) (fun i hi => .inl hi)).same (chg_setCells g _ _ _)
      · -- a new row
        refine (Any2.slices_Insert_int_grow Ins.int g 0 a0.length cap i g2 0 1 cap2 (a0.map (.int .i64)) [.int .i64 x] W hin (by omega) h1' (by omega) (by omega) hcl rfl hcs hvs h1c h1v).mono ?_
        rintro e w' ⟨rfl, rfl⟩
        have hE : Ins.int_ren.t 3 = 3 := rfl
        rw [hE]
        have hge := grownCap_ge W (a0.length + 1) cap 3
        have hd1 : ((a0.map (Value.int .i64)).drop i).length = a0.length - i := by simp
        have ht1 : ((a0.map (Value.int .i64)).take i).length = i := by simp; omega
        generalize hG : grownCap W (a0.length + 1) cap 3 = G at *
        obtain ⟨c0, hc0⟩ : ∃ c0, c0 = (((a0.map (Value.int .i64)).take i).toArray ++ Builtin.zeroCells (Value.int .i64 0).cells (a0.length + 1 - i) ++ Builtin.zeroCells (Value.int .i64 0).cells (G - (a0.length + 1))) := ⟨_, rfl⟩
        rw [← hc0]
        have hc0s : c0.size = G := by rw [hc0]; simp only [Array.size_append, List.size_toArray, zeros_size, ht1]; omega
        have hh0 : ((W.alloc (.cells c0 3)).drew).heap[W.heap.size]? = some (.cells c0 3 (0, 0)) := heap_alloc_new W _
        obtain ⟨c1, p1, p2, p3⟩ := cells_setCells W.heap.size [Value.int .i64 x] i _ c0 hh0 (by simp; omega)
        obtain ⟨c2, q1, q2, q3⟩ := cells_setCells (w := ((W.alloc (.cells c0 3)).drew.setCells W.heap.size i [Value.int .i64 x]).drew) W.heap.size ((a0.map (Value.int .i64)).drop i) (i + 1) c1 p1 (by omega)
        refine ⟨_, rfl, W.heap.size, fin q1 (by omega) hge (by rw [← hG]; exact grownCap_le_maxLen _ _ _ _ hlm) (fun j y hj => ?_), ?_, .inr rfl⟩
        · have hjl : j < (a0.take i ++ x :: a0.drop i).length := (List.getElem?_eq_some_iff.1 hj).1
          obtain ⟨g1, g2', g3⟩ := ins_get a0 x i j hi hjl
          rw [q3, p3]
          simp only [List.length_singleton, hd1]
          rcases Nat.lt_trichotomy j i with h | h | h
          · rw [if_neg (by omega), if_neg (by omega), hc0]
            rw [g1 h] at hj
            have hjc : j < (List.take i (List.map (Value.int IntKind.i64) a0)).toArray.size := by rw [List.size_toArray, ht1]; exact h
            rw [Array.getElem?_append_left (by rw [Array.size_append]; omega), Array.getElem?_append_left hjc, List.getElem?_toArray, List.getElem?_take, if_pos h]
            exact map_get hj
          · subst h
            rw [g2' rfl] at hj
            rw [if_neg (by omega), if_pos ⟨by omega, by omega⟩, Nat.sub_self]
            simpa using hj
          · rw [if_pos ⟨by omega, by omega⟩]
            rw [g3 h] at hj
            rw [← List.map_drop]; exact map_get hj
        · have a1 : Ext W (W.alloc (.cells c0 3)).drew := (Ext.alloc _ _).trans (Ext.drew _)
          have a2 := a1.then (chg_setCells W.heap.size [Value.int .i64 x] i _) (fun i hi => by rw [List.mem_singleton] at hi; omega)
          have a3 := (a2.trans (Ext.drew _)).then (chg_setCells W.heap.size ((a0.map (Value.int .i64)).drop i) (i + 1) _) (fun i hi => by rw [List.mem_singleton] at hi; omega)
          exact a3.chg
    · have hie : i = a0.length := by omega
      subst hie
      rcases Nat.lt_or_ge a0.length cap with hroom | hroom
      · -- at the end, in place
        refine (Any2.slices_Insert_int_end_room Ins.int g 0 a0.length cap g2 0 1 cap2 [.int .i64 x] W (by omega) (by omega) (by simp only [maxLen] at h2; omega) rfl (fun j hj => by rw [Nat.add_assoc]; exact hcell _ (by omega)) (fun j _ => hfz _) hvs h1v).mono ?_
        rintro e w' ⟨rfl, rfl⟩
        obtain ⟨c2, q1, q2, q3⟩ := cells_setCells g [Value.int .i64 x] (0 + a0.length) _ cur hg (by simp; omega)
        refine ⟨_, rfl, g, fin q1 (by omega) (by omega) h2 (fun j y hj => ?_), by rw [hbl]; exact chg_setCells g _ _ _, .inl rfl⟩
        have hjl : j < (a0.take a0.length ++ x :: a0.drop a0.length).length := (List.getElem?_eq_some_iff.1 hj).1
        obtain ⟨g1, g2', g3⟩ := ins_get a0 x a0.length j hi hjl
        rw [q3]
        simp only [List.length_singleton, Nat.zero_add]
        rcases Nat.lt_trichotomy j a0.length with h | h | h
        · rw [if_neg (by omega)]
          rw [g1 h] at hj
          obtain ⟨hj1, rfl⟩ := (List.getElem?_eq_some_iff.1 hj)
          exact cur_row h4 rfl j hj1
        · subst h
          rw [g2' rfl] at hj
          rw [if_pos ⟨by omega, by omega⟩, Nat.sub_self]
          simpa using hj
        · omega
      · -- at the end, a new row
        refine (Any2.slices_Insert_int_end_grow Ins.int (some ⟨g, 0, none⟩) a0.length cap g2 0 1 cap2 (a0.map (.int .i64)) [.int .i64 x] W (by omega) h1' (by omega) (by omega) hcl rfl (fun h => by cases h) (fun a h j v hj => by cases h; rw [Addr.add_lit']; exact hcs j v hj) hvs h1v).mono ?_
        rintro e w' ⟨rfl, rfl⟩
        have hE : Ins.int_ren.t 3 = 3 := rfl
        rw [hE]
        have hge := grownCap_ge W (a0.length + 1) cap 3
        generalize hG : grownCap W (a0.length + 1) cap 3 = G at *
        refine ⟨_, rfl, W.heap.size, fin (heap_alloc_new _ _) (by rw [Array.size_append, zeros_size]; simp; omega) hge (by rw [← hG]; exact grownCap_le_maxLen _ _ _ _ hlm) (fun j y hj => ?_), ((Ext.drew W).trans (Ext.alloc _ _)).chg, .inr rfl⟩
        have hjl : j < (a0.take a0.length ++ x :: a0.drop a0.length).length := (List.getElem?_eq_some_iff.1 hj).1
        rw [List.take_length, List.drop_length] at hj
        rw [Array.getElem?_append_left (by simp; omega), List.getElem?_toArray]
        have := map_get hj
        rwa [List.map_append] at this
theorem info_gro : (Tryz.prog.info? 2).map (fun i => (i.zero, i.size, i.bytes)) = some (some (.int .i64 0), 1, 8) := by kernel_rfl
theorem W_slices_Grow_nil {W : World} {n : Nat} (hn : n ≤ 1099511627776) : Calls Tryz.prog 54 [.slice none 0 0, .int .i64 (n : Int)].toArray W (Ret fun u w' => ∃ b : Int, Ow Rp.int 2 true w' [] b u [] ∧ Zn W b ∧ Ext W w') := by
  rcases Nat.eq_zero_or_pos n with rfl | hpos
  · refine (Any8.slices_Grow_room Gro.int64 none 0 0 0 W (by omega) (by omega) (by omega) (by omega)).mono ?_
    rintro e w' ⟨rfl, rfl⟩
    exact ⟨_, rfl, -1, Ow.nil (by omega), .inl (by omega), Chg.refl _ _⟩
  · obtain ⟨i0, hi, hz0, hz1, hz2⟩ := info_parts info_gro
    refine (Any8.slices_Grow_grow Gro.int64 i0 (.int .i64 0) hi hz0 (by omega) none 0 0 n [] W (by omega) (by omega) (by rw [hz2]; omega) (by omega) (by simp) (fun _ => rfl) (fun a h => by cases h)).mono ?_
    rintro e w' ⟨rfl, rfl⟩
    have hE : Gro.int64_ren.t 25 = 2 := rfl
    rw [hE]
    have hge := grownCap_ge W (0 + n) 0 2
    have hle := grownCap_le_maxLen W (0 + n) 0 2 (by simp only [maxLen]; omega)
    generalize grownCap W (0 + n) 0 2 = G at *
    refine ⟨_, rfl, W.heap.size, ow_ints (r := []) (heap_alloc_new _ _) ?_ (Nat.zero_le _) hle (fun j hj => by cases hj) (fun x hx => by cases hx), .inr (by omega), (Ext.drew W).trans (Ext.alloc _ _)⟩
    rw [Array.size_append, Array.size_append, zeros_size, zeros_size]; simp; omega
theorem W_slices_Grow_int64 {W : World} (ha0 : Ro Rp.int W [] (.slice none 0 0) ([] : List Int)) {a1 : Int} (hI : InI a1) {r : List Int} (hF : F_slices_Grow_int64 [] a1 = some r) :
    Calls Tryz.prog 54 [.slice none 0 0, .int .i64 a1].toArray W (Ret fun u w' => ∃ (b_u : Int), Ow Rp.int 2 true w' [] b_u u r ∧ Zn W b_u ∧ Ext W w') := by
  unfold F_slices_Grow_int64 at hF
  split at hF
  case isFalse => cases hF
  rename_i h
  obtain rfl := Option.some.inj hF
  obtain ⟨n, rfl⟩ := Int.eq_ofNat_of_zero_le h.1
  exact W_slices_Grow_nil (by omega)
end Go.Proofs.YtmaaloijdjnblaaGreatDoor
