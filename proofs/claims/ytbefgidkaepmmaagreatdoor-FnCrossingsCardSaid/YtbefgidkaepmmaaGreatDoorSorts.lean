/- slices.Values, slices.Collect and slices.Sort at lists of numbers: what they give. The values come in their order; a list sorted is the list merge-sorted. -/
import Derived.RangeFuncBox
import Derived.RangeFuncLeaves
import Derived.Shelf.Abstract
import Derived.WalkKit
import Derived.OwnWalkIn
import Derived.TacticsInMore
import Derived.LoopNIn
import Derived.LoopIn
import Derived.Maps.AppendAt
import Derived.Shelf.SortM.Plain
import Derived.Shelf.SortM.SortNone
import Derived.Sort.OwnSortedInts
import Derived.Test.YtbefgidkaepmmaaGreatDoorF
import Derived.Test.YtbefgidkaepmmaaGreatDoorDeep
import Derived.Test.YtbefgidkaepmmaaGreatDoorProg
import Derived.Test.YtbefgidkaepmmaaGreatDoorLays
namespace Go.Proofs.YtbefgidkaepmmaaGreatDoor
open Go Go.RowKit Go.Shelf Go.Sort

/-- the first k values -/
def upto {α : Type} (f : Nat → α) (k : Nat) : List α := (List.range k).map f
theorem upto_succ {α : Type} (f : Nat → α) (k : Nat) : upto f (k + 1) = upto f k ++ [f k] := by simp [upto, List.range_succ]
theorem upto_len {α : Type} (f : Nat → α) (k : Nat) : (upto f k).length = k := by simp [upto]
theorem upto_all (zs : List Int) : upto (fun j => zs[j]?.getD 0) zs.length = zs := by
  apply List.ext_getElem
  · simp [upto]
  · intro i h1 h2
    simp [upto, h2]
theorem upto_take (zs : List Int) {k : Nat} (hk : k ≤ zs.length) : upto (fun j => zs[j]?.getD 0) k = zs.take k := by
  apply List.ext_getElem
  · simp [upto, hk]
  · intro i h1 h2
    have : i < zs.length := by simp [upto] at h1; omega
    simp [upto, this]
/-- the slice value sv holds the numbers zs, in a block below n₀; or it has none -/
def Ints (n₀ : Nat) (W : World) (sv : Value) (zs : List Int) : Prop :=
  (∃ a cap, sv = .slice a 0 cap ∧ zs = []) ∨ ∃ b off cap, sv = .slice (some ⟨b, off, none⟩) zs.length cap ∧ b < n₀ ∧ ∀ j, j < zs.length → W.cell? ⟨b, off + j, none⟩ = some (.int .i64 (zs[j]?.getD 0))
theorem Ints.below {n₀ : Nat} {A B : World} (h : Below n₀ A B) {sv : Value} {zs : List Int} : Ints n₀ A sv zs → Ints n₀ B sv zs
  | .inl e => .inl e
  | .inr ⟨b, off, cap, e, hb, hc⟩ => .inr ⟨b, off, cap, e, hb, fun j hj => (h.cell (p := ⟨b, off + j, none⟩) hb).trans (hc j hj)⟩
theorem repL_ints {o : Bool} {w : World} : ∀ {xs : List Int} {fp cs}, RepL Rp.int o w fp cs xs → cs = xs.map (Value.int .i64) ∧ fp = [] ∧ ∀ x ∈ xs, InI x
  | [], _, _, ⟨h1, h2⟩ => ⟨h2, h1, fun x hx => by cases hx⟩
  | x :: xs, _, _, ⟨f, fs, c, cs', hf, hc, hx, hr⟩ => by
    obtain ⟨h1, h2, h3⟩ := hx
    obtain ⟨k1, k2, k3⟩ := repL_ints hr
    subst h1 h3 k1 k2
    refine ⟨by rw [hc]; rfl, by rw [hf]; rfl, fun y hy => ?_⟩
    rcases List.mem_cons.1 hy with e | e
    · rw [e]; exact h2
    · exact k3 y e
theorem repL_mk {o : Bool} {w : World} : ∀ {xs : List Int}, (∀ x ∈ xs, InI x) → RepL Rp.int o w [] (xs.map (Value.int .i64)) xs
  | [], _ => ⟨rfl, rfl⟩
  | x :: xs, h => ⟨[], [], [.int .i64 x], _, rfl, rfl, ⟨rfl, h x (List.mem_cons_self ..), rfl⟩, repL_mk fun y hy => h y (List.mem_cons_of_mem _ hy)⟩
theorem Ro.ints {w : World} {fp : List Nat} {v : Value} {xs : List Int} (h : Ro Rp.int w fp v xs) : Ints w.heap.size w v xs ∧ ∀ x ∈ xs, InI x := by
  obtain ⟨a, cap, hv, hl, ⟨hx, hf⟩ | ⟨b, off, cs, fs, ha, hf, hb, hat, hr⟩⟩ := h
  · subst hx
    exact ⟨.inl ⟨a, cap, hv, rfl⟩, fun x hx => by cases hx⟩
  · obtain ⟨rfl, rfl, hI⟩ := repL_ints hr
    refine ⟨.inr ⟨b, off, cap, by rw [hv, ha], hb, fun j hj => ?_⟩, hI⟩
    have := hat j (.int .i64 (xs[j]?.getD 0)) (by simp [hj])
    rwa [Addr.add_lit'] at this
/-- a row of the call's own is an owned slice -/
theorem ow_of_row {w0 w : World} {E : TypeId} {v : Value} {xs : List Int} (h : w.ownsRow w0.heap.size E 1 v xs.length (xs.map (Value.int .i64))) (hI : ∀ x ∈ xs, InI x) : ∃ b : Int, Ow Rp.int E true w [] b v xs ∧ Zn w0 b := by
  rcases h.2 with ⟨rfl, h0⟩ | ⟨g, cap, cur, rfl, hb, hg, h1, h2, h3, h4⟩
  · exact ⟨-1, .inl ⟨by omega, rfl, List.length_eq_zero_iff.1 h0, rfl⟩, .inl (by omega)⟩
  · refine ⟨(g : Int), .inr ⟨g, cap, cur, _, rfl, rfl, hg, h1, h2, h3, h4, repL_mk hI, fun k hk => by cases hk⟩, .inr (by omega)⟩
theorem ow_row {w : World} {E : TypeId} {b : Int} {v : Value} {xs : List Int} (h : Ow Rp.int E true w [] b v xs) : (∀ x ∈ xs, InI x) ∧ ((b < 0 ∧ v = .slice none 0 0 ∧ xs = []) ∨
    ∃ (g cap : Nat) (cur : Array Value), b = (g : Int) ∧ v = .slice (some ⟨g, 0, none⟩) xs.length cap ∧ w.heap[g]? = some (.cells cur E (0, 0)) ∧ xs.length ≤ cap ∧ cap ≤ maxLen ∧ cur.size = cap * 1 ∧ cur.toList.take (xs.length * 1) = xs.map (Value.int .i64)) := by
  rcases h with ⟨h1, h2, rfl, _⟩ | ⟨g, cap, cur, cs, hb, hv, hg, h1, h2, h3, h4, hr, _⟩
  · exact ⟨fun x hx => (by cases hx), .inl ⟨h1, h2, rfl⟩⟩
  · obtain ⟨rfl, _, hI⟩ := repL_ints hr
    exact ⟨hI, .inr ⟨g, cap, cur, hb, hv, hg, h1, h2, h3, h4⟩⟩
theorem below_ext {w w' : World} (h : Below w.heap.size w w') : Ext w w' := ⟨h.os, h.tape, h.output, h.size, fun k hk _ => h.block k hk⟩
theorem mem_msort {x : Int} {xs : List Int} : x ∈ xs.mergeSort (fun x y => decide (x ≤ y)) ↔ x ∈ xs := (List.mergeSort_perm xs _).mem_iff

/-! ## int64 -/
theorem infoint64 : (Tryz.prog.info? 2).map (fun i => (i.zero, i.size, i.bytes)) = some (some (.int .i64 0), 1, 8) := by kernel_rfl
set_option maxRecDepth 100000 in
set_option maxHeartbeats 2000000 in
theorem values1_int64 (F : Fence) (n : Nat) (h7 : F.fn 70) (hro : F.round = none) (hn : 1 ≤ n) (l Bs n₀ b off len cap : Nat) (zs : List Int) (hreach : len * 8 ≤ 140737488351232) (hb : b < n₀) (J Jx : List Int → World → Prop)
    (hY : ∀ pre x W, J pre W → pre.length < len → YieldAt F (n - 1) Tryz.prog l #[.int .i64 x] W fun e W' =>
      (e = .returned (.bool true) ∧ J (pre ++ [x]) W' ∧ Below n₀ W W') ∨ (e = .returned (.bool false) ∧ Jx (pre ++ [x]) W'))
    (W : World) (hBs : W.cell? ⟨Bs, 0, none⟩ = some (.slice (some ⟨b, off, none⟩) len cap)) (hc : ∀ j, j < len → W.cell? ⟨b, off + j, none⟩ = some (.int .i64 (zs[j]?.getD 0))) (h0 : J [] W) :
    CallsIn F n Tryz.prog 70 #[.func (.yield l) #[] #[], .pointer (some ⟨Bs, 0, none⟩)] W fun e W' => (∃ v, e = .returned v) ∧
      ((∃ ys, ys = upto (fun j => zs[j]?.getD 0) len ∧ J ys W') ∨ (∃ pre, (∃ k, k ≤ len ∧ pre = upto (fun j => zs[j]?.getD 0) k) ∧ Jx pre W')) := by
  refine callsIn_of_wp Tryz.func70 rfl h7 ?_ hro
  simp only [Tryz.ntmps70, List.size_toArray, List.length_cons, List.length_nil, Nat.reduceAdd, Nat.reduceSub, Array.replicate_succ, Array.replicate_zero, List.push_toArray, List.append_toArray, List.nil_append, List.cons_append]
  gi_wp2
  gi_loopw [7] (fun i wr => ∃ k : Nat, k ≤ len ∧ i = .int .i64 k ∧ J (upto (fun j => zs[j]?.getD 0) k) wr ∧ Below n₀ W wr)
    (fun i _ => len - (intOf i).toNat)
  case atStart => exact ⟨0, Nat.zero_le _, rfl, h0, Below.refl _ _⟩
  case round =>
    obtain ⟨k, hk, rfl, hJs, hnx⟩ := hrel
    have hcx : k < len → wr.cell? ⟨b, off + k, none⟩ = some (.int .i64 (zs[k]?.getD 0)) := fun h => (hnx.cell (p := ⟨b, off + k, none⟩) hb).trans (hc k h)
    by_cases hlt : k < len
    · obtain ⟨fn, tmps, assign, body, hy, hR⟩ := hY _ (zs[k]?.getD 0) wr hJs (by rw [upto_len]; exact hlt)
      have hcx' := hcx hlt
      gi_wp2
      refine hR.mono ?_
      rintro e W3 (⟨rfl, hJ3, hk3⟩ | ⟨rfl, hJx3⟩)
      · gi_wp2
        go_roundw
        case rel => exact ⟨k + 1, by omega, by simp, by rw [upto_succ]; exact hJ3, hnx.trans hk3⟩
        case measure => simp [intOf]; omega
      · gi_wp2
        refine bodyPost_ret (results_none rfl _ _ _) rfl ?_
        exact ⟨⟨_, rfl⟩, .inr ⟨_, ⟨k + 1, by omega, (upto_succ _ _).symm⟩, hJx3⟩⟩
    · obtain rfl : k = len := by omega
      gi_wp2
      go_end0
      exact ⟨⟨_, rfl⟩, .inl ⟨_, rfl, hJs⟩⟩
set_option maxRecDepth 100000 in
set_option maxHeartbeats 1000000 in
theorem values0_int64 (F : Fence) (n : Nat) (h7 : F.fn 70) (hro : F.round = none) (l Bs : Nat) (a : Option Addr) (cap : Nat) (J : List Int → World → Prop) (W : World) (hBs : W.cell? ⟨Bs, 0, none⟩ = some (.slice a 0 cap)) (h0 : J [] W) :
    CallsIn F n Tryz.prog 70 #[.func (.yield l) #[] #[], .pointer (some ⟨Bs, 0, none⟩)] W fun e W' => (∃ v, e = .returned v) ∧ J [] W' := by
  refine callsIn_of_wp Tryz.func70 rfl h7 ?_ hro
  simp only [Tryz.ntmps70, List.size_toArray, List.length_cons, List.length_nil, Nat.reduceAdd, Nat.reduceSub, Array.replicate_succ, Array.replicate_zero, List.push_toArray, List.append_toArray, List.nil_append, List.cons_append]
  gi_wp2
  gi_loopw [7] (fun i wr => i = .int .i64 0 ∧ J [] wr) (fun _ _ => 0)
  case atStart => exact ⟨rfl, h0⟩
  case round =>
    obtain ⟨rfl, hJs⟩ := hrel
    gi_wp2
    go_end0
    exact ⟨⟨_, rfl⟩, hJs⟩
set_option maxHeartbeats 1000000 in
theorem values_int64 (F : Fence) (n : Nat) (h5 : F.fn 45) (hro : F.round = none) (a : Option Addr) (len cap : Nat) (w : World) :
    CallsIn F n Tryz.prog 45 #[.slice a len cap] w fun e w' => e = .returned (.func (.func 70) #[] #[.pointer (some ⟨w.heap.size, 0, none⟩)]) ∧ w' = w.alloc (.cells #[.slice a len cap] 27) := by
  refine callsIn_of_wp Tryz.func45 rfl h5 ?_ hro
  simp only [Tryz.ntmps45, List.size_toArray, List.length_cons, List.length_nil, Nat.reduceAdd, Nat.reduceSub, Array.replicate_succ, Array.replicate_zero, List.push_toArray, List.append_toArray, List.nil_append, List.cons_append]
  gi_wp2
  go_ret
  exact ⟨rfl, rfl⟩
theorem stops_int64 (F : Fence) (n : Nat) (h7 : F.fn 70) (hro : F.round = none) (hn : 1 ≤ n) (Bs n₀ : Nat) (sv : Value) (zs : List Int) (hreach : zs.length * 8 ≤ 140737488351232) (w : World) (hBs : Bs < w.heap.size) (hn₀ : n₀ ≤ w.heap.size)
    (hc : w.cell? ⟨Bs, 0, none⟩ = some sv) (hI : Ints n₀ w sv zs) :
    SeqStopsK F n Tryz.prog 70 #[.pointer (some ⟨Bs, 0, none⟩)] (fun x : Int => #[Value.int .i64 x]) (Below n₀) (fun ys => ys = zs) (fun pre => pre <+: zs) zs.length w := fun l J Jx W hW _ _ hY h0 => by
  have hc' := (hW.cell (p := ⟨Bs, 0, none⟩) hBs).trans hc
  rcases hI.below (hW.mono hn₀) with ⟨a, cap, rfl, rfl⟩ | ⟨b, off, cap, rfl, hb, hcs⟩
  · exact (values0_int64 F n h7 hro l Bs a cap J W hc' h0).mono fun e W' ⟨he, hj⟩ => ⟨he, .inl ⟨_, rfl, hj⟩⟩
  · refine (values1_int64 F n h7 hro hn l Bs n₀ b off zs.length cap zs hreach hb J Jx hY W hc' hcs h0).mono ?_
    rintro e W' ⟨he, ⟨ys, rfl, hj⟩ | ⟨pre, ⟨k, hk, rfl⟩, hj⟩⟩
    · exact ⟨he, .inl ⟨_, upto_all zs, hj⟩⟩
    · exact ⟨he, .inr ⟨_, by rw [upto_take zs hk]; exact List.take_prefix _ _, hj⟩⟩
set_option maxRecDepth 100000 in
set_option maxHeartbeats 2000000 in
theorem appendSeq_int64 (F : Fence) (n : Nat) (h3 : F.fn 85) (h5 : F.fn 70) (hro : F.round = none) (hn : 3 ≤ n) (Bs : Nat) (sv : Value) (zs : List Int) (hlen : zs.length ≤ 1099511627776) (w : World) (hBs : Bs < w.heap.size) (hcs : w.cell? ⟨Bs, 0, none⟩ = some sv) (hL : Ints w.heap.size w sv zs) :
    CallsIn F n Tryz.prog 85 #[.slice none 0 0, .func (.func 70) #[] #[.pointer (some ⟨Bs, 0, none⟩)]] w fun e W' => ∃ v, e = .returned v ∧ W'.ownsRow w.heap.size 2 1 v zs.length (zs.map (Value.int .i64)) ∧ Below w.heap.size w W' := by
  have h1 : 1 ≤ n := by omega
  obtain ⟨i0, hi, hz0, hz1, hz2⟩ := info_parts infoint64
  refine callsIn_of_wp_marks Tryz.func85 rfl h3 ?_ hro
  simp only [Tryz.ntmps85, List.size_toArray, List.length_cons, List.length_nil, Nat.reduceAdd, Nat.reduceSub, Array.replicate_succ, Array.replicate_zero, List.push_toArray, List.append_toArray, List.nil_append, List.cons_append]
  gi_wp2
  have bO := Boxed.new w 27 (.slice none 0 0)
  have hB0 : Below w.heap.size w (w.alloc (.cells #[.slice none 0 0] 27)) := (Below.refl _ w).alloc (Nat.le_refl _) _
  refine wpIn_rangeFunc_ownG hro h1 (gf := 70) (lb := #[.pointer (some ⟨Bs, 0, none⟩)]) rfl h5 (enters_of Tryz.func70 (by kernel_rfl) rfl)
    (stops_int64 F (n - 1) h5 hro (by omega) Bs w.heap.size sv zs (by omega) _ (by simp; omega) (by simp) ((hB0.cell (p := ⟨Bs, 0, none⟩) hBs).trans hcs) (hL.below hB0)) belowK_t (belowK_b (by simp)) (Below.refl _ _) (fun _ => rfl)
    (fun (pre : List Int) W => (∃ v, Boxed W w.heap.size 27 v ∧ W.ownsRow w.heap.size 2 1 v pre.length (pre.map (Value.int .i64)) ∧ True) ∧ Below w.heap.size w W)
    (fun _ _ _ => False)
    (OwnFrom.and (Own.from (holdsRow_own w.heap.size w.heap.size 27 2 1 (fun (pre : List Int) => pre.length) (fun (pre : List Int) => pre.map (Value.int .i64)) (fun _ _ => True)) _) (ownFrom_below (Nat.le_refl _) (by simp)))
    (fun _ _ _ _ _ hs _ _ => hs)
    ⟨⟨_, bO, World.ownsRow_nil _ _ _ _, trivial⟩, hB0⟩
    (fun x => { tmps := #[.slice none 0 0, .func (.func 70) #[] #[.pointer (some ⟨Bs, 0, none⟩)], .pointer (some ⟨w.heap.size, 0, none⟩), undef, .slice none 0 0, .int .i64 x, .func (.func 70) #[] #[.pointer (some ⟨Bs, 0, none⟩)], .int .i64 x, undef, undef, undef, undef, undef], defers := [] }) ?assign ?body ?done ?stop
  case assign =>
    intro l x W K hK
    gi_wp2_with (rw [Oper.semAt_eq _ _ _ (fun c h => by cases h)]; go_simp; try go_bits)
    exact hK
  case body =>
    rintro l pre x W ⟨⟨v, hv, hrow, _⟩, hB⟩ hlt
    have hc := hv.cell
    gi_wp2_with (first | (gi_at_builtin; refine wpListIn_append_own _ rfl _ _ 27 rfl w.heap.size 2 i0 (.int .i64 0) 1 8 Tryz.underlying27 hi hz0 hz1 hz2 rfl (by decide) _ _ _ rfl (hrow.alloc _) ⟨W.heap.size, 0, none⟩ 1 1 [.int .i64 x] rfl rfl (cell_one_new _ _ _) (by simp [Value.oneCell']) (by unfold maxLen; omega) (by omega) (by have := hB.size; simp; omega) ?_; intro v' w1 hown' hgrow _; obtain ⟨g', cap', rfl⟩ := ownsRow_succ hown'; obtain ⟨hv1, hv2, hr2, hk2, hb2⟩ := hv.appended (by decide) hrow hB.size (Nat.le_refl _) hown' hgrow; have hc1 := hv1.cell; have hf1 := hv1.frozen) | (rw [Oper.semAt_eq _ _ _ (fun c h => by cases h)]; go_simp; try go_bits))
    exact ⟨hk2.from _, hb2, ⟨_, hv2, by simpa using hr2, trivial⟩, hB.trans hb2⟩
  case done =>
    rintro D ys W hD rfl ⟨⟨v, hv, hrow, _⟩, hB⟩ hK
    have hc := hv.cell
    gi_wp2
    refine ⟨by simp, .inl ⟨_, _, rfl, run_takeDeferred hK, ?_⟩⟩
    exact ⟨_, results_tmp rfl _ _ _, v, rfl, ownsRow_putObj hrow _ hK rfl, hB.trans (belowK_b (w := w) (Nat.le_refl _) W D _ _ (by simp at hD; omega) hK rfl rfl)⟩
  case stop =>
    rintro D c pre W _ _ h _
    exact h.elim
set_option maxHeartbeats 1000000 in
theorem collect_int64 (F : Fence) (n : Nat) (h8 : F.fn 68) (h3 : F.fn 85) (h5 : F.fn 70) (hro : F.round = none) (hn : 4 ≤ n) (Bs : Nat) (sv : Value) (zs : List Int) (hlen : zs.length ≤ 1099511627776) (w : World) (hBs : Bs < w.heap.size) (hcs : w.cell? ⟨Bs, 0, none⟩ = some sv) (hL : Ints w.heap.size w sv zs) :
    CallsIn F n Tryz.prog 68 #[.func (.func 70) #[] #[.pointer (some ⟨Bs, 0, none⟩)]] w fun e W' => ∃ v, e = .returned v ∧ W'.ownsRow w.heap.size 2 1 v zs.length (zs.map (Value.int .i64)) ∧ Below w.heap.size w W' := by
  have h1 : 1 ≤ n := by omega
  refine callsIn_of_wp Tryz.func68 rfl h8 ?_ hro
  simp only [Tryz.ntmps68, List.size_toArray, List.length_cons, List.length_nil, Nat.reduceAdd, Nat.reduceSub, Array.replicate_succ, Array.replicate_zero, List.push_toArray, List.append_toArray, List.nil_append, List.cons_append]
  gi_wp2_with (gi_at_call 85; refine (appendSeq_int64 F (n - 1) h3 h5 hro (by omega) Bs sv zs hlen _ hBs hcs hL).mono ?_; rintro e w' ⟨v, rfl, hrow, hb⟩)
  go_ret
  exact ⟨v, rfl, hrow, hb⟩
/-- a sequence: the value that slices.Values gives, and what it will give -/
def Seq2 (w : World) (u : Value) (xs : List Int) : Prop := ∃ (Bs : Nat) (sv : Value), u = .func (.func 70) #[] #[.pointer (some ⟨Bs, 0, none⟩)] ∧ Bs < w.heap.size ∧ w.cell? ⟨Bs, 0, none⟩ = some sv ∧ Ints w.heap.size w sv xs ∧ ∀ x ∈ xs, InI x
theorem W_slices_Values_int64 {W : World} {va0 : Value} {fa0 : List Nat} {a0 : (List Int)} (ha0 : Ro Rp.int W fa0 va0 a0) {r : (List Int)} (hF : F_slices_Values_int64 a0 = some r) :
    Calls Tryz.prog 45 [va0].toArray W (Ret fun u w' => Seq2 w' u r ∧ Ext W w') := by
  obtain rfl : a0 = r := Option.some.inj hF
  obtain ⟨hI, hN⟩ := ha0.ints
  obtain ⟨a, cap, hv, _⟩ := ha0
  subst hv
  refine callsIn_wide.1 ((values_int64 Fence.wide 5 trivial rfl a _ cap W).mono ?_)
  rintro e w' ⟨rfl, rfl⟩
  refine ⟨_, rfl, ⟨W.heap.size, .slice a a0.length cap, rfl, by simp, by simp, ?_, hN⟩, Ext.alloc _ _⟩
  have hb := (Ext.alloc W (.cells #[.slice a a0.length cap] 27)).below
  rcases hI with h | ⟨b, off, cap', h1, h2, h3⟩
  · exact .inl h
  · exact .inr ⟨b, off, cap', h1, Nat.lt_of_lt_of_le h2 hb.size, fun j hj => (hb.cell (p := ⟨b, off + j, none⟩) h2).trans (h3 j hj)⟩
theorem W_slices_Collect_int64 {W : World} {va0 : Value} {a0 : (List Int)} (ha0 : Seq2 W va0 a0) {r : (List Int)} (hF : F_slices_Collect_int64 a0 = some r) :
    Calls Tryz.prog 68 [va0].toArray W (Ret fun u w' => ∃ (b_u : Int), Ow Rp.int 2 true w' [] b_u u r ∧ Zn W b_u ∧ Ext W w') := by
  unfold F_slices_Collect_int64 at hF
  split at hF
  case isFalse => cases hF
  rename_i hl
  obtain rfl : a0 = r := Option.some.inj hF
  obtain ⟨Bs, sv, rfl, hBs, hc, hI, hN⟩ := ha0
  refine callsIn_wide.1 ((collect_int64 Fence.wide 5 trivial trivial trivial rfl (by omega) Bs sv a0 (by omega) W hBs hc hI).mono ?_)
  rintro e w' ⟨v, rfl, hrow, hb⟩
  obtain ⟨b, h1, h2⟩ := ow_of_row hrow hN
  exact ⟨v, rfl, b, h1, h2, below_ext hb⟩
theorem W_slices_Sort_int64 {W : World} {va0 : Value} {ba0 : Int} {a0 : (List Int)} (ha0 : Ow Rp.int 2 true W [] ba0 va0 a0) {r : (List Int)} (hF : F_slices_Sort_int64 a0 = some r) :
    Calls Tryz.prog 69 [va0].toArray W (Ret fun u w' => u = .tuple #[] ∧ Ow Rp.int 2 true w' [] ba0 va0 r ∧ Chg (bl ba0) W w') := by
  unfold F_slices_Sort_int64 at hF
  split at hF
  case isFalse => cases hF
  rename_i hl
  obtain rfl : a0.mergeSort (fun x y => decide (x ≤ y)) = r := Option.some.inj hF
  obtain ⟨hN, ⟨hb, rfl, rfl⟩ | ⟨g, cap, cur, rfl, rfl, hg, h1, h2, h3, h4⟩⟩ := ow_row ha0
  · refine (AnyM.slices_Sort_int_none Srt.int64 none 0 W).mono ?_
    rintro e w' ⟨rfl, rfl⟩
    exact ⟨_, rfl, rfl, by simpa using ha0, Chg.refl _ _⟩
  · refine (AnyM.slices_Sort_int Srt.int64 g 0 cap a0 W (holds_of_blockI hg (by simpa using h4)) (lt_size hg) (by omega)).mono ?_
    rintro e w' ⟨rfl, k, os, rfl⟩
    have hle : (a0.mergeSort (fun x y => decide (x ≤ y))).length = a0.length := List.length_mergeSort ..
    have hr := ownsRow_sortedI (n := k) (os := os) hle (Nat.zero_le g) hg h1 h2 h3
    refine ⟨_, rfl, rfl, ?_, ?_⟩
    · rcases hr.2 with ⟨h, _⟩ | ⟨g', cap', cur', hv, _, hg', q1, q2, q3, q4⟩
      · cases h
      · cases hv
        refine .inr ⟨g, cap, cur', _, rfl, by rw [hle], hg', by rw [hle]; exact q1, q2, q3, by rw [hle]; exact q4, repL_mk fun x hx => hN x (mem_msort.1 hx), fun k hk => by cases hk⟩
    · have := Chg.of_grown (grownBy_sortedI (w := W) (g := g) (n := k) (os := os) (a0.mergeSort fun x y => decide (x ≤ y)).toArray)
      simpa [bl] using this
end Go.Proofs.YtbefgidkaepmmaaGreatDoor
