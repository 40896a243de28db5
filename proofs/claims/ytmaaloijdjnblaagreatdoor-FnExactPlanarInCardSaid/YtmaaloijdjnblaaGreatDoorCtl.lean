/- Control: sequences, branches, loops with a fuel, a function's head and end; regions that draw their order. Of whatever program. -/
import Derived.Test.YtmaaloijdjnblaaGreatDoorOwn
namespace Go.Proofs.YtmaaloijdjnblaaGreatDoor
open Go Go.RowKit

section
variable {P : Program} {Q : Exit → Act → World → Prop} {a : Act} {w : World} {N : Nat} {σ : Slots}

def LQ (id : Nat) (J : Act → World → Prop) (K : Act → World → Prop) (Q : Exit → Act → World → Prop) : Exit → Act → World → Prop
  | .normal, a, w => K a w
  | .exit i, a, w => if i = id then J a w else Q (.exit i) a w
  | e, a, w => Q e a w
def SQ (J : Act → World → Prop) (Q : Exit → Act → World → Prop) : Exit → Act → World → Prop
  | .normal, a, w => J a w
  | e, a, w => Q e a w

theorem e_then {K : Act → World → Prop} (h : K a w) : Exit.then K Q .normal a w := h
theorem e_then_exit {K : Act → World → Prop} {i : Nat} (h : Q (.exit i) a w) : Exit.then K Q (.exit i) a w := h
theorem e_then_ret {K : Act → World → Prop} (h : Q .ret a w) : Exit.then K Q .ret a w := h
theorem e_blk {id : Nat} (h : Q .normal a w) : Exit.inBlock id Q .normal a w := h
theorem e_blk_eq {id : Nat} (h : Q .normal a w) : Exit.inBlock id Q (.exit id) a w := by simp only [Exit.inBlock, if_true]; exact h
theorem e_blk_ne {id i : Nat} (hne : (i == id) = false) (h : Q (.exit i) a w) : Exit.inBlock id Q (.exit i) a w := by
  have : ¬ i = id := by simpa using hne
  simp only [Exit.inBlock, if_neg this]; exact h
theorem e_blk_ret {id : Nat} (h : Q .ret a w) : Exit.inBlock id Q .ret a w := h
theorem e_lq {id : Nat} {J K : Act → World → Prop} (h : K a w) : LQ id J K Q .normal a w := h
theorem e_lq_eq {id : Nat} {J K : Act → World → Prop} (h : J a w) : LQ id J K Q (.exit id) a w := by simp only [LQ, if_true]; exact h
theorem e_lq_ret {id : Nat} {J K : Act → World → Prop} (h : Q .ret a w) : LQ id J K Q .ret a w := h
theorem e_sq {J : Act → World → Prop} (h : J a w) : SQ J Q .normal a w := h
theorem c_cond {c : Operand} {x y : Code} {b : Bool} (p : Prop) (ha : Fr N σ a) (hc : ev σ c = some (.bool b)) (hb : b = true ↔ p)
    (ht : p → x.wp P Q a w) (hf : ¬ p → y.wp P Q a w) : (Code.cond c x y).wp P Q a w := by
  cases b with
  | true => exact wp_cond_true (ha.eq hc) (ht (hb.1 rfl))
  | false => exact wp_cond_false (ha.eq hc) (hf (fun h => Bool.noConfusion (hb.2 h)))
theorem c_true {c : Operand} {x y : Code} (ha : Fr N σ a) (hc : ev σ c = some (.bool true)) (h : x.wp P Q a w) : (Code.cond c x y).wp P Q a w := wp_cond_true (ha.eq hc) h
theorem c_false {c : Operand} {x y : Code} (ha : Fr N σ a) (hc : ev σ c = some (.bool false)) (h : y.wp P Q a w) : (Code.cond c x y).wp P Q a w := wp_cond_false (ha.eq hc) h
theorem s_cut {x y : Code} (J : Act → World → Prop) (hx : x.wp P (SQ J Q) a w) (hy : ∀ a w, J a w → y.wp P Q a w) : (Code.seq x y).wp P Q a w :=
  wp_seq (Code.wp_mono (fun e a w h => by cases e <;> first | exact hy _ _ h | exact h) hx)
theorem c_loop {id : Nat} {c : Code} (J : Act → World → Prop) (I : Nat → Act → World → Prop) (n0 : Nat) (h0 : I n0 a w)
    (round : ∀ n a w, I n a w → c.wp P (LQ id J (fun a w => ∃ m, m < n ∧ I m a w) Q) a w) (hJ : ∀ a w, J a w → Q .normal a w) : (Code.block id (.loop c)).wp P Q a w := by
  refine wp_block ?_
  have key : ∀ n a w, I n a w → (Code.loop c).wp P (Exit.inBlock id Q) a w := by
    intro n a w hI
    refine wp_loop (fun a w => ∃ m, I m a w) (fun a w => sInf' (fun m => I m a w)) ⟨n, hI⟩ ?_
    intro a w ⟨m, hm⟩
    have hmin := sInf'_mem (fun m => I m a w) ⟨m, hm⟩
    refine Code.wp_mono ?_ (round _ a w hmin)
    intro e a' w' h
    cases e with
    | normal => obtain ⟨k, hk, hIk⟩ := h; exact ⟨⟨k, hIk⟩, Nat.lt_of_le_of_lt (sInf'_le (fun m => I m a' w') hIk) hk⟩
    | exit i =>
      simp only [LQ] at h
      show Exit.inBlock id Q (.exit i) a' w'
      simp only [Exit.inBlock]
      split at h
      · rename_i hi; rw [if_pos hi]; exact hJ _ _ h
      · rename_i hi; rw [if_neg hi]; exact h
    | goto l => exact h
    | ret => exact h
    | panic ch => exact h
    | outgrown => exact h
  exact key n0 a w h0

def argSlots : Nat → List Value → Slots
  | _, [] => []
  | i, v :: r => (i, v) :: argSlots (i + 1) r
theorem argSlots_lookup : ∀ (l : List Value) (i t : Nat) (v : Value), lk (argSlots i l) t = some v → i ≤ t ∧ l[t - i]? = some v
  | [], _, _, _, h => by cases h
  | u :: r, i, t, v, h => by
    rcases lk_cons h with ⟨rfl, rfl⟩ | ⟨e, h⟩
    · simp
    · obtain ⟨h1, h2⟩ := argSlots_lookup r (i + 1) t v h
      refine ⟨by omega, ?_⟩
      rw [show t - i = (t - (i + 1)) + 1 by omega]; simpa using h2
theorem f_enter {f : FuncId} {fn : Func} {c : Code} {args : List Value} {R : Ending → World → Prop} (hf : P.funcs[f]? = some fn) (hb : fn.body = some c) (hn : fn.ntmps = N) (hl : Nat.ble args.length N = true)
    (h : ∀ a, Fr N (argSlots 0 args) a → c.wp P (bodyPost P fn R) a w) : Calls P f args.toArray w R := by
  refine calls_of_wp hf hb (h _ ⟨?_, rfl, fun t v ht => ?_⟩)
  · have := Nat.le_of_ble_eq_true hl
    simp [hn]; omega
  · obtain ⟨_, h2⟩ := argSlots_lookup _ _ _ _ ht
    simp only [Nat.sub_zero] at h2
    have hlt := (List.getElem?_eq_some_iff.1 h2).1
    have h3 := (List.getElem?_eq_some_iff.1 h2).2
    simp [Array.getElem?_append, hlt, h3]
theorem f_ret1 {fn : Func} {t : Nat} {v : Value} {R : Value → World → Prop} (ha : Fr N σ a) (hr : fn.results = #[.tmp t]) (hv : lk σ t = some v) (h : R v w) : bodyPost P fn (Ret R) .ret a w := by
  refine bodyPost_ret (v := v) ?_ ha.defers ⟨v, rfl, h⟩
  rw [results_tmp hr]; simp [Array.getD_eq_getD_getElem?, ha.get t v hv]
theorem f_ret2 {fn : Func} {t u : Nat} {v v' : Value} {R : Value → World → Prop} (ha : Fr N σ a) (hr : fn.results = #[.tmp t, .tmp u]) (hv : lk σ t = some v) (hv' : lk σ u = some v')
    (h : R (.tuple #[v, v']) w) : bodyPost P fn (Ret R) .ret a w := by
  refine bodyPost_ret (v := .tuple #[v, v']) ?_ ha.defers ⟨_, rfl, h⟩
  rw [results_tmp2 hr]; simp [Array.getD_eq_getD_getElem?, ha.get t v hv, ha.get u v' hv']
theorem f_ret0 {fn : Func} {R : Value → World → Prop} (ha : Fr N σ a) (hr : fn.results = #[]) (h : R (.tuple #[]) w) : bodyPost P fn (Ret R) .ret a w := by
  exact bodyPost_ret (v := .tuple #[]) (results_none hr _ _ _) ha.defers ⟨_, rfl, h⟩
theorem f_end0 {fn : Func} {R : Value → World → Prop} (ha : Fr N σ a) (hr : fn.results = #[]) (h : R (.tuple #[]) w) : bodyPost P fn (Ret R) .normal a w := by
  exact bodyPost_end (v := .tuple #[]) (results_none hr _ _ _) ha.defers ⟨_, rfl, h⟩
theorem f_retC {fn : Func} {t T b : Nat} {cs : List Value} {e : TypeId} {R : Value → World → Prop} (ha : Fr N σ a) (hr : fn.results = #[.cell t T]) (hv : lk σ t = some (.pointer (some ⟨b, 0, none⟩)))
    (hag : ∀ w, (isAgg T).run P w = .ok true w) (hsz : ∀ w, (sizeOf T).run P w = .ok cs.length w) (hB : Bx w b cs e) (h : R (.agg cs.toArray) w) : bodyPost P fn (Ret R) .ret a w := by
  refine bodyPost_ret (v := .agg cs.toArray) ?_ ha.defers ⟨_, rfl, h⟩
  have hl := run_loadCells_list (P := P) w ⟨b, 0, none⟩ cs (fun j v hj => by rw [Addr.add_lit', Nat.zero_add]; exact hB.cell hj)
  simp [results, hr, Array.getD_eq_getD_getElem?, ha.get t _ hv, asAddr, loadVar, hag, hsz, hl]
theorem f_retC2 {fn : Func} {t T b u : Nat} {cs : List Value} {e : TypeId} {v' : Value} {R : Value → World → Prop} (ha : Fr N σ a) (hr : fn.results = #[.cell t T, .tmp u]) (hv : lk σ t = some (.pointer (some ⟨b, 0, none⟩)))
    (hag : ∀ w, (isAgg T).run P w = .ok true w) (hsz : ∀ w, (sizeOf T).run P w = .ok cs.length w) (hB : Bx w b cs e) (hv' : lk σ u = some v')
    (h : R (.tuple #[.agg cs.toArray, v']) w) : bodyPost P fn (Ret R) .ret a w := by
  refine bodyPost_ret (v := .tuple #[.agg cs.toArray, v']) ?_ ha.defers ⟨_, rfl, h⟩
  have hl := run_loadCells_list (P := P) w ⟨b, 0, none⟩ cs (fun j v hj => by rw [Addr.add_lit', Nat.zero_add]; exact hB.cell hj)
  simp [results, hr, Array.getD_eq_getD_getElem?, ha.get t _ hv, ha.get u _ hv', asAddr, loadVar, hag, hsz, hl]
end
end Go.Proofs.YtmaaloijdjnblaaGreatDoor
