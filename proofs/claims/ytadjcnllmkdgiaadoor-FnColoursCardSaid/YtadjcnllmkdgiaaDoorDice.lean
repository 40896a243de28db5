/- Numbers without a sign of 64 bits, and dice: a block with a slice of bytes, a place and a number. Of whatever program. -/
import Derived.Test.YtadjcnllmkdgiaaDoorDeep
namespace Go.Proofs.YtadjcnllmkdgiaaDoor
open Go Go.RowKit

theorem inU_mod (x : Int) : InU (x % 18446744073709551616) := by unfold InU; omega
theorem inU_u8 (x : BitVec 8) : InU (x.toNat : Int) := by have := x.isLt; unfold InU; omega
theorem inU_and (x y : Int) : InU (((BitVec.ofInt 64 x &&& BitVec.ofInt 64 y).toNat : Int)) := by have := (BitVec.ofInt 64 x &&& BitVec.ofInt 64 y).isLt; unfold InU; omega
theorem inU_shr {x : Int} (h : InU x) (n : Nat) : InU (x / 2 ^ n) := by
  have hp : (0 : Int) < 2 ^ n := Int.pow_pos (by decide)
  unfold InU at *
  have := Int.ediv_nonneg h.1 (Int.le_of_lt hp)
  have := Int.ediv_le_self (2 ^ n) h.1
  omega
section
variable {P : Program} {C : World → Prop} {σ : Slots} {w : World}
theorem g_nilCheck {x : Operand} {p : Addr} (hx : ev σ x = some (.pointer (some p))) : Gives P C σ (.nilCheck x) (.pointer (some p)) :=
  fun N a w ha _ d ty pos af g => by simp [execOp, ha.eq hx]
theorem gu_add {x y : Operand} {m n : Int} {T U : TypeId} (hx : ev σ x = some (.int .u64 m)) (hy : ev σ y = some (.int .u64 n)) : Gives P C σ (.binOp .add T x y U) (.int .u64 ((m + n) % 18446744073709551616)) :=
  fun N a w ha _ d ty pos af g => by
    have e : IntKind.u64.wrap (m + n) = (m + n) % 18446744073709551616 := IntKind.wrap_u64 _
    simp [execOp, ha.eq hx, ha.eq hy, eqGuard, binOp, Op.intArith]
    exact e
theorem gu_mul {x y : Operand} {m n : Int} {T U : TypeId} (hx : ev σ x = some (.int .u64 m)) (hy : ev σ y = some (.int .u64 n)) : Gives P C σ (.binOp .mul T x y U) (.int .u64 ((m * n) % 18446744073709551616)) :=
  fun N a w ha _ d ty pos af g => by
    have e : IntKind.u64.wrap (m * n) = (m * n) % 18446744073709551616 := IntKind.wrap_u64 _
    simp [execOp, ha.eq hx, ha.eq hy, eqGuard, binOp, Op.intArith]
    exact e
theorem gu_and {x y : Operand} {m n : Int} {T U : TypeId} (hx : ev σ x = some (.int .u64 m)) (hy : ev σ y = some (.int .u64 n)) : Gives P C σ (.binOp .and T x y U) (.int .u64 (((BitVec.ofInt 64 m &&& BitVec.ofInt 64 n).toNat : Int))) :=
  fun N a w ha _ d ty pos af g => by
    have e : IntKind.u64.wrap ((BitVec.ofInt 64 m &&& BitVec.ofInt 64 n).toNat : Int) = ((BitVec.ofInt 64 m &&& BitVec.ofInt 64 n).toNat : Int) := by
      rw [IntKind.wrap_u64]; have := (BitVec.ofInt 64 m &&& BitVec.ofInt 64 n).isLt; omega
    have hb : (binOp .and T (.int .u64 m) (.int .u64 n)).run P w = .ok (.int .u64 (((BitVec.ofInt 64 m &&& BitVec.ofInt 64 n).toNat : Int))) w := by rw [← e]; rfl
    simp only [execOp, ha.eq hx, ha.eq hy, eqGuard, Sem.run_bind]
    simp [hb]
theorem gu_shr {x y : Operand} {m n : Int} {k : IntKind} {T U : TypeId} (hx : ev σ x = some (.int .u64 m)) (hy : ev σ y = some (.int k n)) (hm : InU m) (h0 : 0 ≤ n) :
    Gives P C σ (.binOp .shr T x y U) (.int .u64 (m / 2 ^ n.toNat)) :=
  fun N a w ha _ d ty pos af g => by
    have h1 : ¬ n < 0 := by omega
    have e : m.fdiv (2 ^ (min n.toNat IntKind.u64.bits)) = m / 2 ^ n.toNat := by
      have hb : IntKind.u64.bits = 64 := rfl
      rw [hb, Int.fdiv_eq_ediv_of_nonneg _ (Int.le_of_lt (by exact Int.pow_pos (by decide)))]
      rcases Nat.le_total n.toNat 64 with g | g
      · rw [Nat.min_eq_left g]
      · rw [Nat.min_eq_right g]
        obtain ⟨j, hj⟩ := Nat.exists_eq_add_of_le g
        have hp : (1 : Int) ≤ 2 ^ j := by have : (0 : Int) < 2 ^ j := Int.pow_pos (by decide); omega
        rw [hj, Int.pow_add]
        unfold InU at hm
        rw [Int.ediv_eq_zero_of_lt hm.1 (by omega), Int.ediv_eq_zero_of_lt hm.1]
        calc m < 2 ^ 64 * 1 := by omega
          _ ≤ 2 ^ 64 * 2 ^ j := Int.mul_le_mul_of_nonneg_left hp (by decide)
    have hr : (if n < 0 then runtimePanic (.error "negative shift amount") else (pure (.int .u64 (m.fdiv (2 ^ (min n.toNat IntKind.u64.bits)))) : Sem Value)).run P w = .ok (.int .u64 (m / 2 ^ n.toNat)) w := by
      rw [if_neg h1, e]; rfl
    have hb : (binOp .shr T (.int .u64 m) (.int k n)).run P w = .ok (.int .u64 (m / 2 ^ n.toNat)) w := hr
    simp only [execOp, ha.eq hx, ha.eq hy, eqGuard, Sem.run_bind]
    simp [hb]
theorem gu_conv8 {x : Operand} {m : BitVec 8} {T U : TypeId} (hT : P.underlying T = some (.int .u8)) (hU : P.underlying U = some (.int .u64)) (hx : ev σ x = some (.int .u8 (m.toNat : Int))) :
    Gives P C σ (.convert T U x) (.int .u64 (m.toNat : Int)) :=
  fun N a w ha _ d ty pos af g => by
    have e : IntKind.u64.wrap (m.toNat : Int) = (m.toNat : Int) := by rw [IntKind.wrap_u64]; have := m.isLt; omega
    simp [execOp, ha.eq hx, convert, run_underlying hT, run_underlying hU, Conv.intToInt, e]
theorem gu_convI {x : Operand} {m : Int} {T U : TypeId} (hT : P.underlying T = some (.int .u64)) (hU : P.underlying U = some (.int .i64)) (hx : ev σ x = some (.int .u64 m)) (h : InI m) :
    Gives P C σ (.convert T U x) (.int .i64 m) :=
  fun N a w ha _ d ty pos af g => by
    have e : IntKind.i64.wrap m = m := i64_wrap h
    simp [execOp, ha.eq hx, convert, run_underlying hT, run_underlying hU, Conv.intToInt, e]
end
theorem Pv.set {F fs f fs' : List Nat} {n : Nat} (hs : Subst fs f fs') (h : Pv F n fs) (h' : Pv F n f) : Pv F n fs' := fun k hk => by
  rcases hs.mem k hk with g | g
  · exact h k g
  · exact h' k g
theorem Nq.grow {fs fs' : List Nat} {n : Nat} {b c : Int} (p : Pv fs n fs') (h : Nq (bl b ++ fs) c) (hc : c < n) : Nq (bl b ++ fs') c := fun k hk => by
  rcases List.mem_append.1 hk with g | g
  · exact h k (List.mem_append_left _ g)
  · rcases p k g with q | q
    · exact h k (List.mem_append_right _ q)
    · omega
theorem zf_pv {fs fs' : List Nat} {n m : Nat} (p : Pv fs m fs') (h : ∀ k ∈ fs, n ≤ k) (hm : n ≤ m) : ∀ k ∈ fs', n ≤ k := fun k hk => by
  rcases p k hk with q | q
  · exact h k q
  · omega
/-- dice: their block b, the blocks of their bytes fs -/
def Dc (e : TypeId) (w : World) (fs : List Nat) (b : Int) (v : Value) (d : List (BitVec 8) × Int × Int) : Prop :=
  ∃ (n : Nat) (u : Value), b = (n : Int) ∧ v = .pointer (some ⟨n, 0, none⟩) ∧ Bx w n [u, .int .i64 d.2.1, .int .u64 d.2.2] e ∧ Ro Rp.u8 w fs u d.1 ∧ InI d.2.1 ∧ InU d.2.2 ∧ Nq fs (n : Int)
section
variable {e : TypeId} {w w' : World} {fs : List Nat} {b : Int} {v : Value} {d : List (BitVec 8) × Int × Int}
theorem Dc.blt (h : Dc e w fs b v d) : b < w.heap.size := by obtain ⟨n, u, rfl, _, hB, _⟩ := h; exact hB.bi
theorem Dc.fpb (h : Dc e w fs b v d) : ∀ k ∈ bl b ++ fs, k < w.heap.size := fun k hk => by
  rcases List.mem_append.1 hk with g | g
  · rw [mem_bl] at g; have := h.blt; omega
  · obtain ⟨n, u, _, _, _, hR, _⟩ := h; exact hR.bnd k g
theorem Dc.nq {c : Int} (h : Dc e w fs b v d) (hc : Chg (bl c) w w') (hn : Nq (bl b ++ fs) c) : Dc e w' fs b v d := by
  obtain ⟨n, u, rfl, hv, hB, hR, h1, h2, h3⟩ := h
  exact ⟨n, u, rfl, hv, hB.nq hc (fun k hk => hn k (List.mem_append_left _ (by rw [mem_bl]; simp at hk; rw [hk]))), hR.nq hc (fun k hk => hn k (List.mem_append_right _ hk)), h1, h2, h3⟩
theorem Dc.ext (h : Dc e w fs b v d) (hc : Ext w w') : Dc e w' fs b v d := by
  obtain ⟨n, u, rfl, hv, hB, hR, h1, h2, h3⟩ := h
  exact ⟨n, u, rfl, hv, hB.ext hc, hR.ext hc, h1, h2, h3⟩
end
end Go.Proofs.YtadjcnllmkdgiaaDoor
