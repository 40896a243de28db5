/- Bits of 64-bit numbers, bytes, tables of the program. Of whatever program. -/
import Derived.Test.YtnebbhginakaiaaSlc
namespace Go.Proofs.Ytnebbhginakaiaa
open Go Go.RowKit
theorem i64_back (r : BitVec 64) : IntKind.i64.wrap (r.toNat : Int) = r.toInt := by
  rw [IntKind.wrap_i64, BitVec.toInt_eq_toNat_cond]; have := r.isLt; split <;> omega
theorem in_bv (r : BitVec 64) : InI r.toInt := by
  rw [BitVec.toInt_eq_toNat_cond]; have := r.isLt; unfold InI; split <;> omega
theorem in_i64or (x y : Int) : InI (i64or x y) := in_bv _
theorem inU_of {x : Int} (h : InI x) (h0 : 0 ≤ x) : InU x := by unfold InI at h; unfold InU; omega
section gives
variable {P : Program} {C : World → Prop} {σ : Slots} {w : World}
section two
variable {x y : Operand} {m n : Int} {T U : TypeId} (hx : ev σ x = some (.int .i64 m)) (hy : ev σ y = some (.int .i64 n))
include hx hy
theorem g64_or : Gives P C σ (.binOp .or T x y U) (.int .i64 (i64or m n)) :=
  fun N a w ha _ d ty pos af g => by
    have e := i64_back (BitVec.ofInt 64 m ||| BitVec.ofInt 64 n)
    have hb : (binOp .or T (.int .i64 m) (.int .i64 n)).run P w = .ok (.int .i64 (i64or m n)) w := by
      unfold i64or; rw [← e]; rfl
    simp only [execOp, ha.eq hx, ha.eq hy, eqGuard, Sem.run_bind]
    simp [hb]
theorem g64_andNot : Gives P C σ (.binOp .andNot T x y U) (.int .i64 (i64andn m n)) :=
  fun N a w ha _ d ty pos af g => by
    have e := i64_back (BitVec.ofInt 64 m &&& ~~~ BitVec.ofInt 64 n)
    have hb : (binOp .andNot T (.int .i64 m) (.int .i64 n)).run P w = .ok (.int .i64 (i64andn m n)) w := by
      unfold i64andn; rw [← e]; rfl
    simp only [execOp, ha.eq hx, ha.eq hy, eqGuard, Sem.run_bind]
    simp [hb]
end two
theorem g64_shl {x y : Operand} {m n : Int} {k : IntKind} {T U : TypeId} (hx : ev σ x = some (.int .i64 m)) (hy : ev σ y = some (.int k n)) (h0 : 0 ≤ n) (h : InI (m * 2 ^ n.toNat)) :
    Gives P C σ (.binOp .shl T x y U) (.int .i64 (m * 2 ^ n.toNat)) :=
  fun N a w ha _ d ty pos af g => by
    have h1 : ¬ n < 0 := by omega
    have e : IntKind.i64.wrap (m * 2 ^ (min n.toNat IntKind.i64.bits)) = m * 2 ^ n.toNat := by
      have hb : IntKind.i64.bits = 64 := rfl
      rw [hb]
      rcases Nat.le_total n.toNat 64 with g | g
      · rw [Nat.min_eq_left g]; exact i64_wrap h
      · rw [Nat.min_eq_right g]
        obtain ⟨j, hj⟩ := Nat.exists_eq_add_of_le g
        have hm : m = 0 := by
          rw [hj] at h; unfold InI at h
          have hp : (1 : Int) ≤ 2 ^ j := by have : (0 : Int) < 2 ^ j := Int.pow_pos (by decide); omega
          rw [Int.pow_add, ← Int.mul_assoc] at h
          rcases Int.lt_trichotomy m 0 with q | q | q
          · have h2 : m * 2 ^ 64 ≤ (-1) * 2 ^ 64 := Int.mul_le_mul_of_nonneg_right (by omega) (by decide)
            have h3 : m * 2 ^ 64 * 2 ^ j ≤ m * 2 ^ 64 * 1 := Int.mul_le_mul_of_nonpos_left (by omega) hp
            omega
          · exact q
          · have h2 : 1 * 2 ^ 64 ≤ m * 2 ^ 64 := Int.mul_le_mul_of_nonneg_right (by omega) (by decide)
            have h3 : m * 2 ^ 64 * 1 ≤ m * 2 ^ 64 * 2 ^ j := Int.mul_le_mul_of_nonneg_left hp (by omega)
            omega
        subst hm; simp only [Int.zero_mul]; exact i64_wrap (by decide)
    have hr : (if n < 0 then runtimePanic (.error "negative shift amount") else (pure (.int .i64 (IntKind.i64.wrap (m * 2 ^ (min n.toNat IntKind.i64.bits)))) : Sem Value)).run P w = .ok (.int .i64 (m * 2 ^ n.toNat)) w := by
      rw [if_neg h1, e]; rfl
    have hb : (binOp .shl T (.int .i64 m) (.int k n)).run P w = .ok (.int .i64 (m * 2 ^ n.toNat)) w := hr
    simp only [execOp, ha.eq hx, ha.eq hy, eqGuard, Sem.run_bind]
    simp [hb]
theorem g_conv6u {x : Operand} {m : Int} {T U : TypeId} (hT : P.underlying T = some (.int .i64)) (hU : P.underlying U = some (.int .u64)) (hx : ev σ x = some (.int .i64 m)) (h : InI m) (h0 : 0 ≤ m) :
    Gives P C σ (.convert T U x) (.int .u64 m) :=
  fun N a w ha _ d ty pos af g => by
    have e : IntKind.u64.wrap m = m := by rw [IntKind.wrap_u64]; unfold InI at h; omega
    simp [execOp, ha.eq hx, convert, run_underlying hT, run_underlying hU, Conv.intToInt, e]
end gives
end Go.Proofs.Ytnebbhginakaiaa
