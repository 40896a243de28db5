/- Bits of 64-bit numbers, bytes, tables of the program. Of whatever program. -/
import Derived.Test.YtmaaloijdjnblaaGreatDoorSlc
namespace Go.Proofs.YtmaaloijdjnblaaGreatDoor
open Go Go.RowKit
theorem i64_back (r : BitVec 64) : IntKind.i64.wrap (r.toNat : Int) = r.toInt := by
  rw [IntKind.wrap_i64, BitVec.toInt_eq_toNat_cond]; have := r.isLt; split <;> omega
theorem in_bv (r : BitVec 64) : InI r.toInt := by
  rw [BitVec.toInt_eq_toNat_cond]; have := r.isLt; unfold InI; split <;> omega
theorem in_i64and (x y : Int) : InI (i64and x y) := in_bv _
theorem in_i64or (x y : Int) : InI (i64or x y) := in_bv _
theorem in_i64andn (x y : Int) : InI (i64andn x y) := in_bv _
theorem inU_of {x : Int} (h : InI x) (h0 : 0 ≤ x) : InU x := by unfold InI at h; unfold InU; omega
section gives
variable {P : Program} {C : World → Prop} {σ : Slots} {w : World}
section two
variable {x y : Operand} {m n : Int} {T U : TypeId} (hx : ev σ x = some (.int .i64 m)) (hy : ev σ y = some (.int .i64 n))
include hx hy
theorem g64_and : Gives P C σ (.binOp .and T x y U) (.int .i64 (i64and m n)) :=
  fun N a w ha _ d ty pos af g => by
    have e := i64_back (BitVec.ofInt 64 m &&& BitVec.ofInt 64 n)
    have hb : (binOp .and T (.int .i64 m) (.int .i64 n)).run P w = .ok (.int .i64 (i64and m n)) w := by
      unfold i64and; rw [← e]; rfl
    simp only [execOp, ha.eq hx, ha.eq hy, eqGuard, Sem.run_bind]
    simp [hb]
theorem g64_or : Gives P C σ (.binOp .or T x y U) (.int .i64 (i64or m n)) :=
  fun N a w ha _ d ty pos af g => by
    have e := i64_back (BitVec.ofInt 64 m ||| BitVec.ofInt 64 n)
    have hb : (binOp .or T (.int .i64 m) (.int .i64 n)).run P w = .ok (.int .i64 (i64or m n)) w := by
      unfold i64or; rw [← e]; rfl
    simp only [execOp, ha.eq hx, ha.eq hy, eqGuard, Sem.run_bind]
    simp [hb]
theorem g64_andNot : Gives P C σ (.binOp .andNot T x y U) (.int .i64 (i64andn m n)) :=
  fun N a w ha _ d ty pos af g => by
    have e := i64_back (BitVec.ofInt 64 m &&& ~~~ BitVec.ofInt 64 n)
    have hb : (binOp .andNot T (.int .i64 m) (.int .i64 n)).run P w = .ok (.int .i64 (i64andn m n)) w := by
      unfold i64andn; rw [← e]; rfl
    simp only [execOp, ha.eq hx, ha.eq hy, eqGuard, Sem.run_bind]
    simp [hb]
end two
theorem g64_shl {x y : Operand} {m n : Int} {k : IntKind} {T U : TypeId} (hx : ev σ x = some (.int .i64 m)) (hy : ev σ y = some (.int k n)) (h0 : 0 ≤ n) (h : InI (m * 2 ^ n.toNat)) :
    Gives P C σ (.binOp .shl T x y U) (.int .i64 (m * 2 ^ n.toNat)) :=
  fun N a w ha _ d ty pos af g => by
    have h1 : ¬ n < 0 := by omega
    have e : IntKind.i64.wrap (m * 2 ^ (min n.toNat IntKind.i64.bits)) = m * 2 ^ n.toNat := by
      have hb : IntKind.i64.bits = 64 := rfl
      rw [hb]
      rcases Nat.le_total n.toNat 64 with g | g
      · rw [Nat.min_eq_left g]; exact i64_wrap h
      · rw [Nat.min_eq_right g]
        obtain ⟨j, hj⟩ := Nat.exists_eq_add_of_le g
        have hm : m = 0 := by
          rw [hj] at h; unfold InI at h
          have hp : (1 : Int) ≤ 2 ^ j := by have : (0 : Int) < 2 ^ j := Int.pow_pos (by decide); omega
          rw [Int.pow_add, ← Int.mul_assoc] at h
          rcases Int.lt_trichotomy m 0 with q | q | q
          · have h2 : m * 2 ^ 64 ≤ (-1) * 2 ^ 64 := Int.mul_le_mul_of_nonneg_right (by omega) (by decide)
            have h3 : m * 2 ^ 64 * 2 ^ j ≤ m * 2 ^ 64 * 1 := Int.mul_le_mul_of_nonpos_left (by omega) hp
            omega
          · exact q
          · have h2 : 1 * 2 ^ 64 ≤ m * 2 ^ 64 := Int.mul_le_mul_of_nonneg_right (by omega) (by decide)
            have h3 : m * 2 ^ 64 * 1 ≤ m * 2 ^ 64 * 2 ^ j := Int.mul_le_mul_of_nonneg_left hp (by omega)
            omega
        subst hm; simp only [Int.zero_mul]; exact i64_wrap (by decide)
    have hr : (if n < 0 then runtimePanic (.error "negative shift amount") else (pure (.int .i64 (IntKind.i64.wrap (m * 2 ^ (min n.toNat IntKind.i64.bits)))) : Sem Value)).run P w = .ok (.int .i64 (m * 2 ^ n.toNat)) w := by
      rw [if_neg h1, e]; rfl
    have hb : (binOp .shl T (.int .i64 m) (.int k n)).run P w = .ok (.int .i64 (m * 2 ^ n.toNat)) w := hr
    simp only [execOp, ha.eq hx, ha.eq hy, eqGuard, Sem.run_bind]
    simp [hb]
theorem g64_shr {x y : Operand} {m n : Int} {k : IntKind} {T U : TypeId} (hx : ev σ x = some (.int .i64 m)) (hy : ev σ y = some (.int k n)) (hm : InI m) (h0 : 0 ≤ n) :
    Gives P C σ (.binOp .shr T x y U) (.int .i64 (m / 2 ^ n.toNat)) :=
  fun N a w ha _ d ty pos af g => by
    have h1 : ¬ n < 0 := by omega
    have e : m.fdiv (2 ^ (min n.toNat IntKind.i64.bits)) = m / 2 ^ n.toNat := by
      have hb : IntKind.i64.bits = 64 := rfl
      rw [hb, Int.fdiv_eq_ediv_of_nonneg _ (Int.le_of_lt (by exact Int.pow_pos (by decide)))]
      rcases Nat.le_total n.toNat 64 with g | g
      · rw [Nat.min_eq_left g]
      · rw [Nat.min_eq_right g]
        obtain ⟨j, hj⟩ := Nat.exists_eq_add_of_le g
        have hp : (1 : Int) ≤ 2 ^ j := by have : (0 : Int) < 2 ^ j := Int.pow_pos (by decide); omega
        rw [hj, Int.pow_add]
        unfold InI at hm
        rcases Int.le_total 0 m with q | q
        · rw [Int.ediv_eq_zero_of_lt q (by omega), Int.ediv_eq_zero_of_lt q]
          calc m < 2 ^ 64 * 1 := by omega
            _ ≤ 2 ^ 64 * 2 ^ j := Int.mul_le_mul_of_nonneg_left hp (by decide)
        · rcases Int.lt_or_eq_of_le q with q | q
          · have hlt : -(2 ^ 64 * 2 ^ j) ≤ m := by
              have : (2 : Int) ^ 64 * 1 ≤ 2 ^ 64 * 2 ^ j := Int.mul_le_mul_of_nonneg_left hp (by decide)
              omega
            have a1 : m / 2 ^ 64 = -1 := by omega
            have hpp : (0 : Int) < 2 ^ 64 * 2 ^ j := Int.mul_pos (by decide) (by omega)
            have a2 : m / (2 ^ 64 * 2 ^ j) = -1 := by
              have b1 : m / (2 ^ 64 * 2 ^ j) < 0 := Int.ediv_neg_of_neg_of_pos q hpp
              have b2 : -1 ≤ m / (2 ^ 64 * 2 ^ j) := by rw [Int.le_ediv_iff_mul_le hpp]; omega
              omega
            rw [a1, a2]
          · subst q; simp
    have hr : (if n < 0 then runtimePanic (.error "negative shift amount") else (pure (.int .i64 (m.fdiv (2 ^ (min n.toNat IntKind.i64.bits)))) : Sem Value)).run P w = .ok (.int .i64 (m / 2 ^ n.toNat)) w := by
      rw [if_neg h1, e]; rfl
    have hb : (binOp .shr T (.int .i64 m) (.int k n)).run P w = .ok (.int .i64 (m / 2 ^ n.toNat)) w := hr
    simp only [execOp, ha.eq hx, ha.eq hy, eqGuard, Sem.run_bind]
    simp [hb]
theorem g_conv6u {x : Operand} {m : Int} {T U : TypeId} (hT : P.underlying T = some (.int .i64)) (hU : P.underlying U = some (.int .u64)) (hx : ev σ x = some (.int .i64 m)) (h : InI m) (h0 : 0 ≤ m) :
    Gives P C σ (.convert T U x) (.int .u64 m) :=
  fun N a w ha _ d ty pos af g => by
    have e : IntKind.u64.wrap m = m := by rw [IntKind.wrap_u64]; unfold InI at h; omega
    simp [execOp, ha.eq hx, convert, run_underlying hT, run_underlying hU, Conv.intToInt, e]
theorem g_conv8 {x : Operand} {m : BitVec 8} {T U : TypeId} (hT : P.underlying T = some (.int .u8)) (hU : P.underlying U = some (.int .i64)) (hx : ev σ x = some (.int .u8 (m.toNat : Int))) :
    Gives P C σ (.convert T U x) (.int .i64 (m.toNat : Int)) :=
  fun N a w ha _ d ty pos af g => by
    have e : IntKind.i64.wrap (m.toNat : Int) = (m.toNat : Int) := i64_wrap (by have := m.isLt; unfold InI; omega)
    simp [execOp, ha.eq hx, convert, run_underlying hT, run_underlying hU, Conv.intToInt, e]
theorem in_u8 (x : BitVec 8) : InI (x.toNat : Int) := by have := x.isLt; unfold InI; omega
theorem g32_neg {x : Operand} {m : BitVec 32} {T : TypeId} (hx : ev σ x = some (.int .u32 (m.toNat : Int))) : Gives P C σ (.unOp .neg T x) (.int .u32 ((-m).toNat : Int)) :=
  fun N a w ha _ d ty pos af g => by
    have e : IntKind.u32.wrap (0 - (m.toNat : Int)) = ((-m).toNat : Int) := by
      rw [IntKind.wrap_u32, BitVec.toNat_neg]; have := m.isLt; omega
    simp only [execOp, ha.eq hx, Op.unary, Op.intArith, e]; rfl
theorem g32_mul {x y : Operand} {m n : BitVec 32} {T U : TypeId} (hx : ev σ x = some (.int .u32 (m.toNat : Int))) (hy : ev σ y = some (.int .u32 (n.toNat : Int))) : Gives P C σ (.binOp .mul T x y U) (.int .u32 ((m * n).toNat : Int)) :=
  fun N a w ha _ d ty pos af g => by
    have e : IntKind.u32.wrap ((m.toNat : Int) * (n.toNat : Int)) = ((m * n).toNat : Int) := by
      rw [IntKind.wrap_u32, BitVec.toNat_mul, ← Int.natCast_mul]; omega
    simp [execOp, ha.eq hx, ha.eq hy, eqGuard, binOp, Op.intArith]
    exact e
theorem g8_add {x y : Operand} {m n : BitVec 8} {T U : TypeId} (hx : ev σ x = some (.int .u8 (m.toNat : Int))) (hy : ev σ y = some (.int .u8 (n.toNat : Int))) : Gives P C σ (.binOp .add T x y U) (.int .u8 ((m + n).toNat : Int)) :=
  fun N a w ha _ d ty pos af g => by
    have e : IntKind.u8.wrap ((m.toNat : Int) + (n.toNat : Int)) = ((m + n).toNat : Int) := by
      rw [IntKind.wrap_u8, BitVec.toNat_add]; have := m.isLt; have := n.isLt; omega
    simp [execOp, ha.eq hx, ha.eq hy, eqGuard, binOp, Op.intArith]
    exact e
theorem g_strIdx {x y : Operand} {T : TypeId} {s : ByteArray} {k : IntKind} {i : Int} {b : BitVec 8} (hT : P.underlying T = some .string) (hx : ev σ x = some (.string s)) (hy : ev σ y = some (.int k i)) (h0 : 0 ≤ i)
    (hb : s[i.toNat]? = some ⟨b⟩) : Gives P C σ (.index T x y) (.int .u8 (b.toNat : Int)) :=
  fun N a w ha _ d ty pos af g => by
    simp [execOp, ha.eq hx, ha.eq hy, Instr.index, asIntOf, run_underlying hT, h0, hb]
def Tab (w : World) (g : Nat) (tab : List (BitVec 8)) : Prop := At w ⟨g, 0, none⟩ (tab.map fun b => .int .u8 (b.toNat : Int))
theorem Tab.keep {w w' : World} {g : Nat} {tab : List (BitVec 8)} (h : Tab w g tab) (hk : w'.heap[g]? = w.heap[g]?) : Tab w' g tab := At.keep h hk
theorem Tab.lt {w : World} {g : Nat} {b : BitVec 8} {tab : List (BitVec 8)} (h : Tab w g (b :: tab)) : g < w.heap.size := by
  have := h 0 _ rfl
  rw [Addr.add_zero'] at this
  exact World.block_lt_of_cell? w _ this
theorem Tab.chg {D : List Nat} {w w' : World} {g : Nat} {b : BitVec 8} {tab : List (BitVec 8)} (h : Tab w g (b :: tab)) (c : Chg D w w') (hD : g ∉ D) : Tab w' g (b :: tab) := h.keep (c.block g h.lt hD)
theorem g_idxG {T E g n : Nat} {y : Operand} {k : IntKind} {i : Int} (hT : P.underlying T = some (.array n E)) (hs : ∀ w, (sizeOf E).run P w = .ok 1 w) (hy : ev σ y = some (.int k i)) (h0 : 0 ≤ i) (hn : i < n) :
    Gives P C σ (.indexAddr T (.global g) y) (.pointer (some ⟨g, i.toNat, none⟩)) :=
  fun N a w ha _ d ty pos af g' => by
    have e : a.eval (.global g) = .pointer (some ⟨g, 0, none⟩) := rfl
    simp [execOp, ha.eq hy, e, Instr.indexAt, asIntOf, run_underlying hT, Instr.sureAddr, h0, hn, hs, Addr.add_lit']
theorem Tab.cell {w : World} {g : Nat} {tab : List (BitVec 8)} {i : Nat} {x : BitVec 8} (h : Tab w g tab) (hx : tab[i]? = some x) : w.cell? ⟨g, i, none⟩ = some (.int .u8 (x.toNat : Int)) := by
  have := h i (.int .u8 (x.toNat : Int)) (by simp [hx])
  rwa [Addr.add_lit', Nat.zero_add] at this
end gives
theorem idx_lt {α : Type} {xs : List α} {i : Int} {x : α} {n : Nat} (h0 : 0 ≤ i) (h : xs[i.toNat]? = some x) (hn : xs.length = n) : i < (n : Int) := by
  have := (List.getElem?_eq_some_iff.1 h).1; omega
theorem str_at {s : ByteArray} {tab : List (BitVec 8)} {i : Nat} {b : BitVec 8} (h : s.data.toList.map UInt8.toBitVec = tab) (hx : tab[i]? = some b) : s[i]? = some ⟨b⟩ := by
  subst h
  rw [List.getElem?_map, Option.map_eq_some_iff] at hx
  obtain ⟨c, hc, rfl⟩ := hx
  have hl := (List.getElem?_eq_some_iff.1 hc).1
  have hi : i < s.size := by simpa using hl
  rw [getElem?_pos s i hi]
  have := (List.getElem?_eq_some_iff.1 hc).2
  congr 1
def GT (g : Nat) (w : World) : Prop := Tab w g deBruijn32
theorem GT.ext {g : Nat} {W w : World} (h : GT g W) (e : Ext W w) : GT g w := Tab.chg h e (by simp)
theorem GT.io {D : List Nat} {g : Nat} {W w : World} (h : GT g W) (e : Chg D W w) (hD : g ∉ D) : GT g w := Tab.chg h e hD
theorem GT.ne {g : Nat} {W : World} {b : Int} (h : GT g W) (hz : Zn W b) : (g : Int) ≠ b := by
  have := Tab.lt h; rcases hz with q | q <;> omega
end Go.Proofs.YtmaaloijdjnblaaGreatDoor
