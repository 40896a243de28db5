/- copy into a slice of the call's own; numbers without a sign, small ones. Of whatever program. -/
import Derived.Test.YtnebbhginakaiaaBits
import Derived.Laws.CopyOwn
namespace Go.Proofs.Ytnebbhginakaiaa
open Go Go.RowKit
def Vi (x : Int) : Value := .int .i64 x
theorem repL_int {o : Bool} {w : World} : ∀ {xs : List Int} {fp : List Nat} {cs : List Value}, RepL Rp.int o w fp cs xs → fp = [] ∧ cs = xs.map Vi ∧ ∀ x ∈ xs, InI x
  | [], _, _, h => ⟨h.1, h.2, by simp⟩
  | x :: xs, _, _, ⟨f, fs, c, cs', hf, hc, hx, hr⟩ => by
    obtain ⟨h1, h2, h3⟩ := repL_int hr
    obtain ⟨k1, k2, k3⟩ := hx
    subst h1 h2 k1 k3
    refine ⟨by rw [hf]; rfl, by rw [hc]; rfl, fun y hy => ?_⟩
    rcases List.mem_cons.1 hy with e | e
    · rw [e]; exact k2
    · exact h3 y e
theorem repL_of {o : Bool} {w : World} : ∀ {xs : List Int}, (∀ x ∈ xs, InI x) → RepL Rp.int o w [] (xs.map Vi) xs
  | [], _ => ⟨rfl, rfl⟩
  | x :: xs, h => ⟨[], [], [Vi x], xs.map Vi, rfl, rfl, ⟨rfl, h x (by simp), rfl⟩, repL_of fun y hy => h y (by simp [hy])⟩
section
variable {P : Program} {w : World} {e : TypeId} {σ : Slots}
theorem run_part {T bytes : Nat} {z : Value} {g N cap i j : Nat} {lo hi : Option Value} (hT : SlT P T e 1 bytes z) (hlo : Bnd lo i 0) (hhi : Bnd hi j N) (hij : i ≤ j) (hj : j ≤ N) (hN : N ≤ cap) (hic : i < cap) (w : World) :
    (Instr.slice T (.slice (some ⟨g, 0, none⟩) N cap) lo hi none).run P w = .ok (.slice (some ⟨g, i, none⟩) (j - i) (cap - i)) w := by
  simp only [Instr.slice, Sem.run_bind, run_underlying hT.und, Result.andThen_ok, run_sliceBounds hlo hhi (Int.natCast_nonneg i) (by omega) (by omega) hN, hT.size, Sem.run_pure, Int.toNat_natCast]
  rw [if_neg (by omega)]
  simp [Addr.add_lit']
theorem ow_int {fs : List Nat} {b : Int} {v : Value} {xs : List Int} (h : Ow Rp.int e true w fs b v xs) (h0 : 0 ≤ b) : ∃ (g cap : Nat) (cur : Array Value), b = (g : Int) ∧ fs = [] ∧ v = .slice (some ⟨g, 0, none⟩) xs.length cap ∧ w.heap[g]? = some (.cells cur e (0, 0)) ∧ xs.length ≤ cap ∧ cap ≤ maxLen ∧
    cur.size = cap ∧ cur.toList.take xs.length = xs.map Vi ∧ ∀ x ∈ xs, InI x := by
  rcases h with ⟨h, _⟩ | ⟨g, cap, cur, cs, h1, h2, h3, h4, h5, h6, h7, h8, h9⟩
  · omega
  · obtain ⟨k1, k2, k3⟩ := repL_int h8
    have hsz : Rp.int.sz = 1 := rfl
    rw [hsz, Nat.mul_one] at h6 h7
    exact ⟨g, cap, cur, h1, k1, h2, h3, h4, h5, h6, by rw [h7, k2], k3⟩
theorem run_cp {dT sT ty bytes : Nat} {z : Value} {b : Int} {g k dLen dCap sLen sCap : Nat} {v : Value} {xs ys : List Int} {ad : Addr} (hT : SlT P dT e 1 bytes z) (h : Ow Rp.int e true w [] b v xs) (hb : b = (g : Int))
    (hy : ys.length = Nat.min sLen dLen) (hat : At w ad (ys.map Vi)) (hk : k + ys.length ≤ xs.length) (hyi : ∀ y ∈ ys, InI y) :
    ∃ w', (Builtin.copy_ #[dT, sT] ty #[.slice (some ⟨g, k, none⟩) dLen dCap, .slice (some ad) sLen sCap]).run P w = .ok (.int .i64 (ys.length : Int)) w' ∧ Ow Rp.int e true w' [] b v (xs.take k ++ ys ++ xs.drop (k + ys.length)) ∧ Chg (bl b) w w' := by
  obtain ⟨g', cap, cur, e1, -, hv, hh, h1, h2, h3, h4, h5⟩ := ow_int h (by omega)
  obtain rfl : g' = g := by omega
  obtain ⟨i, hi, hzz, hsi, hby⟩ := hT.info
  have hlen : (ys.map Vi).length = ys.length := List.length_map ..
  have hr := run_copy_row P w dT sT ty e g' k dLen dCap ad sLen sCap cur e (ys.map Vi) hT.und (by rw [hi]; simp [hsi]) hh (by rw [hlen]; exact hy) hat (by rw [hlen]; omega) (fun v hv => by obtain ⟨y, _, rfl⟩ := List.mem_map.1 hv; rfl)
  rw [hlen] at hr
  refine ⟨_, by rw [hr]; rfl, ?_, ?_⟩
  · have hlx : (xs.take k ++ ys ++ xs.drop (k + ys.length)).length = xs.length := by simp; omega
    refine .inr ⟨g', cap, _, _, e1, by rw [hlx]; exact hv, setRow_heap w g' cur _ e _ hh, by omega, h2, ?_, rfl, ?_, by simp⟩
    · simp [Rp.int]; omega
    · obtain ⟨Z, hZ⟩ : ∃ Z, cur.toList = xs.map Vi ++ Z := ⟨cur.toList.drop xs.length, by rw [← h4, List.take_append_drop]⟩
      have hlA : (xs.map Vi).length = xs.length := List.length_map ..
      have ec : List.take ((xs.take k ++ ys ++ xs.drop (k + ys.length)).length * Rp.int.sz) (cur.toList.take k ++ ys.map Vi ++ cur.toList.drop (k + ys.length)) = (xs.take k ++ ys ++ xs.drop (k + ys.length)).map Vi := by
        have t1 : cur.toList.take k = (xs.map Vi).take k := by rw [hZ, List.take_append_of_le_length (by rw [hlA]; omega)]
        have t2 : cur.toList.drop (k + ys.length) = (xs.map Vi).drop (k + ys.length) ++ Z := by rw [hZ, List.drop_append_of_le_length (by rw [hlA]; omega)]
        rw [hlx, show Rp.int.sz = 1 from rfl, Nat.mul_one, List.map_append, List.map_append, List.map_take, List.map_drop, t1, t2, ← List.append_assoc]
        exact List.take_left' (by simp; omega)
      simp only [ec]
      refine repL_of fun x hx => ?_
      rcases List.mem_append.1 hx with hx | hx
      · rcases List.mem_append.1 hx with hx | hx
        · exact h5 x (List.mem_of_mem_take hx)
        · exact hyi x hx
      · exact h5 x (List.mem_of_mem_drop hx)
  · have := Chg.setRow w g' (cur.toList.take k ++ ys.map Vi ++ cur.toList.drop (k + ys.length)).toArray
    have eb : bl b = [g'] := by unfold bl; rw [if_pos (by omega), e1]; simp
    rw [eb]; exact this
theorem run_cp0 {dT sT ty bytes : Nat} {z : Value} {d a : Option Addr} {dLen dCap sLen sCap : Nat} (hT : SlT P dT e 1 bytes z) (h : Nat.min sLen dLen = 0) (w : World) :
    (Builtin.copy_ #[dT, sT] ty #[.slice d dLen dCap, .slice a sLen sCap]).run P w = .ok (.int .i64 0) w := by
  obtain ⟨i, hi, hzz, hsi, hby⟩ := hT.info
  exact run_copy_none w dT sT ty e d a dLen dCap sLen sCap hT.und (by rw [hi]; simp [hsi]) h
section walk
variable {ops : Array Oper} {Q : Exit → Act → World → Prop} {a : Act} {rest : List Oper} {N d : Nat} {ty : TypeId} {pos : String} {af : Array Edge}
theorem o_copy {x y : Operand} {dT sT : TypeId} {u v : Value} {n : Int} {w' : World} (ha : Fr N σ a) (hd : Nat.ble (d + 1) N = true) (hx : ev σ x = some u) (hy : ev σ y = some v)
    (hr : ∀ ty, (Builtin.copy_ #[dT, sT] ty #[u, v]).run P w = .ok (.int .i64 n) w') (C : ∀ a, Fr N ((d, .int .i64 n) :: σ) a → wpList P ops Q rest a w') :
    wpList P ops Q (⟨some d, .call { callee := .builtin .copy, args := #[x, y], argTypes := #[dT, sT] }, ty, pos, af, none⟩ :: rest) a w :=
  o_runw ha hd (fun g => by simp [execOp, resolve, invoke, builtin, ha.eq hx, ha.eq hy, hr]) C
end walk
/-! ## small numbers without a sign -/
variable {C : World → Prop}
theorem u64_wrap {x : Int} (h0 : 0 ≤ x) (h : x < 18446744073709551616) : IntKind.u64.wrap x = x := by rw [IntKind.wrap_u64]; omega
theorem gu_mask {x y : Operand} {m : Int} {T U : TypeId} (hx : ev σ x = some (.int .u64 m)) (hy : ev σ y = some (.int .u64 4294967295)) (h0 : 0 ≤ m) (h : m < 4294967296) : Gives P C σ (.binOp .and T x y U) (.int .u64 m) :=
  fun N a w ha _ d ty pos af g => by
    have e : IntKind.u64.wrap ((BitVec.ofInt 64 m &&& BitVec.ofInt 64 4294967295).toNat : Int) = m := by
      have : (BitVec.ofInt 64 m &&& BitVec.ofInt 64 4294967295).toNat = m.toNat := by
        rw [BitVec.toNat_and, BitVec.toNat_ofInt, show (BitVec.ofInt 64 4294967295).toNat = 2 ^ 32 - 1 from rfl, Nat.and_two_pow_sub_one_eq_mod]
        omega
      rw [this, u64_wrap (by omega) (by omega)]; omega
    have hb : (binOp .and T (.int .u64 m) (.int .u64 4294967295)).run P w = .ok (.int .u64 m) w := by
      conv => rhs; rw [← e]
      rfl
    simp only [execOp, ha.eq hx, ha.eq hy, eqGuard, Sem.run_bind]
    simp [hb]
theorem gu_shr {x y : Operand} {m : Int} {T U : TypeId} (hx : ev σ x = some (.int .u64 m)) (hy : ev σ y = some (.int .u64 32)) (h0 : 0 ≤ m) (h : m < 4294967296) : Gives P C σ (.binOp .shr T x y U) (.int .u64 0) :=
  fun N a w ha _ d ty pos af g => by
    have e : m.fdiv (2 ^ (min (32 : Int).toNat IntKind.u64.bits)) = 0 := by
      rw [show min (32 : Int).toNat IntKind.u64.bits = 32 from rfl, Int.fdiv_eq_ediv_of_nonneg _ (by decide)]
      exact Int.ediv_eq_zero_of_lt h0 (by omega)
    have hr : (if (32 : Int) < 0 then runtimePanic (.error "negative shift amount") else (pure (.int .u64 (m.fdiv (2 ^ (min (32 : Int).toNat IntKind.u64.bits)))) : Sem Value)).run P w = .ok (.int .u64 0) w := by
      rw [if_neg (by decide), e]; rfl
    have hb : (binOp .shr T (.int .u64 m) (.int .u64 32)).run P w = .ok (.int .u64 0) w := hr
    simp only [execOp, ha.eq hx, ha.eq hy, eqGuard, Sem.run_bind]
    simp [hb]
theorem gu_mul {x y : Operand} {m n r : Int} {T U : TypeId} (hx : ev σ x = some (.int .u64 m)) (hy : ev σ y = some (.int .u64 n)) (e : m * n = r) (h0 : 0 ≤ r) (h : r < 4294967296) : Gives P C σ (.binOp .mul T x y U) (.int .u64 r) :=
  fun N a w ha _ d ty pos af g => by
    have : IntKind.u64.wrap (m * n) = r := by rw [e, u64_wrap h0 (by omega)]
    simp [execOp, ha.eq hx, ha.eq hy, eqGuard, binOp, Op.intArith, this]
theorem gu_add {x y : Operand} {m n r : Int} {T U : TypeId} (hx : ev σ x = some (.int .u64 m)) (hy : ev σ y = some (.int .u64 n)) (e : m + n = r) (h0 : 0 ≤ r) (h : r < 4294967296) : Gives P C σ (.binOp .add T x y U) (.int .u64 r) :=
  fun N a w ha _ d ty pos af g => by
    have : IntKind.u64.wrap (m + n) = r := by rw [e, u64_wrap h0 (by omega)]
    simp [execOp, ha.eq hx, ha.eq hy, eqGuard, binOp, Op.intArith, this]
theorem gu_back {x : Operand} {m : Int} {T U : TypeId} (hT : P.underlying T = some (.int .u64)) (hU : P.underlying U = some (.int .i64)) (hx : ev σ x = some (.int .u64 m)) (h0 : 0 ≤ m) (h : m < 4294967296) :
    Gives P C σ (.convert T U x) (.int .i64 m) :=
  fun N a w ha _ d ty pos af g => by
    have e : IntKind.i64.wrap m = m := i64_wrap (by unfold InI; omega)
    simp [execOp, ha.eq hx, convert, run_underlying hT, run_underlying hU, Conv.intToInt, e]
end
end Go.Proofs.Ytnebbhginakaiaa
