/- Numbers without a sign of 64 bits, and dice: a block with a slice of bytes, a place and a number. Of whatever program. -/
import Derived.Test.YtjcnkijmbjhcnaaDeep
namespace Go.Proofs.Ytjcnkijmbjhcnaa
open Go Go.RowKit

theorem inU_mod (x : Int) : InU (x % 18446744073709551616) := by unfold InU; omega
theorem inU_u8 (x : BitVec 8) : InU (x.toNat : Int) := by have := x.isLt; unfold InU; omega
theorem inU_and (x y : Int) : InU (((BitVec.ofInt 64 x &&& BitVec.ofInt 64 y).toNat : Int)) := by have := (BitVec.ofInt 64 x &&& BitVec.ofInt 64 y).isLt; unfold InU; omega
theorem inU_shr {x : Int} (h : InU x) (n : Nat) : InU (x / 2 ^ n) := by
  have hp : (0 : Int) < 2 ^ n := Int.pow_pos (by decide)
  unfold InU at *
  have := Int.ediv_nonneg h.1 (Int.le_of_lt hp)
  have := Int.ediv_le_self (2 ^ n) h.1
  omega
section
variable {P : Program} {C : World → Prop} {σ : Slots} {w : World}
theorem g_nilCheck {x : Operand} {p : Addr} (hx : ev σ x = some (.pointer (some p))) : Gives P C σ (.nilCheck x) (.pointer (some p)) :=
  fun N a w ha _ d ty pos af g => by simp [execOp, ha.eq hx]
theorem gu_add {x y : Operand} {m n : Int} {T U : TypeId} (hx : ev σ x = some (.int .u64 m)) (hy : ev σ y = some (.int .u64 n)) : Gives P C σ (.binOp .add T x y U) (.int .u64 ((m + n) % 18446744073709551616)) :=
  fun N a w ha _ d ty pos af g => by
    have e : IntKind.u64.wrap (m + n) = (m + n) % 18446744073709551616 := IntKind.wrap_u64 _
    simp [execOp, ha.eq hx, ha.eq hy, eqGuard, binOp, Op.intArith]
    exact e
theorem gu_mul {x y : Operand} {m n : Int} {T U : TypeId} (hx : ev σ x = some (.int .u64 m)) (hy : ev σ y = some (.int .u64 n)) : Gives P C σ (.binOp .mul T x y U) (.int .u64 ((m * n) % 18446744073709551616)) :=
  fun N a w ha _ d ty pos af g => by
    have e : IntKind.u64.wrap (m * n) = (m * n) % 18446744073709551616 := IntKind.wrap_u64 _
    simp [execOp, ha.eq hx, ha.eq hy, eqGuard, binOp, Op.intArith]
    exact e
theorem gu_and {x y : Operand} {m n : Int} {T U : TypeId} (hx : ev σ x = some (.int .u64 m)) (hy : ev σ y = some (.int .u64 n)) : Gives P C σ (.binOp .and T x y U) (.int .u64 (((BitVec.ofInt 64 m &&& BitVec.ofInt 64 n).toNat : Int))) :=
  fun N a w ha _ d ty pos af g => by
    have e : IntKind.u64.wrap ((BitVec.ofInt 64 m &&& BitVec.ofInt 64 n).toNat : Int) = ((BitVec.ofInt 64 m &&& BitVec.ofInt 64 n).toNat : Int) := by
      rw [IntKind.wrap_u64]; have := (BitVec.ofInt 64 m &&& BitVec.ofInt 64 n).isLt; omega
    have hb : (binOp .and T (.int .u64 m) (.int .u64 n)).run P w = .ok (.int .u64 (((BitVec.ofInt 64 m &&& BitVec.ofInt 64 n).toNat : Int))) w := by rw [← e]; rfl
    simp only [execOp, ha.eq hx, ha.eq hy, eqGuard, Sem.run_bind]
    simp [hb]
theorem gu_shr {x y : Operand} {m n : Int} {k : IntKind} {T U : TypeId} (hx : ev σ x = some (.int .u64 m)) (hy : ev σ y = some (.int k n)) (hm : InU m) (h0 : 0 ≤ n) :
    Gives P C σ (.binOp .shr T x y U) (.int .u64 (m / 2 ^ n.toNat)) :=
  fun N a w ha _ d ty pos af g => by
    have h1 : ¬ n < 0 := by omega
    have e : m.fdiv (2 ^ (min n.toNat IntKind.u64.bits)) = m / 2 ^ n.toNat := by
      have hb : IntKind.u64.bits = 64 := rfl
      rw [hb, Int.fdiv_eq_ediv_of_nonneg _ (Int.le_of_lt (by exact Int.pow_pos (by decide)))]
      rcases Nat.le_total n.toNat 64 with g | g
      · rw [Nat.min_eq_left g]
      · rw [Nat.min_eq_right g]
        obtain ⟨j, hj⟩ := Nat.exists_eq_add_of_le g
        have hp : (1 : Int) ≤ 2 ^ j := by have : (0 : Int) < 2 ^ j := Int.pow_pos (by decide); omega
        rw [hj, Int.pow_add]
        unfold InU at hm
        rw [Int.ediv_eq_zero_of_lt hm.1 (by omega), Int.ediv_eq_zero_of_lt hm.1]
        calc m < 2 ^ 64 * 1 := by omega
          _ ≤ 2 ^ 64 * 2 ^ j := Int.mul_le_mul_of_nonneg_left hp (by decide)
    have hr : (if n < 0 then runtimePanic (.error "negative shift amount") else (pure (.int .u64 (m.fdiv (2 ^ (min n.toNat IntKind.u64.bits)))) : Sem Value)).run P w = .ok (.int .u64 (m / 2 ^ n.toNat)) w := by
      rw [if_neg h1, e]; rfl
    have hb : (binOp .shr T (.int .u64 m) (.int k n)).run P w = .ok (.int .u64 (m / 2 ^ n.toNat)) w := hr
    simp only [execOp, ha.eq hx, ha.eq hy, eqGuard, Sem.run_bind]
    simp [hb]
theorem gu_conv8 {x : Operand} {m : BitVec 8} {T U : TypeId} (hT : P.underlying T = some (.int .u8)) (hU : P.underlying U = some (.int .u64)) (hx : ev σ x = some (.int .u8 (m.toNat : Int))) :
    Gives P C σ (.convert T U x) (.int .u64 (m.toNat : Int)) :=
  fun N a w ha _ d ty pos af g => by
    have e : IntKind.u64.wrap (m.toNat : Int) = (m.toNat : Int) := by rw [IntKind.wrap_u64]; have := m.isLt; omega
    simp [execOp, ha.eq hx, convert, run_underlying hT, run_underlying hU, Conv.intToInt, e]
theorem gu_convI {x : Operand} {m : Int} {T U : TypeId} (hT : P.underlying T = some (.int .u64)) (hU : P.underlying U = some (.int .i64)) (hx : ev σ x = some (.int .u64 m)) (h : InI m) :
    Gives P C σ (.convert T U x) (.int .i64 m) :=
  fun N a w ha _ d ty pos af g => by
    have e : IntKind.i64.wrap m = m := i64_wrap h
    simp [execOp, ha.eq hx, convert, run_underlying hT, run_underlying hU, Conv.intToInt, e]
end
theorem Pv.set {F fs f fs' : List Nat} {n : Nat} (hs : Subst fs f fs') (h : Pv F n fs) (h' : Pv F n f) : Pv F n fs' := fun k hk => by
  rcases hs.mem k hk with g | g
  · exact h k g
  · exact h' k g
theorem Nq.grow {fs fs' : List Nat} {n : Nat} {b c : Int} (p : Pv fs n fs') (h : Nq (bl b ++ fs) c) (hc : c < n) : Nq (bl b ++ fs') c := fun k hk => by
  rcases List.mem_append.1 hk with g | g
  · exact h k (List.mem_append_left _ g)
  · rcases p k g with q | q
    · exact h k (List.mem_append_right _ q)
    · omega
theorem zf_pv {fs fs' : List Nat} {n m : Nat} (p : Pv fs m fs') (h : ∀ k ∈ fs, n ≤ k) (hm : n ≤ m) : ∀ k ∈ fs', n ≤ k := fun k hk => by
  rcases p k hk with q | q
  · exact h k q
  · omega
/-- dice: their block b, the blocks of their bytes fs -/
def Dc (e : TypeId) (w : World) (fs : List Nat) (b : Int) (v : Value) (d : List (BitVec 8) × Int × Int) : Prop :=
  ∃ (n : Nat) (u : Value), b = (n : Int) ∧ v = .pointer (some ⟨n, 0, none⟩) ∧ Bx w n [u, .int .i64 d.2.1, .int .u64 d.2.2] e ∧ Ro Rp.u8 w fs u d.1 ∧ InI d.2.1 ∧ InU d.2.2 ∧ Nq fs (n : Int)
section
variable {e : TypeId} {w w' : World} {fs : List Nat} {b : Int} {v : Value} {d : List (BitVec 8) × Int × Int}
theorem Dc.blt (h : Dc e w fs b v d) : b < w.heap.size := by obtain ⟨n, u, rfl, _, hB, _⟩ := h; exact hB.bi
theorem Dc.fpb (h : Dc e w fs b v d) : ∀ k ∈ bl b ++ fs, k < w.heap.size := fun k hk => by
  rcases List.mem_append.1 hk with g | g
  · rw [mem_bl] at g; have := h.blt; omega
  · obtain ⟨n, u, _, _, _, hR, _⟩ := h; exact hR.bnd k g
theorem Dc.nq {c : Int} (h : Dc e w fs b v d) (hc : Chg (bl c) w w') (hn : Nq (bl b ++ fs) c) : Dc e w' fs b v d := by
  obtain ⟨n, u, rfl, hv, hB, hR, h1, h2, h3⟩ := h
  exact ⟨n, u, rfl, hv, hB.nq hc (fun k hk => hn k (List.mem_append_left _ (by rw [mem_bl]; simp at hk; rw [hk]))), hR.nq hc (fun k hk => hn k (List.mem_append_right _ hk)), h1, h2, h3⟩
theorem Dc.off {D : List Nat} (h : Dc e w fs b v d) (hc : Chg D w w') (hn : ∀ k ∈ bl b ++ fs, k ∉ D) : Dc e w' fs b v d := by
  obtain ⟨n, u, rfl, hv, hB, hR, h1, h2, h3⟩ := h
  exact ⟨n, u, rfl, hv, hB.off hc (fun k hk => hn k (List.mem_append_left _ (by rw [mem_bl]; simp at hk; rw [hk]))), hR.off hc (fun k hk => hn k (List.mem_append_right _ hk)), h1, h2, h3⟩
theorem Dc.ext (h : Dc e w fs b v d) (hc : Ext w w') : Dc e w' fs b v d := by
  obtain ⟨n, u, rfl, hv, hB, hR, h1, h2, h3⟩ := h
  exact ⟨n, u, rfl, hv, hB.ext hc, hR.ext hc, h1, h2, h3⟩
end
/-- the same with a number that has a sign -/
def Dk (e : TypeId) (w : World) (fs : List Nat) (b : Int) (v : Value) (d : List (BitVec 8) × Int × Int) : Prop :=
  ∃ (n : Nat) (u : Value), b = (n : Int) ∧ v = .pointer (some ⟨n, 0, none⟩) ∧ Bx w n [u, .int .i64 d.2.1, .int .i64 d.2.2] e ∧ Ro Rp.u8 w fs u d.1 ∧ InI d.2.1 ∧ InI d.2.2 ∧ Nq fs (n : Int)
section
variable {e : TypeId} {w w' : World} {fs : List Nat} {b : Int} {v : Value} {d : List (BitVec 8) × Int × Int}
theorem Dk.blt (h : Dk e w fs b v d) : b < w.heap.size := by obtain ⟨n, u, rfl, _, hB, _⟩ := h; exact hB.bi
theorem Dk.fpb (h : Dk e w fs b v d) : ∀ k ∈ bl b ++ fs, k < w.heap.size := fun k hk => by
  rcases List.mem_append.1 hk with g | g
  · rw [mem_bl] at g; have := h.blt; omega
  · obtain ⟨n, u, _, _, _, hR, _⟩ := h; exact hR.bnd k g
theorem Dk.nq {c : Int} (h : Dk e w fs b v d) (hc : Chg (bl c) w w') (hn : Nq (bl b ++ fs) c) : Dk e w' fs b v d := by
  obtain ⟨n, u, rfl, hv, hB, hR, h1, h2, h3⟩ := h
  exact ⟨n, u, rfl, hv, hB.nq hc (fun k hk => hn k (List.mem_append_left _ (by rw [mem_bl]; simp at hk; rw [hk]))), hR.nq hc (fun k hk => hn k (List.mem_append_right _ hk)), h1, h2, h3⟩
theorem Dk.off {D : List Nat} (h : Dk e w fs b v d) (hc : Chg D w w') (hn : ∀ k ∈ bl b ++ fs, k ∉ D) : Dk e w' fs b v d := by
  obtain ⟨n, u, rfl, hv, hB, hR, h1, h2, h3⟩ := h
  exact ⟨n, u, rfl, hv, hB.off hc (fun k hk => hn k (List.mem_append_left _ (by rw [mem_bl]; simp at hk; rw [hk]))), hR.off hc (fun k hk => hn k (List.mem_append_right _ hk)), h1, h2, h3⟩
theorem Dk.ext (h : Dk e w fs b v d) (hc : Ext w w') : Dk e w' fs b v d := by
  obtain ⟨n, u, rfl, hv, hB, hR, h1, h2, h3⟩ := h
  exact ⟨n, u, rfl, hv, hB.ext hc, hR.ext hc, h1, h2, h3⟩
end
theorem At.keepE {w w' : World} {p : Addr} {cs : List Value} (h : At w p cs) (hx : Ext w w') (hb : p.block < w.heap.size) : At w' p cs := h.keep (hx.block p.block hb (by simp))
theorem IdxAt.uniq {sz : Nat} {u : Value} {i : Int} {p p' : Addr} (h : IdxAt sz u i p) (h' : IdxAt sz u i p') : p = p' := by
  obtain ⟨b, len, cap, e1, _, _, rfl⟩ := h
  obtain ⟨b', len', cap', e1', _, _, rfl⟩ := h'
  rw [e1] at e1'
  injection e1' with q1 q2 q3
  injection q1 with q1
  rw [q1]
/-- one place read twice, while memory only grew -/
theorem atSame {w w' : World} {p p' : Addr} {v v' u : Value} {i : Int} (h : At w p [v]) (hi : IdxAt 1 u i p) (h' : At w' p' [v']) (hi' : IdxAt 1 u i p') (hx : Ext w w') (hb : p.block < w.heap.size) : v = v' := by
  obtain ⟨b, len, cap, e1, _, _, rfl⟩ := hi
  obtain ⟨b', len', cap', e1', _, _, rfl⟩ := hi'
  rw [e1] at e1'
  injection e1' with q1 q2 q3
  injection q1 with q1
  subst q1
  have := (h.keepE hx hb).uniq h' rfl
  injection this
section
variable {P : Program} {ops : Array Oper} {Q : Exit → Act → World → Prop} {a : Act} {w : World} {rest : List Oper} {N : Nat} {σ : Slots}
variable {ty : TypeId} {pos : String} {af : Array Edge}
theorem take_put {cur : Array Value} {u : Value} {j : Nat} (h : cur[j]? = some u) : (cur.toList.take j ++ [u] ++ cur.toList.drop (j + 1)).toArray = cur := by
  apply Array.ext'
  obtain ⟨hj, e⟩ := Array.getElem?_eq_some_iff.1 h
  have hl : j < cur.toList.length := by simpa using hj
  have e2 : u = cur.toList[j] := by rw [← e]; simp
  rw [e2, List.append_assoc, List.singleton_append, ← List.drop_eq_getElem_cons hl, List.take_append_drop]
/-- into a row's place what is either the row that stands there, or a new slice of the own -/
theorem o_storeAF {α : Type} {r1 : Rp α} {E1 e T : TypeId} {x y : Operand} {fs : List Nat} {b i : Int} {v u vo : Value} {xs : List (List α)} {q xo : List α} {p : Addr} {n0 : Nat} (ha : Fr N σ a) (hsz : ∀ w, (sizeOf T).run P w = .ok 1 w)
    (hx : ev σ x = some (.pointer (some p))) (hy : ev σ y = some u) (hu : u.cells = #[u]) (h : Ow (Rp.sl E1 r1) e true w fs b v xs) (hi : IdxAt 1 v i p) (hat : At w p [vo]) (hxo : xs[i.toNat]? = some xo) (hn : (bl b ++ fs).Nodup)
    (haf : (u = vo ∧ q = xo) ∨ ∃ b' : Int, Ow r1 E1 true w [] b' u q ∧ Nq (bl b ++ fs) b' ∧ (b' < 0 ∨ (n0 : Int) ≤ b'))
    (K : ∀ w' fs', Ow (Rp.sl E1 r1) e true w' fs' b v (xs.set i.toNat q) → Chg (bl b) w w' → Pv fs n0 fs' → (bl b ++ fs').Nodup → wpList P ops Q rest a w') :
    wpList P ops Q (⟨none, .store T x y, ty, pos, af, none⟩ :: rest) a w := by
  rcases haf with ⟨rfl, rfl⟩ | ⟨b', hO, hnq, hz⟩
  · obtain ⟨p', cs', f', hff, hpb, hat', hr', hi'⟩ := h.at (i := i) (by obtain ⟨_, _, _, _, h0, _, _⟩ := hi; exact h0) hxo
    have hpp : p' = p := by
      obtain ⟨c, len, cap, e1, _, _, rfl⟩ := hi
      obtain ⟨c', len', cap', e1', _, _, rfl⟩ := hi'
      rw [e1] at e1'
      injection e1' with q1 q2 q3
      injection q1 with q1
      rw [q1]; rfl
    subst hpp
    have hcl := (Rp.sl E1 r1).len hr'
    have ecs : cs' = [u] := hat'.uniq hat (by rw [hcl]; rfl)
    subst ecs
    obtain ⟨g, cur, fs', hh, rfl, hle, h1, h2, h3⟩ := h.stored (q := q) hi hr' (fun k hk => h.ne k (hff k hk))
    clear h1 h2 hi hi'
    have hle' : i.toNat * (Rp.sl E1 r1).sz + 1 ≤ cur.size := hle
    clear hle
    generalize i.toNat * (Rp.sl E1 r1).sz = j at *
    have hst := run_storeCells_at P g j e [u] 0 cur w hh (by simp; omega) ((Rp.sl E1 r1).one hr')
    simp only [Nat.add_zero] at hst
    have hsame : ∀ k : Nat, (w.setRow g (cur.toList.take j ++ [u] ++ cur.toList.drop (j + [u].length)).toArray).heap[k]? = w.heap[k]? := by
      intro k
      by_cases hk : k = g
      · subst hk
        rw [setRow_heap w k cur _ e _ hh, hh]
        have h5 := hat 0 _ rfl
        rw [Addr.add_lit'] at h5
        simp [World.cell?, hh] at h5
        have h7 : (cur.toList.take j ++ [u] ++ cur.toList.drop (j + [u].length)).toArray = cur := take_put h5
        rw [h7]
      · exact setRow_other w g k _ hk
    have hchg : Chg (bl b) w (w.setRow g (cur.toList.take j ++ [u] ++ cur.toList.drop (j + [u].length)).toArray) := by
      have := Chg.setRow w g (cur.toList.take j ++ [u] ++ cur.toList.drop (j + [u].length)).toArray
      have eb : bl b = [g] := by rw [← hpb]; unfold bl; rw [if_pos (by simp)]; simp
      rw [eb]; exact this
    refine wl_skip (w' := _) rfl (by
      simp only [execOp, ha.eq hx, ha.eq hy, Instr.storeAt, Instr.sureAddr, storeVar, hsz, hu, Sem.run_bind, Sem.run_pure, Result.andThen_ok, List.size_toArray, List.length_singleton, ne_eq, not_true_eq_false, if_false, hst]) (K _ fs ?_ hchg (fun k hk => .inl hk) hn)
    rw [show xs.set i.toNat q = xs by
      apply List.ext_getElem?
      intro j
      rw [List.getElem?_set]
      split
      · rename_i e; subst e; split
        · exact hxo.symm
        · rename_i hj; rw [List.getElem?_eq_none (by omega)]
      · rfl]
    exact h.keep (fun k _ => hsame k) (fun k _ => hsame k)
  · refine o_storeE (r := Rp.sl E1 r1) (f := bl b' ++ []) (q := q) ha hsz hx hy hu h hi (Rp.mkO hO) ?_ ?_
    · intro k hk e
      simp only [List.append_nil, mem_bl] at hk
      have hb : 0 ≤ b := by omega
      refine hnq b.toNat (List.mem_append_left _ (by rw [mem_bl]; omega)) ?_
      omega
    · intro w' fs' h1 h2 h3
      refine K w' fs' h1 h2 (fun k hk => ?_) (h3.nd hn ?_ ?_)
      · rcases h3.mem k hk with g | g
        · exact .inl g
        · simp only [List.append_nil, mem_bl] at g
          right; omega
      · have := bl_nodup b'; exact this
      · intro k hk hk2
        simp only [List.append_nil, mem_bl] at hk
        exact hnq k hk2 hk
end
theorem inI_wI (x : Int) : InI (wI x) := by unfold InI wI; omega
section
variable {P : Program} {C : World → Prop} {σ : Slots} {w : World}
theorem gw_add {x y : Operand} {m n : Int} {T U : TypeId} (hx : ev σ x = some (.int .i64 m)) (hy : ev σ y = some (.int .i64 n)) : Gives P C σ (.binOp .add T x y U) (.int .i64 (wI (m + n))) :=
  fun N a w ha _ d ty pos af g => by
    have e : IntKind.i64.wrap (m + n) = wI (m + n) := IntKind.wrap_i64 _
    simp [execOp, ha.eq hx, ha.eq hy, eqGuard, binOp, Op.intArith]
    exact e
theorem gw_mul {x y : Operand} {m n : Int} {T U : TypeId} (hx : ev σ x = some (.int .i64 m)) (hy : ev σ y = some (.int .i64 n)) : Gives P C σ (.binOp .mul T x y U) (.int .i64 (wI (m * n))) :=
  fun N a w ha _ d ty pos af g => by
    have e : IntKind.i64.wrap (m * n) = wI (m * n) := IntKind.wrap_i64 _
    simp [execOp, ha.eq hx, ha.eq hy, eqGuard, binOp, Op.intArith]
    exact e
end
theorem f_retC4 {P : Program} {N : Nat} {σ : Slots} {a : Act} {w : World} {fn : Func} {t T b u u2 u3 : Nat} {cs : List Value} {e : TypeId} {v' v2 v3 : Value} {R : Value → World → Prop} (ha : Fr N σ a) (hr : fn.results = #[.cell t T, .tmp u, .tmp u2, .tmp u3]) (hv : lk σ t = some (.pointer (some ⟨b, 0, none⟩)))
    (hag : ∀ w, (isAgg T).run P w = .ok true w) (hsz : ∀ w, (sizeOf T).run P w = .ok cs.length w) (hB : Bx w b cs e) (hv' : lk σ u = some v') (hv2 : lk σ u2 = some v2) (hv3 : lk σ u3 = some v3)
    (h : R (.tuple #[.agg cs.toArray, v', v2, v3]) w) : bodyPost P fn (Ret R) .ret a w := by
  refine bodyPost_ret (v := .tuple #[.agg cs.toArray, v', v2, v3]) ?_ ha.defers ⟨_, rfl, h⟩
  have hl := run_loadCells_list (P := P) w ⟨b, 0, none⟩ cs (fun j v hj => by rw [Addr.add_lit', Nat.zero_add]; exact hB.cell hj)
  simp [results, hr, Array.getD_eq_getD_getElem?, ha.get t _ hv, ha.get u _ hv', ha.get u2 _ hv2, ha.get u3 _ hv3, asAddr, loadVar, hag, hsz, hl]
end Go.Proofs.Ytjcnkijmbjhcnaa
