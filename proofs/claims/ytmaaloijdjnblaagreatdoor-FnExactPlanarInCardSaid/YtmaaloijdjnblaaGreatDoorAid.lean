/- Small laws that the printed walks use. Of whatever program. -/
import Derived.Test.YtmaaloijdjnblaaGreatDoorDraw
namespace Go.Proofs.YtmaaloijdjnblaaGreatDoor
open Go Go.RowKit
theorem b_false {b : Bool} {p : Prop} (h : b = true ↔ p) (hp : ¬ p) : b = false := by
  cases b with
  | false => rfl
  | true => exact absurd (h.1 rfl) hp
theorem n_iff {b : Bool} {p : Prop} (h : b = true ↔ p) : (!b) = true ↔ ¬ p := by rw [← h]; simp
theorem in_quo {x y : Int} (h : InI x) (h0 : 0 ≤ x) (hy : 0 < y) : InI (x / y) := by
  have h1 := Int.ediv_nonneg h0 (by omega : (0 : Int) ≤ y)
  have h2 := Int.ediv_le_self y h0
  unfold InI at *; omega
theorem in_rem {x y : Int} (h : InI x) (h0 : 0 ≤ x) (hy : 0 < y) : InI (x % y) := by
  obtain ⟨a, rfl⟩ := Int.eq_ofNat_of_zero_le h0
  obtain ⟨b, rfl⟩ := Int.eq_ofNat_of_zero_le (by omega : 0 ≤ y)
  have h1 : ((a : Int) % (b : Int)) = ((a % b : Nat) : Int) := (Int.natCast_emod a b).symm
  have h2 := Nat.mod_le a b
  rw [h1]; unfold InI at *; omega
theorem Chg.more {D : List Nat} {a b c : World} (h : Chg D a b) (k : Ext b c) : Chg D a c := h.trans k (fun _ h => by cases h)
theorem Chg.same {D : List Nat} {a b c : World} (h : Chg D a b) (k : Chg D b c) : Chg D a c := h.trans k (fun _ h => .inl h)
theorem Chg.own {D D' : List Nat} {a b c : World} (h : Chg D a b) (k : Chg D' b c) (hD : ∀ i ∈ D', a.heap.size ≤ i) : Chg D a c := h.trans k (fun i hi => .inr (hD i hi))
theorem Zn.upD {D : List Nat} {w w' : World} {b : Int} (h : Zn w' b) (hE : Chg D w w') : Zn w b := h.imp id fun h => by have := hE.size; omega
theorem Zn.appD {D : List Nat} {w w' : World} {b b' : Int} (h : Zn w b) (hb : b' = b ∨ (w'.heap.size : Int) = b') (hE : Chg D w w') : Zn w b' := by
  rcases hb with e | e
  · rw [e]; exact h
  · exact .inr (by have := hE.size; omega)
theorem bl_nodup (b : Int) : (bl b ++ []).Nodup := by unfold bl; split <;> simp
theorem zn_of {w : World} {b : Int} (h : b = w.heap.size) : Zn w b := .inr (by omega)
theorem zf_up {w w' : World} {fs : List Nat} (h : ∀ k ∈ fs, w'.heap.size ≤ k) {D : List Nat} (hE : Chg D w w') : ∀ k ∈ fs, w.heap.size ≤ k := fun k hk => Nat.le_trans hE.size (h k hk)
theorem dj_of {fs : List Nat} {b c : Int} (h : Nq (bl b ++ fs) c) : ∀ k ∈ bl c ++ [], k ∉ bl b ++ fs := fun k hk hm => by
  simp only [List.append_nil] at hk
  exact h k hm (mem_bl.1 hk)
theorem zf_set {fs f fs' : List Nat} {n : Nat} (h : Subst fs f fs') (hz : ∀ k ∈ fs, n ≤ k) (hf : ∀ k ∈ f, n ≤ k) : ∀ k ∈ fs', n ≤ k := fun k hk => by
  rcases h.mem k hk with g | g
  · exact hz k g
  · exact hf k g
theorem zf_mv {w : World} {fs : List Nat} {b : Int} (h : Zn w b) (hf : ∀ k ∈ fs, w.heap.size ≤ k) : ∀ k ∈ bl b ++ fs, w.heap.size ≤ k := fun k hk => by
  rcases List.mem_append.1 hk with g | g
  · exact h.bl k g
  · exact hf k g
theorem zf_nil (n : Nat) : ∀ k ∈ ([] : List Nat), n ≤ k := fun k h => nomatch h
theorem nd_right {b : Int} {fs : List Nat} (h : (bl b ++ fs).Nodup) : fs.Nodup := (List.nodup_append.1 h).2.1
theorem Nq.madeL {w : World} {b c : Int} (h : Zn w b) (hc : c < w.heap.size) : Nq (bl b) c := fun k hk => by
  rw [mem_bl] at hk; rcases h with h | h <;> omega
theorem Nq.neg {f : List Nat} {c : Int} (h : c < 0) : Nq f c := fun k hk => by omega
theorem Nq.right {f g : List Nat} {b : Int} (h : Nq (f ++ g) b) : Nq g b := fun k hk => h k (List.mem_append_right _ hk)
theorem nd_lit {w : World} {f : List Nat} {b : Int} (h : f.Nodup) (hf : ∀ k ∈ f, k < w.heap.size) (hb : b = w.heap.size) : (bl b ++ f).Nodup := by
  have hb1 : (bl b).Nodup := by unfold bl; split <;> simp
  rw [List.nodup_append]
  exact ⟨hb1, h, fun x hx y hy e => by rw [mem_bl] at hx; subst e; have := hf x hy; omega⟩
theorem nd_app {fs f : List Nat} {b b' : Int} {w : World} (hn : (bl b ++ fs).Nodup) (hf : f.Nodup) (hd : ∀ k ∈ f, k ∉ bl b ++ fs) (hb : b' = b ∨ (w.heap.size : Int) = b') (h1 : ∀ k ∈ bl b ++ fs, k < w.heap.size) (h2 : ∀ k ∈ f, k < w.heap.size) :
    (bl b' ++ (fs ++ f)).Nodup := by
  have hb1 : (bl b').Nodup := by unfold bl; split <;> simp
  simp only [List.nodup_append, List.mem_append] at hn ⊢
  obtain ⟨h3, h4, h5⟩ := hn
  refine ⟨hb1, ⟨h4, hf, fun x hx y hy e => hd y hy (by simp [← e, hx])⟩, fun x hx y hy e => ?_⟩
  subst e
  rw [mem_bl] at hx
  rcases hb with e | e
  · rcases hy with hy | hy
    · exact h5 x (by rw [mem_bl]; omega) x hy rfl
    · exact hd x hy (by rw [List.mem_append, mem_bl]; left; omega)
  · rcases hy with hy | hy
    · have := h1 x (List.mem_append_right _ hy); omega
    · have := h2 x hy; omega
theorem zf_app {fs f : List Nat} {n : Nat} (hz : ∀ k ∈ fs, n ≤ k) (hf : ∀ k ∈ f, n ≤ k) : ∀ k ∈ fs ++ f, n ≤ k := fun k hk => by
  rcases List.mem_append.1 hk with g | g
  · exact hz k g
  · exact hf k g
section
variable {α : Type} {r : Rp α} {e : TypeId} {w : World}
theorem Ow.nil {o : Bool} {b : Int} (h : b < 0) : Ow r e o w [] b (.slice none 0 0) [] := .inl ⟨h, rfl, rfl, rfl⟩
theorem Ro.nil (r : Rp α) : Ro r w [] (.slice none 0 0) [] := ⟨none, 0, rfl, by simp [maxLen], .inl ⟨rfl, rfl⟩⟩
theorem Ro.cells {fp v} {xs : List α} (h : Ro r w fp v xs) : v.cells = #[v] := by obtain ⟨a, c, hv, _⟩ := h; subst hv; rfl
theorem Ro.shape {fp v} {xs : List α} (h : Ro r w fp v xs) : ∃ a c, v = .slice a xs.length c := by obtain ⟨a, c, hv, _⟩ := h; exact ⟨a, c, hv⟩
theorem Ow.shape {o fs b v} {xs : List α} (h : Ow r e o w fs b v xs) : ∃ a c, v = .slice a xs.length c := by obtain ⟨a, c, hv, _⟩ := h.val; exact ⟨a, c, hv⟩
theorem Ro.oneC {fp v} {xs : List α} (h : Ro r w fp v xs) : v.oneCell' = true := by obtain ⟨a, c, hv, _⟩ := h; subst hv; rfl
theorem Ow.cells {o fs b v} {xs : List α} (h : Ow r e o w fs b v xs) : v.cells = #[v] := by obtain ⟨a, c, hv, _⟩ := h.val; subst hv; rfl
theorem Ow.oneC {o fs b v} {xs : List α} (h : Ow r e o w fs b v xs) : v.oneCell' = true := by obtain ⟨a, c, hv, _⟩ := h.val; subst hv; rfl
def Scal (r : Rp α) : Prop := ∀ w fp cs x, r.rep false w fp cs x → r.rep true w fp cs x ∧ fp = []
theorem scal_int : Scal Rp.int := fun _ _ _ _ h => ⟨h, h.2.2⟩
theorem RepL.up (hr : Scal r) : ∀ {xs : List α} {fp cs}, RepL r false w fp cs xs → RepL r true w fp cs xs ∧ fp = []
  | [], _, _, h => ⟨h, h.1⟩
  | x :: xs, _, _, ⟨f, fs, c, cs', hf, hc, hx, hrr⟩ => by
    obtain ⟨h1, e1⟩ := hr _ _ _ _ hx
    obtain ⟨h2, e2⟩ := RepL.up hr hrr
    exact ⟨⟨f, fs, c, cs', hf, hc, h1, h2⟩, by rw [hf, e1, e2]; rfl⟩
theorem Src.up {f u} {ys : List α} (h : Src r false w f u ys) (hr : Scal r) : Src r true w [] u ys := by
  obtain ⟨news, h1, h2⟩ := h
  obtain ⟨h3, e⟩ := RepL.up hr h1
  subst e; exact ⟨news, h3, h2⟩
theorem nil_rep {o : Bool} (w : World) : (Rp.sl e r).rep o w [] (Value.cells (.slice none 0 0)).toList [] := by
  cases o
  · exact ⟨_, rfl, Ro.nil r⟩
  · exact ⟨_, rfl, [], -1, Ow.nil (by decide), rfl⟩
end
section gives
variable {P : Program} {C : World → Prop} {σ : Slots} {w : World}
theorem g_min {x y : Operand} {m n : Int} {T U : TypeId} (hx : ev σ x = some (.int .i64 m)) (hy : ev σ y = some (.int .i64 n)) : Gives P C σ (.call { callee := .builtin .min, args := #[x, y], argTypes := #[T, U] }) (.int .i64 (min m n)) :=
  fun N a w ha _ d ty pos af g => by
    have e : (if n < m then n else m) = min m n := by rw [Int.min_def]; split <;> split <;> omega
    simp [execOp, resolve, invoke, builtin, Builtin.min_, Builtin.min2, ha.eq hx, ha.eq hy, e]
theorem g_max {x y : Operand} {m n : Int} {T U : TypeId} (hx : ev σ x = some (.int .i64 m)) (hy : ev σ y = some (.int .i64 n)) : Gives P C σ (.call { callee := .builtin .max, args := #[x, y], argTypes := #[T, U] }) (.int .i64 (max m n)) :=
  fun N a w ha _ d ty pos af g => by
    have e : (if n > m then n else m) = max m n := by rw [Int.max_def]; split <;> split <;> omega
    simp [execOp, resolve, invoke, builtin, Builtin.max_, Builtin.max2, ha.eq hx, ha.eq hy, e]
theorem in_min {m n : Int} (h : InI m) (k : InI n) : InI (min m n) := by rw [Int.min_def]; split <;> assumption
def evp (σ : Slots) : List (Nat × Operand) → Option (List (Nat × Value))
  | [] => some []
  | (i, x) :: r => match ev σ x, evp σ r with | some v, some vs => some ((i, v) :: vs) | _, _ => none
theorem evp_map {N : Nat} {a : Act} (ha : Fr N σ a) : ∀ {xs : List (Nat × Operand)} {vs : List (Nat × Value)}, evp σ xs = some vs → xs.map (fun x => (x.1, a.eval x.2)) = vs
  | [], _, h => by simp [evp] at h; subst h; rfl
  | (i, x) :: r, vs, h => by
    simp only [evp] at h
    split at h
    · rename_i v us h1 h2
      injection h with h; subst h
      simp [ha.eq h1, evp_map ha h2]
    · cases h
theorem g_build {T : TypeId} {xs : List (Nat × Operand)} {vs : List (Nat × Value)} {cells : Array Value} (hx : evp σ xs = some vs) (h : P.built T vs = some cells) : Gives P C σ (.build T xs.toArray) (.agg cells) :=
  fun N a w ha _ d ty pos af g => by
    have e : (xs.toArray.map fun (x : Nat × Operand) => (x.1, a.eval x.2)) = vs.toArray := by
      rw [← evp_map ha hx]; simp
    have := run_build (P := P) w T vs.toArray cells (by simpa using h)
    rw [← e] at this
    simp only [execOp]
    simp at this
    simp [this]
theorem g_quo {x y : Operand} {m n : Int} {T U : TypeId} (hx : ev σ x = some (.int .i64 m)) (hy : ev σ y = some (.int .i64 n)) (hm : InI m) (h0 : 0 ≤ m) (hn : 0 < n) : Gives P C σ (.binOp .quo T x y U) (.int .i64 (m / n)) :=
  fun N a w ha _ d ty pos af g => by
    have e : m.tdiv n = m / n := Int.tdiv_eq_ediv_of_nonneg h0
    have h1 : n ≠ 0 := by omega
    simp [execOp, ha.eq hx, ha.eq hy, eqGuard, binOp, Op.intDiv, h1, e, i64_wrap (in_quo hm h0 hn)]
theorem g_rem {x y : Operand} {m n : Int} {T U : TypeId} (hx : ev σ x = some (.int .i64 m)) (hy : ev σ y = some (.int .i64 n)) (hm : InI m) (h0 : 0 ≤ m) (hn : 0 < n) : Gives P C σ (.binOp .rem T x y U) (.int .i64 (m % n)) :=
  fun N a w ha _ d ty pos af g => by
    have e : m.tmod n = m % n := Int.tmod_eq_emod_of_nonneg h0
    have h1 : n ≠ 0 := by omega
    simp [execOp, ha.eq hx, ha.eq hy, eqGuard, binOp, Op.intDiv, h1, e]
theorem bv_wrap (x : BitVec 32) : IntKind.u32.wrap (x.toNat : Int) = (x.toNat : Int) := IntWalk.u32_in _ (by have := x.isLt; omega)
theorem bv_of (x : BitVec 32) : BitVec.ofInt 32 (x.toNat : Int) = x := by simp
section bits
variable {x y : Operand} {m n : BitVec 32} {T U : TypeId} (hx : ev σ x = some (.int .u32 (m.toNat : Int))) (hy : ev σ y = some (.int .u32 (n.toNat : Int)))
include hx hy
theorem g32_and : Gives P C σ (.binOp .and T x y U) (.int .u32 ((m &&& n).toNat : Int)) :=
  fun N a w ha _ d ty pos af g => by
    have h1 : BitVec.ofInt IntKind.u32.bits (m.toNat : Int) = m := bv_of m
    have h2 : BitVec.ofInt IntKind.u32.bits (n.toNat : Int) = n := bv_of n
    simp only [execOp, ha.eq hx, ha.eq hy, eqGuard, binOp, Op.intBits, h1, h2]
    have := bv_wrap (m &&& n)
    simp [-BitVec.toNat_and]
    exact this
theorem g32_or : Gives P C σ (.binOp .or T x y U) (.int .u32 ((m ||| n).toNat : Int)) :=
  fun N a w ha _ d ty pos af g => by
    have h1 : BitVec.ofInt IntKind.u32.bits (m.toNat : Int) = m := bv_of m
    have h2 : BitVec.ofInt IntKind.u32.bits (n.toNat : Int) = n := bv_of n
    simp only [execOp, ha.eq hx, ha.eq hy, eqGuard, binOp, Op.intBits, h1, h2]
    have := bv_wrap (m ||| n)
    simp [-BitVec.toNat_or]
    exact this
theorem g32_andNot : Gives P C σ (.binOp .andNot T x y U) (.int .u32 ((m &&& ~~~n).toNat : Int)) :=
  fun N a w ha _ d ty pos af g => by
    have h1 : BitVec.ofInt IntKind.u32.bits (m.toNat : Int) = m := bv_of m
    have h2 : BitVec.ofInt IntKind.u32.bits (n.toNat : Int) = n := bv_of n
    simp only [execOp, ha.eq hx, ha.eq hy, eqGuard, binOp, Op.intBits, h1, h2]
    have := bv_wrap (m &&& ~~~n)
    simp [-BitVec.toNat_and, -BitVec.toNat_not]
    exact this
theorem g32_sub : Gives P C σ (.binOp .sub T x y U) (.int .u32 ((m - n).toNat : Int)) :=
  fun N a w ha _ d ty pos af g => by
    have e : IntKind.u32.wrap ((m.toNat : Int) - (n.toNat : Int)) = ((m - n).toNat : Int) := by
      rw [IntKind.wrap_u32, BitVec.toNat_sub]; have := m.isLt; have := n.isLt; omega
    simp [execOp, ha.eq hx, ha.eq hy, eqGuard, binOp, Op.intArith]
    exact e
theorem g32_eql : Gives P C σ (.binOp .eql T x y U) (.bool (decide (m = n))) :=
  fun N a w ha hC d ty pos af g => by
    rw [g_eql hx hy N a w ha hC]
    have : ((m.toNat : Int) = (n.toNat : Int)) ↔ m = n := ⟨fun h => BitVec.eq_of_toNat_eq (by omega), fun h => by rw [h]⟩
    simp [this]
theorem g32_neq : Gives P C σ (.binOp .neq T x y U) (.bool (decide (m ≠ n))) :=
  fun N a w ha hC d ty pos af g => by
    rw [g_neq hx hy N a w ha hC]
    have : ((m.toNat : Int) = (n.toNat : Int)) ↔ m = n := ⟨fun h => BitVec.eq_of_toNat_eq (by omega), fun h => by rw [h]⟩
    simp [this]
end bits
theorem g32_shl {x y : Operand} {m : BitVec 32} {n : Int} {k : IntKind} {T U : TypeId} (hx : ev σ x = some (.int .u32 (m.toNat : Int))) (hy : ev σ y = some (.int k n)) (h0 : 0 ≤ n) :
    Gives P C σ (.binOp .shl T x y U) (.int .u32 ((m <<< n.toNat).toNat : Int)) :=
  fun N a w ha _ d ty pos af g => by
    have h1 : ¬ n < 0 := by omega
    have e : IntKind.u32.wrap ((m.toNat : Int) * 2 ^ (min n.toNat IntKind.u32.bits)) = ((m <<< n.toNat).toNat : Int) := by
      rw [IntKind.wrap_u32, BitVec.toNat_shiftLeft, Nat.shiftLeft_eq]
      have hb : IntKind.u32.bits = 32 := rfl
      rw [hb]
      rcases Nat.le_total n.toNat 32 with g | g
      · rw [Nat.min_eq_left g, Int.natCast_emod, Int.natCast_mul, Int.natCast_pow]; rfl
      · rw [Nat.min_eq_right g]
        obtain ⟨k', hk⟩ := Nat.exists_eq_add_of_le g
        rw [hk, Nat.pow_add]
        have e1 : m.toNat * (2 ^ 32 * 2 ^ k') = (m.toNat * 2 ^ k') * 2 ^ 32 := by rw [Nat.mul_comm (2 ^ 32), Nat.mul_assoc]
        rw [e1, Nat.mul_mod_left]
        omega
    have hr : (if n < 0 then runtimePanic (.error "negative shift amount") else (pure (.int .u32 (IntKind.u32.wrap ((m.toNat : Int) * 2 ^ (min n.toNat IntKind.u32.bits)))) : Sem Value)).run P w = .ok (.int .u32 ((m <<< n.toNat).toNat : Int)) w := by
      rw [if_neg h1, e]; rfl
    have hb : (binOp .shl T (.int .u32 (m.toNat : Int)) (.int k n)).run P w = .ok (.int .u32 ((m <<< n.toNat).toNat : Int)) w := hr
    simp only [execOp, ha.eq hx, ha.eq hy, eqGuard, Sem.run_bind]
    simp [-BitVec.toNat_shiftLeft, hb]
theorem g32_shr {x y : Operand} {m : BitVec 32} {n : Int} {k : IntKind} {T U : TypeId} (hx : ev σ x = some (.int .u32 (m.toNat : Int))) (hy : ev σ y = some (.int k n)) (h0 : 0 ≤ n) :
    Gives P C σ (.binOp .shr T x y U) (.int .u32 ((m >>> n.toNat).toNat : Int)) :=
  fun N a w ha _ d ty pos af g => by
    have h1 : ¬ n < 0 := by omega
    have e : ((m.toNat : Int)).fdiv (2 ^ (min n.toNat IntKind.u32.bits)) = ((m >>> n.toNat).toNat : Int) := by
      have hb : IntKind.u32.bits = 32 := rfl
      rw [hb, BitVec.toNat_ushiftRight, Nat.shiftRight_eq_div_pow, Int.fdiv_eq_ediv_of_nonneg _ (Int.le_of_lt (by exact Int.pow_pos (by decide)))]
      rcases Nat.le_total n.toNat 32 with g | g
      · rw [Nat.min_eq_left g, Int.natCast_ediv, Int.natCast_pow]; rfl
      · rw [Nat.min_eq_right g]
        have hl := m.isLt
        have e1 : m.toNat / 2 ^ n.toNat = 0 := Nat.div_eq_of_lt (Nat.lt_of_lt_of_le hl (Nat.pow_le_pow_right (by decide) g))
        rw [e1]; omega
    have hr : (if n < 0 then runtimePanic (.error "negative shift amount") else (pure (.int .u32 ((m.toNat : Int).fdiv (2 ^ (min n.toNat IntKind.u32.bits)))) : Sem Value)).run P w = .ok (.int .u32 ((m >>> n.toNat).toNat : Int)) w := by
      rw [if_neg h1, e]; rfl
    have hb : (binOp .shr T (.int .u32 (m.toNat : Int)) (.int k n)).run P w = .ok (.int .u32 ((m >>> n.toNat).toNat : Int)) w := hr
    simp only [execOp, ha.eq hx, ha.eq hy, eqGuard, Sem.run_bind]
    simp [-BitVec.toNat_ushiftRight, hb]
theorem run_eqB {T : TypeId} {m n : Bool} (hT : P.underlying T = some .bool) (w : World) : (Op.equal T (.bool m) (.bool n)).run P w = .ok (m == n) w := by
  unfold Op.equal
  obtain ⟨k, hk⟩ : ∃ k, Op.maxDepth = k + 1 := ⟨9999, rfl⟩
  rw [hk]
  simp [Op.equalIn, run_underlying hT]
theorem gB_neq {x y : Operand} {m n : Bool} {T U : TypeId} (hT : P.underlying T = some .bool) (hx : ev σ x = some (.bool m)) (hy : ev σ y = some (.bool n)) : Gives P C σ (.binOp .neq T x y U) (.bool (m != n)) :=
  fun N a w ha _ d ty pos af g => by simp [execOp, ha.eq hx, ha.eq hy, eqGuard, binOp, run_eqB hT]; cases m <;> cases n <;> rfl
end gives
theorem calls_fact {P : Program} {f : FuncId} {args : Array Value} {w : World} {R : Value → World → Prop} {q : Prop} (h : Calls P f args w (Ret R)) (hq : ∀ u w', R u w' → q) : q := by
  obtain ⟨e, w', fr, ⟨v, _, hR⟩, _⟩ := h []
  exact hq v w' hR
end Go.Proofs.YtmaaloijdjnblaaGreatDoor
