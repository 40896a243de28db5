/- What memory holds: data read through slices ('Ro'), slices that the call itself made ('Ow'), boxes ('Bx'). -/
import Derived.Test.YtmaaloijdjnblaaGreatDoorBase
namespace Go.Proofs.YtmaaloijdjnblaaGreatDoor
open Go Go.RowKit

def At (w : World) (p : Addr) (cs : List Value) : Prop := ∀ j v, cs[j]? = some v → w.cell? (p.add j) = some v
theorem Addr.add_block (p : Addr) (j : Nat) : (p.add j).block = p.block := by unfold Addr.add; split <;> rfl
theorem At.keep {w w' : World} {p : Addr} {cs : List Value} (h : At w p cs) (hb : w'.heap[p.block]? = w.heap[p.block]?) : At w' p cs :=
  fun j v hj => (World.cell?_of_block (w := w) (a := p.add j) (by rw [Addr.add_block]; exact hb)).trans (h j v hj)
theorem Addr.add_zero' (p : Addr) : p.add 0 = p := by simp [Addr.add]
theorem At.one {w : World} {p : Addr} {v : Value} (h : At w p [v]) : w.cell? p = some v := by have := h 0 v rfl; rwa [Addr.add_zero'] at this
theorem Addr.add_add' (b o i j : Nat) : ((⟨b, o, none⟩ : Addr).add i).add j = (⟨b, o, none⟩ : Addr).add (i + j) := by
  unfold Addr.add; repeat' split
  all_goals simp_all <;> omega
theorem Addr.add_lit' (b o i : Nat) : (⟨b, o, none⟩ : Addr).add i = ⟨b, o + i, none⟩ := by unfold Addr.add; split <;> simp_all

structure Rp (α : Type) where
  sz : Nat
  pos : 0 < sz
  rep : Bool → World → List Nat → List Value → α → Prop
  len : ∀ {o w fp cs x}, rep o w fp cs x → cs.length = sz
  one : ∀ {o w fp cs x}, rep o w fp cs x → ∀ c ∈ cs, c.oneCell' = true
  keep : ∀ {o w w' fp cs x}, rep o w fp cs x → (∀ k ∈ fp, w'.heap[k]? = w.heap[k]?) → rep o w' fp cs x
  bnd : ∀ {o w fp cs x}, rep o w fp cs x → ∀ k ∈ fp, k < w.heap.size
  weak : ∀ {w fp cs x}, rep true w fp cs x → rep false w fp cs x

theorem lt_size {w : World} {k : Nat} {o : Obj} (h : w.heap[k]? = some o) : k < w.heap.size := (Array.getElem?_eq_some_iff.1 h).1

def RepL {α : Type} (r : Rp α) (o : Bool) (w : World) : List Nat → List Value → List α → Prop
  | fp, cs, [] => fp = [] ∧ cs = []
  | fp, cs, x :: xs => ∃ f fs c cs', fp = f ++ fs ∧ cs = c ++ cs' ∧ r.rep o w f c x ∧ RepL r o w fs cs' xs
section
variable {α : Type} {r : Rp α} {o : Bool} {w w' : World}
theorem RepL.len : ∀ {xs : List α} {fp cs}, RepL r o w fp cs xs → cs.length = xs.length * r.sz
  | [], _, _, ⟨_, h⟩ => by simp [h]
  | x :: xs, _, _, ⟨f, fs, c, cs', _, hc, hx, hr⟩ => by
    rw [hc, List.length_append, r.len hx, hr.len, List.length_cons, Nat.add_mul]; omega
theorem RepL.one : ∀ {xs : List α} {fp cs}, RepL r o w fp cs xs → ∀ c ∈ cs, c.oneCell' = true
  | [], _, _, ⟨_, h⟩ => by simp [h]
  | x :: xs, _, _, ⟨f, fs, c, cs', _, hc, hx, hr⟩ => by
    intro u hu; rw [hc] at hu
    rcases List.mem_append.1 hu with g | g
    · exact r.one hx u g
    · exact hr.one u g
theorem RepL.keep : ∀ {xs : List α} {fp cs}, RepL r o w fp cs xs → (∀ k ∈ fp, w'.heap[k]? = w.heap[k]?) → RepL r o w' fp cs xs
  | [], _, _, h, _ => h
  | x :: xs, _, _, ⟨f, fs, c, cs', hf, hc, hx, hr⟩, hk =>
    ⟨f, fs, c, cs', hf, hc, r.keep hx (fun k hkf => hk k (by rw [hf]; simp [hkf])), hr.keep (fun k hkf => hk k (by rw [hf]; simp [hkf]))⟩
theorem RepL.bnd : ∀ {xs : List α} {fp cs}, RepL r o w fp cs xs → ∀ k ∈ fp, k < w.heap.size
  | [], _, _, ⟨h, _⟩ => by simp [h]
  | x :: xs, _, _, ⟨f, fs, c, cs', hf, hc, hx, hr⟩ => by
    intro u hu; rw [hf] at hu
    rcases List.mem_append.1 hu with g | g
    · exact r.bnd hx u g
    · exact hr.bnd u g
theorem RepL.weak : ∀ {xs : List α} {fp cs}, RepL r true w fp cs xs → RepL r false w fp cs xs
  | [], _, _, h => h
  | x :: xs, _, _, ⟨f, fs, c, cs', hf, hc, hx, hr⟩ => ⟨f, fs, c, cs', hf, hc, r.weak hx, hr.weak⟩
theorem RepL.nil : RepL r o w [] [] [] := ⟨rfl, rfl⟩
theorem RepL.sing {f : List Nat} {c : List Value} {x : α} (h : r.rep o w f c x) : RepL r o w f c [x] :=
  ⟨f, [], c, [], by simp, by simp, h, rfl, rfl⟩
theorem RepL.append : ∀ {xs ys : List α} {fp cs fp' cs'}, RepL r o w fp cs xs → RepL r o w fp' cs' ys → RepL r o w (fp ++ fp') (cs ++ cs') (xs ++ ys)
  | [], _, _, _, _, _, ⟨h1, h2⟩, h => by subst h1 h2; simpa using h
  | x :: xs, ys, _, _, fp', cs', ⟨f, fs, c, cs0, hf, hc, hx, hr⟩, h =>
    ⟨f, fs ++ fp', c, cs0 ++ cs', by rw [hf]; simp, by rw [hc]; simp, hx, hr.append h⟩
theorem RepL.get : ∀ {xs : List α} {fp cs}, RepL r o w fp cs xs → ∀ {i : Nat} {x : α}, xs[i]? = some x →
    ∃ f, (∀ k ∈ f, k ∈ fp) ∧ r.rep o w f ((cs.drop (i * r.sz)).take r.sz) x
  | [], _, _, _, i, x, h => by simp at h
  | x0 :: xs, _, _, ⟨f, fs, c, cs', hf, hc, hx, hr⟩, 0, x, h => by
    simp at h; subst h
    refine ⟨f, fun k hk => by rw [hf]; simp [hk], ?_⟩
    have := r.len hx
    rw [hc]; simpa [← this] using hx
  | x0 :: xs, _, _, ⟨f, fs, c, cs', hf, hc, hx, hr⟩, i + 1, x, h => by
    simp only [List.getElem?_cons_succ] at h
    obtain ⟨g, hg, hgr⟩ := hr.get h
    refine ⟨g, fun k hk => by rw [hf]; simp [hg k hk], ?_⟩
    have := r.len hx
    have e : (c ++ cs').drop ((i + 1) * r.sz) = cs'.drop (i * r.sz) := by
      rw [Nat.add_mul, Nat.one_mul, Nat.add_comm, ← this, List.drop_append, List.drop_of_length_le (by omega)]
      simp
    rw [hc, e]; exact hgr
theorem RepL.set : ∀ {xs : List α} {fp cs}, RepL r o w fp cs xs → ∀ {i : Nat} {y : α} {f : List Nat} {c : List Value}, i < xs.length → r.rep o w f c y →
    ∃ pre old post, fp = pre ++ old ++ post ∧ RepL r o w (pre ++ f ++ post) (cs.take (i * r.sz) ++ c ++ cs.drop (i * r.sz + r.sz)) (xs.set i y)
  | [], _, _, _, i, _, _, _, h, _ => by simp at h
  | x0 :: xs, _, _, ⟨f0, fs, c0, cs', hf, hc, hx, hr⟩, 0, y, f, c, h, hy => by
    refine ⟨[], f0, fs, by rw [hf]; rfl, ?_⟩
    have := r.len hx
    refine ⟨f, fs, c, cs', rfl, ?_, hy, hr⟩
    rw [hc]; simp [← this]
  | x0 :: xs, _, _, ⟨f0, fs, c0, cs', hf, hc, hx, hr⟩, i + 1, y, f, c, h, hy => by
    obtain ⟨pre, old, post, h1, h2⟩ := hr.set (i := i) (by simpa using h) hy
    refine ⟨f0 ++ pre, old, post, by rw [hf, h1]; simp, f0, pre ++ f ++ post, c0, _, by simp, ?_, hx, h2⟩
    have e := r.len hx
    have e1 : (i + 1) * r.sz = c0.length + i * r.sz := by rw [Nat.add_mul, e]; omega
    rw [hc, e1, List.take_append, Nat.add_assoc, List.drop_append]
    simp [List.take_of_length_le, List.drop_of_length_le]
theorem RepL.replicate {z : α} {cz : List Value} (h : ∀ w : World, r.rep o w [] cz z) : ∀ n : Nat, ∀ w : World, RepL r o w [] (List.replicate n cz).flatten (List.replicate n z)
  | 0, _ => ⟨rfl, rfl⟩
  | n + 1, w => ⟨[], [], cz, _, rfl, by simp [List.replicate_succ], h w, RepL.replicate h n w⟩
end

def Ro {α : Type} (r : Rp α) (w : World) (fp : List Nat) (v : Value) (xs : List α) : Prop :=
  ∃ a cap, v = .slice a xs.length cap ∧ (xs.length ≤ cap ∧ cap ≤ maxLen) ∧ ((xs = [] ∧ fp = []) ∨
    ∃ b off cs fs, a = some ⟨b, off, none⟩ ∧ fp = b :: fs ∧ b < w.heap.size ∧ At w ⟨b, off, none⟩ cs ∧ RepL r false w fs cs xs)
def Ow {α : Type} (r : Rp α) (e : TypeId) (o : Bool) (w : World) (fs : List Nat) (b : Int) (v : Value) (xs : List α) : Prop :=
  (b < 0 ∧ v = .slice none 0 0 ∧ xs = [] ∧ fs = []) ∨
  ∃ (g cap : Nat) (cur : Array Value) (cs : List Value), b = (g : Int) ∧ v = .slice (some ⟨g, 0, none⟩) xs.length cap ∧ w.heap[g]? = some (.cells cur e (0, 0)) ∧ xs.length ≤ cap ∧ cap ≤ maxLen ∧
    cur.size = cap * r.sz ∧ cur.toList.take (xs.length * r.sz) = cs ∧ RepL r o w fs cs xs ∧ ∀ k ∈ fs, (k : Int) ≠ b
def Bx (w : World) (b : Nat) (cs : List Value) (e : TypeId) : Prop := w.heap[b]? = some (.cells cs.toArray e (0, 0))
def bl (b : Int) : List Nat := if 0 ≤ b then [b.toNat] else []
theorem mem_bl {b : Int} {k : Nat} : k ∈ bl b ↔ (k : Int) = b := by
  unfold bl; split
  · simp; omega
  · simp; omega

section
variable {α : Type} {r : Rp α} {o : Bool} {w w' : World}
theorem Ro.keep {fp v} {xs : List α} (h : Ro r w fp v xs) (hk : ∀ k ∈ fp, w'.heap[k]? = w.heap[k]?) : Ro r w' fp v xs := by
  obtain ⟨a, cap, hv, hl, h | ⟨b, off, cs, fs, ha, hf, hb, hat, hr⟩⟩ := h
  · exact ⟨a, cap, hv, hl, .inl h⟩
  · have e := hk b (by rw [hf]; simp)
    refine ⟨a, cap, hv, hl, .inr ⟨b, off, cs, fs, ha, hf, ?_, hat.keep e, hr.keep (fun k hkf => hk k (by rw [hf]; simp [hkf]))⟩⟩
    rw [Array.getElem?_eq_getElem hb] at e
    exact lt_size e
theorem Ro.bnd {fp v} {xs : List α} (h : Ro r w fp v xs) : ∀ k ∈ fp, k < w.heap.size := by
  obtain ⟨a, cap, hv, hl, ⟨_, h⟩ | ⟨b, off, cs, fs, ha, hf, hb, hat, hr⟩⟩ := h
  · simp [h]
  · intro k hk; rw [hf] at hk
    rcases List.mem_cons.1 hk with g | g
    · omega
    · exact hr.bnd k g
theorem Ro.chg {D : List Nat} {fp v} {xs : List α} (h : Ro r w fp v xs) (c : Chg D w w') (hD : ∀ k ∈ fp, k ∉ D) : Ro r w' fp v xs :=
  h.keep fun k hk => c.block k (h.bnd k hk) (hD k hk)
theorem Ro.ext {fp v} {xs : List α} (h : Ro r w fp v xs) (c : Ext w w') : Ro r w' fp v xs := h.chg c (fun _ _ => by simp)
theorem Ro.len {fp v} {xs : List α} (h : Ro r w fp v xs) : InI xs.length := by
  obtain ⟨a, cap, hv, hl, _⟩ := h
  simp only [maxLen] at hl
  unfold InI; omega
theorem Ow.keep {e fs b v} {xs : List α} (h : Ow r e o w fs b v xs) (hb : ∀ k : Nat, (k : Int) = b → w'.heap[k]? = w.heap[k]?) (hk : ∀ k ∈ fs, w'.heap[k]? = w.heap[k]?) : Ow r e o w' fs b v xs := by
  rcases h with h | ⟨g, cap, cur, cs, hg, hv, hh, h1, h2, h3, h4, h5, h6⟩
  · exact .inl h
  · exact .inr ⟨g, cap, cur, cs, hg, hv, by rw [hb g hg.symm]; exact hh, h1, h2, h3, h4, h5.keep hk, h6⟩
theorem Ow.blt {e fs b v} {xs : List α} (h : Ow r e o w fs b v xs) : b < w.heap.size := by
  rcases h with h | ⟨g, cap, cur, cs, hg, hv, hh, h1, h2, h3, h4, h5, h6⟩
  · have := h.1; omega
  · have := lt_size hh; omega
theorem Ow.bnd {e fs b v} {xs : List α} (h : Ow r e o w fs b v xs) : ∀ k ∈ fs, k < w.heap.size := by
  rcases h with h | ⟨g, cap, cur, cs, hg, hv, hh, h1, h2, h3, h4, h5, h6⟩
  · simp [h.2.2.2]
  · exact h5.bnd
theorem Ow.ne {e fs b v} {xs : List α} (h : Ow r e o w fs b v xs) : ∀ k ∈ fs, (k : Int) ≠ b := by
  rcases h with h | ⟨g, cap, cur, cs, hg, hv, hh, h1, h2, h3, h4, h5, h6⟩
  · simp [h.2.2.2]
  · exact h6
theorem Ow.chg {D : List Nat} {e fs b v} {xs : List α} (h : Ow r e o w fs b v xs) (c : Chg D w w') (hb : ∀ k ∈ D, (k : Int) ≠ b) (hD : ∀ k ∈ fs, k ∉ D) : Ow r e o w' fs b v xs :=
  h.keep (fun k hk => c.block k (by have := h.blt; omega) (fun hm => hb k hm hk)) (fun k hk => c.block k (h.bnd k hk) (hD k hk))
theorem Ow.ext {e fs b v} {xs : List α} (h : Ow r e o w fs b v xs) (c : Ext w w') : Ow r e o w' fs b v xs := h.chg c (by simp) (by simp)
theorem Ow.weak {e fs b v} {xs : List α} (h : Ow r e true w fs b v xs) : Ow r e false w fs b v xs := by
  rcases h with h | ⟨g, cap, cur, cs, hg, hv, hh, h1, h2, h3, h4, h5, h6⟩
  · exact .inl h
  · exact .inr ⟨g, cap, cur, cs, hg, hv, hh, h1, h2, h3, h4, h5.weak, h6⟩
theorem Ow.val {e fs b v} {xs : List α} (h : Ow r e o w fs b v xs) : ∃ a c, v = .slice a xs.length c ∧ (xs.length ≤ c ∧ c ≤ maxLen) := by
  rcases h with ⟨_, h, hx, _⟩ | ⟨g, cap, cur, cs, hg, hv, hh, h1, h2, h3, h4, h5, h6⟩
  · exact ⟨none, 0, by simp [h, hx], by simp [hx, maxLen]⟩
  · exact ⟨_, _, hv, by omega⟩
theorem Ow.len {e fs b v} {xs : List α} (h : Ow r e o w fs b v xs) : InI xs.length := by
  obtain ⟨a, c, _, hl⟩ := h.val
  simp only [maxLen] at hl
  unfold InI; omega
theorem at_row {g : Nat} {cur : Array Value} {e : TypeId} {fz : Nat × Nat} (hh : w.heap[g]? = some (.cells cur e fz)) (off : Nat) (n : Nat) : At w ⟨g, off, none⟩ ((cur.toList.drop off).take n) := by
  intro j v hj
  rw [Addr.add_lit']
  rw [List.getElem?_take] at hj
  split at hj
  · rw [List.getElem?_drop] at hj
    simp [World.cell?, hh]; simpa using hj
  · cases hj
theorem Ow.ro {e fs b v} {xs : List α} (h : Ow r e false w fs b v xs) : ∃ fp, Ro r w fp v xs ∧ ∀ k ∈ fp, k ∈ fs ∨ (k : Int) = b := by
  rcases h with ⟨hb, hv, hx, hf⟩ | ⟨g, cap, cur, cs, hg, hv, hh, h1, h2, h3, h4, h5, h6⟩
  · exact ⟨[], ⟨none, 0, by simp [hv, hx], by simp [hx, maxLen], .inl ⟨hx, rfl⟩⟩, by simp⟩
  · refine ⟨g :: fs, ⟨_, _, hv, by omega, .inr ⟨g, 0, cs, fs, rfl, rfl, lt_size hh, ?_, h5⟩⟩, fun k hk => ?_⟩
    · rw [← h4]; simpa using at_row hh 0 (xs.length * r.sz)
    · rcases List.mem_cons.1 hk with e | e
      · exact .inr (by omega)
      · exact .inl e
theorem Bx.keep {b cs e} (h : Bx w b cs e) (hk : w'.heap[b]? = w.heap[b]?) : Bx w' b cs e := hk.trans h
theorem Bx.blt {b cs e} (h : Bx w b cs e) : b < w.heap.size := lt_size h
theorem Bx.chg {D : List Nat} {b cs e} (h : Bx w b cs e) (c : Chg D w w') (hD : b ∉ D) : Bx w' b cs e := h.keep (c.block b h.blt hD)
theorem Bx.ext {b cs e} (h : Bx w b cs e) (c : Ext w w') : Bx w' b cs e := h.chg c (by simp)
theorem Bx.cell {b cs e} (h : Bx w b cs e) {j : Nat} {v : Value} (hv : cs[j]? = some v) : w.cell? ⟨b, j, none⟩ = some v := by
  unfold Bx at h; simp [World.cell?, h, hv]
end

/-! ## the kinds of data -/
def Rp.int : Rp Int where
  sz := 1
  pos := by decide
  rep := fun _ _ fp cs x => cs = [.int .i64 x] ∧ InI x ∧ fp = []
  len := fun h => by simp [h.1]
  one := fun h c hc => by rw [h.1] at hc; simp at hc; simp [hc, Value.oneCell']
  keep := fun h _ => h
  bnd := fun h => by simp [h.2.2]
  weak := fun h => h
def Rp.u32 : Rp (BitVec 32) where
  sz := 1
  pos := by decide
  rep := fun _ _ fp cs x => cs = [.int .u32 (x.toNat : Int)] ∧ fp = []
  len := fun h => by simp [h.1]
  one := fun h c hc => by rw [h.1] at hc; simp at hc; simp [hc, Value.oneCell']
  keep := fun h _ => h
  bnd := fun h => by simp [h.2]
  weak := fun h => h
def Rp.u8 : Rp (BitVec 8) where
  sz := 1
  pos := by decide
  rep := fun _ _ fp cs x => cs = [.int .u8 (x.toNat : Int)] ∧ fp = []
  len := fun h => by simp [h.1]
  one := fun h c hc => by rw [h.1] at hc; simp at hc; simp [hc, Value.oneCell']
  keep := fun h _ => h
  bnd := fun h => by simp [h.2]
  weak := fun h => h
def Rp.bool : Rp Bool where
  sz := 1
  pos := by decide
  rep := fun _ _ fp cs x => cs = [.bool x] ∧ fp = []
  len := fun h => by simp [h.1]
  one := fun h c hc => by rw [h.1] at hc; simp at hc; simp [hc, Value.oneCell']
  keep := fun h _ => h
  bnd := fun h => by simp [h.2]
  weak := fun h => h
def Rp.prod {α β : Type} (r : Rp α) (s : Rp β) : Rp (α × β) where
  sz := r.sz + s.sz
  pos := by have := r.pos; omega
  rep := fun o w fp cs x => ∃ f g c d, fp = f ++ g ∧ cs = c ++ d ∧ r.rep o w f c x.1 ∧ s.rep o w g d x.2
  len := fun ⟨f, g, c, d, _, hc, h1, h2⟩ => by rw [hc, List.length_append, r.len h1, s.len h2]
  one := fun ⟨f, g, c, d, _, hc, h1, h2⟩ u hu => by
    rw [hc] at hu
    rcases List.mem_append.1 hu with k | k
    · exact r.one h1 u k
    · exact s.one h2 u k
  keep := fun ⟨f, g, c, d, hf, hc, h1, h2⟩ hk => ⟨f, g, c, d, hf, hc, r.keep h1 (fun k hkf => hk k (by rw [hf]; simp [hkf])), s.keep h2 (fun k hkf => hk k (by rw [hf]; simp [hkf]))⟩
  bnd := fun ⟨f, g, c, d, hf, hc, h1, h2⟩ k hk => by
    rw [hf] at hk
    rcases List.mem_append.1 hk with e | e
    · exact r.bnd h1 k e
    · exact s.bnd h2 k e
  weak := fun ⟨f, g, c, d, hf, hc, h1, h2⟩ => ⟨f, g, c, d, hf, hc, r.weak h1, s.weak h2⟩
def Rp.sl {α : Type} (e : TypeId) (r : Rp α) : Rp (List α) where
  sz := 1
  pos := by decide
  rep := fun o w fp cs xs => ∃ v, cs = [v] ∧ (if o = true then ∃ fs b, Ow r e true w fs b v xs ∧ fp = bl b ++ fs else Ro r w fp v xs)
  len := fun ⟨v, h, _⟩ => by simp [h]
  one := fun {o w fp cs xs} h c hc => by
    obtain ⟨v, h, g⟩ := h
    rw [h] at hc; simp at hc; subst hc
    cases o
    · simp at g; obtain ⟨a, cap, hv, _⟩ := g; simp [hv, Value.oneCell']
    · simp at g; obtain ⟨fs, b, g, _⟩ := g; obtain ⟨a, c, hv, _⟩ := g.val; simp [hv, Value.oneCell']
  keep := fun {o w w' fp cs xs} h hk => by
    obtain ⟨v, h, g⟩ := h
    refine ⟨v, h, ?_⟩
    cases o
    · simp at g ⊢; exact g.keep hk
    · simp at g ⊢
      obtain ⟨fs, b, g, hf⟩ := g
      exact ⟨fs, b, g.keep (fun k hb => hk k (by rw [hf]; simp [mem_bl, hb])) (fun k hb => hk k (by rw [hf]; simp [hb])), hf⟩
  bnd := fun {o w fp cs xs} h => by
    obtain ⟨v, h, g⟩ := h
    cases o
    · simp at g; exact g.bnd
    · simp at g
      obtain ⟨fs, b, g, hf⟩ := g
      intro k hk; rw [hf] at hk
      rcases List.mem_append.1 hk with e | e
      · have := g.blt; rw [mem_bl] at e; omega
      · exact g.bnd k e
  weak := fun {w fp cs xs} h => by
    obtain ⟨v, h, g⟩ := h
    refine ⟨v, h, ?_⟩
    simp at g ⊢
    obtain ⟨fs, b, g, hf⟩ := g
    rcases g.weak with ⟨hb, hv, hx, hfs⟩ | ⟨gg, cap, cur, cs, hg, hv, hh, h1, h2, h3, h4, h5, h6⟩
    · refine ⟨none, 0, by simp [hv, hx], by simp [hx, maxLen], .inl ⟨hx, ?_⟩⟩
      rw [hf, hfs]; simp [bl]; omega
    · refine ⟨_, _, hv, by omega, .inr ⟨gg, 0, cs, fs, rfl, ?_, lt_size hh, ?_, h5⟩⟩
      · rw [hf, hg]; simp [bl]
      · rw [← h4]; simpa using at_row hh 0 (xs.length * r.sz)
theorem Rp.mkO {α : Type} {e : TypeId} {r : Rp α} {w : World} {fs : List Nat} {b : Int} {v : Value} {xs : List α} (h : Ow r e true w fs b v xs) : (Rp.sl e r).rep true w (bl b ++ fs) [v] xs :=
  ⟨v, rfl, by simp only [if_true]; exact ⟨fs, b, h, rfl⟩⟩
theorem Rp.mkR {α : Type} {e : TypeId} {r : Rp α} {w : World} {fp : List Nat} {v : Value} {xs : List α} (h : Ro r w fp v xs) : (Rp.sl e r).rep false w fp [v] xs :=
  ⟨v, rfl, by simpa using h⟩
def Subst (fs f fs' : List Nat) : Prop := ∃ pre old post, fs = pre ++ old ++ post ∧ fs' = pre ++ f ++ post
theorem Subst.mem {fs f fs' : List Nat} (h : Subst fs f fs') : ∀ k ∈ fs', k ∈ fs ∨ k ∈ f := by
  obtain ⟨pre, old, post, rfl, rfl⟩ := h
  intro k hk; simp at hk ⊢
  rcases hk with g | g | g
  · exact .inl (.inl g)
  · exact .inr g
  · exact .inl (.inr (.inr g))
theorem Subst.nil {fs' : List Nat} (h : Subst [] [] fs') : [] = fs' := by
  obtain ⟨pre, old, post, h1, rfl⟩ := h
  have h2 := congrArg List.length h1
  simp at h2
  have a : pre = [] := List.eq_nil_of_length_eq_zero (by omega)
  have b : post = [] := List.eq_nil_of_length_eq_zero (by omega)
  subst a b; rfl
theorem Subst.nd {fs f fs' : List Nat} {b : Int} (h : Subst fs f fs') (hn : (bl b ++ fs).Nodup) (hf : f.Nodup) (hd : ∀ k ∈ f, k ∉ bl b ++ fs) : (bl b ++ fs').Nodup := by
  obtain ⟨pre, old, post, rfl, rfl⟩ := h
  simp only [List.nodup_append, List.mem_append] at hn ⊢
  obtain ⟨h1, ⟨⟨h2, h3, h4⟩, h5, h6⟩, h7⟩ := hn
  have q1 : ∀ k ∈ f, k ∉ pre := fun k hk hp => hd k hk (by simp [hp])
  have q2 : ∀ k ∈ f, k ∉ post := fun k hk hp => hd k hk (by simp [hp])
  have q3 : ∀ k ∈ f, k ∉ bl b := fun k hk hp => hd k hk (by simp [hp])
  refine ⟨h1, ⟨⟨h2, hf, fun x hx y hy e => q1 y hy (e ▸ hx)⟩, h5, ?_⟩, ?_⟩
  · rintro x (hx | hx) y hy e
    · exact h6 x (.inl hx) y hy e
    · exact q2 x hx (e ▸ hy)
  · rintro x hx y ((hy | hy) | hy) e
    · exact h7 x hx y (.inl (.inl hy)) e
    · exact q3 y hy (e ▸ hx)
    · exact h7 x hx y (.inr hy) e
end Go.Proofs.YtmaaloijdjnblaaGreatDoor
