/- From the form's reading of an argument to the walks' own: numbers, slices, structs, to whatever depth. Of whatever program. -/
import Derived.Test.YtmaaloijdjnblaaGreatDoorAid
import Derived.Deep.Slices
import Derived.ProofKit
namespace Go.Proofs.YtmaaloijdjnblaaGreatDoor
open Go Go.RowKit

class Fits {α : Type} [Sz α] (r : Rp α) : Prop where
  fits : ∀ {o w fp cs x}, r.rep o w fp cs x → Sz.ok x
instance : Fits Rp.int := ⟨fun h => h.2.1⟩
instance : Fits Rp.bool := ⟨fun _ => trivial⟩
instance : Fits Rp.u32 := ⟨fun _ => trivial⟩
instance : Fits Rp.u8 := ⟨fun _ => trivial⟩
instance {α β : Type} [Sz α] [Sz β] (r : Rp α) (s : Rp β) [Fits r] [Fits s] : Fits (Rp.prod r s) := ⟨fun ⟨_, _, _, _, _, _, h1, h2⟩ => ⟨Fits.fits h1, Fits.fits h2⟩⟩
theorem RepL.fits {α : Type} [Sz α] {r : Rp α} [Fits r] {o : Bool} {w : World} : ∀ {xs : List α} {fp cs}, RepL r o w fp cs xs → ∀ x ∈ xs, Sz.ok x
  | [], _, _, _, x, h => nomatch h
  | y :: ys, _, _, ⟨_, _, _, _, _, _, hx, hr⟩, x, h => by
    rcases List.mem_cons.1 h with e | e
    · rw [e]; exact Fits.fits hx
    · exact hr.fits x e
theorem Ro.fits {α : Type} [Sz α] {r : Rp α} [Fits r] {w : World} {fp : List Nat} {v : Value} {xs : List α} (h : Ro r w fp v xs) : Sz.ok xs := by
  obtain ⟨a, cap, hv, hl, ⟨hx, _⟩ | ⟨b, off, cs, fs, _, _, _, _, hr⟩⟩ := h
  · subst hx; exact ⟨by simp, fun x h => nomatch h⟩
  · exact ⟨by simp only [maxLen] at hl; omega, hr.fits⟩
instance {α : Type} [Sz α] (e : TypeId) (r : Rp α) [Fits r] : Fits (Rp.sl e r) := ⟨fun {o w fp cs x} h => by
  obtain ⟨v, _, h⟩ := h
  cases o
  · simp at h; exact h.fits
  · simp at h
    obtain ⟨fs, b, g, _⟩ := h
    obtain ⟨fp, h', _⟩ := g.weak.ro
    exact h'.fits⟩

/-- what the form reads at type T, the walks read, too -/
def Opn (P : Program) (T : TypeId) {α : Type} (r : Rp α) : Prop :=
  ∀ (H : Type) (enc : TypeId × Value → H) (w : World) (base : Nat) (spare : Nat → Bool) (held : Bool) (fuel : Nat) (cs : List Value) (x : DataW H × List MemPlace),
    DataW.trod enc P w base spare held fuel T cs = some x → ∃ fp a, r.rep false w fp cs a
section
variable {P : Program} {T : TypeId}
theorem opn_int (hT : P.underlying T = some (.int .i64)) : Opn P T Rp.int := by
  intro H enc w base spare held fuel cs x h
  obtain ⟨n, rfl, _, hw⟩ := DataW.trod_int hT h
  refine ⟨[], n, rfl, ?_, rfl⟩
  simp [Lit.wf, IntKind.min, IntKind.max, IntKind.signed, IntKind.bits] at hw
  unfold InI; omega
theorem opn_bool (hT : P.underlying T = some .bool) : Opn P T Rp.bool := by
  intro H enc w base spare held fuel cs x h
  obtain ⟨b, rfl, _⟩ := DataW.trod_bool hT h
  exact ⟨[], b, rfl, rfl⟩
theorem opn_u8 (hT : P.underlying T = some (.int .u8)) : Opn P T Rp.u8 := by
  intro H enc w base spare held fuel cs x h
  obtain ⟨n, rfl, _, hw⟩ := DataW.trod_int hT h
  simp [Lit.wf, IntKind.min, IntKind.max, IntKind.signed, IntKind.bits] at hw
  refine ⟨[], BitVec.ofNat 8 n.toNat, ?_, rfl⟩
  have e : ((BitVec.ofNat 8 n.toNat).toNat : Int) = n := by rw [BitVec.toNat_ofNat]; omega
  rw [e]
theorem mapM_at {w : World} {a : Addr} : ∀ (n : Nat) (cs : List Value), (List.range n).mapM (fun i => w.cell? (a.add i)) = some cs → cs.length = n ∧ At w a cs := by
  intro n
  induction n with
  | zero => intro cs h; simp at h; subst h; exact ⟨rfl, fun j v hj => by simp at hj⟩
  | succ n ih =>
    intro cs h
    rw [List.range_succ, List.mapM_append] at h
    simp only [Option.bind_eq_bind, Option.bind_eq_some_iff, Option.pure_def, List.mapM_cons, List.mapM_nil, Option.some.injEq] at h
    obtain ⟨cs1, h1, cs2, ⟨c, hc, _, rfl, rfl⟩, rfl⟩ := h
    obtain ⟨hl, hat⟩ := ih cs1 h1
    refine ⟨by simp [hl], fun j v hj => ?_⟩
    by_cases hjn : j < n
    · rw [List.getElem?_append_left (by omega)] at hj; exact hat j v hj
    · rw [List.getElem?_append_right (by omega), hl] at hj
      have : j - n = 0 := by
        rcases Nat.eq_zero_or_pos (j - n) with e | e
        · exact e
        · rw [List.getElem?_eq_none (by simp; omega)] at hj; cases hj
      rw [this] at hj; simp at hj; subst hj
      rw [show j = n by omega]; exact hc
theorem cells_at {w : World} {base n : Nat} {a : Addr} {cs : List Value} (h : w.cells? base a n = some cs) : cs.length = n ∧ At w a cs := by
  unfold World.cells? at h
  split at h
  · exact mapM_at n cs h
  · cases h
theorem add_add_a (a : Addr) (i j : Nat) : (a.add i).add j = a.add (i + j) := Deep.add_add a i j
theorem At.append {w : World} {a : Addr} {cs c : List Value} (h : At w a cs) (h' : At w (a.add cs.length) c) : At w a (cs ++ c) := by
  intro j v hj
  by_cases hjn : j < cs.length
  · rw [List.getElem?_append_left hjn] at hj; exact h j v hj
  · rw [List.getElem?_append_right (by omega)] at hj
    have := h' _ v hj
    rw [add_add_a] at this
    rwa [show cs.length + (j - cs.length) = j by omega] at this
theorem opn_sl {α : Type} {E : TypeId} {r : Rp α} (hT : P.underlying T = some (.slice E)) (hc : P.cellsOf E = r.sz) (hE : Opn P E r) : Opn P T (Rp.sl E r) := by
  intro H enc w base spare held fuel cs x h
  rcases Deep.open_slice hT h with ⟨rfl, _⟩ | ⟨a, len, cap, m, n, D, Pl, rfl, hb, hl, hm, hmm, _, hel⟩
  · exact ⟨[], [], _, rfl, Ro.nil r⟩
  have hlm : len ≤ m := by rw [hmm]; split <;> omega
  have key : ∀ k, k ≤ len → ∃ fs cs xs, xs.length = k ∧ cs.length = k * r.sz ∧ At w a cs ∧ RepL r false w fs cs (xs : List α) := by
    intro k
    induction k with
    | zero => exact fun _ => ⟨[], [], [], rfl, by simp, fun j v hj => by simp at hj, rfl, rfl⟩
    | succ k ih =>
      intro hk
      obtain ⟨fs, cs, xs, h1, h2, h3, h4⟩ := ih (by omega)
      obtain ⟨c, hcc, htr⟩ := hel k (by omega)
      rw [hc] at hcc
      obtain ⟨hcl, hat⟩ := cells_at hcc
      obtain ⟨f, y, hy⟩ := hE H enc w base spare held n c _ htr
      refine ⟨fs ++ f, cs ++ c, xs ++ [y], by simp [h1], by simp [h2, hcl, Nat.add_mul], h3.append (by rw [h2]; exact hat), h4.append (RepL.sing hy)⟩
  obtain ⟨fs, cs, xs, h1, h2, h3, h4⟩ := key len (Nat.le_refl _)
  subst h1
  cases xs with
  | nil => exact ⟨[], [], _, rfl, a, cap, rfl, by omega, .inl ⟨rfl, rfl⟩⟩
  | cons y ys =>
    have hpos := r.pos
    have h0 : 0 < cs.length := by rw [h2]; exact Nat.mul_pos (by simp) hpos
    have hcell := h3 0 _ (List.getElem?_eq_getElem h0)
    rw [Addr.add_zero'] at hcell
    obtain ⟨b, off, spot⟩ := a
    have hs : spot = none := by
      unfold World.cell? at hcell
      split at hcell
      · cases spot with
        | none => rfl
        | some _ => simp at hcell
      · cases hcell
    subst hs
    exact ⟨b :: fs, y :: ys, _, rfl, some ⟨b, off, none⟩, cap, rfl, by omega, .inr ⟨b, off, cs, fs, rfl, rfl, World.block_lt_of_cell? w _ hcell, h3, h4⟩⟩
/-- a struct's fields from 'i' on, their cells from 'off' on -/
def OpnF (P : Program) (fs : List Field) (off : Nat) {α : Type} (r : Rp α) : Prop :=
  ∀ (H : Type) (enc : TypeId × Value → H) (w : World) (base : Nat) (spare : Nat → Bool) (held : Bool) (fuel : Nat) (cs : List Value) (xs : List (DataW H × List MemPlace)),
    cs.length = off + r.sz → xs.length = fs.length → (∀ (i : Nat) (f : Field), fs[i]? = some f → DataW.trod enc P w base spare held fuel f.type ((cs.drop f.offset).take (P.cellsOf f.type)) = xs[i]?) →
      ∃ fp a, r.rep false w fp (cs.drop off) a
theorem opnF_one {α : Type} {r : Rp α} {f : Field} {off : Nat} (ho : f.offset = off) (hc : P.cellsOf f.type = r.sz) (h : Opn P f.type r) : OpnF P [f] off r := by
  intro H enc w base spare held fuel cs xs hl hx hf
  have h0 := hf 0 f rfl
  cases xs with
  | nil => cases hx
  | cons x xs =>
    simp only [List.getElem?_cons_zero] at h0
    rw [ho, hc, List.take_of_length_le (by simp; omega)] at h0
    exact h H enc w base spare held fuel _ x h0
theorem opnF_cons {α β : Type} {r : Rp α} {s : Rp β} {f : Field} {fs : List Field} {off : Nat} (ho : f.offset = off) (hc : P.cellsOf f.type = r.sz) (h : Opn P f.type r) (hr : OpnF P fs (off + r.sz) s) :
    OpnF P (f :: fs) off (Rp.prod r s) := by
  intro H enc w base spare held fuel cs xs hl hx hf
  have h0 := hf 0 f rfl
  cases xs with
  | nil => cases hx
  | cons x xs =>
    simp only [List.getElem?_cons_zero] at h0
    rw [ho, hc] at h0
    obtain ⟨f1, a1, h1⟩ := h H enc w base spare held fuel _ x h0
    have hsz : (Rp.prod r s).sz = r.sz + s.sz := rfl
    obtain ⟨f2, a2, h2⟩ := hr H enc w base spare held fuel cs xs (by rw [hl, hsz]; omega) (by simpa using hx) (fun i g hg => by
      have := hf (i + 1) g (by simpa using hg); simpa using this)
    refine ⟨f1 ++ f2, (a1, a2), f1, f2, _, _, rfl, ?_, h1, h2⟩
    rw [← List.drop_drop, List.take_append_drop]
theorem opn_struct {α : Type} {r : Rp α} {fs : Array Field} {l : List Field} (hT : P.underlying T = some (.struct fs)) (hl : fs.toList = l) (hc : P.cellsOf T = r.sz) (h : OpnF P l 0 r) : Opn P T r := by
  intro H enc w base spare held fuel cs x hx
  obtain ⟨xs, n, rfl, _, hlen, hxl, hf⟩ := DataW.trod_struct hT hx
  have := h H enc w base spare held n cs xs (by rw [hlen, hc]; omega) (by rw [hxl, ← hl]; simp) (fun i f hi => hf i f (by rw [← hl] at hi; simpa using hi))
  simpa using this
theorem okWide_agg {fs : Array Field} {w : World} {r : Reach} {base : Nat} {v : Value} (ht : P.underlying T = some (.struct fs)) (h : Value.okWide P w r base T v) : ∃ c : Array Value, v = .agg c := by
  unfold Value.okWide at h
  rw [ht] at h
  obtain ⟨cs, hv, _⟩ := h
  exact ⟨cs, hv⟩
end
end Go.Proofs.YtmaaloijdjnblaaGreatDoor
