/- Slices that a call makes: make, literals, append, a store into an element, a part of a slice. -/
import Derived.Test.YtmaaloijdjnblaaGreatDoorOps
namespace Go.Proofs.YtmaaloijdjnblaaGreatDoor
open Go Go.RowKit

theorem madeCells_flat (z : Array Value) (hz : 0 < z.size) : ∀ n : Nat, (madeCells z (n * z.size)).toList = (List.replicate n z.toList).flatten := by
  intro n
  have key : (List.range (n * z.size)).map (fun i => z[i % z.size]!) = (List.replicate n z.toList).flatten := by
    induction n with
    | zero => simp
    | succ n ih =>
      rw [Nat.add_mul, Nat.one_mul, List.range_add, List.map_append, ih, List.replicate_succ', List.flatten_append]
      congr 1
      simp only [List.flatten_cons, List.flatten_nil, List.append_nil, List.map_map]
      apply List.ext_getElem
      · simp
      · intro i h1 h2
        simp at h1
        simp [Nat.mod_eq_of_lt h1, h1]
  simpa [madeCells] using key
section
variable {α : Type} {r : Rp α} {P : Program} {w : World} {e : TypeId}
theorem run_make_Ow {T bytes : Nat} {z : Value} {z0 : α} (hT : SlT P T e r.sz bytes z) (hb : bytes ≤ 256) (hz : ∀ w, r.rep true w [] z.cells.toList z0) {k : IntKind} {n : Int} (h0 : 0 ≤ n) (hn : n ≤ lim) :
    ∃ v w', (Instr.makeSlice T (.int k n) (.int k n)).run P w = .ok v w' ∧ Ow r e true w' [] w.heap.size v (List.replicate n.toNat z0) ∧ Ext w w' := by
  obtain ⟨i, hi, hzz, hs, hby⟩ := hT.info
  have hl : n ≤ 1099511627776 := hn
  have hbb : (i.bytes : Int) * n ≤ 281474976710656 := by
    rw [hby]
    calc (bytes : Int) * n ≤ 256 * 1099511627776 := Int.mul_le_mul (by omega) hl h0 (by omega)
      _ = 281474976710656 := by decide
  have hr := run_make (P := P) w T e i z hT.und hi hzz k k n n h0 (Int.le_refl _) hbb (by omega)
  have hzs : z.cells.size = r.sz := hT.zc
  have hpos := r.pos
  refine ⟨_, _, hr, .inr ⟨w.heap.size, n.toNat, _, _, rfl, by simp, heap_alloc_new w _, by simp, by simp only [maxLen]; omega, by rw [size_madeCells, hs], rfl, ?_, by simp⟩, Ext.alloc _ _⟩
  have e1 : (madeCells z.cells (n.toNat * i.size)).toList = (List.replicate n.toNat z.cells.toList).flatten := by
    rw [hs, ← hzs]; exact madeCells_flat _ (by omega) _
  rw [e1, List.take_of_length_le (by simp [hzs])]
  exact RepL.replicate hz _ _
theorem run_make0_Ow {T bytes : Nat} {z : Value} (hT : SlT P T e r.sz bytes z) (hb : bytes ≤ 256) {k k' : IntKind} {n : Int} (h0 : 0 ≤ n) (hn : n ≤ lim) :
    ∃ v w', (Instr.makeSlice T (.int k' 0) (.int k n)).run P w = .ok v w' ∧ Ow r e true w' [] w.heap.size v ([] : List α) ∧ Ext w w' := by
  obtain ⟨i, hi, hzz, hs, hby⟩ := hT.info
  have hl : n ≤ 1099511627776 := hn
  have hbb : (i.bytes : Int) * n ≤ 281474976710656 := by
    rw [hby]
    calc (bytes : Int) * n ≤ 256 * 1099511627776 := Int.mul_le_mul (by omega) hl h0 (by omega)
      _ = 281474976710656 := by decide
  have hr := run_make (P := P) w T e i z hT.und hi hzz k' k 0 n (Int.le_refl _) h0 hbb (by omega)
  refine ⟨_, _, hr, .inr ⟨w.heap.size, n.toNat, _, [], rfl, by simp, heap_alloc_new w _, by simp, by simp only [maxLen]; omega, by rw [size_madeCells, hs], by simp, ?_, by simp⟩, Ext.alloc _ _⟩
  exact ⟨rfl, rfl⟩

def Src (r : Rp α) (o : Bool) (w : World) (f : List Nat) (u : Value) (ys : List α) : Prop :=
  ∃ news, RepL r o w f news ys ∧ ((∃ c, u = .slice none 0 c ∧ ys = []) ∨ ∃ ad c, u = .slice (some ad) ys.length c ∧ At w ad news)
theorem Ow.src {o fs b v} {xs : List α} (h : Ow r e o w fs b v xs) : Src r o w fs v xs := by
  rcases h with ⟨_, hv, hx, hf⟩ | ⟨g, cap, cur, cs, hg, hv, hh, h1, h2, h3, h4, h5, h6⟩
  · exact ⟨[], by rw [hx, hf]; exact ⟨rfl, rfl⟩, .inl ⟨0, hv, hx⟩⟩
  · exact ⟨cs, h5, .inr ⟨_, _, hv, by rw [← h4]; simpa using at_row hh 0 (xs.length * r.sz)⟩⟩
theorem Ro.src {fp v} {xs : List α} (h : Ro r w fp v xs) : ∃ f, Src r false w f v xs ∧ ∀ k ∈ f, k ∈ fp := by
  obtain ⟨a, cap, hv, hl, ⟨hx, hf⟩ | ⟨b, off, cs, fs, ha, hf, hb, hat, hr⟩⟩ := h
  · refine ⟨[], ⟨[], by rw [hx]; exact ⟨rfl, rfl⟩, ?_⟩, by simp⟩
    cases a with
    | none => exact .inl ⟨cap, by rw [hv, hx]; rfl, hx⟩
    | some ad => exact .inr ⟨ad, cap, hv, fun j v hj => by simp at hj⟩
  · exact ⟨fs, ⟨cs, hr, .inr ⟨_, _, by rw [hv, ha], hat⟩⟩, fun k hk => by rw [hf]; simp [hk]⟩
theorem Src.keep {w' : World} {o f u} {ys : List α} (h : Src r o w f u ys) (hb : w'.heap = w.heap) : Src r o w' f u ys := by
  obtain ⟨news, h1, h2⟩ := h
  refine ⟨news, h1.keep (fun k _ => by rw [hb]), h2.imp id fun ⟨ad, c, h3, h4⟩ => ⟨ad, c, h3, h4.keep (by rw [hb])⟩⟩

theorem run_append_Ow {T ty bytes : Nat} {z : Value} (hT : SlT P T e r.sz bytes z) (hby : bytes ≤ 128) {o : Bool} {fs f : List Nat} {b : Int} {v u : Value} {xs ys : List α}
    (h : Ow r e o w fs b v xs) (hs : Src r o w f u ys) (hf : ∀ k ∈ f, (k : Int) ≠ b) (hlim : xs.length + ys.length ≤ lim) :
    ∃ v' w' b', (Builtin.append_ #[T, T] ty #[v, u]).run P w = .ok v' w' ∧ Ow r e o w' (fs ++ f) b' v' (xs ++ ys) ∧ Chg (bl b) w w' ∧ (b' = b ∨ (w.heap.size : Int) = b') := by
  obtain ⟨i, hi, hzz, hsz, hbt⟩ := hT.info
  have hpos := r.pos
  have hl' : xs.length + ys.length ≤ 1099511627776 := hlim
  obtain ⟨news, hrn, hu⟩ := hs
  have hnl := hrn.len
  have h1 := hrn.one
  have hfb := hrn.bnd
  have hbytes : (xs.length + ys.length) * i.bytes ≤ 140737488355328 := by
    rw [hbt]
    calc (xs.length + ys.length) * bytes ≤ 1099511627776 * 128 := Nat.mul_le_mul hl' hby
      _ = 140737488355328 := by decide
  -- a nil source
  rcases hu with ⟨c, hu, hys⟩ | ⟨ad, c, hu, hat⟩
  · subst hys
    have hn0 : news = [] := List.eq_nil_of_length_eq_zero (by simpa using hnl)
    have hf0 : f = [] := by have := hrn; rw [hn0] at this; exact this.1
    subst hn0 hf0 hu
    obtain ⟨a, cv, hv, hlv⟩ := h.val
    have hcap : xs.length ≤ cv := by
      rcases h with ⟨_, hv', hx', _⟩ | ⟨g, cap, cur, cs, hg, hv', hh, h1', h2', _⟩
      · simp [hx']
      · rw [hv] at hv'; injection hv' with _ _ e3; omega
    refine ⟨v, w, b, ?_, by simpa using h, Chg.refl _ _, .inl rfl⟩
    subst hv
    cases a <;> simp [Builtin.append_, run_underlying hT.und, sizeOf, typeInfo, hi, Builtin.lenOf, Builtin.firstCells, hcap, storeCells]
  · subst hu
    have grown : ∀ (w1 : World), w1.heap = w.heap → w1.os = w.os → w1.tape = w.tape → w1.output = w.output → ∀ (cap : Nat) (cs : List Value) (zs : Array Value), xs.length + ys.length ≤ cap → cap ≤ maxLen → RepL r o w fs cs xs → zs.size = (cap - (xs.length + ys.length)) * r.sz →
        Ow r e o (w1.alloc (.cells (cs.toArray ++ news.toArray ++ zs) e)) (fs ++ f) w.heap.size (.slice (some ⟨w.heap.size, 0, none⟩) (xs.length + ys.length) cap) (xs ++ ys) ∧
        Chg (bl b) w (w1.alloc (.cells (cs.toArray ++ news.toArray ++ zs) e)) := by
      intro w1 hw1 ho ht hou cap cs zs hc hm hcs hzs
      have hcl := hcs.len
      have hk : ∀ k, k < w.heap.size → (w1.alloc (.cells (cs.toArray ++ news.toArray ++ zs) e)).heap[k]? = w.heap[k]? := by
        intro k hk
        rw [heap_alloc_old w1 _ (by rw [hw1]; exact hk), hw1]
      have hb1 : ∀ k ∈ fs ++ f, k < w.heap.size := by
        intro k hk
        rcases List.mem_append.1 hk with g | g
        · exact hcs.bnd k g
        · exact hfb k g
      refine ⟨.inr ⟨w.heap.size, cap, cs.toArray ++ news.toArray ++ zs, _, rfl, by simp, ?_, by simpa using hc, hm, ?_, rfl, ?_, fun k hk => ?_⟩, ⟨ho, ht, hou, ?_, fun k hkk _ => hk k hkk⟩⟩
      · have := heap_alloc_new w1 (.cells (cs.toArray ++ news.toArray ++ zs) e); rwa [hw1] at this
      · simp only [Array.size_append, List.size_toArray, hcl, hnl, hzs]
        rw [← Nat.add_mul, ← Nat.add_mul]; congr 1; omega
      · have e1 : List.take ((xs ++ ys).length * r.sz) (cs.toArray ++ news.toArray ++ zs).toList = cs ++ news := by
          simp only [Array.toList_append, List.length_append]
          rw [List.take_left' (by simp only [List.length_append, hcl, hnl]; rw [Nat.add_mul])]
        rw [e1]
        exact (hcs.append hrn).keep (fun k hkk => hk k (hb1 k hkk))
      · have := hb1 k hk; omega
      · simp [hw1]
    rcases h with ⟨hb, hv, hx, hfs⟩ | ⟨g, cap, cur, cs, hg, hv, hh, hlc, hcm, hcs, htake, hrl, hne⟩
    · subst hv hx hfs
      by_cases hm : ys.length = 0
      · have hys : ys = [] := List.eq_nil_of_length_eq_zero hm
        subst hys
        have hn0 : news = [] := List.eq_nil_of_length_eq_zero (by simpa using hnl)
        have hf0 : f = [] := by have := hrn; rw [hn0] at this; exact this.1
        subst hn0 hf0
        refine ⟨.slice none 0 0, w, b, ?_, .inl ⟨hb, rfl, rfl, rfl⟩, Chg.refl _ _, .inl rfl⟩
        simp [Builtin.append_, run_underlying hT.und, sizeOf, typeInfo, hi, Builtin.lenOf, Builtin.firstCells, loadCells, loadCellsFrom]
      · have hr := run_append_nil (P := P) w T ty e i z hT.und hi hzz ad ys.length c news (by rw [hnl, hsz]) hat (by omega) (by simp at hl'; omega) (by simp at hbytes; omega)
        have hge := grownCap_ge w ys.length 0 e
        have hcm : grownCap w ys.length 0 e ≤ maxLen := grownCap_le_maxLen w ys.length 0 e (by simp only [maxLen]; simp at hl'; omega)
        obtain ⟨g1, g2⟩ := grown w.drew rfl rfl rfl rfl (grownCap w ys.length 0 e) [] (Builtin.zeroCells z.cells (grownCap w ys.length 0 e - ys.length)) (by simpa using hge) hcm ⟨rfl, rfl⟩ (by simp [size_zeroCells, hT.zc])
        refine ⟨_, _, w.heap.size, hr, ?_, ?_, .inr rfl⟩
        · simpa using g1
        · simpa using g2
    · subst hv
      by_cases hroom : xs.length + ys.length ≤ cap
      · have hfit : xs.length * i.size + news.length ≤ cur.size := by rw [hnl, hcs, hsz, ← Nat.add_mul]; exact Nat.mul_le_mul_right _ hroom
        have hr := run_append_room (P := P) w T ty e i hT.und hi g xs.length cap cur hh ad ys.length c news (by rw [hnl, hsz]) hat h1 hroom hfit
        have hk : ∀ k : Nat, (k : Int) ≠ b → (w.setRow g (cur.toList.take (xs.length * i.size) ++ news ++ cur.toList.drop (xs.length * i.size + news.length)).toArray).heap[k]? = w.heap[k]? :=
          fun k hk => setRow_other w g k _ (fun e' => hk (by omega))
        refine ⟨_, _, b, hr, .inr ⟨g, cap, (cur.toList.take (xs.length * i.size) ++ news ++ cur.toList.drop (xs.length * i.size + news.length)).toArray, _, hg, by simp, setRow_heap w g cur _ e _ hh, by simpa using hroom, hcm, ?_, rfl, ?_, fun k hkk => ?_⟩, ?_, .inl rfl⟩
        · simp only [List.size_toArray, List.length_append, List.length_take, List.length_drop, Array.length_toList]
          omega
        · have e1 : List.take ((xs ++ ys).length * r.sz) (cur.toList.take (xs.length * i.size) ++ news ++ cur.toList.drop (xs.length * i.size + news.length)) = cs ++ news := by
            rw [hsz, htake]
            rw [List.take_left' (by simp only [List.length_append, hrl.len, hnl]; rw [Nat.add_mul])]
          simp only [e1]
          refine (hrl.append hrn).keep (fun k hkk => hk k ?_)
          rcases List.mem_append.1 hkk with g' | g'
          · exact hne k g'
          · exact hf k g'
        · rcases List.mem_append.1 hkk with g' | g'
          · exact hne k g'
          · exact hf k g'
        · have := Chg.setRow w g (cur.toList.take (xs.length * i.size) ++ news ++ cur.toList.drop (xs.length * i.size + news.length)).toArray
          have eb : bl b = [g] := by unfold bl; rw [if_pos (by omega), hg]; simp
          rw [eb]; exact this
      · have holds : ∀ j u, cs[j]? = some u → w.cell? ((⟨g, 0, none⟩ : Addr).add j) = some u := by
          have : At w ⟨g, 0, none⟩ cs := by rw [← htake]; simpa using at_row hh 0 (xs.length * r.sz)
          exact this
        have hr := run_append_grow (P := P) w T ty e i z hT.und hi hzz ⟨g, 0, none⟩ xs.length cap cs (by rw [hrl.len, hsz]) holds ad ys.length c news (by rw [hnl, hsz]) hat (by omega) (by omega)
          (growslice_fits (by omega) hbytes)
        have hge := grownCap_ge w (xs.length + ys.length) cap e
        have hcm' : grownCap w (xs.length + ys.length) cap e ≤ maxLen := grownCap_le_maxLen w (xs.length + ys.length) cap e (by simp only [maxLen]; omega)
        obtain ⟨g1, g2⟩ := grown w.drew rfl rfl rfl rfl (grownCap w (xs.length + ys.length) cap e) cs (Builtin.zeroCells z.cells (grownCap w (xs.length + ys.length) cap e - (xs.length + ys.length))) hge hcm' hrl (by simp [size_zeroCells, hT.zc])
        exact ⟨_, _, w.heap.size, hr, g1, g2, .inr rfl⟩
end

def Nq (fp : List Nat) (b : Int) : Prop := ∀ k ∈ fp, (k : Int) ≠ b
def Zn (w : World) (b : Int) : Prop := b < 0 ∨ (w.heap.size : Int) ≤ b
theorem Zn.up {w w' : World} {b : Int} (h : Zn w' b) (hE : Ext w w') : Zn w b := h.imp id fun h => by have := hE.size; omega
theorem Zn.bl {w : World} {b : Int} (h : Zn w b) : ∀ i ∈ bl b, w.heap.size ≤ i := fun i hi => by rw [mem_bl] at hi; rcases h with h | h <;> omega
theorem Zn.app {w w' : World} {b b' : Int} (h : Zn w b) (hb : b' = b ∨ (w'.heap.size : Int) = b') (hE : Ext w w') : Zn w b' := by
  rcases hb with e | e
  · rw [e]; exact h
  · exact .inr (by have := hE.size; omega)
theorem Nq.nil (b : Int) : Nq [] b := fun k hk => by cases hk
theorem Nq.mono {fp fp' : List Nat} {b : Int} (h : Nq fp b) (hs : ∀ k ∈ fp', k ∈ fp) : Nq fp' b := fun k hk => h k (hs k hk)
theorem Nq.append {fp fp' : List Nat} {b : Int} (h : Nq fp b) (h' : Nq fp' b) : Nq (fp ++ fp') b := fun k hk => by
  rcases List.mem_append.1 hk with g | g
  · exact h k g
  · exact h' k g
theorem Nq.new {w : World} {fp : List Nat} {b : Int} (hb : ∀ k ∈ fp, k < w.heap.size) (hz : Zn w b) : Nq fp b := fun k hk => by
  have := hb k hk; rcases hz with h | h <;> omega
theorem Nq.made {w : World} {fp : List Nat} {c : Int} (hf : ∀ k ∈ fp, w.heap.size ≤ k) (hc : c < w.heap.size) : Nq fp c := fun k hk => by have := hf k hk; omega
theorem Nq.appY {w : World} {fp : List Nat} {b b' : Int} (h : Nq fp b) (hb : ∀ k ∈ fp, k < w.heap.size) (e : b' = b ∨ (w.heap.size : Int) = b') : Nq fp b' := by
  rcases e with e | e
  · rw [e]; exact h
  · intro k hk; have := hb k hk; omega
theorem Nq.appX {w : World} {fs f : List Nat} {b b' c : Int} (h : Nq (bl b ++ fs) c) (hf : Nq f c) (e : b' = b ∨ (w.heap.size : Int) = b') (hc : c < w.heap.size) : Nq (bl b' ++ (fs ++ f)) c := by
  intro k hk
  rcases List.mem_append.1 hk with g | g
  · rw [mem_bl] at g
    rcases e with e | e
    · exact h k (List.mem_append_left _ (by rw [mem_bl]; omega))
    · omega
  · rcases List.mem_append.1 g with g | g
    · exact h k (List.mem_append_right _ g)
    · exact hf k g
theorem Ow.fpb {α : Type} {r : Rp α} {o : Bool} {w : World} {e fs b v} {xs : List α} (h : Ow r e o w fs b v xs) : ∀ k ∈ bl b ++ fs, k < w.heap.size := fun k hk => by
  rcases List.mem_append.1 hk with g | g
  · rw [mem_bl] at g; have := h.blt; omega
  · exact h.bnd k g
theorem Ow.nq {α : Type} {r : Rp α} {o : Bool} {w w' : World} {e fs b v} {xs : List α} {c : Int} (h : Ow r e o w fs b v xs) (hc : Chg (bl c) w w') (hn : Nq (bl b ++ fs) c) : Ow r e o w' fs b v xs :=
  h.chg hc (fun k hk => by
    rw [mem_bl] at hk
    intro e'
    exact hn k (List.mem_append_left _ (by rw [mem_bl]; exact e')) hk) (fun k hk hm => hn k (List.mem_append_right _ hk) (mem_bl.1 hm))
theorem Ro.nq {α : Type} {r : Rp α} {w w' : World} {fp v} {xs : List α} {c : Int} (h : Ro r w fp v xs) (hc : Chg (bl c) w w') (hn : Nq fp c) : Ro r w' fp v xs :=
  h.chg hc (fun k hk hm => hn k hk (mem_bl.1 hm))
theorem Bx.nq {w w' : World} {b cs e} {c : Int} (h : Bx w b cs e) (hc : Chg (bl c) w w') (hn : Nq [b] c) : Bx w' b cs e :=
  h.chg hc (fun hm => hn b (by simp) (mem_bl.1 hm))
theorem Bx.fpb {w : World} {b cs e} (h : Bx w b cs e) : ∀ k ∈ [b], k < w.heap.size := fun k hk => by simp at hk; subst hk; exact h.blt
theorem Bx.bi {w : World} {b cs e} (h : Bx w b cs e) : (b : Int) < w.heap.size := by have := h.blt; omega
theorem Chg.bl {w w' : World} {b : Nat} (h : Chg [b] w w') : Chg (bl (b : Int)) w w' := by
  have : Go.Proofs.YtmaaloijdjnblaaGreatDoor.bl (b : Int) = [b] := by simp [Go.Proofs.YtmaaloijdjnblaaGreatDoor.bl]
  rw [this]; exact h
theorem Zn.one {w : World} {b : Nat} (h : w.heap.size ≤ b) : Zn w b := .inr (by omega)
theorem Nq.made1 {w : World} {b : Nat} {c : Int} (h : w.heap.size ≤ b) (hc : c < w.heap.size) : Nq [b] c := fun k hk => by simp at hk; subst hk; omega
theorem Nq.madeO {w : World} {b c : Int} (h : Zn w b) (hc : c < w.heap.size) : Nq (bl b ++ []) c := fun k hk => by
  simp only [List.append_nil] at hk
  rw [mem_bl] at hk; rcases h with h | h <;> omega
theorem Nq.madeF {w : World} {fs : List Nat} {b c : Int} (h : Zn w b) (hf : ∀ k ∈ fs, w.heap.size ≤ k) (hc : c < w.heap.size) : Nq (bl b ++ fs) c := fun k hk => by
  rcases List.mem_append.1 hk with g | g
  · rw [mem_bl] at g; rcases h with h | h <;> omega
  · have := hf k g; omega

section walk
variable {α : Type} {r : Rp α} {e : TypeId} {P : Program} {ops : Array Oper} {Q : Exit → Act → World → Prop} {a : Act} {w : World} {rest : List Oper} {N : Nat} {σ : Slots}
variable {d : Nat} {ty : TypeId} {pos : String} {af : Array Edge}
theorem o_make {T bytes : Nat} {z : Value} {z0 : α} {x : Operand} {k : IntKind} {n : Int} (r : Rp α) (ha : Fr N σ a) (hd : Nat.ble (d + 1) N = true) (hT : SlT P T e r.sz bytes z) (hb : Nat.ble bytes 256 = true)
    (hz : ∀ w, r.rep true w [] z.cells.toList z0) (hx : ev σ x = some (.int k n)) (h0 : 0 ≤ n) (hn : n ≤ lim)
    (K : ∀ v w', Ow r e true w' [] w.heap.size v (List.replicate n.toNat z0) → Ext w w' → ∀ a, Fr N ((d, v) :: σ) a → wpList P ops Q rest a w') :
    wpList P ops Q (⟨some d, .makeSlice T x x, ty, pos, af, none⟩ :: rest) a w := by
  obtain ⟨v, w', hr, h1, h2⟩ := run_make_Ow (w := w) hT (Nat.le_of_ble_eq_true hb) hz (k := k) h0 hn
  exact o_runw ha hd (fun g => by simp [execOp, ha.eq hx, hr]) (K v w' h1 h2)
theorem o_make0 {T bytes : Nat} {z : Value} {x y : Operand} {k k' : IntKind} {n : Int} (r : Rp α) (ha : Fr N σ a) (hd : Nat.ble (d + 1) N = true) (hT : SlT P T e r.sz bytes z) (hb : Nat.ble bytes 256 = true)
    (hy : ev σ y = some (.int k' 0)) (hx : ev σ x = some (.int k n)) (h0 : 0 ≤ n) (hn : n ≤ lim)
    (K : ∀ v w', Ow r e true w' [] w.heap.size v ([] : List α) → Ext w w' → ∀ a, Fr N ((d, v) :: σ) a → wpList P ops Q rest a w') :
    wpList P ops Q (⟨some d, .makeSlice T y x, ty, pos, af, none⟩ :: rest) a w := by
  obtain ⟨v, w', hr, h1, h2⟩ := run_make0_Ow (r := r) (w := w) hT (Nat.le_of_ble_eq_true hb) (k := k) (k' := k') h0 hn
  exact o_runw ha hd (fun g => by simp [execOp, ha.eq hx, ha.eq hy, hr]) (K v w' h1 h2)
theorem o_lit0 {T bytes : Nat} {z : Value} (r : Rp α) (ha : Fr N σ a) (hd : Nat.ble (d + 1) N = true) (hT : SlT P T e r.sz bytes z)
    (K : ∀ v w', Ow r e true w' [] w.heap.size v ([] : List α) → Ext w w' → ∀ a, Fr N ((d, v) :: σ) a → wpList P ops Q rest a w') :
    wpList P ops Q (⟨some d, .buildSlice T 0 #[], ty, pos, af, none⟩ :: rest) a w := by
  have hs := hT.size w
  refine o_runw (v := .slice (some ⟨w.heap.size, 0, none⟩) 0 0) (w' := w.alloc (.cells #[] e)) ha hd (fun g => ?_) (K _ _ ?_ (Ext.alloc _ _))
  · simp [execOp, Instr.buildSlice, run_underlying hT.und, hs, Instr.fill, newRow, Array.range_zero']
  · exact .inr ⟨w.heap.size, 0, #[], [], rfl, rfl, heap_alloc_new w _, Nat.le_refl _, by simp [maxLen], by simp, by simp, ⟨rfl, rfl⟩, by simp⟩
theorem o_lit1 {T bytes : Nat} {z v : Value} {x : Operand} {y : α} {o : Bool} {f : List Nat} {cs : List Value} (r : Rp α) (ha : Fr N σ a) (hd : Nat.ble (d + 1) N = true) (hT : SlT P T e r.sz bytes z) (hsz : Nat.ble r.sz 64 = true)
    (hx : ev σ x = some v) (hv : v.cells = cs.toArray) (hy : r.rep o w f cs y)
    (K : ∀ v w', Ow r e o w' f w.heap.size v [y] → Ext w w' → ∀ a, Fr N ((d, v) :: σ) a → wpList P ops Q rest a w') :
    wpList P ops Q (⟨some d, .buildSlice T 1 #[(0, x)], ty, pos, af, none⟩ :: rest) a w := by
  have hs := hT.size w
  obtain ⟨i, hi, hzz, hsi, hby⟩ := hT.info
  have hlen := r.len hy
  have hpos := r.pos
  have hsz' := Nat.le_of_ble_eq_true hsz
  have hz : (zeroValue e).run P w = .ok z w := by simp [zeroValue, typeInfo, hi, hzz]
  have hzc := hT.zc
  have key : ∀ (cs pre junk : List Value), junk.length = cs.length →
      (cs.zipIdx pre.length).foldl (fun acc (x : Value × Nat) => acc.setIfInBounds x.2 x.1) (pre ++ junk).toArray = (pre ++ cs).toArray := by
    intro cs
    induction cs with
    | nil => intro pre junk h; have : junk = [] := List.eq_nil_of_length_eq_zero h; subst this; rfl
    | cons c cs ih =>
      intro pre junk h
      cases junk with
      | nil => simp at h
      | cons j junk =>
        simp only [List.zipIdx_cons, List.foldl_cons]
        have e1 : (pre ++ j :: junk).toArray.setIfInBounds pre.length c = ((pre ++ [c]) ++ junk).toArray := by simp
        rw [e1]
        have := ih (pre ++ [c]) junk (by simpa using h)
        simpa using this
  refine o_runw (v := .slice (some ⟨w.heap.size, 0, none⟩) 1 1) (w' := w.alloc (.cells cs.toArray e)) ha hd (fun g => ?_) (K _ _ ?_ (Ext.alloc _ _))
  · have hf : List.foldl (fun acc (x : Value × Nat) => acc.setIfInBounds x.2 x.1) ((Array.range r.sz).map (z.cells[· % z.cells.size]!)) cs.zipIdx = cs.toArray := by
      have := key cs [] ((Array.range r.sz).map (z.cells[· % z.cells.size]!)).toList (by simp [hlen])
      simp only [List.nil_append, List.length_nil, Array.toArray_toList] at this
      exact this
    have h3 : ¬ (16777216 < r.sz) := by omega
    have h4 : r.sz ≠ 0 := by omega
    simp [execOp, ha.eq hx, Instr.buildSlice, run_underlying hT.und, hs, h3, h4, hz, Instr.fill, hv, hlen, newRow, hf]
  · refine .inr ⟨w.heap.size, 1, cs.toArray, cs, rfl, rfl, heap_alloc_new w _, Nat.le_refl _, by simp [maxLen], by simp [hlen], ?_, ?_, fun k hk => ?_⟩
    · simp [List.take_of_length_le, hlen]
    · exact RepL.sing (r.keep hy (fun k hk => (Ext.alloc w _).block k (r.bnd hy k hk) (by simp)))
    · have := r.bnd hy k hk; omega
theorem o_append {T bytes : Nat} {z v u : Value} {x y : Operand} {o : Bool} {fs f : List Nat} {b : Int} {xs ys : List α} (ha : Fr N σ a) (hd : Nat.ble (d + 1) N = true) (hT : SlT P T e r.sz bytes z) (hby : Nat.ble bytes 128 = true)
    (hx : ev σ x = some v) (hy : ev σ y = some u) (h : Ow r e o w fs b v xs) (hs : Src r o w f u ys) (hf : ∀ k ∈ f, (k : Int) ≠ b) (hlim : xs.length + ys.length ≤ lim)
    (K : ∀ v' w' b', Ow r e o w' (fs ++ f) b' v' (xs ++ ys) → Chg (bl b) w w' → (b' = b ∨ (w.heap.size : Int) = b') → ∀ a, Fr N ((d, v') :: σ) a → wpList P ops Q rest a w') :
    wpList P ops Q (⟨some d, .call { callee := .builtin .append, args := #[x, y], argTypes := #[T, T] }, ty, pos, af, none⟩ :: rest) a w := by
  obtain ⟨v', w', b', hr, h1, h2, h3⟩ := run_append_Ow (ty := ty) hT (Nat.le_of_ble_eq_true hby) h hs hf hlim
  exact o_runw ha hd (fun g => by simp [execOp, resolve, invoke, builtin, ha.eq hx, ha.eq hy, hr]) (K v' w' b' h1 h2 h3)
theorem Ow.stored {o : Bool} {fs f : List Nat} {b i : Int} {v : Value} {xs : List α} {q : α} {p : Addr} {c : List Value}
    (h : Ow r e o w fs b v xs) (hi : IdxAt r.sz v i p) (hq : r.rep o w f c q) (hf : ∀ k ∈ f, (k : Int) ≠ b) :
    ∃ (g : Nat) (cur : Array Value) (fs' : List Nat), w.heap[g]? = some (.cells cur e (0, 0)) ∧ p = ⟨g, i.toNat * r.sz, none⟩ ∧ i.toNat * r.sz + r.sz ≤ cur.size ∧
      Ow r e o (w.setRow g (cur.toList.take (i.toNat * r.sz) ++ c ++ cur.toList.drop (i.toNat * r.sz + c.length)).toArray) fs' b v (xs.set i.toNat q) ∧
      Chg (bl b) w (w.setRow g (cur.toList.take (i.toNat * r.sz) ++ c ++ cur.toList.drop (i.toNat * r.sz + c.length)).toArray) ∧ Subst fs f fs' := by
  obtain ⟨b0, len, cap0, hv0, h0, hlt, hp⟩ := hi
  rcases h with ⟨_, hv, hxs, _⟩ | ⟨g, cap, cur, cs, hg, hv, hh, hlc, hcm, hcs, htake, hrl, hne⟩
  · rw [hv] at hv0; cases hv0
  · rw [hv0] at hv; injection hv with e1 e2 e3
    injection e1 with e1
    subst e1 e2 e3
    have hil : i.toNat < xs.length := by omega
    have hcl := r.len hq
    have hseg : i.toNat * r.sz + r.sz ≤ xs.length * r.sz := by rw [← Nat.succ_mul]; exact Nat.mul_le_mul_right _ hil
    have hcapm : xs.length * r.sz ≤ cap0 * r.sz := Nat.mul_le_mul_right _ hlc
    have hpa : p = ⟨g, i.toNat * r.sz, none⟩ := by rw [hp, Addr.add_lit']; simp
    subst hpa
    obtain ⟨pre, old, post, hfp0, hset0⟩ := hrl.set hil hq
    obtain ⟨fp', hsub, hset⟩ : ∃ fp', Subst fs f fp' ∧ RepL r o w fp' (cs.take (i.toNat * r.sz) ++ c ++ cs.drop (i.toNat * r.sz + r.sz)) (xs.set i.toNat q) := ⟨_, ⟨pre, old, post, hfp0, rfl⟩, hset0⟩
    have hfp := hsub.mem
    have hk : ∀ k : Nat, (k : Int) ≠ b → (w.setRow g (cur.toList.take (i.toNat * r.sz) ++ c ++ cur.toList.drop (i.toNat * r.sz + c.length)).toArray).heap[k]? = w.heap[k]? :=
      fun k hk => setRow_other w g k _ (fun e' => hk (by omega))
    have hnb : ∀ k ∈ fp', (k : Int) ≠ b := fun k hk => by
      rcases hfp k hk with g' | g'
      · exact hne k g'
      · exact hf k g'
    refine ⟨g, cur, fp', hh, rfl, by omega, .inr ⟨g, cap0, (cur.toList.take (i.toNat * r.sz) ++ c ++ cur.toList.drop (i.toNat * r.sz + c.length)).toArray, _, hg, by rw [hv0]; simp, setRow_heap w g cur _ e _ hh, by simpa using hlc, hcm, ?_, rfl, ?_, hnb⟩, ?_, hsub⟩
    · simp only [List.size_toArray, List.length_append, List.length_take, List.length_drop, Array.length_toList]
      omega
    · have e4 : List.take ((xs.set i.toNat q).length * r.sz) (cur.toList.take (i.toNat * r.sz) ++ c ++ cur.toList.drop (i.toNat * r.sz + c.length)) =
          cs.take (i.toNat * r.sz) ++ c ++ cs.drop (i.toNat * r.sz + r.sz) := by
        rw [List.length_set, ← htake, hcl]
        apply List.ext_getElem?
        intro j
        simp only [List.getElem?_take, List.getElem?_append, List.length_take, List.length_append, List.getElem?_drop, Array.length_toList, hcl]
        have m1 : min (i.toNat * r.sz) cur.size = i.toNat * r.sz := by omega
        have m2 : min (i.toNat * r.sz) (min (xs.length * r.sz) cur.size) = i.toNat * r.sz := by omega
        rw [m1, m2]
        repeat' split
        all_goals first | rfl | omega | (congr 1; omega) | skip
      simp only [e4]
      exact hset.keep (fun k hkk => hk k (hnb k hkk))
    · have := Chg.setRow w g (cur.toList.take (i.toNat * r.sz) ++ c ++ cur.toList.drop (i.toNat * r.sz + c.length)).toArray
      have eb : bl b = [g] := by unfold bl; rw [if_pos (by omega), hg]; simp
      rw [eb]; exact this
theorem o_storeE {T : TypeId} {x y : Operand} {o : Bool} {fs f : List Nat} {b i : Int} {v u : Value} {xs : List α} {q : α} {p : Addr} {c : List Value} (ha : Fr N σ a) (hsz : ∀ w, (sizeOf T).run P w = .ok r.sz w)
    (hx : ev σ x = some (.pointer (some p))) (hy : ev σ y = some u) (hu : u.cells = c.toArray) (h : Ow r e o w fs b v xs) (hi : IdxAt r.sz v i p) (hq : r.rep o w f c q) (hf : ∀ k ∈ f, (k : Int) ≠ b)
    (K : ∀ w' fs', Ow r e o w' fs' b v (xs.set i.toNat q) → Chg (bl b) w w' → Subst fs f fs' → wpList P ops Q rest a w') :
    wpList P ops Q (⟨none, .store T x y, ty, pos, af, none⟩ :: rest) a w := by
  obtain ⟨g, cur, fs', hh, rfl, hle, h1, h2, h3⟩ := h.stored hi hq hf
  have hcl := r.len hq
  have hst := run_storeCells_at P g (i.toNat * r.sz) e c 0 cur w hh (by omega) (r.one hq)
  simp only [Nat.add_zero] at hst
  exact wl_skip (w' := _) rfl (by
      simp only [execOp, ha.eq hx, ha.eq hy, Instr.storeAt, Instr.sureAddr, storeVar, hsz, hu, Sem.run_bind, Sem.run_pure, Result.andThen_ok, List.size_toArray, hcl, ne_eq, not_true_eq_false, if_false, hst]) (K _ fs' h1 h2 h3)
end walk
end Go.Proofs.YtmaaloijdjnblaaGreatDoor
