/- The judge: a box of four readings and a map. -/
import Derived.Test.YtjcnkijmbjhcnaaMp
namespace Go.Proofs.Ytjcnkijmbjhcnaa
open Go Go.RowKit
def Jd (P : Program) (e k : TypeId) (φ : Value → Value → Prop) (w : World) (fs : List Nat) (b : Int) (v : Value) (d : List (BitVec 32) × List (Int × (Int × Int)) × List (BitVec 32) × List Bool) : Prop :=
  ∃ (j m : Nat) (v0 v1 v2 v3 : Value) (f0 f1 f2 f3 : List Nat), v = .pointer (some ⟨j, 0, none⟩) ∧ b = (m : Int) ∧ fs = j :: (f0 ++ (f1 ++ (f2 ++ f3))) ∧ m ∉ fs ∧ Bx w j [v0, v1, v2, v3, .map (some m)] e ∧
    Ro Rp.u32 w f0 v0 d.1 ∧ Ro (Rp.prod Rp.int (Rp.prod Rp.int Rp.int)) w f1 v1 d.2.1 ∧ Ro Rp.u32 w f2 v2 d.2.2.1 ∧ Ro Rp.bool w f3 v3 d.2.2.2 ∧ Mq P k φ w m
section
variable {P : Program} {e k : TypeId} {φ : Value → Value → Prop} {w w' : World} {fs : List Nat} {b : Int} {v : Value} {d : List (BitVec 32) × List (Int × (Int × Int)) × List (BitVec 32) × List Bool}
theorem Jd.ptr (h : Jd P e k φ w fs b v d) : ∃ j : Nat, v = .pointer (some ⟨j, 0, none⟩) := by
  obtain ⟨j, m, _, _, _, _, _, _, _, _, rfl, _⟩ := h; exact ⟨j, rfl⟩
theorem Jd.blt (h : Jd P e k φ w fs b v d) : b < w.heap.size := by
  obtain ⟨j, m, _, _, _, _, _, _, _, _, rfl, rfl, _, _, _, _, _, _, _, hM⟩ := h
  have := hM.lt; omega
theorem Jd.fpb (h : Jd P e k φ w fs b v d) : ∀ k ∈ bl b ++ fs, k < w.heap.size := fun i hi => by
  obtain ⟨j, m, _, _, _, _, f0, f1, f2, f3, rfl, rfl, rfl, _, hB, h0, h1, h2, h3, hM⟩ := h
  rcases List.mem_append.1 hi with g | g
  · rw [mem_bl] at g; have := hM.lt; omega
  · rcases List.mem_cons.1 g with rfl | g
    · exact hB.blt
    · rcases List.mem_append.1 g with g | g
      · exact h0.bnd i g
      · rcases List.mem_append.1 g with g | g
        · exact h1.bnd i g
        · rcases List.mem_append.1 g with g | g
          · exact h2.bnd i g
          · exact h3.bnd i g
theorem Jd.off {D : List Nat} (h : Jd P e k φ w fs b v d) (hc : Chg D w w') (hn : ∀ k ∈ bl b ++ fs, k ∉ D) : Jd P e k φ w' fs b v d := by
  obtain ⟨j, m, v0, v1, v2, v3, f0, f1, f2, f3, rfl, rfl, rfl, hm, hB, h0, h1, h2, h3, hM⟩ := h
  have hf : ∀ i, i ∈ j :: (f0 ++ (f1 ++ (f2 ++ f3))) → i ∉ D := fun i hi => hn i (List.mem_append_right _ hi)
  exact ⟨j, m, v0, v1, v2, v3, f0, f1, f2, f3, rfl, rfl, rfl, hm, hB.chg hc (hf j (by simp)), h0.chg hc (fun i hi => hf i (by simp [hi])), h1.chg hc (fun i hi => hf i (by simp [hi])),
    h2.chg hc (fun i hi => hf i (by simp [hi])), h3.chg hc (fun i hi => hf i (by simp [hi])), hM.chg hc (hn m (List.mem_append_left _ (mem_bl.2 rfl)))⟩
theorem Jd.nq {c : Int} (h : Jd P e k φ w fs b v d) (hc : Chg (bl c) w w') (hn : Nq (bl b ++ fs) c) : Jd P e k φ w' fs b v d :=
  h.off hc fun i hi hm => hn i hi (mem_bl.1 hm)
theorem Jd.ext (h : Jd P e k φ w fs b v d) (hc : Ext w w') : Jd P e k φ w' fs b v d := h.off hc fun _ _ hm => by cases hm
theorem Jd.get0 {j : Nat} (h : Jd P e k φ w fs b (.pointer (some ⟨j, 0, none⟩)) d) : ∃ (u : Value) (f : List Nat), Ro Rp.u32 w f u d.1 ∧ w.cell? ⟨j, 0, none⟩ = some u ∧ Nq f b ∧ ∀ i ∈ f, i ∈ bl b ++ fs := by
  obtain ⟨j', m, v0, v1, v2, v3, f0, f1, f2, f3, hj, rfl, rfl, hm, hB, h0, h1, h2, h3, hM⟩ := h
  cases hj
  exact ⟨v0, f0, h0, hB.cell rfl, fun i hi hk => hm (by simp only [Int.natCast_inj] at hk; subst hk; simp [hi]), fun i hi => List.mem_append_right _ (by simp [hi])⟩
theorem Jd.get1 {j : Nat} (h : Jd P e k φ w fs b (.pointer (some ⟨j, 0, none⟩)) d) : ∃ (u : Value) (f : List Nat), Ro (Rp.prod Rp.int (Rp.prod Rp.int Rp.int)) w f u d.2.1 ∧ w.cell? ⟨j, 1, none⟩ = some u ∧ Nq f b ∧ ∀ i ∈ f, i ∈ bl b ++ fs := by
  obtain ⟨j', m, v0, v1, v2, v3, f0, f1, f2, f3, hj, rfl, rfl, hm, hB, h0, h1, h2, h3, hM⟩ := h
  cases hj
  exact ⟨v1, f1, h1, hB.cell rfl, fun i hi hk => hm (by simp only [Int.natCast_inj] at hk; subst hk; simp [hi]), fun i hi => List.mem_append_right _ (by simp [hi])⟩
theorem Jd.get2 {j : Nat} (h : Jd P e k φ w fs b (.pointer (some ⟨j, 0, none⟩)) d) : ∃ (u : Value) (f : List Nat), Ro Rp.u32 w f u d.2.2.1 ∧ w.cell? ⟨j, 2, none⟩ = some u ∧ Nq f b ∧ ∀ i ∈ f, i ∈ bl b ++ fs := by
  obtain ⟨j', m, v0, v1, v2, v3, f0, f1, f2, f3, hj, rfl, rfl, hm, hB, h0, h1, h2, h3, hM⟩ := h
  cases hj
  exact ⟨v2, f2, h2, hB.cell rfl, fun i hi hk => hm (by simp only [Int.natCast_inj] at hk; subst hk; simp [hi]), fun i hi => List.mem_append_right _ (by simp [hi])⟩
theorem Jd.get3 {j : Nat} (h : Jd P e k φ w fs b (.pointer (some ⟨j, 0, none⟩)) d) : ∃ (u : Value) (f : List Nat), Ro Rp.bool w f u d.2.2.2 ∧ w.cell? ⟨j, 3, none⟩ = some u ∧ Nq f b ∧ ∀ i ∈ f, i ∈ bl b ++ fs := by
  obtain ⟨j', m, v0, v1, v2, v3, f0, f1, f2, f3, hj, rfl, rfl, hm, hB, h0, h1, h2, h3, hM⟩ := h
  cases hj
  exact ⟨v3, f3, h3, hB.cell rfl, fun i hi hk => hm (by simp only [Int.natCast_inj] at hk; subst hk; simp [hi]), fun i hi => List.mem_append_right _ (by simp [hi])⟩
theorem Jd.map {j : Nat} (h : Jd P e k φ w fs b (.pointer (some ⟨j, 0, none⟩)) d) : ∃ m : Nat, b = (m : Int) ∧ w.cell? ⟨j, 4, none⟩ = some (.map (some m)) ∧ Mq P k φ w m := by
  obtain ⟨j', m, v0, v1, v2, v3, f0, f1, f2, f3, hj, rfl, rfl, hm, hB, h0, h1, h2, h3, hM⟩ := h
  cases hj
  exact ⟨m, rfl, hB.cell rfl, hM⟩
theorem Jd.upd {m : Nat} (h : Jd P e k φ w fs b v d) (hb : b = (m : Int)) (hM : Mq P k φ w' m) (hc : Chg [m] w w') : Jd P e k φ w' fs b v d := by
  obtain ⟨j, m', v0, v1, v2, v3, f0, f1, f2, f3, rfl, rfl, rfl, hm, hB, h0, h1, h2, h3, _⟩ := h
  have e : m' = m := by omega
  subst e
  have hf : ∀ i, i ∈ j :: (f0 ++ (f1 ++ (f2 ++ f3))) → i ∉ [m'] := fun i hi hx => by rw [List.mem_singleton] at hx; subst hx; exact hm hi
  exact ⟨j, m', v0, v1, v2, v3, f0, f1, f2, f3, rfl, rfl, rfl, hm, hB.chg hc (hf j (by simp)), h0.chg hc (fun i hi => hf i (by simp [hi])), h1.chg hc (fun i hi => hf i (by simp [hi])),
    h2.chg hc (fun i hi => hf i (by simp [hi])), h3.chg hc (fun i hi => hf i (by simp [hi])), hM⟩
theorem Chg.toBl {m : Nat} (hb : b = (m : Int)) (hc : Chg [m] w w') : Chg (Go.Proofs.Ytjcnkijmbjhcnaa.bl b) w w' := by
  subst hb; exact hc.bl
theorem Bx.part {bb : Nat} {pre cs post : List Value} {e : TypeId} (h : Bx w bb (pre ++ cs ++ post) e) : At w ⟨bb, pre.length, none⟩ cs := fun j v hj => by
  have hl := (List.getElem?_eq_some_iff.1 hj).1
  rw [Addr.add_lit']
  refine h.cell ?_
  rw [List.append_assoc, List.getElem?_append_right (by omega), show pre.length + j - pre.length = j by omega, List.getElem?_append_left hl, hj]
end
end Go.Proofs.Ytjcnkijmbjhcnaa
