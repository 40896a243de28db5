/- Numbers without a sign of 64 bits, and dice: a block with a slice of bytes, a place and a number. Of whatever program. -/
import Derived.Test.YtjcnkijmbjhcnaaDeep
namespace Go.Proofs.Ytjcnkijmbjhcnaa
open Go Go.RowKit

section
variable {P : Program} {C : World → Prop} {σ : Slots} {w : World}
theorem g_nilCheck {x : Operand} {p : Addr} (hx : ev σ x = some (.pointer (some p))) : Gives P C σ (.nilCheck x) (.pointer (some p)) :=
  fun N a w ha _ d ty pos af g => by simp [execOp, ha.eq hx]
end
theorem Pv.set {F fs f fs' : List Nat} {n : Nat} (hs : Subst fs f fs') (h : Pv F n fs) (h' : Pv F n f) : Pv F n fs' := fun k hk => by
  rcases hs.mem k hk with g | g
  · exact h k g
  · exact h' k g
def Dc (e : TypeId) (w : World) (fs : List Nat) (b : Int) (v : Value) (d : List (BitVec 8) × Int × Int) : Prop :=
  ∃ (n : Nat) (u : Value), b = (n : Int) ∧ v = .pointer (some ⟨n, 0, none⟩) ∧ Bx w n [u, .int .i64 d.2.1, .int .u64 d.2.2] e ∧ Ro Rp.u8 w fs u d.1 ∧ InI d.2.1 ∧ InU d.2.2 ∧ Nq fs (n : Int)
section
variable {e : TypeId} {w w' : World} {fs : List Nat} {b : Int} {v : Value} {d : List (BitVec 8) × Int × Int}
theorem Dc.blt (h : Dc e w fs b v d) : b < w.heap.size := by obtain ⟨n, u, rfl, _, hB, _⟩ := h; exact hB.bi
theorem Dc.fpb (h : Dc e w fs b v d) : ∀ k ∈ bl b ++ fs, k < w.heap.size := fun k hk => by
  rcases List.mem_append.1 hk with g | g
  · rw [mem_bl] at g; have := h.blt; omega
  · obtain ⟨n, u, _, _, _, hR, _⟩ := h; exact hR.bnd k g
theorem Dc.nq {c : Int} (h : Dc e w fs b v d) (hc : Chg (bl c) w w') (hn : Nq (bl b ++ fs) c) : Dc e w' fs b v d := by
  obtain ⟨n, u, rfl, hv, hB, hR, h1, h2, h3⟩ := h
  exact ⟨n, u, rfl, hv, hB.nq hc (fun k hk => hn k (List.mem_append_left _ (by rw [mem_bl]; simp at hk; rw [hk]))), hR.nq hc (fun k hk => hn k (List.mem_append_right _ hk)), h1, h2, h3⟩
theorem Dc.off {D : List Nat} (h : Dc e w fs b v d) (hc : Chg D w w') (hn : ∀ k ∈ bl b ++ fs, k ∉ D) : Dc e w' fs b v d := by
  obtain ⟨n, u, rfl, hv, hB, hR, h1, h2, h3⟩ := h
  exact ⟨n, u, rfl, hv, hB.off hc (fun k hk => hn k (List.mem_append_left _ (by rw [mem_bl]; simp at hk; rw [hk]))), hR.off hc (fun k hk => hn k (List.mem_append_right _ hk)), h1, h2, h3⟩
theorem Dc.ext (h : Dc e w fs b v d) (hc : Ext w w') : Dc e w' fs b v d := by
  obtain ⟨n, u, rfl, hv, hB, hR, h1, h2, h3⟩ := h
  exact ⟨n, u, rfl, hv, hB.ext hc, hR.ext hc, h1, h2, h3⟩
end
def Dk (e : TypeId) (w : World) (fs : List Nat) (b : Int) (v : Value) (d : List (BitVec 8) × Int × Int) : Prop :=
  ∃ (n : Nat) (u : Value), b = (n : Int) ∧ v = .pointer (some ⟨n, 0, none⟩) ∧ Bx w n [u, .int .i64 d.2.1, .int .i64 d.2.2] e ∧ Ro Rp.u8 w fs u d.1 ∧ InI d.2.1 ∧ InI d.2.2 ∧ Nq fs (n : Int)
section
variable {e : TypeId} {w w' : World} {fs : List Nat} {b : Int} {v : Value} {d : List (BitVec 8) × Int × Int}
theorem Dk.blt (h : Dk e w fs b v d) : b < w.heap.size := by obtain ⟨n, u, rfl, _, hB, _⟩ := h; exact hB.bi
theorem Dk.fpb (h : Dk e w fs b v d) : ∀ k ∈ bl b ++ fs, k < w.heap.size := fun k hk => by
  rcases List.mem_append.1 hk with g | g
  · rw [mem_bl] at g; have := h.blt; omega
  · obtain ⟨n, u, _, _, _, hR, _⟩ := h; exact hR.bnd k g
theorem Dk.nq {c : Int} (h : Dk e w fs b v d) (hc : Chg (bl c) w w') (hn : Nq (bl b ++ fs) c) : Dk e w' fs b v d := by
  obtain ⟨n, u, rfl, hv, hB, hR, h1, h2, h3⟩ := h
  exact ⟨n, u, rfl, hv, hB.nq hc (fun k hk => hn k (List.mem_append_left _ (by rw [mem_bl]; simp at hk; rw [hk]))), hR.nq hc (fun k hk => hn k (List.mem_append_right _ hk)), h1, h2, h3⟩
theorem Dk.off {D : List Nat} (h : Dk e w fs b v d) (hc : Chg D w w') (hn : ∀ k ∈ bl b ++ fs, k ∉ D) : Dk e w' fs b v d := by
  obtain ⟨n, u, rfl, hv, hB, hR, h1, h2, h3⟩ := h
  exact ⟨n, u, rfl, hv, hB.off hc (fun k hk => hn k (List.mem_append_left _ (by rw [mem_bl]; simp at hk; rw [hk]))), hR.off hc (fun k hk => hn k (List.mem_append_right _ hk)), h1, h2, h3⟩
theorem Dk.ext (h : Dk e w fs b v d) (hc : Ext w w') : Dk e w' fs b v d := by
  obtain ⟨n, u, rfl, hv, hB, hR, h1, h2, h3⟩ := h
  exact ⟨n, u, rfl, hv, hB.ext hc, hR.ext hc, h1, h2, h3⟩
end
theorem IdxAt.uniq {sz : Nat} {u : Value} {i : Int} {p p' : Addr} (h : IdxAt sz u i p) (h' : IdxAt sz u i p') : p = p' := by
  obtain ⟨b, len, cap, e1, _, _, rfl⟩ := h
  obtain ⟨b', len', cap', e1', _, _, rfl⟩ := h'
  rw [e1] at e1'
  injection e1' with q1 q2 q3
  injection q1 with q1
  rw [q1]
section
variable {P : Program} {ops : Array Oper} {Q : Exit → Act → World → Prop} {a : Act} {w : World} {rest : List Oper} {N : Nat} {σ : Slots}
variable {ty : TypeId} {pos : String} {af : Array Edge}
end
section
variable {P : Program} {C : World → Prop} {σ : Slots} {w : World}
end
end Go.Proofs.Ytjcnkijmbjhcnaa
