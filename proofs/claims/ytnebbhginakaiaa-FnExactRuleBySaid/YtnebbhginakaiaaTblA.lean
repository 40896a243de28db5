/- Keys of several cells: variables of such a type lie in boxes. Program-free. -/
import Derived.Test.YtnebbhginakaiaaTbl
namespace Go.Proofs.Ytnebbhginakaiaa
open Go Go.RowKit
structure KAgg {P : Program} {k : TypeId} {κ : Type} (K : Ky P k κ) (kc : κ → List Value) (zc : List Value) : Prop where
  kv : ∀ s, K.kv s = .agg (kc s).toArray
  ne : ∀ s, kc s ≠ []
  one : ∀ s, ∀ v ∈ kc s, v.oneCell' = true
  len : ∀ s, (kc s).length = zc.length
  size : ∀ s w, (sizeOf k).run P w = .ok (kc s).length w
  zero : ∀ w, (zeroValue k).run P w = .ok (.agg zc.toArray) w
  agg : ∀ w, (isAgg k).run P w = .ok true w
section
variable {P : Program} {k : TypeId} {κ : Type} {K : Ky P k κ} {kc : κ → List Value} {zc : List Value} {ops : Array Oper} {Q : Exit → Act → World → Prop} {a : Act} {w : World} {rest : List Oper} {N d : Nat} {σ : Slots} {ty : TypeId} {pos : String} {af : Array Edge}
theorem KAgg.cells (hK : KAgg K kc zc) (s : κ) : (K.kv s).cells = (kc s).toArray := by rw [hK.kv]; rfl
theorem g_loadK (hK : KAgg K kc zc) {w : World} {x : Operand} {b e : Nat} {s : κ} (hB : Bx w b (kc s) e) (hx : ev σ x = some (.pointer (some ⟨b, 0, none⟩))) : Gives P (Ext w) σ (.load k x) (K.kv s) := by
  rw [hK.kv]
  exact g_loadA (cs := kc s) hK.agg (hK.size s) hx (hK.ne s) hB.all
theorem o_boxK {e : TypeId} (hK : KAgg K kc zc) {s : κ} {x : Operand} (ha : Fr N σ a) (hd : Nat.ble (d + 1) N = true) (hx : ev σ x = some (K.kv s))
    (C : ∀ b w', Bx w' b (kc s) e → Ext w w' → w.heap.size ≤ b → ∀ a, Fr N ((d, .pointer (some ⟨b, 0, none⟩)) :: σ) a → wpList P ops Q rest a w') :
    wpList P ops Q (⟨some d, .box e x, ty, pos, af, none⟩ :: rest) a w := o_box (cs := kc s) ha hd hx (hK.cells s) C
theorem o_allocK (hK : KAgg K kc zc) (ha : Fr N σ a) (hd : Nat.ble (d + 1) N = true)
    (C : ∀ b w', Bx w' b zc k → Ext w w' → w.heap.size ≤ b → ∀ a, Fr N ((d, .pointer (some ⟨b, 0, none⟩)) :: σ) a → wpList P ops Q rest a w') :
    wpList P ops Q (⟨some d, .alloc k, ty, pos, af, none⟩ :: rest) a w := o_alloc (z := .agg zc.toArray) (cs := zc) ha hd hK.zero rfl C
theorem o_storeK (hK : KAgg K kc zc) {s : κ} {x y : Operand} {b : Nat} {e : TypeId} {cs : List Value} (ha : Fr N σ a) (hB : Bx w b cs e) (hl : cs.length = zc.length) (hx : ev σ x = some (.pointer (some ⟨b, 0, none⟩))) (hy : ev σ y = some (K.kv s))
    (C : ∀ w', Bx w' b (kc s) e → Chg [b] w w' → wpList P ops Q rest a w') : wpList P ops Q (⟨none, .store k x y, ty, pos, af, none⟩ :: rest) a w :=
  o_storeA (vs := kc s) ha hB (hK.size s) hx (by rw [hy, hK.kv]) (hK.one s) (by rw [hK.len, hl]) C
end
end Go.Proofs.Ytnebbhginakaiaa
