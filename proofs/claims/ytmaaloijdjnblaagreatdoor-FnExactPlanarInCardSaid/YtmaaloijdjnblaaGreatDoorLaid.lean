/- What a row lists of the program's tables, as the walks read it. Of whatever program. -/
import Derived.Test.YtmaaloijdjnblaaGreatDoorRow
import Derived.Test.YtmaaloijdjnblaaGreatDoorBits
import Derived.LaidMore
import Derived.OpenShut
import Derived.MakeChecks
namespace Go.Proofs.YtmaaloijdjnblaaGreatDoor
open Go Go.RowKit
theorem tab_of_laid {P : Program} {W : World} {n : String} {g T E : Nat} {tab : List (BitVec 8)} {k : Nat} (hg : P.globalNamed n = some g) (ht : (P.globals[g]?).map (·.type) = some T)
    (hT : P.underlying T = some (.array k E)) (hE : P.underlying E = some (.int .u8)) (hc : P.cellsOf E = 1) {d : DataW Unit} (hd : d = .agg (tab.map fun b => .lit (.int .u8 (b.toNat : Int)))) (hk : tab.length = k)
    (h : laidMetH P [(n, d)] W) : Tab W g tab := by
  subst hd
  rw [MakeChecks.laidMetH_plain _ _ _ (by rfl)] at h
  obtain ⟨ps, ⟨g0, t0, cs0, f0, p0, q0, hg0, ht0, hv0, hd0, _, _⟩, _, _⟩ := h
  obtain rfl := Option.some.inj (hg.symm.trans hg0)
  obtain rfl := Option.some.inj (ht.symm.trans ht0)
  obtain ⟨xs, m1, rfl, hx1, hlen, hn3, hel⟩ := DataW.trod_array hT hd0
  simp only [Prod.mk.injEq, DataW.agg.injEq] at hx1
  have hx := hx1.1
  intro j v hj
  rw [Addr.add_lit', Nat.zero_add]
  rw [List.getElem?_map, Option.map_eq_some_iff] at hj
  obtain ⟨b, hb, rfl⟩ := hj
  have hjl := (List.getElem?_eq_some_iff.1 hb).1
  have h0 := hel j (by omega)
  rw [hc, Nat.mul_one, List.getElem?_eq_getElem (by omega)] at h0
  obtain ⟨c, e1, e2, _⟩ := DataW.trod_int hE h0
  have h3 : (xs.map (·.1))[j]? = some (DataW.lit (Lit.int .u8 (b.toNat : Int))) := by rw [← hx, List.getElem?_map, hb]; rfl
  rw [List.getElem?_map, List.getElem?_eq_getElem (by omega), e2] at h3
  simp only [Option.map_some, Option.some.injEq, DataW.lit.injEq, Lit.int.injEq, true_and] at h3
  rw [World.var?_cell hg hv0 j]
  have h4 : (cs0.toList.drop j).take 1 = [.int .u8 c] := e1
  have h5 : cs0.toList[j]? = some (.int .u8 c) := by
    have := congrArg (fun l => l[0]?) h4
    simpa [List.getElem?_take, List.getElem?_drop] using this
  rw [← h3]
  simpa using h5
end Go.Proofs.YtmaaloijdjnblaaGreatDoor
