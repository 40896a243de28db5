/- Functional forms, printed by gen.py. -/
import Derived.Test.YtjcnkijmbjhcnaaPure
namespace Go.Proofs.Ytjcnkijmbjhcnaa

abbrev JD := List (BitVec 32) × List (Int × (Int × Int)) × List (BitVec 32) × List Bool
noncomputable def F_laws_szInt64S (a0 : (List Int)) (a1 : Int) : Option Int :=
  ck (a1 - (a0.length : Int)) (fun _ =>
    if (a1 - (a0.length : Int)) < 0 then
      some (-1)
    else
      some (a1 - (a0.length : Int)))
noncomputable def F_laws_szInt64SS_l1 (a0 : (List (List Int))) (i37 : Int) (i39 : Int) : Option ((Int × Int) ⊕ (Int ⊕ Int)) :=
  if i39 < (a0.length : Int) then
    idx a0 i39 (fun x85 =>
      cal (F_laws_szInt64S x85 i37) (fun x99 =>
        if x99 < 0 then
          some (.inr (.inr (-1)))
        else
          ck (i39 + 1) (fun _ =>
            some (.inl (x99, i39 + 1)))))
  else
    some (.inr (.inl i37))
noncomputable def F_laws_szInt64SS_k2  (i73 : Int) : Option Int :=
  some i73
noncomputable def F_laws_szInt64SS (a0 : (List (List Int))) (a1 : Int) : Option Int :=
  ck (a1 - (a0.length : Int)) (fun _ =>
    if (a1 - (a0.length : Int)) < 0 then
      some (-1)
    else
      bnd (lp (fun s => F_laws_szInt64SS_l1 a0 s.1 s.2) (a1 - (a0.length : Int), 0)) (fun j => F_laws_szInt64SS_k2 j))
noncomputable def F_laws_szGraph (a0_0 : (List (List Int))) (a1 : Int) : Option Int :=
  cal (F_laws_szInt64SS a0_0 a1) (fun x9 =>
    if x9 < 0 then
      some (-1)
    else
      some x9)
noncomputable def F_laws_szFactS (a0 : (List (Int × (Int × Int)))) (a1 : Int) : Option Int :=
  ck (a1 - (a0.length : Int)) (fun _ =>
    if (a1 - (a0.length : Int)) < 0 then
      some (-1)
    else
      some (a1 - (a0.length : Int)))
noncomputable def F_laws_szFormula (a0_0 : (List (Int × (Int × Int)))) (a1 : Int) : Option Int :=
  cal (F_laws_szFactS a0_0 a1) (fun x9 =>
    if x9 < 0 then
      some (-1)
    else
      some x9)
noncomputable def F_laws_toInt64S_l1 (a0 : (List Int)) (l63 : (List Int)) (i66 : Int) : Option (((List Int) × Int) ⊕ ((List Int) ⊕ (List Int))) :=
  if i66 < (a0.length : Int) then
    idx a0 i66 (fun x128 =>
      idx l63 i66 (fun x140 =>
        ck (i66 + 1) (fun _ =>
          some (.inl ((l63.set ((i66 : Int).toNat) x128), i66 + 1)))))
  else
    some (.inr (.inl l63))
noncomputable def F_laws_toInt64S_k2  (l115 : (List Int)) : Option (List Int) :=
  some l115
noncomputable def F_laws_toInt64S (a0 : (List Int)) : Option (List Int) :=
  mkS (a0.length : Int) (0 : Int) (fun _ =>
    bnd (lp (fun s => F_laws_toInt64S_l1 a0 s.1 s.2) ((List.replicate ((a0.length : Int) : Int).toNat (0 : Int)), 0)) (fun j => F_laws_toInt64S_k2 j))
noncomputable def F_laws_toInt64SS_l1 (a0 : (List (List Int))) (l96 : (List (List Int))) (i99 : Int) : Option (((List (List Int)) × Int) ⊕ ((List (List Int)) ⊕ (List (List Int)))) :=
  if i99 < (a0.length : Int) then
    idx a0 i99 (fun x191 =>
      cal (F_laws_toInt64S x191) (fun x205 =>
        idx l96 i99 (fun x219 =>
          ck (i99 + 1) (fun _ =>
            some (.inl ((l96.set ((i99 : Int).toNat) x205), i99 + 1))))))
  else
    some (.inr (.inl l96))
noncomputable def F_laws_toInt64SS_k2  (l178 : (List (List Int))) : Option (List (List Int)) :=
  some l178
noncomputable def F_laws_toInt64SS (a0 : (List (List Int))) : Option (List (List Int)) :=
  mkS (a0.length : Int) ([] : (List Int)) (fun _ =>
    bnd (lp (fun s => F_laws_toInt64SS_l1 a0 s.1 s.2) ((List.replicate ((a0.length : Int) : Int).toNat ([] : (List Int))), 0)) (fun j => F_laws_toInt64SS_k2 j))
noncomputable def F_laws_toGraph (a0_0 : (List (List Int))) : Option (List (List Int)) :=
  cal (F_laws_toInt64SS a0_0) (fun x31 =>
    some x31)
noncomputable def F_laws_toFact (a0_0 : Int) (a0_1 : Int) (a0_2 : Int) : Option (Int × (Int × Int)) :=
  some (a0_0, a0_1, a0_2)
noncomputable def F_laws_toFactS_l1 (a0 : (List (Int × (Int × Int)))) (l111 : (List (Int × (Int × Int)))) (i114 : Int) : Option (((List (Int × (Int × Int))) × Int) ⊕ ((List (Int × (Int × Int))) ⊕ (List (Int × (Int × Int))))) :=
  if i114 < (a0.length : Int) then
    idx a0 i114 (fun x224 =>
      cal (F_laws_toFact x224.1 x224.2.1 x224.2.2) (fun x254 =>
        idx l111 i114 (fun x266 =>
          ck (i114 + 1) (fun _ =>
            some (.inl ((l111.set ((i114 : Int).toNat) (x254.1, x254.2.1, x254.2.2)), i114 + 1))))))
  else
    some (.inr (.inl l111))
noncomputable def F_laws_toFactS_k2  (l211 : (List (Int × (Int × Int)))) : Option (List (Int × (Int × Int))) :=
  some l211
noncomputable def F_laws_toFactS (a0 : (List (Int × (Int × Int)))) : Option (List (Int × (Int × Int))) :=
  mkS (a0.length : Int) ((0 : Int), (0 : Int), (0 : Int)) (fun _ =>
    bnd (lp (fun s => F_laws_toFactS_l1 a0 s.1 s.2) ((List.replicate ((a0.length : Int) : Int).toNat ((0 : Int), (0 : Int), (0 : Int))), 0)) (fun j => F_laws_toFactS_k2 j))
noncomputable def F_laws_toFormula (a0_0 : (List (Int × (Int × Int)))) : Option (List (Int × (Int × Int))) :=
  cal (F_laws_toFactS a0_0) (fun x31 =>
    some x31)
noncomputable def F_spec_l1Size (a0_0 : (List (List Int))) : Option Int :=
  some (a0_0.length : Int)
noncomputable def F_spec_l1In (a0 : Int) (a1 : Int) (a2 : Int) : Option Bool :=
  if a1 ≤ a0 then
    some (decide (a0 ≤ a2))
  else
    some false
noncomputable def F_spec_l1Set_l1 (a0 : (List Int)) (a1 : Int) (i69 : Int) : Option (Int ⊕ (Unit ⊕ Bool)) :=
  if i69 < (a0.length : Int) then
    idx a0 i69 (fun x147 =>
      ck (a1 - 1) (fun _ =>
        cal (F_spec_l1In x147 0 (a1 - 1)) (fun x163 =>
          if ¬ (x163 = true) then
            some (.inr (.inr false))
          else
            if 0 < i69 then
              idx a0 i69 (fun x172 =>
                ck (i69 - 1) (fun _ =>
                  idx a0 (i69 - 1) (fun x186 =>
                    if x172 ≤ x186 then
                      some (.inr (.inr false))
                    else
                      ck (i69 + 1) (fun _ =>
                        some (.inl (i69 + 1))))))
            else
              ck (i69 + 1) (fun _ =>
                some (.inl (i69 + 1))))))
  else
    some (.inr (.inl ()))
noncomputable def F_spec_l1Set_k2   : Option Bool :=
  some true
noncomputable def F_spec_l1Set (a0 : (List Int)) (a1 : Int) : Option Bool :=
  if a1 < (a0.length : Int) then
    some false
  else
    bnd (lp (fun s => F_spec_l1Set_l1 a0 a1 s) 0) (fun j => F_spec_l1Set_k2 )
noncomputable def F_spec_l1Has_l1 (a0 : (List Int)) (a1 : Int) (i23 : Int) : Option (Int ⊕ (Unit ⊕ Bool)) :=
  if i23 < (a0.length : Int) then
    idx a0 i23 (fun x56 =>
      if x56 = a1 then
        some (.inr (.inr true))
      else
        ck (i23 + 1) (fun _ =>
          some (.inl (i23 + 1))))
  else
    some (.inr (.inl ()))
noncomputable def F_spec_l1Has_k2   : Option Bool :=
  some false
noncomputable def F_spec_l1Has (a0 : (List Int)) (a1 : Int) : Option Bool :=
  bnd (lp (fun s => F_spec_l1Has_l1 a0 a1 s) 0) (fun j => F_spec_l1Has_k2 )
noncomputable def F_spec_GraphOk_l1 (a0_0 : (List (List Int))) (x9 : Int) (i80 : Int) : Option (Int ⊕ (Unit ⊕ Bool)) :=
  if i80 < x9 then
    idx a0_0 i80 (fun x146 =>
      cal (F_spec_l1Set x146 x9) (fun x160 =>
        if ¬ (x160 = true) then
          some (.inr (.inr false))
        else
          idx a0_0 i80 (fun x169 =>
            cal (F_spec_l1Has x169 i80) (fun x183 =>
              if x183 = true then
                some (.inr (.inr false))
              else
                ck (i80 + 1) (fun _ =>
                  some (.inl (i80 + 1)))))))
  else
    some (.inr (.inl ()))
noncomputable def F_spec_GraphOk_l4 (a0_0 : (List (List Int))) (i436 : Int) (i762 : Int) : Option (Int ⊕ (Unit ⊕ (Int ⊕ (Unit ⊕ Bool)))) :=
  idx a0_0 i436 (fun x847 =>
    if i762 < (x847.length : Int) then
      idx a0_0 i436 (fun x862 =>
        idx x862 i762 (fun x876 =>
          idx a0_0 x876 (fun x888 =>
            cal (F_spec_l1Has x888 i436) (fun x904 =>
              if ¬ (x904 = true) then
                some (.inr (.inr (.inr (.inr false))))
              else
                ck (i762 + 1) (fun _ =>
                  some (.inl (i762 + 1)))))))
    else
      some (.inr (.inl ())))
noncomputable def F_spec_GraphOk_k5 (i436 : Int)  : Option (Int ⊕ (Unit ⊕ Bool)) :=
  ck (i436 + 1) (fun _ =>
    some (.inl (i436 + 1)))
noncomputable def F_spec_GraphOk_l3 (a0_0 : (List (List Int))) (x9 : Int) (i436 : Int) : Option (Int ⊕ (Unit ⊕ Bool)) :=
  if i436 < x9 then
    bnd (lp (fun s => F_spec_GraphOk_l4 a0_0 i436 s) 0) (fun j => F_spec_GraphOk_k5 i436 )
  else
    some (.inr (.inl ()))
noncomputable def F_spec_GraphOk_k6   : Option Bool :=
  some true
noncomputable def F_spec_GraphOk_k2 (a0_0 : (List (List Int))) (x9 : Int)  : Option Bool :=
  bnd (lp (fun s => F_spec_GraphOk_l3 a0_0 x9 s) 0) (fun j => F_spec_GraphOk_k6 )
noncomputable def F_spec_GraphOk (a0_0 : (List (List Int))) : Option Bool :=
  cal (F_spec_l1Size a0_0) (fun x9 =>
    cal (F_spec_l1In x9 1 16) (fun x16 =>
      if ¬ (x16 = true) then
        some false
      else
        bnd (lp (fun s => F_spec_GraphOk_l1 a0_0 x9 s) 0) (fun j => F_spec_GraphOk_k2 a0_0 x9 )))
noncomputable def F_spec_l26Small (a0_0 : (List (List Int))) : Option Bool :=
  cal (F_spec_GraphOk a0_0) (fun x9 =>
    if x9 = true then
      some (decide ((a0_0.length : Int) ≤ 8))
    else
      some false)
noncomputable def F_spec_l30Name (a0 : Int) : Option Bool :=
  cal (F_spec_l1In a0 0 2) (fun x1 =>
    some x1)
noncomputable def F_spec_l30SetName (a0 : Int) : Option Bool :=
  cal (F_spec_l1In a0 0 1) (fun x1 =>
    some x1)
noncomputable def F_spec_l30Fact_k2 (a0_0 : Int) (a0_1 : Int) (x11 : Bool) (x19 : Bool) (t72 : Bool) : Option Bool :=
  if t72 = true then
    if x11 = true then
      some x19
    else
      some false
  else
    if a0_0 = 7 then
      cal (F_spec_l30Name a0_1) (fun x78 =>
        if x78 = true then
          some x19
        else
          some false)
    else
      if a0_0 = 8 then
        cal (F_spec_l30SetName a0_1) (fun x86 =>
          if x86 = true then
            some x19
          else
            some false)
      else
        some false
noncomputable def F_spec_l30Fact_k1 (a0_0 : Int) (a0_1 : Int) (a0_2 : Int) (x11 : Bool) (x19 : Bool) (t32 : Bool) : Option Bool :=
  if t32 = true then
    cal (F_spec_l30Name a0_1) (fun x36 =>
      if x36 = true then
        cal (F_spec_l30Name a0_2) (fun x43 =>
          some x43)
      else
        some false)
  else
    if a0_0 = 3 then
      cal (F_spec_l30Name a0_1) (fun x50 =>
        if x50 = true then
          cal (F_spec_l30SetName a0_2) (fun x57 =>
            some x57)
        else
          some false)
    else
      if a0_0 = 4 then
        if x11 = true then
          some (decide (a0_2 = 0))
        else
          some false
      else
        bnd (
          if a0_0 = 5 then
            some (.inl (decide (a0_0 = 5)))
          else
            some (.inl (decide (a0_0 = 6)))) (fun j => F_spec_l30Fact_k2 a0_0 a0_1 x11 x19 j)
noncomputable def F_spec_l30Fact (a0_0 : Int) (a0_1 : Int) (a0_2 : Int) (a1 : Int) : Option Bool :=
  ck (a1 - 1) (fun _ =>
    cal (F_spec_l1In a0_1 0 (a1 - 1)) (fun x11 =>
      ck (a1 - 1) (fun _ =>
        cal (F_spec_l1In a0_2 0 (a1 - 1)) (fun x19 =>
          bnd (
            if a0_0 = 1 then
              some (.inl (decide (a0_0 = 1)))
            else
              some (.inl (decide (a0_0 = 2)))) (fun j => F_spec_l30Fact_k1 a0_0 a0_1 a0_2 x11 x19 j)))))
noncomputable def F_spec_FormulaOk_l1 (a0_0 : (List (Int × (Int × Int)))) (i68 : Int) : Option (Int ⊕ (Unit ⊕ Bool)) :=
  if i68 < (a0_0.length : Int) then
    idx a0_0 i68 (fun x127 =>
      cal (F_spec_l30Fact x127.1 x127.2.1 x127.2.2 i68) (fun x157 =>
        if ¬ (x157 = true) then
          some (.inr (.inr false))
        else
          ck (i68 + 1) (fun _ =>
            some (.inl (i68 + 1)))))
  else
    some (.inr (.inl ()))
noncomputable def F_spec_FormulaOk_k2   : Option Bool :=
  some true
noncomputable def F_spec_FormulaOk (a0_0 : (List (Int × (Int × Int)))) : Option Bool :=
  cal (F_spec_l1In (a0_0.length : Int) 1 40) (fun x9 =>
    if ¬ (x9 = true) then
      some false
    else
      bnd (lp (fun s => F_spec_FormulaOk_l1 a0_0 s) 0) (fun j => F_spec_FormulaOk_k2 ))
noncomputable def F_spec_l30Right (a0_0 : (List (List Int))) (a1_0 : (List (Int × (Int × Int)))) : Option Bool :=
  cal (F_spec_l26Small a0_0) (fun x19 =>
    if x19 = true then
      cal (F_spec_FormulaOk a1_0) (fun x26 =>
        some x26)
    else
      some false)
noncomputable def F_spec_l1There (a0_0 : (List (List Int))) (a1 : Int) : Option Bool :=
  cal (F_spec_l1Size a0_0) (fun x9 =>
    ck (x9 - 1) (fun _ =>
      cal (F_spec_l1In a1 0 (x9 - 1)) (fun x18 =>
        some x18)))
noncomputable def F_spec_SetOk (a0_0 : (List (List Int))) (a1 : (List Int)) : Option Bool :=
  cal (F_spec_GraphOk a0_0) (fun x9 =>
    if x9 = true then
      cal (F_spec_l1Size a0_0) (fun x16 =>
        cal (F_spec_l1Set a1 x16) (fun x23 =>
          some x23))
    else
      some false)
noncomputable def F_spec_l25Mask_l1 (a0 : (List Int)) (i27 : Int) (i29 : Int) : Option ((Int × Int) ⊕ (Int ⊕ Int)) :=
  if i29 < (a0.length : Int) then
    idx a0 i29 (fun x68 =>
      grd ((0 : Int) ≤ x68) (
        ck (1 * 2 ^ (x68 : Int).toNat) (fun _ =>
          ck (i29 + 1) (fun _ =>
            some (.inl (i64or i27 (1 * 2 ^ (x68 : Int).toNat), i29 + 1))))))
  else
    some (.inr (.inl i27))
noncomputable def F_spec_l25Mask_k2  (i56 : Int) : Option Int :=
  some i56
noncomputable def F_spec_l25Mask (a0 : (List Int)) : Option Int :=
  bnd (lp (fun s => F_spec_l25Mask_l1 a0 s.1 s.2) (0, 0)) (fun j => F_spec_l25Mask_k2 j)
noncomputable def F_spec_l25Bits_l2 (a0_0 : (List (List Int))) (i284 : Int) (i625 : Int) (i627 : Int) : Option ((Int × Int) ⊕ (Int ⊕ (((List Int) × Int) ⊕ ((List Int) ⊕ (List Int))))) :=
  idx a0_0 i284 (fun x709 =>
    if i627 < (x709.length : Int) then
      idx a0_0 i284 (fun x724 =>
        idx x724 i627 (fun x738 =>
          grd ((0 : Int) ≤ x738) (
            ck (1 * 2 ^ (x738 : Int).toNat) (fun _ =>
              ck (i627 + 1) (fun _ =>
                some (.inl (i64or i625 (1 * 2 ^ (x738 : Int).toNat), i627 + 1)))))))
    else
      some (.inr (.inl i625)))
noncomputable def F_spec_l25Bits_k3 (l281 : (List Int)) (i284 : Int) (i696 : Int) : Option (((List Int) × Int) ⊕ ((List Int) ⊕ (List Int))) :=
  app l281 ([i696]) (fun _ =>
    ck (i284 + 1) (fun _ =>
      some (.inl ((l281 ++ ([i696])), i284 + 1))))
noncomputable def F_spec_l25Bits_l1 (a0_0 : (List (List Int))) (l281 : (List Int)) (i284 : Int) : Option (((List Int) × Int) ⊕ ((List Int) ⊕ (List Int))) :=
  if i284 < (a0_0.length : Int) then
    bnd (lp (fun s => F_spec_l25Bits_l2 a0_0 i284 s.1 s.2) (0, 0)) (fun j => F_spec_l25Bits_k3 l281 i284 j)
  else
    some (.inr (.inl l281))
noncomputable def F_spec_l25Bits_k4  (l539 : (List Int)) : Option (List Int) :=
  some l539
noncomputable def F_spec_l25Bits (a0_0 : (List (List Int))) : Option (List Int) :=
  bnd (lp (fun s => F_spec_l25Bits_l1 a0_0 s.1 s.2) (([] : (List Int)), 0)) (fun j => F_spec_l25Bits_k4 j)
noncomputable def F_spec_l1Copy (a0 : (List Int)) : Option (List Int) :=
  app ([] : (List Int)) a0 (fun _ =>
    some (([] : (List Int)) ++ a0))
noncomputable def F_spec_l30Says_l1 (a0 : (List Int)) (a1_0 : (List (Int × (Int × Int)))) (a4 : (List Int)) (rc : (List Int) → (List (Int × (Int × Int))) → Int → (List Int) → (List Int) → Option Bool) (x9 : (Int × (Int × Int))) (l275 : (List Int)) (i278 : Int) : Option (((List Int) × Int) ⊕ (Unit ⊕ Bool)) :=
  if i278 < (a0.length : Int) then
    idx l275 x9.2.1 (fun x348 =>
      cal (rc a0 a1_0 x9.2.2 (l275.set ((x9.2.1 : Int).toNat) i278) a4) (fun x369 =>
        if x369 = true then
          some (.inr (.inr true))
        else
          ck (i278 + 1) (fun _ =>
            some (.inl ((l275.set ((x9.2.1 : Int).toNat) i278), i278 + 1)))))
  else
    some (.inr (.inl ()))
noncomputable def F_spec_l30Says_k2   : Option Bool :=
  some false
noncomputable def F_spec_l30Says_l3 (a0 : (List Int)) (a1_0 : (List (Int × (Int × Int)))) (a3 : (List Int)) (rc : (List Int) → (List (Int × (Int × Int))) → Int → (List Int) → (List Int) → Option Bool) (x9 : (Int × (Int × Int))) (l471 : (List Int)) (i474 : Int) : Option (((List Int) × Int) ⊕ (Unit ⊕ Bool)) :=
  grd ((0 : Int) ≤ (a0.length : Int)) (
    ck (1 * 2 ^ ((a0.length : Int) : Int).toNat) (fun _ =>
      if i474 < (1 * 2 ^ ((a0.length : Int) : Int).toNat) then
        idx l471 x9.2.1 (fun x550 =>
          cal (rc a0 a1_0 x9.2.2 a3 (l471.set ((x9.2.1 : Int).toNat) i474)) (fun x571 =>
            if x571 = true then
              some (.inr (.inr true))
            else
              ck (i474 + 1) (fun _ =>
                some (.inl ((l471.set ((x9.2.1 : Int).toNat) i474), i474 + 1)))))
      else
        some (.inr (.inl ()))))
noncomputable def F_spec_l30Says_k4   : Option Bool :=
  some false
noncomputable def F_spec_l30Says_body (rc : (List Int) → (List (Int × (Int × Int))) → Int → (List Int) → (List Int) → Option Bool) (a0 : (List Int)) (a1_0 : (List (Int × (Int × Int)))) (a2 : Int) (a3 : (List Int)) (a4 : (List Int)) : Option Bool :=
  idx a1_0 a2 (fun x9 =>
    if x9.1 = 1 then
      idx a3 x9.2.1 (fun x54 =>
        idx a0 x54 (fun x66 =>
          idx a3 x9.2.2 (fun x78 =>
            grd ((0 : Int) ≤ x78) (
              some (decide ((i64and (x66 / 2 ^ (x78 : Int).toNat) 1) = 1))))))
    else
      if x9.1 = 2 then
        idx a3 x9.2.1 (fun x95 =>
          idx a3 x9.2.2 (fun x107 =>
            some (decide (x95 = x107))))
      else
        if x9.1 = 3 then
          idx a4 x9.2.2 (fun x123 =>
            idx a3 x9.2.1 (fun x135 =>
              grd ((0 : Int) ≤ x135) (
                some (decide ((i64and (x123 / 2 ^ (x135 : Int).toNat) 1) = 1)))))
        else
          if x9.1 = 4 then
            cal (rc a0 a1_0 x9.2.1 a3 a4) (fun x152 =>
              some (!x152))
          else
            if x9.1 = 5 then
              cal (rc a0 a1_0 x9.2.1 a3 a4) (fun x159 =>
                if x159 = true then
                  cal (rc a0 a1_0 x9.2.2 a3 a4) (fun x166 =>
                    some x166)
                else
                  some false)
            else
              if x9.1 = 6 then
                cal (rc a0 a1_0 x9.2.1 a3 a4) (fun x173 =>
                  if x173 = true then
                    some true
                  else
                    cal (rc a0 a1_0 x9.2.2 a3 a4) (fun x180 =>
                      some x180))
              else
                if x9.1 = 7 then
                  cal (F_spec_l1Copy a3) (fun x187 =>
                    bnd (lp (fun s => F_spec_l30Says_l1 a0 a1_0 a4 rc x9 s.1 s.2) (x187, 0)) (fun j => F_spec_l30Says_k2 ))
                else
                  cal (F_spec_l1Copy a4) (fun x380 =>
                    bnd (lp (fun s => F_spec_l30Says_l3 a0 a1_0 a3 rc x9 s.1 s.2) (x380, 0)) (fun j => F_spec_l30Says_k4 )))
noncomputable def F_spec_l30Says (a0 : (List Int)) (a1_0 : (List (Int × (Int × Int)))) (a2 : Int) (a3 : (List Int)) (a4 : (List Int)) : Option Bool := fixO (fun (rc : ((List Int) × (List (Int × (Int × Int))) × Int × (List Int) × (List Int)) → Option Bool) a => F_spec_l30Says_body (fun z0 z1 z2 z3 z4 => rc (z0, z1, z2, z3, z4)) a.1 a.2.1 a.2.2.1 a.2.2.2.1 a.2.2.2.2) (a0, a1_0, a2, a3, a4)
noncomputable def F_spec_l30Root (a0_0 : (List (List Int))) (a1_0 : (List (Int × (Int × Int)))) (a2 : (List Int)) (a3 : (List Int)) : Option Bool :=
  ck ((a1_0.length : Int) - 1) (fun _ =>
    cal (F_spec_l25Bits a0_0) (fun x24 =>
      cal (F_spec_l30Says x24 a1_0 ((a1_0.length : Int) - 1) a2 a3) (fun x44 =>
        some x44)))
noncomputable def F_spec_HoldsIn_l1 (a0_0 : (List (List Int))) (a2 : (List Int)) (i112 : Int) : Option (Int ⊕ (Unit ⊕ Bool)) :=
  if i112 < (a2.length : Int) then
    idx a2 i112 (fun x184 =>
      cal (F_spec_l1There a0_0 x184) (fun x198 =>
        if ¬ (x198 = true) then
          some (.inr (.inr false))
        else
          ck (i112 + 1) (fun _ =>
            some (.inl (i112 + 1)))))
  else
    some (.inr (.inl ()))
noncomputable def F_spec_HoldsIn_l3 (a0_0 : (List (List Int))) (a3 : (List (List Int))) (l327 : (List Int)) (i330 : Int) : Option (((List Int) × Int) ⊕ ((List Int) ⊕ Bool)) :=
  if i330 < (a3.length : Int) then
    idx a3 i330 (fun x462 =>
      cal (F_spec_SetOk a0_0 x462) (fun x478 =>
        if ¬ (x478 = true) then
          some (.inr (.inr false))
        else
          idx a3 i330 (fun x486 =>
            cal (F_spec_l25Mask x486) (fun x500 =>
              app l327 ([x500]) (fun _ =>
                ck (i330 + 1) (fun _ =>
                  some (.inl ((l327 ++ ([x500])), i330 + 1))))))))
  else
    some (.inr (.inl l327))
noncomputable def F_spec_HoldsIn_k4 (a0_0 : (List (List Int))) (a1_0 : (List (Int × (Int × Int)))) (a2 : (List Int)) (l443 : (List Int)) : Option Bool :=
  cal (F_spec_l30Root a0_0 a1_0 a2 l443) (fun x543 =>
    some x543)
noncomputable def F_spec_HoldsIn_k2 (a0_0 : (List (List Int))) (a1_0 : (List (Int × (Int × Int)))) (a2 : (List Int)) (a3 : (List (List Int)))  : Option Bool :=
  bnd (lp (fun s => F_spec_HoldsIn_l3 a0_0 a3 s.1 s.2) (([] : (List Int)), 0)) (fun j => F_spec_HoldsIn_k4 a0_0 a1_0 a2 j)
noncomputable def F_spec_HoldsIn (a0_0 : (List (List Int))) (a1_0 : (List (Int × (Int × Int)))) (a2 : (List Int)) (a3 : (List (List Int))) : Option Bool :=
  cal (F_spec_l30Right a0_0 a1_0) (fun x28 =>
    if ¬ (x28 = true) then
      some false
    else
      if (a2.length : Int) ≠ 3 then
        some false
      else
        if (a3.length : Int) ≠ 2 then
          some false
        else
          bnd (lp (fun s => F_spec_HoldsIn_l1 a0_0 a2 s) 0) (fun j => F_spec_HoldsIn_k2 a0_0 a1_0 a2 a3 ))
noncomputable def F_impl_inRange (a0 : Int) (a1 : Int) (a2 : Int) : Option Bool :=
  if a1 ≤ a0 then
    some (decide (a0 ≤ a2))
  else
    some false
noncomputable def F_impl_increasing_l1 (a0 : (List Int)) (a1 : Int) (i49 : Int) : Option (Int ⊕ (Unit ⊕ Bool)) :=
  if i49 < (a0.length : Int) then
    idx a0 i49 (fun x108 =>
      ck (a1 - 1) (fun _ =>
        cal (F_impl_inRange x108 0 (a1 - 1)) (fun x122 =>
          if ¬ (x122 = true) then
            some (.inr (.inr false))
          else
            if 0 < i49 then
              ck (i49 - 1) (fun _ =>
                idx a0 (i49 - 1) (fun x134 =>
                  if x108 ≤ x134 then
                    some (.inr (.inr false))
                  else
                    ck (i49 + 1) (fun _ =>
                      some (.inl (i49 + 1)))))
            else
              ck (i49 + 1) (fun _ =>
                some (.inl (i49 + 1))))))
  else
    some (.inr (.inl ()))
noncomputable def F_impl_increasing_k2   : Option Bool :=
  some true
noncomputable def F_impl_increasing (a0 : (List Int)) (a1 : Int) : Option Bool :=
  bnd (lp (fun s => F_impl_increasing_l1 a0 a1 s) 0) (fun j => F_impl_increasing_k2 )
noncomputable def F_slices_Index_int64_l1 (a0 : (List Int)) (a1 : Int) (i23 : Int) : Option (Int ⊕ (Unit ⊕ Int)) :=
  if i23 < (a0.length : Int) then
    idx a0 i23 (fun x56 =>
      if a1 = x56 then
        some (.inr (.inr i23))
      else
        ck (i23 + 1) (fun _ =>
          some (.inl (i23 + 1))))
  else
    some (.inr (.inl ()))
noncomputable def F_slices_Index_int64_k2   : Option Int :=
  some (-1)
noncomputable def F_slices_Index_int64 (a0 : (List Int)) (a1 : Int) : Option Int :=
  bnd (lp (fun s => F_slices_Index_int64_l1 a0 a1 s) 0) (fun j => F_slices_Index_int64_k2 )
noncomputable def F_slices_Contains_int64 (a0 : (List Int)) (a1 : Int) : Option Bool :=
  cal (F_slices_Index_int64 a0 a1) (fun x1 =>
    some (decide (0 ≤ x1)))
noncomputable def F_impl_GraphOk_l1 (a0_0 : (List (List Int))) (i56 : Int) : Option (Int ⊕ (Unit ⊕ Bool)) :=
  if i56 < (a0_0.length : Int) then
    idx a0_0 i56 (fun x108 =>
      cal (F_impl_increasing x108 (a0_0.length : Int)) (fun x122 =>
        if ¬ (x122 = true) then
          some (.inr (.inr false))
        else
          cal (F_slices_Contains_int64 x108 i56) (fun x131 =>
            if x131 = true then
              some (.inr (.inr false))
            else
              ck (i56 + 1) (fun _ =>
                some (.inl (i56 + 1))))))
  else
    some (.inr (.inl ()))
noncomputable def F_impl_GraphOk_l4 (a0_0 : (List (List Int))) (i311 : Int) (x487 : (List Int)) (i549 : Int) : Option (Int ⊕ (Unit ⊕ (Int ⊕ (Unit ⊕ Bool)))) :=
  if i549 < (x487.length : Int) then
    idx x487 i549 (fun x606 =>
      idx a0_0 x606 (fun x618 =>
        cal (F_slices_Contains_int64 x618 i311) (fun x632 =>
          if ¬ (x632 = true) then
            some (.inr (.inr (.inr (.inr false))))
          else
            ck (i549 + 1) (fun _ =>
              some (.inl (i549 + 1))))))
  else
    some (.inr (.inl ()))
noncomputable def F_impl_GraphOk_k5 (i311 : Int)  : Option (Int ⊕ (Unit ⊕ Bool)) :=
  ck (i311 + 1) (fun _ =>
    some (.inl (i311 + 1)))
noncomputable def F_impl_GraphOk_l3 (a0_0 : (List (List Int))) (i311 : Int) : Option (Int ⊕ (Unit ⊕ Bool)) :=
  if i311 < (a0_0.length : Int) then
    idx a0_0 i311 (fun x487 =>
      bnd (lp (fun s => F_impl_GraphOk_l4 a0_0 i311 x487 s) 0) (fun j => F_impl_GraphOk_k5 i311 ))
  else
    some (.inr (.inl ()))
noncomputable def F_impl_GraphOk_k6   : Option Bool :=
  some true
noncomputable def F_impl_GraphOk_k2 (a0_0 : (List (List Int)))  : Option Bool :=
  bnd (lp (fun s => F_impl_GraphOk_l3 a0_0 s) 0) (fun j => F_impl_GraphOk_k6 )
noncomputable def F_impl_GraphOk (a0_0 : (List (List Int))) : Option Bool :=
  if (a0_0.length : Int) < 1 then
    some false
  else
    if 16 < (a0_0.length : Int) then
      some false
    else
      bnd (lp (fun s => F_impl_GraphOk_l1 a0_0 s) 0) (fun j => F_impl_GraphOk_k2 a0_0 )
noncomputable def F_impl_isSmall (a0_0 : (List (List Int))) : Option Bool :=
  cal (F_impl_GraphOk a0_0) (fun x9 =>
    if x9 = true then
      some (decide ((a0_0.length : Int) ≤ 8))
    else
      some false)
noncomputable def F_impl_vset_has (a0 : BitVec 32) (a1 : Int) : Option Bool :=
  grd ((0 : Int) ≤ a1) (
    some (decide (((a0 >>> (a1 : Int).toNat) &&& (1#32)) = (1#32))))
noncomputable def F_impl_firstOf (a0 : Int) : Option (BitVec 32) :=
  grd ((0 : Int) ≤ a0) (
    some (((1#32) <<< (a0 : Int).toNat) - (1#32)))
noncomputable def F_impl_nets_all (a0 : (List (BitVec 32))) : Option (BitVec 32) :=
  cal (F_impl_firstOf (a0.length : Int)) (fun x1 =>
    some x1)
noncomputable def F_impl_judge_some_l1 (a0 : JD) (a1_1 : Int) (a1_2 : Int) (a2_3 : BitVec 32) (a2_4 : BitVec 32) (rc : JD → Int → Int → Int → Int → (BitVec 32) → (BitVec 32) → Option (Bool × JD)) (l90 : JD) (i97 : Int) (i99 : Int) (i101 : Int) (i103 : Int) : Option ((JD × Int × Int × Int × Int) ⊕ (JD ⊕ (Bool × JD))) :=
  if i103 < (a0.1.length : Int) then
    idx [i97, i99, i101] a1_1 (fun x168 =>
      cal (rc l90 a1_2 (if a1_1 = 0 then i103 else i97) (if a1_1 = 1 then i103 else i99) (if a1_1 = 2 then i103 else i101) a2_3 a2_4) (fun x175 =>
        if x175.1 = true then
          some (.inr (.inr (true, x175.2)))
        else
          ck (i103 + 1) (fun _ =>
            some (.inl (x175.2, (if a1_1 = 0 then i103 else i97), (if a1_1 = 1 then i103 else i99), (if a1_1 = 2 then i103 else i101), i103 + 1)))))
  else
    some (.inr (.inl l90))
noncomputable def F_impl_judge_some_k2  (l155 : JD) : Option (Bool × JD) :=
  some (false, l155)
noncomputable def F_impl_judge_some_l3 (a1_1 : Int) (a1_2 : Int) (a2_0 : Int) (a2_1 : Int) (a2_2 : Int) (rc : JD → Int → Int → Int → Int → (BitVec 32) → (BitVec 32) → Option (Bool × JD)) (l251 : JD) (u258 : BitVec 32) (u259 : BitVec 32) (u260 : BitVec 32) : Option ((JD × (BitVec 32) × (BitVec 32) × (BitVec 32)) ⊕ (JD ⊕ (Bool × JD))) :=
  cal (F_impl_nets_all l251.1) (fun x340 =>
    if u260 ≤ x340 then
      idx [u258, u259] a1_1 (fun x347 =>
        cal (rc l251 a1_2 a2_0 a2_1 a2_2 (if a1_1 = 0 then u260 else u258) (if a1_1 = 1 then u260 else u259)) (fun x354 =>
          if x354.1 = true then
            some (.inr (.inr (true, x354.2)))
          else
            some (.inl (x354.2, (if a1_1 = 0 then u260 else u258), (if a1_1 = 1 then u260 else u259), u260 + (1#32)))))
    else
      some (.inr (.inl l251)))
noncomputable def F_impl_judge_some_k4  (l319 : JD) : Option (Bool × JD) :=
  some (false, l319)
noncomputable def F_impl_judge_some (rc : JD → Int → Int → Int → Int → (BitVec 32) → (BitVec 32) → Option (Bool × JD)) (a0 : JD) (a1_0 : Int) (a1_1 : Int) (a1_2 : Int) (a2_0 : Int) (a2_1 : Int) (a2_2 : Int) (a2_3 : BitVec 32) (a2_4 : BitVec 32) : Option (Bool × JD) :=
  if a1_0 = 7 then
    bnd (lp (fun s => F_impl_judge_some_l1 a0 a1_1 a1_2 a2_3 a2_4 rc s.1 s.2.1 s.2.2.1 s.2.2.2.1 s.2.2.2.2) (a0, a2_0, a2_1, a2_2, 0)) (fun j => F_impl_judge_some_k2 j)
  else
    bnd (lp (fun s => F_impl_judge_some_l3 a1_1 a1_2 a2_0 a2_1 a2_2 rc s.1 s.2.1 s.2.2.1 s.2.2.2) (a0, a2_3, a2_4, 0#32)) (fun j => F_impl_judge_some_k4 j)
noncomputable def F_impl_judge_direct (rc : JD → Int → Int → Int → Int → (BitVec 32) → (BitVec 32) → Option (Bool × JD)) (a0 : JD) (a1_0 : Int) (a1_1 : Int) (a1_2 : Int) (a2_0 : Int) (a2_1 : Int) (a2_2 : Int) (a2_3 : BitVec 32) (a2_4 : BitVec 32) : Option (Bool × JD) :=
  if a1_0 = 1 then
    idx [a2_0, a2_1, a2_2] a1_1 (fun x34 =>
      idx a0.1 x34 (fun x38 =>
        idx [a2_0, a2_1, a2_2] a1_2 (fun x49 =>
          cal (F_impl_vset_has x38 x49) (fun x55 =>
            some (x55, a0)))))
  else
    if a1_0 = 2 then
      idx [a2_0, a2_1, a2_2] a1_1 (fun x61 =>
        idx [a2_0, a2_1, a2_2] a1_2 (fun x65 =>
          some (decide (x61 = x65), a0)))
    else
      if a1_0 = 3 then
        idx [a2_3, a2_4] a1_2 (fun x73 =>
          idx [a2_0, a2_1, a2_2] a1_1 (fun x76 =>
            cal (F_impl_vset_has x73 x76) (fun x82 =>
              some (x82, a0))))
      else
        if a1_0 = 4 then
          cal (rc a0 a1_1 a2_0 a2_1 a2_2 a2_3 a2_4) (fun x88 =>
            some (!x88.1, x88.2))
        else
          if a1_0 = 5 then
            cal (rc a0 a1_1 a2_0 a2_1 a2_2 a2_3 a2_4) (fun x96 =>
              if x96.1 = true then
                cal (rc x96.2 a1_2 a2_0 a2_1 a2_2 a2_3 a2_4) (fun x104 =>
                  some (x104.1, x104.2))
              else
                some (false, x96.2))
          else
            if a1_0 = 6 then
              cal (rc a0 a1_1 a2_0 a2_1 a2_2 a2_3 a2_4) (fun x112 =>
                if x112.1 = true then
                  some (true, x112.2)
                else
                  cal (rc x112.2 a1_2 a2_0 a2_1 a2_2 a2_3 a2_4) (fun x120 =>
                    some (x120.1, x120.2)))
            else
              cal (F_impl_judge_some rc a0 a1_0 a1_1 a1_2 a2_0 a2_1 a2_2 a2_3 a2_4) (fun x127 =>
                some (x127.1, x127.2))
noncomputable def F_impl_judge_relevant_l1 (a0 : JD) (a1 : Int) (i100 : Int) (i102 : Int) (i104 : Int) (i108 : Int) : Option ((Int × Int × Int × Int) ⊕ ((Int × Int × Int) ⊕ ((Int × (Int × (Int × ((BitVec 32) × (BitVec 32))))) × JD))) :=
  if i108 < 3 then
    idx a0.2.2.1 a1 (fun x213 =>
      cal (F_impl_vset_has x213 i108) (fun x224 =>
        if ¬ (x224 = true) then
          idx [i100, i102, i104] i108 (fun x231 =>
            ck (i108 + 1) (fun _ =>
              some (.inl ((if i108 = 0 then 0 else i100), (if i108 = 1 then 0 else i102), (if i108 = 2 then 0 else i104), i108 + 1))))
        else
          ck (i108 + 1) (fun _ =>
            some (.inl (i100, i102, i104, i108 + 1)))))
  else
    some (.inr (.inl (i100, i102, i104)))
noncomputable def F_impl_judge_relevant_l3 (a0 : JD) (a1 : Int) (u316 : BitVec 32) (u317 : BitVec 32) (i320 : Int) : Option (((BitVec 32) × (BitVec 32) × Int) ⊕ (((BitVec 32) × (BitVec 32)) ⊕ ((Int × (Int × (Int × ((BitVec 32) × (BitVec 32))))) × JD))) :=
  if i320 < 2 then
    idx a0.2.2.1 a1 (fun x419 =>
      ck (3 + i320) (fun _ =>
        cal (F_impl_vset_has x419 (3 + i320)) (fun x432 =>
          if ¬ (x432 = true) then
            idx [u316, u317] i320 (fun x439 =>
              ck (i320 + 1) (fun _ =>
                some (.inl ((if i320 = 0 then 0#32 else u316), (if i320 = 1 then 0#32 else u317), i320 + 1))))
          else
            ck (i320 + 1) (fun _ =>
              some (.inl (u316, u317, i320 + 1))))))
  else
    some (.inr (.inl (u316, u317)))
noncomputable def F_impl_judge_relevant_k4 (a0 : JD) (i180 : Int) (i182 : Int) (i184 : Int) (u389 : BitVec 32) (u390 : BitVec 32) : Option ((Int × (Int × (Int × ((BitVec 32) × (BitVec 32))))) × JD) :=
  some ((i180, i182, i184, u389, u390), a0)
noncomputable def F_impl_judge_relevant_k2 (a0 : JD) (a1 : Int) (a2_3 : BitVec 32) (a2_4 : BitVec 32) (i180 : Int) (i182 : Int) (i184 : Int) : Option ((Int × (Int × (Int × ((BitVec 32) × (BitVec 32))))) × JD) :=
  bnd (lp (fun s => F_impl_judge_relevant_l3 a0 a1 s.1 s.2.1 s.2.2) (a2_3, a2_4, 0)) (fun j => F_impl_judge_relevant_k4 a0 i180 i182 i184 j.1 j.2)
noncomputable def F_impl_judge_relevant (a0 : JD) (a1 : Int) (a2_0 : Int) (a2_1 : Int) (a2_2 : Int) (a2_3 : BitVec 32) (a2_4 : BitVec 32) : Option ((Int × (Int × (Int × ((BitVec 32) × (BitVec 32))))) × JD) :=
  bnd (lp (fun s => F_impl_judge_relevant_l1 a0 a1 s.1 s.2.1 s.2.2.1 s.2.2.2) (a2_0, a2_1, a2_2, 0)) (fun j => F_impl_judge_relevant_k2 a0 a1 a2_3 a2_4 j.1 j.2.1 j.2.2)
noncomputable def F_impl_judge_holds_k1 (a0 : JD) (a1 : Int) (a2_0 : Int) (a2_1 : Int) (a2_2 : Int) (a2_3 : BitVec 32) (a2_4 : BitVec 32) (rc : JD → Int → Int → Int → Int → (BitVec 32) → (BitVec 32) → Option (Bool × JD)) (x20 : (Int × (Int × Int)))  : Option (Bool × JD) :=
  cal (F_impl_judge_relevant a0 a1 a2_0 a2_1 a2_2 a2_3 a2_4) (fun x144 =>
    cal (F_impl_judge_direct rc x144.2 x20.1 x20.2.1 x20.2.2 x144.1.1 x144.1.2.1 x144.1.2.2.1 x144.1.2.2.2.1 x144.1.2.2.2.2) (fun x190 =>
      some (x190.1, x190.2)))
noncomputable def F_impl_judge_holds (rc : JD → Int → Int → Int → Int → (BitVec 32) → (BitVec 32) → Option (Bool × JD)) (a0 : JD) (a1 : Int) (a2_0 : Int) (a2_1 : Int) (a2_2 : Int) (a2_3 : BitVec 32) (a2_4 : BitVec 32) : Option (Bool × JD) :=
  idx a0.2.1 a1 (fun x20 =>
    bnd (
      if x20.1 ≠ 7 then
        if x20.1 ≠ 8 then
          idx a0.2.2.2 a1 (fun x124 =>
            if ¬ (x124 = true) then
              cal (F_impl_judge_direct rc a0 x20.1 x20.2.1 x20.2.2 a2_0 a2_1 a2_2 a2_3 a2_4) (fun x136 =>
                some (.inr (x136.1, x136.2)))
            else
              some (.inl ()))
        else
          some (.inl ())
      else
        some (.inl ())) (fun j => F_impl_judge_holds_k1 a0 a1 a2_0 a2_1 a2_2 a2_3 a2_4 rc x20 ))
/-- what the memo may hold: of the node's own ways, those that ask smaller nodes -/
noncomputable def F_judge (d : JD) (a1 n0 n1 n2 : Int) (s0 s1 : BitVec 32) : Option (Bool × JD) :=
  F_impl_judge_holds (fun d' x m0 m1 m2 t0 t1 => if h : d' = d ∧ 0 ≤ x ∧ x < a1 then F_judge d x m0 m1 m2 t0 t1 else none) d a1 n0 n1 n2 s0 s1
termination_by a1.toNat
decreasing_by omega
noncomputable def R_judge (d : JD) (a1 : Int) : JD → Int → Int → Int → Int → BitVec 32 → BitVec 32 → Option (Bool × JD) :=
  fun d' x m0 m1 m2 t0 t1 => if d' = d ∧ 0 ≤ x ∧ x < a1 then F_judge d x m0 m1 m2 t0 t1 else none
theorem F_judge_eq (d : JD) (a1 n0 n1 n2 : Int) (s0 s1 : BitVec 32) : F_judge d a1 n0 n1 n2 s0 s1 = F_impl_judge_holds (R_judge d a1) d a1 n0 n1 n2 s0 s1 := by
  rw [F_judge]; rfl

noncomputable def F_impl_goodFact_1 (a0 : Int) : Option Bool :=
  cal (F_impl_inRange a0 0 2) (fun x1 =>
    some x1)
noncomputable def F_impl_goodFact_2 (a0 : Int) : Option Bool :=
  cal (F_impl_inRange a0 0 1) (fun x1 =>
    some x1)
noncomputable def F_impl_goodFact_3 (a0 : Int) (y0 : Int) : Option Bool :=
  ck (y0 - 1) (fun _ =>
    cal (F_impl_inRange a0 0 (y0 - 1)) (fun x3 =>
      some x3))
noncomputable def F_impl_goodFact_k2 (a0_0 : Int) (a0_1 : Int) (a0_2 : Int) (a1 : Int) (t78 : Bool) : Option Bool :=
  if t78 = true then
    cal (F_impl_goodFact_3 a0_1 a1) (fun x84 =>
      if x84 = true then
        cal (F_impl_goodFact_3 a0_2 a1) (fun x91 =>
          some x91)
      else
        some false)
  else
    if a0_0 = 7 then
      cal (F_impl_goodFact_1 a0_1) (fun x98 =>
        if x98 = true then
          cal (F_impl_goodFact_3 a0_2 a1) (fun x105 =>
            some x105)
        else
          some false)
    else
      if a0_0 = 8 then
        cal (F_impl_goodFact_2 a0_1) (fun x112 =>
          if x112 = true then
            cal (F_impl_goodFact_3 a0_2 a1) (fun x119 =>
              some x119)
          else
            some false)
      else
        some false
noncomputable def F_impl_goodFact_k1 (a0_0 : Int) (a0_1 : Int) (a0_2 : Int) (a1 : Int) (t28 : Bool) : Option Bool :=
  if t28 = true then
    cal (F_impl_goodFact_1 a0_1) (fun x34 =>
      if x34 = true then
        cal (F_impl_goodFact_1 a0_2) (fun x41 =>
          some x41)
      else
        some false)
  else
    if a0_0 = 3 then
      cal (F_impl_goodFact_1 a0_1) (fun x48 =>
        if x48 = true then
          cal (F_impl_goodFact_2 a0_2) (fun x55 =>
            some x55)
        else
          some false)
    else
      if a0_0 = 4 then
        cal (F_impl_goodFact_3 a0_1 a1) (fun x62 =>
          if x62 = true then
            some (decide (a0_2 = 0))
          else
            some false)
      else
        bnd (
          if a0_0 = 5 then
            some (.inl (decide (a0_0 = 5)))
          else
            some (.inl (decide (a0_0 = 6)))) (fun j => F_impl_goodFact_k2 a0_0 a0_1 a0_2 a1 j)
noncomputable def F_impl_goodFact (a0_0 : Int) (a0_1 : Int) (a0_2 : Int) (a1 : Int) : Option Bool :=
  bnd (
    if a0_0 = 1 then
      some (.inl (decide (a0_0 = 1)))
    else
      some (.inl (decide (a0_0 = 2)))) (fun j => F_impl_goodFact_k1 a0_0 a0_1 a0_2 a1 j)
noncomputable def F_impl_FormulaOk_l1 (a0_0 : (List (Int × (Int × Int)))) (i71 : Int) : Option (Int ⊕ (Unit ⊕ Bool)) :=
  if i71 < (a0_0.length : Int) then
    idx a0_0 i71 (fun x140 =>
      cal (F_impl_goodFact x140.1 x140.2.1 x140.2.2 i71) (fun x182 =>
        if ¬ (x182 = true) then
          some (.inr (.inr false))
        else
          ck (i71 + 1) (fun _ =>
            some (.inl (i71 + 1)))))
  else
    some (.inr (.inl ()))
noncomputable def F_impl_FormulaOk_k2   : Option Bool :=
  some true
noncomputable def F_impl_FormulaOk (a0_0 : (List (Int × (Int × Int)))) : Option Bool :=
  if (a0_0.length : Int) < 1 then
    some false
  else
    if 40 < (a0_0.length : Int) then
      some false
    else
      bnd (lp (fun s => F_impl_FormulaOk_l1 a0_0 s) 0) (fun j => F_impl_FormulaOk_k2 )
noncomputable def F_impl_one (a0 : Int) : Option (BitVec 32) :=
  grd ((0 : Int) ≤ a0) (
    some ((1#32) <<< (a0 : Int).toNat))
noncomputable def F_impl_maskOf_l1 (a0 : (List Int)) (u29 : BitVec 32) (i30 : Int) : Option (((BitVec 32) × Int) ⊕ ((BitVec 32) ⊕ (BitVec 32))) :=
  if i30 < (a0.length : Int) then
    idx a0 i30 (fun x70 =>
      cal (F_impl_one x70) (fun x82 =>
        ck (i30 + 1) (fun _ =>
          some (.inl (u29 ||| x82, i30 + 1)))))
  else
    some (.inr (.inl u29))
noncomputable def F_impl_maskOf_k2  (u59 : BitVec 32) : Option (BitVec 32) :=
  some u59
noncomputable def F_impl_maskOf (a0 : (List Int)) : Option (BitVec 32) :=
  bnd (lp (fun s => F_impl_maskOf_l1 a0 s.1 s.2) (0#32, 0)) (fun j => F_impl_maskOf_k2 j)
noncomputable def F_impl_netsOf_l1 (a0_0 : (List (List Int))) (l84 : (List (BitVec 32))) (i87 : Int) : Option (((List (BitVec 32)) × Int) ⊕ ((List (BitVec 32)) ⊕ (List (BitVec 32)))) :=
  if i87 < (a0_0.length : Int) then
    idx a0_0 i87 (fun x162 =>
      cal (F_impl_maskOf x162) (fun x176 =>
        app l84 ([x176]) (fun _ =>
          ck (i87 + 1) (fun _ =>
            some (.inl ((l84 ++ ([x176])), i87 + 1))))))
  else
    some (.inr (.inl l84))
noncomputable def F_impl_netsOf_k2  (l149 : (List (BitVec 32))) : Option (List (BitVec 32)) :=
  some l149
noncomputable def F_impl_netsOf (a0_0 : (List (List Int))) : Option (List (BitVec 32)) :=
  bnd (lp (fun s => F_impl_netsOf_l1 a0_0 s.1 s.2) (([] : (List (BitVec 32))), 0)) (fun j => F_impl_netsOf_k2 j)
noncomputable def F_impl_freeIn_k3 (l396 : (List (BitVec 32))) (i399 : Int) (x786 : (Int × (Int × Int))) (t968 : Bool) : Option (((List (BitVec 32)) × Int) ⊕ ((List (BitVec 32)) ⊕ (List (BitVec 32)))) :=
  if t968 = true then
    idx l396 x786.2.1 (fun x974 =>
      idx l396 x786.2.2 (fun x985 =>
        app l396 ([x974 ||| x985]) (fun _ =>
          ck (i399 + 1) (fun _ =>
            some (.inl ((l396 ++ ([x974 ||| x985])), i399 + 1))))))
  else
    if x786.1 = 7 then
      idx l396 x786.2.2 (fun x1025 =>
        cal (F_impl_one x786.2.1) (fun x1038 =>
          app l396 ([x1025 &&& ~~~x1038]) (fun _ =>
            ck (i399 + 1) (fun _ =>
              some (.inl ((l396 ++ ([x1025 &&& ~~~x1038])), i399 + 1))))))
    else
      if x786.1 = 8 then
        idx l396 x786.2.2 (fun x1069 =>
          ck (3 + x786.2.1) (fun _ =>
            cal (F_impl_one (3 + x786.2.1)) (fun x1084 =>
              app l396 ([x1069 &&& ~~~x1084]) (fun _ =>
                ck (i399 + 1) (fun _ =>
                  some (.inl ((l396 ++ ([x1069 &&& ~~~x1084])), i399 + 1)))))))
      else
        app l396 ([0#32]) (fun _ =>
          ck (i399 + 1) (fun _ =>
            some (.inl ((l396 ++ ([0#32])), i399 + 1))))
noncomputable def F_impl_freeIn_k2 (l396 : (List (BitVec 32))) (i399 : Int) (x786 : (Int × (Int × Int))) (t840 : Bool) : Option (((List (BitVec 32)) × Int) ⊕ ((List (BitVec 32)) ⊕ (List (BitVec 32)))) :=
  if t840 = true then
    cal (F_impl_one x786.2.1) (fun x848 =>
      cal (F_impl_one x786.2.2) (fun x852 =>
        app l396 ([x848 ||| x852]) (fun _ =>
          ck (i399 + 1) (fun _ =>
            some (.inl ((l396 ++ ([x848 ||| x852])), i399 + 1))))))
  else
    if x786.1 = 3 then
      cal (F_impl_one x786.2.1) (fun x885 =>
        ck (3 + x786.2.2) (fun _ =>
          cal (F_impl_one (3 + x786.2.2)) (fun x891 =>
            app l396 ([x885 ||| x891]) (fun _ =>
              ck (i399 + 1) (fun _ =>
                some (.inl ((l396 ++ ([x885 ||| x891])), i399 + 1)))))))
    else
      if x786.1 = 4 then
        idx l396 x786.2.1 (fun x922 =>
          app l396 ([x922]) (fun _ =>
            ck (i399 + 1) (fun _ =>
              some (.inl ((l396 ++ ([x922])), i399 + 1)))))
      else
        bnd (
          if x786.1 = 5 then
            some (.inl (decide (x786.1 = 5)))
          else
            some (.inl (decide (x786.1 = 6)))) (fun j => F_impl_freeIn_k3 l396 i399 x786 j)
noncomputable def F_impl_freeIn_l1 (a0_0 : (List (Int × (Int × Int)))) (l396 : (List (BitVec 32))) (i399 : Int) : Option (((List (BitVec 32)) × Int) ⊕ ((List (BitVec 32)) ⊕ (List (BitVec 32)))) :=
  if i399 < (a0_0.length : Int) then
    idx a0_0 i399 (fun x786 =>
      bnd (
        if x786.1 = 1 then
          some (.inl (decide (x786.1 = 1)))
        else
          some (.inl (decide (x786.1 = 2)))) (fun j => F_impl_freeIn_k2 l396 i399 x786 j))
  else
    some (.inr (.inl l396))
noncomputable def F_impl_freeIn_k4  (l773 : (List (BitVec 32))) : Option (List (BitVec 32)) :=
  some l773
noncomputable def F_impl_freeIn (a0_0 : (List (Int × (Int × Int)))) : Option (List (BitVec 32)) :=
  bnd (lp (fun s => F_impl_freeIn_l1 a0_0 s.1 s.2) (([] : (List (BitVec 32))), 0)) (fun j => F_impl_freeIn_k4 j)
noncomputable def F_impl_largeIn_k2 (l352 : (List Bool)) (l358 : (List Int)) (i361 : Int) (x688 : (Int × (Int × Int))) (t818 : Bool) : Option (((List Bool) × (List Int) × Int) ⊕ ((List Bool) ⊕ (List Bool))) :=
  if t818 = true then
    idx l358 x688.2.1 (fun x828 =>
      idx l358 x688.2.2 (fun x840 =>
        ck (x828 + x840) (fun _ =>
          ck (1 + (x828 + x840)) (fun _ =>
            app l358 ([min (1 + (x828 + x840)) 10000]) (fun _ =>
              app l352 ([decide (10000 ≤ (1 + (x828 + x840)))]) (fun _ =>
                ck (i361 + 1) (fun _ =>
                  some (.inl ((l352 ++ ([decide (10000 ≤ (1 + (x828 + x840)))])), (l358 ++ ([min (1 + (x828 + x840)) 10000])), i361 + 1)))))))))
  else
    app l358 ([min 1 10000]) (fun _ =>
      app l352 ([decide (10000 ≤ 1)]) (fun _ =>
        ck (i361 + 1) (fun _ =>
          some (.inl ((l352 ++ ([decide (10000 ≤ 1)])), (l358 ++ ([min 1 10000])), i361 + 1)))))
noncomputable def F_impl_largeIn_l1 (a0_0 : (List (Int × (Int × Int)))) (l352 : (List Bool)) (l358 : (List Int)) (i361 : Int) : Option (((List Bool) × (List Int) × Int) ⊕ ((List Bool) ⊕ (List Bool))) :=
  if i361 < (a0_0.length : Int) then
    idx a0_0 i361 (fun x688 =>
      if x688.1 = 4 then
        idx l358 x688.2.1 (fun x735 =>
          ck (1 + x735) (fun _ =>
            app l358 ([min (1 + x735) 10000]) (fun _ =>
              app l352 ([decide (10000 ≤ (1 + x735))]) (fun _ =>
                ck (i361 + 1) (fun _ =>
                  some (.inl ((l352 ++ ([decide (10000 ≤ (1 + x735))])), (l358 ++ ([min (1 + x735) 10000])), i361 + 1)))))))
      else
        bnd (
          if x688.1 = 5 then
            some (.inl (decide (x688.1 = 5)))
          else
            some (.inl (decide (x688.1 = 6)))) (fun j => F_impl_largeIn_k2 l352 l358 i361 x688 j))
  else
    some (.inr (.inl l352))
noncomputable def F_impl_largeIn_k3  (l675 : (List Bool)) : Option (List Bool) :=
  some l675
noncomputable def F_impl_largeIn (a0_0 : (List (Int × (Int × Int)))) : Option (List Bool) :=
  bnd (lp (fun s => F_impl_largeIn_l1 a0_0 s.1 s.2.1 s.2.2) (([] : (List Bool)), ([] : (List Int)), 0)) (fun j => F_impl_largeIn_k3 j)
noncomputable def F_impl_newJudge (a0_0 : (List (List Int))) (a1_0 : (List (Int × (Int × Int)))) : Option (Bool × JD) :=
  cal (F_impl_isSmall a0_0) (fun x19 =>
    if ¬ (x19 = true) then
      some (true, ([], [], [], []))
    else
      cal (F_impl_FormulaOk a1_0) (fun x26 =>
        if ¬ (x26 = true) then
          some (true, ([], [], [], []))
        else
          cal (F_impl_netsOf a0_0) (fun xqr1o1_1 =>
            cal (F_impl_freeIn a1_0) (fun xqr1o4_1 =>
              cal (F_impl_largeIn a1_0) (fun xqr1o6_1 =>
                some (false, (xqr1o1_1, a1_0, xqr1o4_1, xqr1o6_1)))))))
noncomputable def F_impl_isVertex (a0_0 : (List (List Int))) (a1 : Int) : Option Bool :=
  cal (F_impl_GraphOk a0_0) (fun x9 =>
    if x9 = true then
      ck ((a0_0.length : Int) - 1) (fun _ =>
        cal (F_impl_inRange a1 0 ((a0_0.length : Int) - 1)) (fun x18 =>
          some x18))
    else
      some false)
noncomputable def F_impl_SetOk (a0_0 : (List (List Int))) (a1 : (List Int)) : Option Bool :=
  cal (F_impl_GraphOk a0_0) (fun x9 =>
    if x9 = true then
      cal (F_impl_increasing a1 (a0_0.length : Int)) (fun x16 =>
        some x16)
    else
      some false)
noncomputable def F_impl_judge_root (a0 : JD) (a1_0 : Int) (a1_1 : Int) (a1_2 : Int) (a1_3 : BitVec 32) (a1_4 : BitVec 32) : Option (Bool × JD) :=
  ck ((a0.2.1.length : Int) - 1) (fun _ =>
    cal (F_judge a0 ((a0.2.1.length : Int) - 1) a1_0 a1_1 a1_2 a1_3 a1_4) (fun x25 =>
      some (x25.1, x25.2)))
noncomputable def F_impl_HoldsIn_l1 (a0_0 : (List (List Int))) (a2 : (List Int)) (i133 : Int) (i135 : Int) (i137 : Int) (i139 : Int) : Option ((Int × Int × Int × Int) ⊕ ((Int × Int × Int) ⊕ Bool)) :=
  if i139 < (a2.length : Int) then
    idx a2 i139 (fun x229 =>
      cal (F_impl_isVertex a0_0 x229) (fun x241 =>
        if ¬ (x241 = true) then
          some (.inr (.inr false))
        else
          idx [i133, i135, i137] i139 (fun x250 =>
            ck (i139 + 1) (fun _ =>
              some (.inl ((if i139 = 0 then x229 else i133), (if i139 = 1 then x229 else i135), (if i139 = 2 then x229 else i137), i139 + 1))))))
  else
    some (.inr (.inl (i133, i135, i137)))
noncomputable def F_impl_HoldsIn_l3 (a0_0 : (List (List Int))) (a3 : (List (List Int))) (u337 : BitVec 32) (u338 : BitVec 32) (i339 : Int) : Option (((BitVec 32) × (BitVec 32) × Int) ⊕ (((BitVec 32) × (BitVec 32)) ⊕ Bool)) :=
  if i339 < (a3.length : Int) then
    idx a3 i339 (fun x423 =>
      cal (F_impl_SetOk a0_0 x423) (fun x437 =>
        if ¬ (x437 = true) then
          some (.inr (.inr false))
        else
          cal (F_impl_maskOf x423) (fun x446 =>
            idx [u337, u338] i339 (fun x452 =>
              ck (i339 + 1) (fun _ =>
                some (.inl ((if i339 = 0 then x446 else u337), (if i339 = 1 then x446 else u338), i339 + 1)))))))
  else
    some (.inr (.inl (u337, u338)))
noncomputable def F_impl_HoldsIn_k4 (x19 : (Bool × JD)) (i207 : Int) (i209 : Int) (i211 : Int) (u409 : BitVec 32) (u410 : BitVec 32) : Option Bool :=
  cal (F_impl_judge_root x19.2 i207 i209 i211 u409 u410) (fun x461 =>
    some x461.1)
noncomputable def F_impl_HoldsIn_k2 (a0_0 : (List (List Int))) (a3 : (List (List Int))) (x19 : (Bool × JD)) (i207 : Int) (i209 : Int) (i211 : Int) : Option Bool :=
  bnd (lp (fun s => F_impl_HoldsIn_l3 a0_0 a3 s.1 s.2.1 s.2.2) (0#32, 0#32, 0)) (fun j => F_impl_HoldsIn_k4 x19 i207 i209 i211 j.1 j.2)
noncomputable def F_impl_HoldsIn (a0_0 : (List (List Int))) (a1_0 : (List (Int × (Int × Int)))) (a2 : (List Int)) (a3 : (List (List Int))) : Option Bool :=
  cal (F_impl_newJudge a0_0 a1_0) (fun x19 =>
    if x19.1 = true then
      some false
    else
      if (a2.length : Int) ≠ 3 then
        some false
      else
        if (a3.length : Int) ≠ 2 then
          some false
        else
          bnd (lp (fun s => F_impl_HoldsIn_l1 a0_0 a2 s.1 s.2.1 s.2.2.1 s.2.2.2) (0, 0, 0, 0)) (fun j => F_impl_HoldsIn_k2 a0_0 a3 x19 j.1 j.2.1 j.2.2))
noncomputable def F_laws_eqInt64S_l1 (a0 : (List Int)) (a1 : (List Int)) (i39 : Int) : Option (Int ⊕ (Unit ⊕ Bool)) :=
  if i39 < (a0.length : Int) then
    idx a0 i39 (fun x87 =>
      idx a1 i39 (fun x99 =>
        if x87 ≠ x99 then
          some (.inr (.inr false))
        else
          ck (i39 + 1) (fun _ =>
            some (.inl (i39 + 1)))))
  else
    some (.inr (.inl ()))
noncomputable def F_laws_eqInt64S_k2   : Option Bool :=
  some true
noncomputable def F_laws_eqInt64S (a0 : (List Int)) (a1 : (List Int)) : Option Bool :=
  if (a0.length : Int) ≠ (a1.length : Int) then
    some false
  else
    bnd (lp (fun s => F_laws_eqInt64S_l1 a0 a1 s) 0) (fun j => F_laws_eqInt64S_k2 )
noncomputable def F_laws_eqInt64SS_l1 (a0 : (List (List Int))) (a1 : (List (List Int))) (i47 : Int) : Option (Int ⊕ (Unit ⊕ Bool)) :=
  if i47 < (a0.length : Int) then
    idx a0 i47 (fun x103 =>
      idx a1 i47 (fun x117 =>
        cal (F_laws_eqInt64S x103 x117) (fun x133 =>
          if ¬ (x133 = true) then
            some (.inr (.inr false))
          else
            ck (i47 + 1) (fun _ =>
              some (.inl (i47 + 1))))))
  else
    some (.inr (.inl ()))
noncomputable def F_laws_eqInt64SS_k2   : Option Bool :=
  some true
noncomputable def F_laws_eqInt64SS (a0 : (List (List Int))) (a1 : (List (List Int))) : Option Bool :=
  if (a0.length : Int) ≠ (a1.length : Int) then
    some false
  else
    bnd (lp (fun s => F_laws_eqInt64SS_l1 a0 a1 s) 0) (fun j => F_laws_eqInt64SS_k2 )
noncomputable def F_laws_eqGraph (a0_0 : (List (List Int))) (a1_0 : (List (List Int))) : Option Bool :=
  cal (F_laws_eqInt64SS a0_0 a1_0) (fun x19 =>
    if ¬ (x19 = true) then
      some false
    else
      some true)
noncomputable def F_laws_eqFact (a0_0 : Int) (a0_1 : Int) (a0_2 : Int) (a1_0 : Int) (a1_1 : Int) (a1_2 : Int) : Option Bool :=
  if a0_0 ≠ a1_0 then
    some false
  else
    if a0_1 ≠ a1_1 then
      some false
    else
      if a0_2 ≠ a1_2 then
        some false
      else
        some true
noncomputable def F_laws_eqFactS_l1 (a0 : (List (Int × (Int × Int)))) (a1 : (List (Int × (Int × Int)))) (i79 : Int) : Option (Int ⊕ (Unit ⊕ Bool)) :=
  if i79 < (a0.length : Int) then
    idx a0 i79 (fun x167 =>
      idx a1 i79 (fun x197 =>
        cal (F_laws_eqFact x167.1 x167.2.1 x167.2.2 x197.1 x197.2.1 x197.2.2) (fun x229 =>
          if ¬ (x229 = true) then
            some (.inr (.inr false))
          else
            ck (i79 + 1) (fun _ =>
              some (.inl (i79 + 1))))))
  else
    some (.inr (.inl ()))
noncomputable def F_laws_eqFactS_k2   : Option Bool :=
  some true
noncomputable def F_laws_eqFactS (a0 : (List (Int × (Int × Int)))) (a1 : (List (Int × (Int × Int)))) : Option Bool :=
  if (a0.length : Int) ≠ (a1.length : Int) then
    some false
  else
    bnd (lp (fun s => F_laws_eqFactS_l1 a0 a1 s) 0) (fun j => F_laws_eqFactS_k2 )
noncomputable def F_laws_eqFormula (a0_0 : (List (Int × (Int × Int)))) (a1_0 : (List (Int × (Int × Int)))) : Option Bool :=
  cal (F_laws_eqFactS a0_0 a1_0) (fun x19 =>
    if ¬ (x19 = true) then
      some false
    else
      some true)
noncomputable def F_laws_FnExactHoldsIn (a0_0 : (List (List Int))) (a1_0 : (List (Int × (Int × Int)))) (a2 : (List Int)) (a3 : (List (List Int))) : Option Bool :=
  if 1048576 < (a2.length : Int) then
    some true
  else
    cal (F_laws_szGraph a0_0 1048576) (fun x20 =>
      if x20 < 0 then
        some true
      else
        cal (F_laws_szFormula a1_0 x20) (fun x28 =>
          if x28 < 0 then
            some true
          else
            cal (F_laws_szInt64SS a3 x28) (fun x36 =>
              if x36 < 0 then
                some true
              else
                cal (F_laws_toGraph a0_0) (fun x47 =>
                  cal (F_laws_toFormula a1_0) (fun x72 =>
                    cal (F_laws_toInt64S a2) (fun x94 =>
                      cal (F_laws_toInt64SS a3) (fun x117 =>
                        cal (F_spec_HoldsIn x47 x72 x94 x117) (fun x162 =>
                          cal (F_laws_toGraph a0_0) (fun x167 =>
                            cal (F_laws_toFormula a1_0) (fun x208 =>
                              cal (F_laws_toInt64S a2) (fun x252 =>
                                cal (F_laws_toInt64SS a3) (fun x276 =>
                                  cal (F_impl_HoldsIn x167 x208 x252 x276) (fun x325 =>
                                    if (x325 != x162) = true then
                                      some false
                                    else
                                      cal (F_laws_toGraph a0_0) (fun x335 =>
                                        cal (F_laws_eqGraph x167 x335) (fun x385 =>
                                          if ¬ (x385 = true) then
                                            some false
                                          else
                                            cal (F_laws_toFormula a1_0) (fun x394 =>
                                              cal (F_laws_eqFormula x208 x394) (fun x425 =>
                                                if ¬ (x425 = true) then
                                                  some false
                                                else
                                                  cal (F_laws_toInt64S a2) (fun x431 =>
                                                    cal (F_laws_eqInt64S x252 x431) (fun x453 =>
                                                      if ¬ (x453 = true) then
                                                        some false
                                                      else
                                                        cal (F_laws_toInt64SS a3) (fun x460 =>
                                                          cal (F_laws_eqInt64SS x276 x460) (fun x485 =>
                                                            if ¬ (x485 = true) then
                                                              some false
                                                            else
                                                              some true)))))))))))))))))))))
end Go.Proofs.Ytjcnkijmbjhcnaa
