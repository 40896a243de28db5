/- Functional forms, printed by gen.py. -/
import Derived.Test.YtgikmgceiiahpacPure
namespace Go.Proofs.Ytgikmgceiiahpac

noncomputable def F_laws_szInt64S (a0 : (List Int)) (a1 : Int) : Option Int :=
  ck (a1 - (a0.length : Int)) (fun _ =>
    if (a1 - (a0.length : Int)) < 0 then
      some (-1)
    else
      some (a1 - (a0.length : Int)))
noncomputable def F_laws_szInt64SS_l1 (a0 : (List (List Int))) (i37 : Int) (i39 : Int) : Option ((Int × Int) ⊕ (Int ⊕ Int)) :=
  if i39 < (a0.length : Int) then
    idx a0 i39 (fun x85 =>
      cal (F_laws_szInt64S x85 i37) (fun x99 =>
        if x99 < 0 then
          some (.inr (.inr (-1)))
        else
          ck (i39 + 1) (fun _ =>
            some (.inl (x99, i39 + 1)))))
  else
    some (.inr (.inl i37))
noncomputable def F_laws_szInt64SS_k2  (i73 : Int) : Option Int :=
  some i73
noncomputable def F_laws_szInt64SS (a0 : (List (List Int))) (a1 : Int) : Option Int :=
  ck (a1 - (a0.length : Int)) (fun _ =>
    if (a1 - (a0.length : Int)) < 0 then
      some (-1)
    else
      bnd (lp (fun s => F_laws_szInt64SS_l1 a0 s.1 s.2) (a1 - (a0.length : Int), 0)) (fun j => F_laws_szInt64SS_k2 j))
noncomputable def F_laws_szGraph (a0_0 : (List (List Int))) (a1 : Int) : Option Int :=
  cal (F_laws_szInt64SS a0_0 a1) (fun x9 =>
    if x9 < 0 then
      some (-1)
    else
      some x9)
noncomputable def F_laws_toInt64S_l1 (a0 : (List Int)) (l63 : (List Int)) (i66 : Int) : Option (((List Int) × Int) ⊕ ((List Int) ⊕ (List Int))) :=
  if i66 < (a0.length : Int) then
    idx a0 i66 (fun x128 =>
      idx l63 i66 (fun x140 =>
        ck (i66 + 1) (fun _ =>
          some (.inl ((l63.set ((i66 : Int).toNat) x128), i66 + 1)))))
  else
    some (.inr (.inl l63))
noncomputable def F_laws_toInt64S_k2  (l115 : (List Int)) : Option (List Int) :=
  some l115
noncomputable def F_laws_toInt64S (a0 : (List Int)) : Option (List Int) :=
  mkS (a0.length : Int) (0 : Int) (fun _ =>
    bnd (lp (fun s => F_laws_toInt64S_l1 a0 s.1 s.2) ((List.replicate ((a0.length : Int) : Int).toNat (0 : Int)), 0)) (fun j => F_laws_toInt64S_k2 j))
noncomputable def F_laws_toInt64SS_l1 (a0 : (List (List Int))) (l96 : (List (List Int))) (i99 : Int) : Option (((List (List Int)) × Int) ⊕ ((List (List Int)) ⊕ (List (List Int)))) :=
  if i99 < (a0.length : Int) then
    idx a0 i99 (fun x191 =>
      cal (F_laws_toInt64S x191) (fun x205 =>
        idx l96 i99 (fun x219 =>
          ck (i99 + 1) (fun _ =>
            some (.inl ((l96.set ((i99 : Int).toNat) x205), i99 + 1))))))
  else
    some (.inr (.inl l96))
noncomputable def F_laws_toInt64SS_k2  (l178 : (List (List Int))) : Option (List (List Int)) :=
  some l178
noncomputable def F_laws_toInt64SS (a0 : (List (List Int))) : Option (List (List Int)) :=
  mkS (a0.length : Int) ([] : (List Int)) (fun _ =>
    bnd (lp (fun s => F_laws_toInt64SS_l1 a0 s.1 s.2) ((List.replicate ((a0.length : Int) : Int).toNat ([] : (List Int))), 0)) (fun j => F_laws_toInt64SS_k2 j))
noncomputable def F_laws_toGraph (a0_0 : (List (List Int))) : Option (List (List Int)) :=
  cal (F_laws_toInt64SS a0_0) (fun x31 =>
    some x31)
noncomputable def F_spec_l1Size (a0_0 : (List (List Int))) : Option Int :=
  some (a0_0.length : Int)
noncomputable def F_spec_l1In (a0 : Int) (a1 : Int) (a2 : Int) : Option Bool :=
  if a1 ≤ a0 then
    some (decide (a0 ≤ a2))
  else
    some false
noncomputable def F_spec_l1Set_l1 (a0 : (List Int)) (a1 : Int) (i69 : Int) : Option (Int ⊕ (Unit ⊕ Bool)) :=
  if i69 < (a0.length : Int) then
    idx a0 i69 (fun x147 =>
      ck (a1 - 1) (fun _ =>
        cal (F_spec_l1In x147 0 (a1 - 1)) (fun x163 =>
          if ¬ (x163 = true) then
            some (.inr (.inr false))
          else
            if 0 < i69 then
              idx a0 i69 (fun x172 =>
                ck (i69 - 1) (fun _ =>
                  idx a0 (i69 - 1) (fun x186 =>
                    if x172 ≤ x186 then
                      some (.inr (.inr false))
                    else
                      ck (i69 + 1) (fun _ =>
                        some (.inl (i69 + 1))))))
            else
              ck (i69 + 1) (fun _ =>
                some (.inl (i69 + 1))))))
  else
    some (.inr (.inl ()))
noncomputable def F_spec_l1Set_k2   : Option Bool :=
  some true
noncomputable def F_spec_l1Set (a0 : (List Int)) (a1 : Int) : Option Bool :=
  if a1 < (a0.length : Int) then
    some false
  else
    bnd (lp (fun s => F_spec_l1Set_l1 a0 a1 s) 0) (fun j => F_spec_l1Set_k2 )
noncomputable def F_spec_l1Has_l1 (a0 : (List Int)) (a1 : Int) (i23 : Int) : Option (Int ⊕ (Unit ⊕ Bool)) :=
  if i23 < (a0.length : Int) then
    idx a0 i23 (fun x56 =>
      if x56 = a1 then
        some (.inr (.inr true))
      else
        ck (i23 + 1) (fun _ =>
          some (.inl (i23 + 1))))
  else
    some (.inr (.inl ()))
noncomputable def F_spec_l1Has_k2   : Option Bool :=
  some false
noncomputable def F_spec_l1Has (a0 : (List Int)) (a1 : Int) : Option Bool :=
  bnd (lp (fun s => F_spec_l1Has_l1 a0 a1 s) 0) (fun j => F_spec_l1Has_k2 )
noncomputable def F_spec_GraphOk_l1 (a0_0 : (List (List Int))) (x9 : Int) (i80 : Int) : Option (Int ⊕ (Unit ⊕ Bool)) :=
  if i80 < x9 then
    idx a0_0 i80 (fun x146 =>
      cal (F_spec_l1Set x146 x9) (fun x160 =>
        if ¬ (x160 = true) then
          some (.inr (.inr false))
        else
          idx a0_0 i80 (fun x169 =>
            cal (F_spec_l1Has x169 i80) (fun x183 =>
              if x183 = true then
                some (.inr (.inr false))
              else
                ck (i80 + 1) (fun _ =>
                  some (.inl (i80 + 1)))))))
  else
    some (.inr (.inl ()))
noncomputable def F_spec_GraphOk_l4 (a0_0 : (List (List Int))) (i436 : Int) (i762 : Int) : Option (Int ⊕ (Unit ⊕ (Int ⊕ (Unit ⊕ Bool)))) :=
  idx a0_0 i436 (fun x847 =>
    if i762 < (x847.length : Int) then
      idx a0_0 i436 (fun x862 =>
        idx x862 i762 (fun x876 =>
          idx a0_0 x876 (fun x888 =>
            cal (F_spec_l1Has x888 i436) (fun x904 =>
              if ¬ (x904 = true) then
                some (.inr (.inr (.inr (.inr false))))
              else
                ck (i762 + 1) (fun _ =>
                  some (.inl (i762 + 1)))))))
    else
      some (.inr (.inl ())))
noncomputable def F_spec_GraphOk_k5 (i436 : Int)  : Option (Int ⊕ (Unit ⊕ Bool)) :=
  ck (i436 + 1) (fun _ =>
    some (.inl (i436 + 1)))
noncomputable def F_spec_GraphOk_l3 (a0_0 : (List (List Int))) (x9 : Int) (i436 : Int) : Option (Int ⊕ (Unit ⊕ Bool)) :=
  if i436 < x9 then
    bnd (lp (fun s => F_spec_GraphOk_l4 a0_0 i436 s) 0) (fun j => F_spec_GraphOk_k5 i436 )
  else
    some (.inr (.inl ()))
noncomputable def F_spec_GraphOk_k6   : Option Bool :=
  some true
noncomputable def F_spec_GraphOk_k2 (a0_0 : (List (List Int))) (x9 : Int)  : Option Bool :=
  bnd (lp (fun s => F_spec_GraphOk_l3 a0_0 x9 s) 0) (fun j => F_spec_GraphOk_k6 )
noncomputable def F_spec_GraphOk (a0_0 : (List (List Int))) : Option Bool :=
  cal (F_spec_l1Size a0_0) (fun x9 =>
    cal (F_spec_l1In x9 1 16) (fun x16 =>
      if ¬ (x16 = true) then
        some false
      else
        bnd (lp (fun s => F_spec_GraphOk_l1 a0_0 x9 s) 0) (fun j => F_spec_GraphOk_k2 a0_0 x9 )))
noncomputable def F_spec_l26Small (a0_0 : (List (List Int))) : Option Bool :=
  cal (F_spec_GraphOk a0_0) (fun x9 =>
    if x9 = true then
      some (decide ((a0_0.length : Int) ≤ 8))
    else
      some false)
noncomputable def F_spec_l25Bits_l2 (a0_0 : (List (List Int))) (i284 : Int) (i625 : Int) (i627 : Int) : Option ((Int × Int) ⊕ (Int ⊕ (((List Int) × Int) ⊕ ((List Int) ⊕ (List Int))))) :=
  idx a0_0 i284 (fun x709 =>
    if i627 < (x709.length : Int) then
      idx a0_0 i284 (fun x724 =>
        idx x724 i627 (fun x738 =>
          grd ((0 : Int) ≤ x738) (
            ck (1 * 2 ^ (x738 : Int).toNat) (fun _ =>
              ck (i627 + 1) (fun _ =>
                some (.inl (i64or i625 (1 * 2 ^ (x738 : Int).toNat), i627 + 1)))))))
    else
      some (.inr (.inl i625)))
noncomputable def F_spec_l25Bits_k3 (l281 : (List Int)) (i284 : Int) (i696 : Int) : Option (((List Int) × Int) ⊕ ((List Int) ⊕ (List Int))) :=
  app l281 ([i696]) (fun _ =>
    ck (i284 + 1) (fun _ =>
      some (.inl ((l281 ++ ([i696])), i284 + 1))))
noncomputable def F_spec_l25Bits_l1 (a0_0 : (List (List Int))) (l281 : (List Int)) (i284 : Int) : Option (((List Int) × Int) ⊕ ((List Int) ⊕ (List Int))) :=
  if i284 < (a0_0.length : Int) then
    bnd (lp (fun s => F_spec_l25Bits_l2 a0_0 i284 s.1 s.2) (0, 0)) (fun j => F_spec_l25Bits_k3 l281 i284 j)
  else
    some (.inr (.inl l281))
noncomputable def F_spec_l25Bits_k4  (l539 : (List Int)) : Option (List Int) :=
  some l539
noncomputable def F_spec_l25Bits (a0_0 : (List (List Int))) : Option (List Int) :=
  bnd (lp (fun s => F_spec_l25Bits_l1 a0_0 s.1 s.2) (([] : (List Int)), 0)) (fun j => F_spec_l25Bits_k4 j)
noncomputable def F_spec_l1Copy (a0 : (List Int)) : Option (List Int) :=
  app ([] : (List Int)) a0 (fun _ =>
    some (([] : (List Int)) ++ a0))
noncomputable def F_spec_l26Ways_l1 (a0 : (List Int)) (a1 : Int) (a2 : (List Int)) (rc : (List Int) → Int → (List Int) → (List Int) → Option (List Int)) (l155 : (List Int)) (i158 : Int) : Option (((List Int) × Int) ⊕ ((List Int) ⊕ (List Int))) :=
  if i158 < (a2.length : Int) then
    idx a2 i158 (fun x290 =>
      idx a0 a1 (fun x302 =>
        if (i64and x290 x302) = 0 then
          cal (F_spec_l1Copy a2) (fun x318 =>
            idx x318 i158 (fun x333 =>
              grd ((0 : Int) ≤ a1) (
                ck (1 * 2 ^ (a1 : Int).toNat) (fun _ =>
                  idx x318 i158 (fun x348 =>
                    ck (a1 + 1) (fun _ =>
                      cal (rc a0 (a1 + 1) (x318.set ((i158 : Int).toNat) (i64or x333 (1 * 2 ^ (a1 : Int).toNat))) l155) (fun x371 =>
                        ck (i158 + 1) (fun _ =>
                          some (.inl (x371, i158 + 1))))))))))
        else
          ck (i158 + 1) (fun _ =>
            some (.inl (l155, i158 + 1)))))
  else
    some (.inr (.inl l155))
noncomputable def F_spec_l26Ways_k2 (a0 : (List Int)) (a1 : Int) (a2 : (List Int)) (rc : (List Int) → Int → (List Int) → (List Int) → Option (List Int)) (l275 : (List Int)) : Option (List Int) :=
  ck (a1 + 1) (fun _ =>
    cal (F_spec_l1Copy a2) (fun x384 =>
      grd ((0 : Int) ≤ a1) (
        ck (1 * 2 ^ (a1 : Int).toNat) (fun _ =>
          app x384 ([1 * 2 ^ (a1 : Int).toNat]) (fun _ =>
            cal (rc a0 (a1 + 1) (x384 ++ ([1 * 2 ^ (a1 : Int).toNat])) l275) (fun x436 =>
              some x436))))))
noncomputable def F_spec_l26Ways_body (rc : (List Int) → Int → (List Int) → (List Int) → Option (List Int)) (a0 : (List Int)) (a1 : Int) (a2 : (List Int)) (a3 : (List Int)) : Option (List Int) :=
  if a1 = (a0.length : Int) then
    idx a3 (a2.length : Int) (fun x2 =>
      ck (x2 + 1) (fun _ =>
        idx a3 (a2.length : Int) (fun x16 =>
          some (a3.set (((a2.length : Int) : Int).toNat) (x2 + 1)))))
  else
    bnd (lp (fun s => F_spec_l26Ways_l1 a0 a1 a2 rc s.1 s.2) (a3, 0)) (fun j => F_spec_l26Ways_k2 a0 a1 a2 rc j)
noncomputable def F_spec_l26Ways (a0 : (List Int)) (a1 : Int) (a2 : (List Int)) (a3 : (List Int)) : Option (List Int) := fixO (fun (rc : ((List Int) × Int × (List Int) × (List Int)) → Option (List Int)) a => F_spec_l26Ways_body (fun z0 z1 z2 z3 => rc (z0, z1, z2, z3)) a.1 a.2.1 a.2.2.1 a.2.2.2) (a0, a1, a2, a3)
noncomputable def F_spec_PartitionsBy (a0_0 : (List (List Int))) : Option (List Int) :=
  cal (F_spec_l26Small a0_0) (fun x9 =>
    if ¬ (x9 = true) then
      some ([] : (List Int))
    else
      ck ((a0_0.length : Int) + 1) (fun _ =>
        cal (F_spec_l25Bits a0_0) (fun xqr1o1_1 =>
          mkS ((a0_0.length : Int) + 1) (0 : Int) (fun _ =>
            cal (F_spec_l26Ways xqr1o1_1 0 ([] : (List Int)) (List.replicate ((a0_0.length : Int) + 1 : Int).toNat (0 : Int))) (fun xqr1o8_1 =>
              some xqr1o8_1)))))
noncomputable def F_spec_l1Max (a0 : Int) (a1 : Int) : Option Int :=
  if a1 < a0 then
    some a0
  else
    some a1
noncomputable def F_spec_ColourWays_l2 (a1 : Int) (i173 : Int) (i344 : Int) (i346 : Int) : Option ((Int × Int) ⊕ (Int ⊕ ((Int × Int) ⊕ (Int ⊕ Int)))) :=
  if i346 < i173 then
    ck (a1 - i346) (fun _ =>
      cal (F_spec_l1Max (a1 - i346) 0) (fun x389 =>
        ck (i344 * x389) (fun _ =>
          ck (i346 + 1) (fun _ =>
            some (.inl (i344 * x389, i346 + 1))))))
  else
    some (.inr (.inl i344))
noncomputable def F_spec_ColourWays_k3 (i171 : Int) (i173 : Int) (i375 : Int) : Option ((Int × Int) ⊕ (Int ⊕ Int)) :=
  ck (i171 + i375) (fun _ =>
    ck (i173 + 1) (fun _ =>
      some (.inl (i171 + i375, i173 + 1))))
noncomputable def F_spec_ColourWays_l1 (a1 : Int) (x37 : (List Int)) (i171 : Int) (i173 : Int) : Option ((Int × Int) ⊕ (Int ⊕ Int)) :=
  if i173 < (x37.length : Int) then
    idx x37 i173 (fun x301 =>
      bnd (lp (fun s => F_spec_ColourWays_l2 a1 i173 s.1 s.2) (x301, 0)) (fun j => F_spec_ColourWays_k3 i171 i173 j))
  else
    some (.inr (.inl i171))
noncomputable def F_spec_ColourWays_k4  (i289 : Int) : Option Int :=
  some i289
noncomputable def F_spec_ColourWays (a0_0 : (List (List Int))) (a1 : Int) : Option Int :=
  cal (F_spec_l26Small a0_0) (fun x23 =>
    if ¬ (x23 = true) then
      some (-1)
    else
      cal (F_spec_l1In a1 0 16) (fun x30 =>
        if ¬ (x30 = true) then
          some (-1)
        else
          cal (F_spec_PartitionsBy a0_0) (fun x37 =>
            bnd (lp (fun s => F_spec_ColourWays_l1 a1 x37 s.1 s.2) (0, 0)) (fun j => F_spec_ColourWays_k4 j))))
noncomputable def F_impl_inRange (a0 : Int) (a1 : Int) (a2 : Int) : Option Bool :=
  if a1 ≤ a0 then
    some (decide (a0 ≤ a2))
  else
    some false
noncomputable def F_impl_increasing_l1 (a0 : (List Int)) (a1 : Int) (i49 : Int) : Option (Int ⊕ (Unit ⊕ Bool)) :=
  if i49 < (a0.length : Int) then
    idx a0 i49 (fun x108 =>
      ck (a1 - 1) (fun _ =>
        cal (F_impl_inRange x108 0 (a1 - 1)) (fun x122 =>
          if ¬ (x122 = true) then
            some (.inr (.inr false))
          else
            if 0 < i49 then
              ck (i49 - 1) (fun _ =>
                idx a0 (i49 - 1) (fun x134 =>
                  if x108 ≤ x134 then
                    some (.inr (.inr false))
                  else
                    ck (i49 + 1) (fun _ =>
                      some (.inl (i49 + 1)))))
            else
              ck (i49 + 1) (fun _ =>
                some (.inl (i49 + 1))))))
  else
    some (.inr (.inl ()))
noncomputable def F_impl_increasing_k2   : Option Bool :=
  some true
noncomputable def F_impl_increasing (a0 : (List Int)) (a1 : Int) : Option Bool :=
  bnd (lp (fun s => F_impl_increasing_l1 a0 a1 s) 0) (fun j => F_impl_increasing_k2 )
noncomputable def F_slices_Index_int64_l1 (a0 : (List Int)) (a1 : Int) (i23 : Int) : Option (Int ⊕ (Unit ⊕ Int)) :=
  if i23 < (a0.length : Int) then
    idx a0 i23 (fun x56 =>
      if a1 = x56 then
        some (.inr (.inr i23))
      else
        ck (i23 + 1) (fun _ =>
          some (.inl (i23 + 1))))
  else
    some (.inr (.inl ()))
noncomputable def F_slices_Index_int64_k2   : Option Int :=
  some (-1)
noncomputable def F_slices_Index_int64 (a0 : (List Int)) (a1 : Int) : Option Int :=
  bnd (lp (fun s => F_slices_Index_int64_l1 a0 a1 s) 0) (fun j => F_slices_Index_int64_k2 )
noncomputable def F_slices_Contains_int64 (a0 : (List Int)) (a1 : Int) : Option Bool :=
  cal (F_slices_Index_int64 a0 a1) (fun x1 =>
    some (decide (0 ≤ x1)))
noncomputable def F_impl_GraphOk_l1 (a0_0 : (List (List Int))) (i56 : Int) : Option (Int ⊕ (Unit ⊕ Bool)) :=
  if i56 < (a0_0.length : Int) then
    idx a0_0 i56 (fun x108 =>
      cal (F_impl_increasing x108 (a0_0.length : Int)) (fun x122 =>
        if ¬ (x122 = true) then
          some (.inr (.inr false))
        else
          cal (F_slices_Contains_int64 x108 i56) (fun x131 =>
            if x131 = true then
              some (.inr (.inr false))
            else
              ck (i56 + 1) (fun _ =>
                some (.inl (i56 + 1))))))
  else
    some (.inr (.inl ()))
noncomputable def F_impl_GraphOk_l4 (a0_0 : (List (List Int))) (i311 : Int) (x487 : (List Int)) (i549 : Int) : Option (Int ⊕ (Unit ⊕ (Int ⊕ (Unit ⊕ Bool)))) :=
  if i549 < (x487.length : Int) then
    idx x487 i549 (fun x606 =>
      idx a0_0 x606 (fun x618 =>
        cal (F_slices_Contains_int64 x618 i311) (fun x632 =>
          if ¬ (x632 = true) then
            some (.inr (.inr (.inr (.inr false))))
          else
            ck (i549 + 1) (fun _ =>
              some (.inl (i549 + 1))))))
  else
    some (.inr (.inl ()))
noncomputable def F_impl_GraphOk_k5 (i311 : Int)  : Option (Int ⊕ (Unit ⊕ Bool)) :=
  ck (i311 + 1) (fun _ =>
    some (.inl (i311 + 1)))
noncomputable def F_impl_GraphOk_l3 (a0_0 : (List (List Int))) (i311 : Int) : Option (Int ⊕ (Unit ⊕ Bool)) :=
  if i311 < (a0_0.length : Int) then
    idx a0_0 i311 (fun x487 =>
      bnd (lp (fun s => F_impl_GraphOk_l4 a0_0 i311 x487 s) 0) (fun j => F_impl_GraphOk_k5 i311 ))
  else
    some (.inr (.inl ()))
noncomputable def F_impl_GraphOk_k6   : Option Bool :=
  some true
noncomputable def F_impl_GraphOk_k2 (a0_0 : (List (List Int)))  : Option Bool :=
  bnd (lp (fun s => F_impl_GraphOk_l3 a0_0 s) 0) (fun j => F_impl_GraphOk_k6 )
noncomputable def F_impl_GraphOk (a0_0 : (List (List Int))) : Option Bool :=
  if (a0_0.length : Int) < 1 then
    some false
  else
    if 16 < (a0_0.length : Int) then
      some false
    else
      bnd (lp (fun s => F_impl_GraphOk_l1 a0_0 s) 0) (fun j => F_impl_GraphOk_k2 a0_0 )
noncomputable def F_impl_isSmall (a0_0 : (List (List Int))) : Option Bool :=
  cal (F_impl_GraphOk a0_0) (fun x9 =>
    if x9 = true then
      some (decide ((a0_0.length : Int) ≤ 8))
    else
      some false)
noncomputable def F_impl_one (a0 : Int) : Option (BitVec 32) :=
  grd ((0 : Int) ≤ a0) (
    some ((1#32) <<< (a0 : Int).toNat))
noncomputable def F_impl_maskOf_l1 (a0 : (List Int)) (u29 : BitVec 32) (i30 : Int) : Option (((BitVec 32) × Int) ⊕ ((BitVec 32) ⊕ (BitVec 32))) :=
  if i30 < (a0.length : Int) then
    idx a0 i30 (fun x70 =>
      cal (F_impl_one x70) (fun x82 =>
        ck (i30 + 1) (fun _ =>
          some (.inl (u29 ||| x82, i30 + 1)))))
  else
    some (.inr (.inl u29))
noncomputable def F_impl_maskOf_k2  (u59 : BitVec 32) : Option (BitVec 32) :=
  some u59
noncomputable def F_impl_maskOf (a0 : (List Int)) : Option (BitVec 32) :=
  bnd (lp (fun s => F_impl_maskOf_l1 a0 s.1 s.2) (0#32, 0)) (fun j => F_impl_maskOf_k2 j)
noncomputable def F_impl_netsOf_l1 (a0_0 : (List (List Int))) (l84 : (List (BitVec 32))) (i87 : Int) : Option (((List (BitVec 32)) × Int) ⊕ ((List (BitVec 32)) ⊕ (List (BitVec 32)))) :=
  if i87 < (a0_0.length : Int) then
    idx a0_0 i87 (fun x162 =>
      cal (F_impl_maskOf x162) (fun x176 =>
        app l84 ([x176]) (fun _ =>
          ck (i87 + 1) (fun _ =>
            some (.inl ((l84 ++ ([x176])), i87 + 1))))))
  else
    some (.inr (.inl l84))
noncomputable def F_impl_netsOf_k2  (l149 : (List (BitVec 32))) : Option (List (BitVec 32)) :=
  some l149
noncomputable def F_impl_netsOf (a0_0 : (List (List Int))) : Option (List (BitVec 32)) :=
  bnd (lp (fun s => F_impl_netsOf_l1 a0_0 s.1 s.2) (([] : (List (BitVec 32))), 0)) (fun j => F_impl_netsOf_k2 j)
noncomputable def F_slices_Clone_implvset (a0 : (List (BitVec 32))) : Option (List (BitVec 32)) :=
  app ([] : (List (BitVec 32))) a0 (fun _ =>
    some (([] : (List (BitVec 32))) ++ a0))
noncomputable def F_impl_countPartitions_l1 (a0 : (List (BitVec 32))) (a1 : Int) (a2 : (List (BitVec 32))) (rc : (List (BitVec 32)) → Int → (List (BitVec 32)) → (List Int) → Option ((List (BitVec 32)) × (List Int))) (l182 : (List (BitVec 32))) (l186 : (List Int)) (i189 : Int) : Option (((List (BitVec 32)) × (List Int) × Int) ⊕ (((List (BitVec 32)) × (List Int)) ⊕ ((List (BitVec 32)) × (List Int)))) :=
  if i189 < (a2.length : Int) then
    idx l182 i189 (fun x355 =>
      idx a0 a1 (fun x366 =>
        if (x355 &&& x366) = (0#32) then
          idx l182 i189 (fun x381 =>
            cal (F_impl_one a1) (fun x394 =>
              idx l182 i189 (fun x396 =>
                ck (a1 + 1) (fun _ =>
                  cal (rc a0 (a1 + 1) (l182.set ((i189 : Int).toNat) (x381 ||| x394)) l186) (fun x421 =>
                    idx x421.1 i189 (fun x429 =>
                      cal (F_impl_one a1) (fun x442 =>
                        idx x421.1 i189 (fun x444 =>
                          ck (i189 + 1) (fun _ =>
                            some (.inl ((x421.1.set ((i189 : Int).toNat) (x429 &&& ~~~x442)), x421.2, i189 + 1)))))))))))
        else
          ck (i189 + 1) (fun _ =>
            some (.inl (l182, l186, i189 + 1)))))
  else
    some (.inr (.inl (l182, l186)))
noncomputable def F_impl_countPartitions_k2 (a0 : (List (BitVec 32))) (a1 : Int) (rc : (List (BitVec 32)) → Int → (List (BitVec 32)) → (List Int) → Option ((List (BitVec 32)) × (List Int))) (l334 : (List (BitVec 32))) (l338 : (List Int)) : Option ((List (BitVec 32)) × (List Int)) :=
  ck (a1 + 1) (fun _ =>
    cal (F_slices_Clone_implvset l334) (fun x476 =>
      cal (F_impl_one a1) (fun x492 =>
        app x476 ([x492]) (fun _ =>
          cal (rc a0 (a1 + 1) (x476 ++ ([x492])) l338) (fun x531 =>
            some (l334, x531.2))))))
noncomputable def F_impl_countPartitions_body (rc : (List (BitVec 32)) → Int → (List (BitVec 32)) → (List Int) → Option ((List (BitVec 32)) × (List Int))) (a0 : (List (BitVec 32))) (a1 : Int) (a2 : (List (BitVec 32))) (a3 : (List Int)) : Option ((List (BitVec 32)) × (List Int)) :=
  if a1 = (a0.length : Int) then
    idx a3 (a2.length : Int) (fun x2 =>
      ck (x2 + 1) (fun _ =>
        idx a3 (a2.length : Int) (fun x16 =>
          some (a2, (a3.set (((a2.length : Int) : Int).toNat) (x2 + 1))))))
  else
    bnd (lp (fun s => F_impl_countPartitions_l1 a0 a1 a2 rc s.1 s.2.1 s.2.2) (a2, a3, 0)) (fun j => F_impl_countPartitions_k2 a0 a1 rc j.1 j.2)
noncomputable def F_impl_countPartitions (a0 : (List (BitVec 32))) (a1 : Int) (a2 : (List (BitVec 32))) (a3 : (List Int)) : Option ((List (BitVec 32)) × (List Int)) := fixO (fun (rc : ((List (BitVec 32)) × Int × (List (BitVec 32)) × (List Int)) → Option ((List (BitVec 32)) × (List Int))) a => F_impl_countPartitions_body (fun z0 z1 z2 z3 => rc (z0, z1, z2, z3)) a.1 a.2.1 a.2.2.1 a.2.2.2) (a0, a1, a2, a3)
noncomputable def F_impl_PartitionsBy (a0_0 : (List (List Int))) : Option (List Int) :=
  cal (F_impl_isSmall a0_0) (fun x9 =>
    if ¬ (x9 = true) then
      some ([] : (List Int))
    else
      ck ((a0_0.length : Int) + 1) (fun _ =>
        mkS ((a0_0.length : Int) + 1) (0 : Int) (fun _ =>
          cal (F_impl_netsOf a0_0) (fun x31 =>
            cal (F_impl_countPartitions x31 0 ([] : (List (BitVec 32))) (List.replicate ((a0_0.length : Int) + 1 : Int).toNat (0 : Int))) (fun x60 =>
              some x60.2)))))
noncomputable def F_impl_ColourWays_l1 (a1 : Int) (x37 : (List Int)) (i89 : Int) (i91 : Int) (i96 : Int) : Option ((Int × Int × Int) ⊕ (Int ⊕ Int)) :=
  if i96 < (x37.length : Int) then
    idx x37 i96 (fun x145 =>
      ck (x145 * i91) (fun _ =>
        ck (i89 + (x145 * i91)) (fun _ =>
          ck (a1 - i96) (fun _ =>
            ck (i91 * (max 0 (a1 - i96))) (fun _ =>
              ck (i96 + 1) (fun _ =>
                some (.inl (i89 + (x145 * i91), i91 * (max 0 (a1 - i96)), i96 + 1))))))))
  else
    some (.inr (.inl i89))
noncomputable def F_impl_ColourWays_k2  (i133 : Int) : Option Int :=
  some i133
noncomputable def F_impl_ColourWays (a0_0 : (List (List Int))) (a1 : Int) : Option Int :=
  cal (F_impl_isSmall a0_0) (fun x23 =>
    if ¬ (x23 = true) then
      some (-1)
    else
      cal (F_impl_inRange a1 0 16) (fun x30 =>
        if ¬ (x30 = true) then
          some (-1)
        else
          cal (F_impl_PartitionsBy a0_0) (fun x37 =>
            bnd (lp (fun s => F_impl_ColourWays_l1 a1 x37 s.1 s.2.1 s.2.2) (0, 1, 0)) (fun j => F_impl_ColourWays_k2 j))))
noncomputable def F_laws_eqInt64S_l1 (a0 : (List Int)) (a1 : (List Int)) (i39 : Int) : Option (Int ⊕ (Unit ⊕ Bool)) :=
  if i39 < (a0.length : Int) then
    idx a0 i39 (fun x87 =>
      idx a1 i39 (fun x99 =>
        if x87 ≠ x99 then
          some (.inr (.inr false))
        else
          ck (i39 + 1) (fun _ =>
            some (.inl (i39 + 1)))))
  else
    some (.inr (.inl ()))
noncomputable def F_laws_eqInt64S_k2   : Option Bool :=
  some true
noncomputable def F_laws_eqInt64S (a0 : (List Int)) (a1 : (List Int)) : Option Bool :=
  if (a0.length : Int) ≠ (a1.length : Int) then
    some false
  else
    bnd (lp (fun s => F_laws_eqInt64S_l1 a0 a1 s) 0) (fun j => F_laws_eqInt64S_k2 )
noncomputable def F_laws_eqInt64SS_l1 (a0 : (List (List Int))) (a1 : (List (List Int))) (i47 : Int) : Option (Int ⊕ (Unit ⊕ Bool)) :=
  if i47 < (a0.length : Int) then
    idx a0 i47 (fun x103 =>
      idx a1 i47 (fun x117 =>
        cal (F_laws_eqInt64S x103 x117) (fun x133 =>
          if ¬ (x133 = true) then
            some (.inr (.inr false))
          else
            ck (i47 + 1) (fun _ =>
              some (.inl (i47 + 1))))))
  else
    some (.inr (.inl ()))
noncomputable def F_laws_eqInt64SS_k2   : Option Bool :=
  some true
noncomputable def F_laws_eqInt64SS (a0 : (List (List Int))) (a1 : (List (List Int))) : Option Bool :=
  if (a0.length : Int) ≠ (a1.length : Int) then
    some false
  else
    bnd (lp (fun s => F_laws_eqInt64SS_l1 a0 a1 s) 0) (fun j => F_laws_eqInt64SS_k2 )
noncomputable def F_laws_eqGraph (a0_0 : (List (List Int))) (a1_0 : (List (List Int))) : Option Bool :=
  cal (F_laws_eqInt64SS a0_0 a1_0) (fun x19 =>
    if ¬ (x19 = true) then
      some false
    else
      some true)
noncomputable def F_laws_FnExactColourWays (a0_0 : (List (List Int))) (a1 : Int) : Option Bool :=
  cal (F_laws_szGraph a0_0 1048576) (fun x9 =>
    if x9 < 0 then
      some true
    else
      cal (F_laws_toGraph a0_0) (fun x17 =>
        cal (F_spec_ColourWays x17 a1) (fun x39 =>
          cal (F_laws_toGraph a0_0) (fun x46 =>
            cal (F_impl_ColourWays x46 a1) (fun x84 =>
              if x84 ≠ x39 then
                some false
              else
                cal (F_laws_toGraph a0_0) (fun x95 =>
                  cal (F_laws_eqGraph x46 x95) (fun x129 =>
                    if ¬ (x129 = true) then
                      some false
                    else
                      some true)))))))
end Go.Proofs.Ytgikmgceiiahpac
