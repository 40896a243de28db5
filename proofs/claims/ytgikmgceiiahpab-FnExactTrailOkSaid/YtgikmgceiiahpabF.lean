/- Functional forms, printed by gen.py. -/
import Derived.Test.YtgikmgceiiahpabPure
namespace Go.Proofs.Ytgikmgceiiahpab

noncomputable def F_laws_szInt64S (a0 : (List Int)) (a1 : Int) : Option Int :=
  ck (a1 - (a0.length : Int)) (fun _ =>
    if (a1 - (a0.length : Int)) < 0 then
      some (-1)
    else
      some (a1 - (a0.length : Int)))
noncomputable def F_laws_szInt64SS_l1 (a0 : (List (List Int))) (i37 : Int) (i39 : Int) : Option ((Int × Int) ⊕ (Int ⊕ Int)) :=
  if i39 < (a0.length : Int) then
    idx a0 i39 (fun x85 =>
      cal (F_laws_szInt64S x85 i37) (fun x99 =>
        if x99 < 0 then
          some (.inr (.inr (-1)))
        else
          ck (i39 + 1) (fun _ =>
            some (.inl (x99, i39 + 1)))))
  else
    some (.inr (.inl i37))
noncomputable def F_laws_szInt64SS_k2  (i73 : Int) : Option Int :=
  some i73
noncomputable def F_laws_szInt64SS (a0 : (List (List Int))) (a1 : Int) : Option Int :=
  ck (a1 - (a0.length : Int)) (fun _ =>
    if (a1 - (a0.length : Int)) < 0 then
      some (-1)
    else
      bnd (lp (fun s => F_laws_szInt64SS_l1 a0 s.1 s.2) (a1 - (a0.length : Int), 0)) (fun j => F_laws_szInt64SS_k2 j))
noncomputable def F_laws_szGraph (a0_0 : (List (List Int))) (a1 : Int) : Option Int :=
  cal (F_laws_szInt64SS a0_0 a1) (fun x9 =>
    if x9 < 0 then
      some (-1)
    else
      some x9)
noncomputable def F_laws_toInt64S_l1 (a0 : (List Int)) (l63 : (List Int)) (i66 : Int) : Option (((List Int) × Int) ⊕ ((List Int) ⊕ (List Int))) :=
  if i66 < (a0.length : Int) then
    idx a0 i66 (fun x128 =>
      idx l63 i66 (fun x140 =>
        ck (i66 + 1) (fun _ =>
          some (.inl ((l63.set ((i66 : Int).toNat) x128), i66 + 1)))))
  else
    some (.inr (.inl l63))
noncomputable def F_laws_toInt64S_k2  (l115 : (List Int)) : Option (List Int) :=
  some l115
noncomputable def F_laws_toInt64S (a0 : (List Int)) : Option (List Int) :=
  mkS (a0.length : Int) (0 : Int) (fun _ =>
    bnd (lp (fun s => F_laws_toInt64S_l1 a0 s.1 s.2) ((List.replicate ((a0.length : Int) : Int).toNat (0 : Int)), 0)) (fun j => F_laws_toInt64S_k2 j))
noncomputable def F_laws_toInt64SS_l1 (a0 : (List (List Int))) (l96 : (List (List Int))) (i99 : Int) : Option (((List (List Int)) × Int) ⊕ ((List (List Int)) ⊕ (List (List Int)))) :=
  if i99 < (a0.length : Int) then
    idx a0 i99 (fun x191 =>
      cal (F_laws_toInt64S x191) (fun x205 =>
        idx l96 i99 (fun x219 =>
          ck (i99 + 1) (fun _ =>
            some (.inl ((l96.set ((i99 : Int).toNat) x205), i99 + 1))))))
  else
    some (.inr (.inl l96))
noncomputable def F_laws_toInt64SS_k2  (l178 : (List (List Int))) : Option (List (List Int)) :=
  some l178
noncomputable def F_laws_toInt64SS (a0 : (List (List Int))) : Option (List (List Int)) :=
  mkS (a0.length : Int) ([] : (List Int)) (fun _ =>
    bnd (lp (fun s => F_laws_toInt64SS_l1 a0 s.1 s.2) ((List.replicate ((a0.length : Int) : Int).toNat ([] : (List Int))), 0)) (fun j => F_laws_toInt64SS_k2 j))
noncomputable def F_laws_toGraph (a0_0 : (List (List Int))) : Option (List (List Int)) :=
  cal (F_laws_toInt64SS a0_0) (fun x31 =>
    some x31)
noncomputable def F_spec_l1Size (a0_0 : (List (List Int))) : Option Int :=
  some (a0_0.length : Int)
noncomputable def F_spec_l1In (a0 : Int) (a1 : Int) (a2 : Int) : Option Bool :=
  if a1 ≤ a0 then
    some (decide (a0 ≤ a2))
  else
    some false
noncomputable def F_spec_l1Set_l1 (a0 : (List Int)) (a1 : Int) (i69 : Int) : Option (Int ⊕ (Unit ⊕ Bool)) :=
  if i69 < (a0.length : Int) then
    idx a0 i69 (fun x147 =>
      ck (a1 - 1) (fun _ =>
        cal (F_spec_l1In x147 0 (a1 - 1)) (fun x163 =>
          if ¬ (x163 = true) then
            some (.inr (.inr false))
          else
            if 0 < i69 then
              idx a0 i69 (fun x172 =>
                ck (i69 - 1) (fun _ =>
                  idx a0 (i69 - 1) (fun x186 =>
                    if x172 ≤ x186 then
                      some (.inr (.inr false))
                    else
                      ck (i69 + 1) (fun _ =>
                        some (.inl (i69 + 1))))))
            else
              ck (i69 + 1) (fun _ =>
                some (.inl (i69 + 1))))))
  else
    some (.inr (.inl ()))
noncomputable def F_spec_l1Set_k2   : Option Bool :=
  some true
noncomputable def F_spec_l1Set (a0 : (List Int)) (a1 : Int) : Option Bool :=
  if a1 < (a0.length : Int) then
    some false
  else
    bnd (lp (fun s => F_spec_l1Set_l1 a0 a1 s) 0) (fun j => F_spec_l1Set_k2 )
noncomputable def F_spec_l1Has_l1 (a0 : (List Int)) (a1 : Int) (i23 : Int) : Option (Int ⊕ (Unit ⊕ Bool)) :=
  if i23 < (a0.length : Int) then
    idx a0 i23 (fun x56 =>
      if x56 = a1 then
        some (.inr (.inr true))
      else
        ck (i23 + 1) (fun _ =>
          some (.inl (i23 + 1))))
  else
    some (.inr (.inl ()))
noncomputable def F_spec_l1Has_k2   : Option Bool :=
  some false
noncomputable def F_spec_l1Has (a0 : (List Int)) (a1 : Int) : Option Bool :=
  bnd (lp (fun s => F_spec_l1Has_l1 a0 a1 s) 0) (fun j => F_spec_l1Has_k2 )
noncomputable def F_spec_GraphOk_l1 (a0_0 : (List (List Int))) (x9 : Int) (i80 : Int) : Option (Int ⊕ (Unit ⊕ Bool)) :=
  if i80 < x9 then
    idx a0_0 i80 (fun x146 =>
      cal (F_spec_l1Set x146 x9) (fun x160 =>
        if ¬ (x160 = true) then
          some (.inr (.inr false))
        else
          idx a0_0 i80 (fun x169 =>
            cal (F_spec_l1Has x169 i80) (fun x183 =>
              if x183 = true then
                some (.inr (.inr false))
              else
                ck (i80 + 1) (fun _ =>
                  some (.inl (i80 + 1)))))))
  else
    some (.inr (.inl ()))
noncomputable def F_spec_GraphOk_l4 (a0_0 : (List (List Int))) (i436 : Int) (i762 : Int) : Option (Int ⊕ (Unit ⊕ (Int ⊕ (Unit ⊕ Bool)))) :=
  idx a0_0 i436 (fun x847 =>
    if i762 < (x847.length : Int) then
      idx a0_0 i436 (fun x862 =>
        idx x862 i762 (fun x876 =>
          idx a0_0 x876 (fun x888 =>
            cal (F_spec_l1Has x888 i436) (fun x904 =>
              if ¬ (x904 = true) then
                some (.inr (.inr (.inr (.inr false))))
              else
                ck (i762 + 1) (fun _ =>
                  some (.inl (i762 + 1)))))))
    else
      some (.inr (.inl ())))
noncomputable def F_spec_GraphOk_k5 (i436 : Int)  : Option (Int ⊕ (Unit ⊕ Bool)) :=
  ck (i436 + 1) (fun _ =>
    some (.inl (i436 + 1)))
noncomputable def F_spec_GraphOk_l3 (a0_0 : (List (List Int))) (x9 : Int) (i436 : Int) : Option (Int ⊕ (Unit ⊕ Bool)) :=
  if i436 < x9 then
    bnd (lp (fun s => F_spec_GraphOk_l4 a0_0 i436 s) 0) (fun j => F_spec_GraphOk_k5 i436 )
  else
    some (.inr (.inl ()))
noncomputable def F_spec_GraphOk_k6   : Option Bool :=
  some true
noncomputable def F_spec_GraphOk_k2 (a0_0 : (List (List Int))) (x9 : Int)  : Option Bool :=
  bnd (lp (fun s => F_spec_GraphOk_l3 a0_0 x9 s) 0) (fun j => F_spec_GraphOk_k6 )
noncomputable def F_spec_GraphOk (a0_0 : (List (List Int))) : Option Bool :=
  cal (F_spec_l1Size a0_0) (fun x9 =>
    cal (F_spec_l1In x9 1 16) (fun x16 =>
      if ¬ (x16 = true) then
        some false
      else
        bnd (lp (fun s => F_spec_GraphOk_l1 a0_0 x9 s) 0) (fun j => F_spec_GraphOk_k2 a0_0 x9 )))
noncomputable def F_spec_l1There (a0_0 : (List (List Int))) (a1 : Int) : Option Bool :=
  cal (F_spec_l1Size a0_0) (fun x9 =>
    ck (x9 - 1) (fun _ =>
      cal (F_spec_l1In a1 0 (x9 - 1)) (fun x18 =>
        some x18)))
noncomputable def F_spec_l1Edges_l2 (a0_0 : (List (List Int))) (i505 : Int) (l1152 : (List (List Int))) (i1155 : Int) : Option (((List (List Int)) × Int) ⊕ ((List (List Int)) ⊕ (((List (List Int)) × Int) ⊕ ((List (List Int)) ⊕ (List (List Int)))))) :=
  idx a0_0 i505 (fun x1316 =>
    if i1155 < (x1316.length : Int) then
      idx a0_0 i505 (fun x1331 =>
        idx x1331 i1155 (fun x1345 =>
          if i505 < x1345 then
            idx a0_0 i505 (fun x1358 =>
              idx x1358 i1155 (fun x1372 =>
                app l1152 ([[i505, x1372]]) (fun _ =>
                  ck (i1155 + 1) (fun _ =>
                    some (.inl ((l1152 ++ ([[i505, x1372]])), i1155 + 1))))))
          else
            ck (i1155 + 1) (fun _ =>
              some (.inl (l1152, i1155 + 1)))))
    else
      some (.inr (.inl l1152)))
noncomputable def F_spec_l1Edges_k3 (i505 : Int) (l1302 : (List (List Int))) : Option (((List (List Int)) × Int) ⊕ ((List (List Int)) ⊕ (List (List Int)))) :=
  ck (i505 + 1) (fun _ =>
    some (.inl (l1302, i505 + 1)))
noncomputable def F_spec_l1Edges_l1 (a0_0 : (List (List Int))) (l502 : (List (List Int))) (i505 : Int) : Option (((List (List Int)) × Int) ⊕ ((List (List Int)) ⊕ (List (List Int)))) :=
  cal (F_spec_l1Size a0_0) (fun x990 =>
    if i505 < x990 then
      bnd (lp (fun s => F_spec_l1Edges_l2 a0_0 i505 s.1 s.2) (l502, 0)) (fun j => F_spec_l1Edges_k3 i505 j)
    else
      some (.inr (.inl l502)))
noncomputable def F_spec_l1Edges_k4  (l978 : (List (List Int))) : Option (List (List Int)) :=
  some l978
noncomputable def F_spec_l1Edges (a0_0 : (List (List Int))) : Option (List (List Int)) :=
  bnd (lp (fun s => F_spec_l1Edges_l1 a0_0 s.1 s.2) (([] : (List (List Int))), 0)) (fun j => F_spec_l1Edges_k4 j)
noncomputable def F_spec_ManyEdges (a0_0 : (List (List Int))) : Option Int :=
  cal (F_spec_GraphOk a0_0) (fun x9 =>
    if ¬ (x9 = true) then
      some 0
    else
      cal (F_spec_l1Edges a0_0) (fun x16 =>
        some (x16.length : Int)))
noncomputable def F_spec_l25Bits_l2 (a0_0 : (List (List Int))) (i284 : Int) (i625 : Int) (i627 : Int) : Option ((Int × Int) ⊕ (Int ⊕ (((List Int) × Int) ⊕ ((List Int) ⊕ (List Int))))) :=
  idx a0_0 i284 (fun x709 =>
    if i627 < (x709.length : Int) then
      idx a0_0 i284 (fun x724 =>
        idx x724 i627 (fun x738 =>
          grd ((0 : Int) ≤ x738) (
            ck (1 * 2 ^ (x738 : Int).toNat) (fun _ =>
              ck (i627 + 1) (fun _ =>
                some (.inl (i64or i625 (1 * 2 ^ (x738 : Int).toNat), i627 + 1)))))))
    else
      some (.inr (.inl i625)))
noncomputable def F_spec_l25Bits_k3 (l281 : (List Int)) (i284 : Int) (i696 : Int) : Option (((List Int) × Int) ⊕ ((List Int) ⊕ (List Int))) :=
  app l281 ([i696]) (fun _ =>
    ck (i284 + 1) (fun _ =>
      some (.inl ((l281 ++ ([i696])), i284 + 1))))
noncomputable def F_spec_l25Bits_l1 (a0_0 : (List (List Int))) (l281 : (List Int)) (i284 : Int) : Option (((List Int) × Int) ⊕ ((List Int) ⊕ (List Int))) :=
  if i284 < (a0_0.length : Int) then
    bnd (lp (fun s => F_spec_l25Bits_l2 a0_0 i284 s.1 s.2) (0, 0)) (fun j => F_spec_l25Bits_k3 l281 i284 j)
  else
    some (.inr (.inl l281))
noncomputable def F_spec_l25Bits_k4  (l539 : (List Int)) : Option (List Int) :=
  some l539
noncomputable def F_spec_l25Bits (a0_0 : (List (List Int))) : Option (List Int) :=
  bnd (lp (fun s => F_spec_l25Bits_l1 a0_0 s.1 s.2) (([] : (List Int)), 0)) (fun j => F_spec_l25Bits_k4 j)
noncomputable def F_spec_TrailOk_l1 (a0_0 : (List (List Int))) (a1 : (List Int)) (l281 : (List Int)) (i284 : Int) : Option (((List Int) × Int) ⊕ (Unit ⊕ Bool)) :=
  if i284 < (a1.length : Int) then
    ck (i284 - 1) (fun _ =>
      idx a1 (i284 - 1) (fun x452 =>
        idx a1 i284 (fun x464 =>
          cal (F_spec_l1There a0_0 x464) (fun x497 =>
            if ¬ (x497 = true) then
              some (.inr (.inr false))
            else
              idx l281 x452 (fun x506 =>
                grd ((0 : Int) ≤ x464) (
                  if (i64and (x506 / 2 ^ (x464 : Int).toNat) 1) = 0 then
                    some (.inr (.inr false))
                  else
                    idx l281 x452 (fun x522 =>
                      grd ((0 : Int) ≤ x464) (
                        ck (1 * 2 ^ (x464 : Int).toNat) (fun _ =>
                          idx l281 x452 (fun x537 =>
                            idx (l281.set ((x452 : Int).toNat) (i64andn x522 (1 * 2 ^ (x464 : Int).toNat))) x464 (fun x555 =>
                              grd ((0 : Int) ≤ x452) (
                                ck (1 * 2 ^ (x452 : Int).toNat) (fun _ =>
                                  idx (l281.set ((x452 : Int).toNat) (i64andn x522 (1 * 2 ^ (x464 : Int).toNat))) x464 (fun x570 =>
                                    ck (i284 + 1) (fun _ =>
                                      some (.inl (((l281.set ((x452 : Int).toNat) (i64andn x522 (1 * 2 ^ (x464 : Int).toNat))).set ((x464 : Int).toNat) (i64andn x555 (1 * 2 ^ (x452 : Int).toNat))), i284 + 1)))))))))))))))))
  else
    some (.inr (.inl ()))
noncomputable def F_spec_TrailOk_k2   : Option Bool :=
  some true
noncomputable def F_spec_TrailOk (a0_0 : (List (List Int))) (a1 : (List Int)) : Option Bool :=
  cal (F_spec_GraphOk a0_0) (fun x58 =>
    if ¬ (x58 = true) then
      some false
    else
      cal (F_spec_l1In (a1.length : Int) 1 121) (fun x66 =>
        if ¬ (x66 = true) then
          some false
        else
          idx a1 0 (fun x72 =>
            cal (F_spec_l1There a0_0 x72) (fun x86 =>
              if ¬ (x86 = true) then
                some false
              else
                ck ((a1.length : Int) - 1) (fun _ =>
                  cal (F_spec_ManyEdges a0_0) (fun x96 =>
                    if ((a1.length : Int) - 1) ≠ x96 then
                      some false
                    else
                      cal (F_spec_l25Bits a0_0) (fun x103 =>
                        bnd (lp (fun s => F_spec_TrailOk_l1 a0_0 a1 s.1 s.2) (x103, 1)) (fun j => F_spec_TrailOk_k2 ))))))))
noncomputable def F_impl_inRange (a0 : Int) (a1 : Int) (a2 : Int) : Option Bool :=
  if a1 ≤ a0 then
    some (decide (a0 ≤ a2))
  else
    some false
noncomputable def F_impl_increasing_l1 (a0 : (List Int)) (a1 : Int) (i49 : Int) : Option (Int ⊕ (Unit ⊕ Bool)) :=
  if i49 < (a0.length : Int) then
    idx a0 i49 (fun x108 =>
      ck (a1 - 1) (fun _ =>
        cal (F_impl_inRange x108 0 (a1 - 1)) (fun x122 =>
          if ¬ (x122 = true) then
            some (.inr (.inr false))
          else
            if 0 < i49 then
              ck (i49 - 1) (fun _ =>
                idx a0 (i49 - 1) (fun x134 =>
                  if x108 ≤ x134 then
                    some (.inr (.inr false))
                  else
                    ck (i49 + 1) (fun _ =>
                      some (.inl (i49 + 1)))))
            else
              ck (i49 + 1) (fun _ =>
                some (.inl (i49 + 1))))))
  else
    some (.inr (.inl ()))
noncomputable def F_impl_increasing_k2   : Option Bool :=
  some true
noncomputable def F_impl_increasing (a0 : (List Int)) (a1 : Int) : Option Bool :=
  bnd (lp (fun s => F_impl_increasing_l1 a0 a1 s) 0) (fun j => F_impl_increasing_k2 )
noncomputable def F_slices_Index_int64_l1 (a0 : (List Int)) (a1 : Int) (i23 : Int) : Option (Int ⊕ (Unit ⊕ Int)) :=
  if i23 < (a0.length : Int) then
    idx a0 i23 (fun x56 =>
      if a1 = x56 then
        some (.inr (.inr i23))
      else
        ck (i23 + 1) (fun _ =>
          some (.inl (i23 + 1))))
  else
    some (.inr (.inl ()))
noncomputable def F_slices_Index_int64_k2   : Option Int :=
  some (-1)
noncomputable def F_slices_Index_int64 (a0 : (List Int)) (a1 : Int) : Option Int :=
  bnd (lp (fun s => F_slices_Index_int64_l1 a0 a1 s) 0) (fun j => F_slices_Index_int64_k2 )
noncomputable def F_slices_Contains_int64 (a0 : (List Int)) (a1 : Int) : Option Bool :=
  cal (F_slices_Index_int64 a0 a1) (fun x1 =>
    some (decide (0 ≤ x1)))
noncomputable def F_impl_GraphOk_l1 (a0_0 : (List (List Int))) (i56 : Int) : Option (Int ⊕ (Unit ⊕ Bool)) :=
  if i56 < (a0_0.length : Int) then
    idx a0_0 i56 (fun x108 =>
      cal (F_impl_increasing x108 (a0_0.length : Int)) (fun x122 =>
        if ¬ (x122 = true) then
          some (.inr (.inr false))
        else
          cal (F_slices_Contains_int64 x108 i56) (fun x131 =>
            if x131 = true then
              some (.inr (.inr false))
            else
              ck (i56 + 1) (fun _ =>
                some (.inl (i56 + 1))))))
  else
    some (.inr (.inl ()))
noncomputable def F_impl_GraphOk_l4 (a0_0 : (List (List Int))) (i311 : Int) (x487 : (List Int)) (i549 : Int) : Option (Int ⊕ (Unit ⊕ (Int ⊕ (Unit ⊕ Bool)))) :=
  if i549 < (x487.length : Int) then
    idx x487 i549 (fun x606 =>
      idx a0_0 x606 (fun x618 =>
        cal (F_slices_Contains_int64 x618 i311) (fun x632 =>
          if ¬ (x632 = true) then
            some (.inr (.inr (.inr (.inr false))))
          else
            ck (i549 + 1) (fun _ =>
              some (.inl (i549 + 1))))))
  else
    some (.inr (.inl ()))
noncomputable def F_impl_GraphOk_k5 (i311 : Int)  : Option (Int ⊕ (Unit ⊕ Bool)) :=
  ck (i311 + 1) (fun _ =>
    some (.inl (i311 + 1)))
noncomputable def F_impl_GraphOk_l3 (a0_0 : (List (List Int))) (i311 : Int) : Option (Int ⊕ (Unit ⊕ Bool)) :=
  if i311 < (a0_0.length : Int) then
    idx a0_0 i311 (fun x487 =>
      bnd (lp (fun s => F_impl_GraphOk_l4 a0_0 i311 x487 s) 0) (fun j => F_impl_GraphOk_k5 i311 ))
  else
    some (.inr (.inl ()))
noncomputable def F_impl_GraphOk_k6   : Option Bool :=
  some true
noncomputable def F_impl_GraphOk_k2 (a0_0 : (List (List Int)))  : Option Bool :=
  bnd (lp (fun s => F_impl_GraphOk_l3 a0_0 s) 0) (fun j => F_impl_GraphOk_k6 )
noncomputable def F_impl_GraphOk (a0_0 : (List (List Int))) : Option Bool :=
  if (a0_0.length : Int) < 1 then
    some false
  else
    if 16 < (a0_0.length : Int) then
      some false
    else
      bnd (lp (fun s => F_impl_GraphOk_l1 a0_0 s) 0) (fun j => F_impl_GraphOk_k2 a0_0 )
noncomputable def F_slices_IndexFunc_int64_l1 (a0 : (List Int)) (a1 : Int → Option Bool) (i29 : Int) : Option (Int ⊕ (Unit ⊕ Int)) :=
  if i29 < (a0.length : Int) then
    idx a0 i29 (fun x68 =>
      cal (a1 x68) (fun x80 =>
        if x80 = true then
          some (.inr (.inr i29))
        else
          ck (i29 + 1) (fun _ =>
            some (.inl (i29 + 1)))))
  else
    some (.inr (.inl ()))
noncomputable def F_slices_IndexFunc_int64_k2   : Option Int :=
  some (-1)
noncomputable def F_slices_IndexFunc_int64 (a0 : (List Int)) (a1 : Int → Option Bool) : Option Int :=
  bnd (lp (fun s => F_slices_IndexFunc_int64_l1 a0 a1 s) 0) (fun j => F_slices_IndexFunc_int64_k2 )
noncomputable def F_slices_ContainsFunc_int64 (a0 : (List Int)) (a1 : Int → Option Bool) : Option Bool :=
  cal (F_slices_IndexFunc_int64 a0 a1) (fun x2 =>
    some (decide (0 ≤ x2)))
noncomputable def F_impl_isVertex (a0_0 : (List (List Int))) (a1 : Int) : Option Bool :=
  cal (F_impl_GraphOk a0_0) (fun x9 =>
    if x9 = true then
      ck ((a0_0.length : Int) - 1) (fun _ =>
        cal (F_impl_inRange a1 0 ((a0_0.length : Int) - 1)) (fun x18 =>
          some x18))
    else
      some false)
noncomputable def F_impl_TrailOk_1 (a0 : Int) (y0_0 : (List (List Int))) : Option Bool :=
  cal (F_impl_isVertex y0_0 a0) (fun x1 =>
    some (!x1))
noncomputable def F_impl_one (a0 : Int) : Option (BitVec 32) :=
  grd ((0 : Int) ≤ a0) (
    some ((1#32) <<< (a0 : Int).toNat))
noncomputable def F_impl_maskOf_l1 (a0 : (List Int)) (u29 : BitVec 32) (i30 : Int) : Option (((BitVec 32) × Int) ⊕ ((BitVec 32) ⊕ (BitVec 32))) :=
  if i30 < (a0.length : Int) then
    idx a0 i30 (fun x70 =>
      cal (F_impl_one x70) (fun x82 =>
        ck (i30 + 1) (fun _ =>
          some (.inl (u29 ||| x82, i30 + 1)))))
  else
    some (.inr (.inl u29))
noncomputable def F_impl_maskOf_k2  (u59 : BitVec 32) : Option (BitVec 32) :=
  some u59
noncomputable def F_impl_maskOf (a0 : (List Int)) : Option (BitVec 32) :=
  bnd (lp (fun s => F_impl_maskOf_l1 a0 s.1 s.2) (0#32, 0)) (fun j => F_impl_maskOf_k2 j)
noncomputable def F_impl_netsOf_l1 (a0_0 : (List (List Int))) (l84 : (List (BitVec 32))) (i87 : Int) : Option (((List (BitVec 32)) × Int) ⊕ ((List (BitVec 32)) ⊕ (List (BitVec 32)))) :=
  if i87 < (a0_0.length : Int) then
    idx a0_0 i87 (fun x162 =>
      cal (F_impl_maskOf x162) (fun x176 =>
        app l84 ([x176]) (fun _ =>
          ck (i87 + 1) (fun _ =>
            some (.inl ((l84 ++ ([x176])), i87 + 1))))))
  else
    some (.inr (.inl l84))
noncomputable def F_impl_netsOf_k2  (l149 : (List (BitVec 32))) : Option (List (BitVec 32)) :=
  some l149
noncomputable def F_impl_netsOf (a0_0 : (List (List Int))) : Option (List (BitVec 32)) :=
  bnd (lp (fun s => F_impl_netsOf_l1 a0_0 s.1 s.2) (([] : (List (BitVec 32))), 0)) (fun j => F_impl_netsOf_k2 j)
noncomputable def F_impl_vset_has (a0 : BitVec 32) (a1 : Int) : Option Bool :=
  grd ((0 : Int) ≤ a1) (
    some (decide (((a0 >>> (a1 : Int).toNat) &&& (1#32)) = (1#32))))
noncomputable def F_impl_nets_part (a0 : (List (BitVec 32))) (a1 : Int) (a2 : Int) : Option (List (BitVec 32)) :=
  idx a0 a1 (fun x1 =>
    cal (F_impl_one a2) (fun x14 =>
      idx a0 a1 (fun x16 =>
        idx (a0.set ((a1 : Int).toNat) (x1 &&& ~~~x14)) a2 (fun x39 =>
          cal (F_impl_one a1) (fun x52 =>
            idx (a0.set ((a1 : Int).toNat) (x1 &&& ~~~x14)) a2 (fun x54 =>
              some ((a0.set ((a1 : Int).toNat) (x1 &&& ~~~x14)).set ((a2 : Int).toNat) (x39 &&& ~~~x52))))))))
noncomputable def F_impl_useEdge (a0 : (List (BitVec 32))) (a1 : Int) (a2 : Int) : Option (Bool × (List (BitVec 32))) :=
  idx a0 a1 (fun x1 =>
    cal (F_impl_vset_has x1 a2) (fun x12 =>
      if ¬ (x12 = true) then
        some (false, a0)
      else
        cal (F_impl_nets_part a0 a1 a2) (fun x19 =>
          some (true, x19))))
noncomputable def F_slices_IndexFunc_impl_nets_impl_vset_l1 (a0 : (List (BitVec 32))) (a1 : (BitVec 32) → Option Bool) (i28 : Int) : Option (Int ⊕ (Unit ⊕ Int)) :=
  if i28 < (a0.length : Int) then
    idx a0 i28 (fun x66 =>
      cal (a1 x66) (fun x77 =>
        if x77 = true then
          some (.inr (.inr i28))
        else
          ck (i28 + 1) (fun _ =>
            some (.inl (i28 + 1)))))
  else
    some (.inr (.inl ()))
noncomputable def F_slices_IndexFunc_impl_nets_impl_vset_k2   : Option Int :=
  some (-1)
noncomputable def F_slices_IndexFunc_impl_nets_impl_vset (a0 : (List (BitVec 32))) (a1 : (BitVec 32) → Option Bool) : Option Int :=
  bnd (lp (fun s => F_slices_IndexFunc_impl_nets_impl_vset_l1 a0 a1 s) 0) (fun j => F_slices_IndexFunc_impl_nets_impl_vset_k2 )
noncomputable def F_slices_ContainsFunc_impl_nets_impl_vset (a0 : (List (BitVec 32))) (a1 : (BitVec 32) → Option Bool) : Option Bool :=
  cal (F_slices_IndexFunc_impl_nets_impl_vset a0 a1) (fun x2 =>
    some (decide (0 ≤ x2)))
noncomputable def F_impl_edgesLeft_1 (a0 : BitVec 32) : Option Bool :=
  some (decide (a0 ≠ (0#32)))
noncomputable def F_impl_edgesLeft (a0 : (List (BitVec 32))) : Option Bool :=
  cal (F_slices_ContainsFunc_impl_nets_impl_vset a0 (fun (z1 : BitVec 32) => F_impl_edgesLeft_1 z1)) (fun x3 =>
    some x3)
noncomputable def F_impl_TrailOk_l1 (a1 : (List Int)) (l122 : (List (BitVec 32))) (i125 : Int) : Option (((List (BitVec 32)) × Int) ⊕ ((List (BitVec 32)) ⊕ Bool)) :=
  if i125 < (a1.length : Int) then
    ck (i125 - 1) (fun _ =>
      idx a1 (i125 - 1) (fun x202 =>
        idx a1 i125 (fun x214 =>
          cal (F_impl_useEdge l122 x202 x214) (fun x229 =>
            if ¬ (x229.1 = true) then
              some (.inr (.inr false))
            else
              ck (i125 + 1) (fun _ =>
                some (.inl (x229.2, i125 + 1)))))))
  else
    some (.inr (.inl l122))
noncomputable def F_impl_TrailOk_k2  (l187 : (List (BitVec 32))) : Option Bool :=
  cal (F_impl_edgesLeft l187) (fun x249 =>
    some (!x249))
noncomputable def F_impl_TrailOk (a0_0 : (List (List Int))) (a1 : (List Int)) : Option Bool :=
  cal (F_impl_GraphOk a0_0) (fun x27 =>
    if ¬ (x27 = true) then
      some false
    else
      if (a1.length : Int) < 1 then
        some false
      else
        if 121 < (a1.length : Int) then
          some false
        else
          cal (F_slices_ContainsFunc_int64 a1 (fun (z36 : Int) => F_impl_TrailOk_1 z36 a0_0)) (fun x38 =>
            if x38 = true then
              some false
            else
              cal (F_impl_netsOf a0_0) (fun x45 =>
                bnd (lp (fun s => F_impl_TrailOk_l1 a1 s.1 s.2) (x45, 1)) (fun j => F_impl_TrailOk_k2 j))))
noncomputable def F_laws_eqInt64S_l1 (a0 : (List Int)) (a1 : (List Int)) (i39 : Int) : Option (Int ⊕ (Unit ⊕ Bool)) :=
  if i39 < (a0.length : Int) then
    idx a0 i39 (fun x87 =>
      idx a1 i39 (fun x99 =>
        if x87 ≠ x99 then
          some (.inr (.inr false))
        else
          ck (i39 + 1) (fun _ =>
            some (.inl (i39 + 1)))))
  else
    some (.inr (.inl ()))
noncomputable def F_laws_eqInt64S_k2   : Option Bool :=
  some true
noncomputable def F_laws_eqInt64S (a0 : (List Int)) (a1 : (List Int)) : Option Bool :=
  if (a0.length : Int) ≠ (a1.length : Int) then
    some false
  else
    bnd (lp (fun s => F_laws_eqInt64S_l1 a0 a1 s) 0) (fun j => F_laws_eqInt64S_k2 )
noncomputable def F_laws_eqInt64SS_l1 (a0 : (List (List Int))) (a1 : (List (List Int))) (i47 : Int) : Option (Int ⊕ (Unit ⊕ Bool)) :=
  if i47 < (a0.length : Int) then
    idx a0 i47 (fun x103 =>
      idx a1 i47 (fun x117 =>
        cal (F_laws_eqInt64S x103 x117) (fun x133 =>
          if ¬ (x133 = true) then
            some (.inr (.inr false))
          else
            ck (i47 + 1) (fun _ =>
              some (.inl (i47 + 1))))))
  else
    some (.inr (.inl ()))
noncomputable def F_laws_eqInt64SS_k2   : Option Bool :=
  some true
noncomputable def F_laws_eqInt64SS (a0 : (List (List Int))) (a1 : (List (List Int))) : Option Bool :=
  if (a0.length : Int) ≠ (a1.length : Int) then
    some false
  else
    bnd (lp (fun s => F_laws_eqInt64SS_l1 a0 a1 s) 0) (fun j => F_laws_eqInt64SS_k2 )
noncomputable def F_laws_eqGraph (a0_0 : (List (List Int))) (a1_0 : (List (List Int))) : Option Bool :=
  cal (F_laws_eqInt64SS a0_0 a1_0) (fun x19 =>
    if ¬ (x19 = true) then
      some false
    else
      some true)
noncomputable def F_laws_FnExactTrailOk (a0_0 : (List (List Int))) (a1 : (List Int)) : Option Bool :=
  if 1048576 < (a1.length : Int) then
    some true
  else
    cal (F_laws_szGraph a0_0 1048576) (fun x10 =>
      if x10 < 0 then
        some true
      else
        cal (F_laws_toGraph a0_0) (fun x18 =>
          cal (F_laws_toInt64S a1) (fun x37 =>
            cal (F_spec_TrailOk x18 x37) (fun x57 =>
              cal (F_laws_toGraph a0_0) (fun x63 =>
                cal (F_laws_toInt64S a1) (fun x98 =>
                  cal (F_impl_TrailOk x63 x98) (fun x120 =>
                    if (x120 != x57) = true then
                      some false
                    else
                      cal (F_laws_toGraph a0_0) (fun x130 =>
                        cal (F_laws_eqGraph x63 x130) (fun x165 =>
                          if ¬ (x165 = true) then
                            some false
                          else
                            cal (F_laws_toInt64S a1) (fun x171 =>
                              cal (F_laws_eqInt64S x98 x171) (fun x188 =>
                                if ¬ (x188 = true) then
                                  some false
                                else
                                  some true)))))))))))
end Go.Proofs.Ytgikmgceiiahpab
