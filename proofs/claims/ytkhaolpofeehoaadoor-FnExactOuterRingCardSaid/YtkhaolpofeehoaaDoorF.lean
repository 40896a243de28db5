/- Functional forms, printed by gen.py. -/
import Derived.Test.YtkhaolpofeehoaaDoorPure
namespace Go.Proofs.YtkhaolpofeehoaaDoor

noncomputable def F_laws_szInt64S (a0 : (List Int)) (a1 : Int) : Option Int :=
  ck (a1 - (a0.length : Int)) (fun _ =>
    if (a1 - (a0.length : Int)) < 0 then
      some (-1)
    else
      some (a1 - (a0.length : Int)))
noncomputable def F_laws_szInt64SS_l1 (a0 : (List (List Int))) (i37 : Int) (i39 : Int) : Option ((Int × Int) ⊕ (Int ⊕ Int)) :=
  if i39 < (a0.length : Int) then
    idx a0 i39 (fun x85 =>
      cal (F_laws_szInt64S x85 i37) (fun x99 =>
        if x99 < 0 then
          some (.inr (.inr (-1)))
        else
          ck (i39 + 1) (fun _ =>
            some (.inl (x99, i39 + 1)))))
  else
    some (.inr (.inl i37))
noncomputable def F_laws_szInt64SS_k2  (i73 : Int) : Option Int :=
  some i73
noncomputable def F_laws_szInt64SS (a0 : (List (List Int))) (a1 : Int) : Option Int :=
  ck (a1 - (a0.length : Int)) (fun _ =>
    if (a1 - (a0.length : Int)) < 0 then
      some (-1)
    else
      bnd (lp (fun s => F_laws_szInt64SS_l1 a0 s.1 s.2) (a1 - (a0.length : Int), 0)) (fun j => F_laws_szInt64SS_k2 j))
noncomputable def F_laws_szGraph (a0_0 : (List (List Int))) (a1 : Int) : Option Int :=
  cal (F_laws_szInt64SS a0_0 a1) (fun x9 =>
    if x9 < 0 then
      some (-1)
    else
      some x9)
noncomputable def F_laws_toInt64S_l1 (a0 : (List Int)) (l63 : (List Int)) (i66 : Int) : Option (((List Int) × Int) ⊕ ((List Int) ⊕ (List Int))) :=
  if i66 < (a0.length : Int) then
    idx a0 i66 (fun x128 =>
      idx l63 i66 (fun x140 =>
        ck (i66 + 1) (fun _ =>
          some (.inl ((l63.set ((i66 : Int).toNat) x128), i66 + 1)))))
  else
    some (.inr (.inl l63))
noncomputable def F_laws_toInt64S_k2  (l115 : (List Int)) : Option (List Int) :=
  some l115
noncomputable def F_laws_toInt64S (a0 : (List Int)) : Option (List Int) :=
  mkS (a0.length : Int) (0 : Int) (fun _ =>
    bnd (lp (fun s => F_laws_toInt64S_l1 a0 s.1 s.2) ((List.replicate ((a0.length : Int) : Int).toNat (0 : Int)), 0)) (fun j => F_laws_toInt64S_k2 j))
noncomputable def F_laws_toInt64SS_l1 (a0 : (List (List Int))) (l96 : (List (List Int))) (i99 : Int) : Option (((List (List Int)) × Int) ⊕ ((List (List Int)) ⊕ (List (List Int)))) :=
  if i99 < (a0.length : Int) then
    idx a0 i99 (fun x191 =>
      cal (F_laws_toInt64S x191) (fun x205 =>
        idx l96 i99 (fun x219 =>
          ck (i99 + 1) (fun _ =>
            some (.inl ((l96.set ((i99 : Int).toNat) x205), i99 + 1))))))
  else
    some (.inr (.inl l96))
noncomputable def F_laws_toInt64SS_k2  (l178 : (List (List Int))) : Option (List (List Int)) :=
  some l178
noncomputable def F_laws_toInt64SS (a0 : (List (List Int))) : Option (List (List Int)) :=
  mkS (a0.length : Int) ([] : (List Int)) (fun _ =>
    bnd (lp (fun s => F_laws_toInt64SS_l1 a0 s.1 s.2) ((List.replicate ((a0.length : Int) : Int).toNat ([] : (List Int))), 0)) (fun j => F_laws_toInt64SS_k2 j))
noncomputable def F_laws_toGraph (a0_0 : (List (List Int))) : Option (List (List Int)) :=
  cal (F_laws_toInt64SS a0_0) (fun x31 =>
    some x31)
noncomputable def F_spec_l1Size (a0_0 : (List (List Int))) : Option Int :=
  some (a0_0.length : Int)
noncomputable def F_spec_l1In (a0 : Int) (a1 : Int) (a2 : Int) : Option Bool :=
  if a1 ≤ a0 then
    some (decide (a0 ≤ a2))
  else
    some false
noncomputable def F_spec_l1Set_l1 (a0 : (List Int)) (a1 : Int) (i69 : Int) : Option (Int ⊕ (Unit ⊕ Bool)) :=
  if i69 < (a0.length : Int) then
    idx a0 i69 (fun x147 =>
      ck (a1 - 1) (fun _ =>
        cal (F_spec_l1In x147 0 (a1 - 1)) (fun x163 =>
          if ¬ (x163 = true) then
            some (.inr (.inr false))
          else
            if 0 < i69 then
              idx a0 i69 (fun x172 =>
                ck (i69 - 1) (fun _ =>
                  idx a0 (i69 - 1) (fun x186 =>
                    if x172 ≤ x186 then
                      some (.inr (.inr false))
                    else
                      ck (i69 + 1) (fun _ =>
                        some (.inl (i69 + 1))))))
            else
              ck (i69 + 1) (fun _ =>
                some (.inl (i69 + 1))))))
  else
    some (.inr (.inl ()))
noncomputable def F_spec_l1Set_k2   : Option Bool :=
  some true
noncomputable def F_spec_l1Set (a0 : (List Int)) (a1 : Int) : Option Bool :=
  if a1 < (a0.length : Int) then
    some false
  else
    bnd (lp (fun s => F_spec_l1Set_l1 a0 a1 s) 0) (fun j => F_spec_l1Set_k2 )
noncomputable def F_spec_l1Has_l1 (a0 : (List Int)) (a1 : Int) (i23 : Int) : Option (Int ⊕ (Unit ⊕ Bool)) :=
  if i23 < (a0.length : Int) then
    idx a0 i23 (fun x56 =>
      if x56 = a1 then
        some (.inr (.inr true))
      else
        ck (i23 + 1) (fun _ =>
          some (.inl (i23 + 1))))
  else
    some (.inr (.inl ()))
noncomputable def F_spec_l1Has_k2   : Option Bool :=
  some false
noncomputable def F_spec_l1Has (a0 : (List Int)) (a1 : Int) : Option Bool :=
  bnd (lp (fun s => F_spec_l1Has_l1 a0 a1 s) 0) (fun j => F_spec_l1Has_k2 )
noncomputable def F_spec_GraphOk_l1 (a0_0 : (List (List Int))) (x9 : Int) (i80 : Int) : Option (Int ⊕ (Unit ⊕ Bool)) :=
  if i80 < x9 then
    idx a0_0 i80 (fun x146 =>
      cal (F_spec_l1Set x146 x9) (fun x160 =>
        if ¬ (x160 = true) then
          some (.inr (.inr false))
        else
          idx a0_0 i80 (fun x169 =>
            cal (F_spec_l1Has x169 i80) (fun x183 =>
              if x183 = true then
                some (.inr (.inr false))
              else
                ck (i80 + 1) (fun _ =>
                  some (.inl (i80 + 1)))))))
  else
    some (.inr (.inl ()))
noncomputable def F_spec_GraphOk_l4 (a0_0 : (List (List Int))) (i436 : Int) (i762 : Int) : Option (Int ⊕ (Unit ⊕ (Int ⊕ (Unit ⊕ Bool)))) :=
  idx a0_0 i436 (fun x847 =>
    if i762 < (x847.length : Int) then
      idx a0_0 i436 (fun x862 =>
        idx x862 i762 (fun x876 =>
          idx a0_0 x876 (fun x888 =>
            cal (F_spec_l1Has x888 i436) (fun x904 =>
              if ¬ (x904 = true) then
                some (.inr (.inr (.inr (.inr false))))
              else
                ck (i762 + 1) (fun _ =>
                  some (.inl (i762 + 1)))))))
    else
      some (.inr (.inl ())))
noncomputable def F_spec_GraphOk_k5 (i436 : Int)  : Option (Int ⊕ (Unit ⊕ Bool)) :=
  ck (i436 + 1) (fun _ =>
    some (.inl (i436 + 1)))
noncomputable def F_spec_GraphOk_l3 (a0_0 : (List (List Int))) (x9 : Int) (i436 : Int) : Option (Int ⊕ (Unit ⊕ Bool)) :=
  if i436 < x9 then
    bnd (lp (fun s => F_spec_GraphOk_l4 a0_0 i436 s) 0) (fun j => F_spec_GraphOk_k5 i436 )
  else
    some (.inr (.inl ()))
noncomputable def F_spec_GraphOk_k6   : Option Bool :=
  some true
noncomputable def F_spec_GraphOk_k2 (a0_0 : (List (List Int))) (x9 : Int)  : Option Bool :=
  bnd (lp (fun s => F_spec_GraphOk_l3 a0_0 x9 s) 0) (fun j => F_spec_GraphOk_k6 )
noncomputable def F_spec_GraphOk (a0_0 : (List (List Int))) : Option Bool :=
  cal (F_spec_l1Size a0_0) (fun x9 =>
    cal (F_spec_l1In x9 1 16) (fun x16 =>
      if ¬ (x16 = true) then
        some false
      else
        bnd (lp (fun s => F_spec_GraphOk_l1 a0_0 x9 s) 0) (fun j => F_spec_GraphOk_k2 a0_0 x9 )))
noncomputable def F_spec_l26Small (a0_0 : (List (List Int))) : Option Bool :=
  cal (F_spec_GraphOk a0_0) (fun x9 =>
    if x9 = true then
      some (decide ((a0_0.length : Int) ≤ 8))
    else
      some false)
noncomputable def F_spec_l1Edges_l2 (a0_0 : (List (List Int))) (i505 : Int) (l1152 : (List (List Int))) (i1155 : Int) : Option (((List (List Int)) × Int) ⊕ ((List (List Int)) ⊕ (((List (List Int)) × Int) ⊕ ((List (List Int)) ⊕ (List (List Int)))))) :=
  idx a0_0 i505 (fun x1316 =>
    if i1155 < (x1316.length : Int) then
      idx a0_0 i505 (fun x1331 =>
        idx x1331 i1155 (fun x1345 =>
          if i505 < x1345 then
            idx a0_0 i505 (fun x1358 =>
              idx x1358 i1155 (fun x1372 =>
                app l1152 ([[i505, x1372]]) (fun _ =>
                  ck (i1155 + 1) (fun _ =>
                    some (.inl ((l1152 ++ ([[i505, x1372]])), i1155 + 1))))))
          else
            ck (i1155 + 1) (fun _ =>
              some (.inl (l1152, i1155 + 1)))))
    else
      some (.inr (.inl l1152)))
noncomputable def F_spec_l1Edges_k3 (i505 : Int) (l1302 : (List (List Int))) : Option (((List (List Int)) × Int) ⊕ ((List (List Int)) ⊕ (List (List Int)))) :=
  ck (i505 + 1) (fun _ =>
    some (.inl (l1302, i505 + 1)))
noncomputable def F_spec_l1Edges_l1 (a0_0 : (List (List Int))) (l502 : (List (List Int))) (i505 : Int) : Option (((List (List Int)) × Int) ⊕ ((List (List Int)) ⊕ (List (List Int)))) :=
  cal (F_spec_l1Size a0_0) (fun x990 =>
    if i505 < x990 then
      bnd (lp (fun s => F_spec_l1Edges_l2 a0_0 i505 s.1 s.2) (l502, 0)) (fun j => F_spec_l1Edges_k3 i505 j)
    else
      some (.inr (.inl l502)))
noncomputable def F_spec_l1Edges_k4  (l978 : (List (List Int))) : Option (List (List Int)) :=
  some l978
noncomputable def F_spec_l1Edges (a0_0 : (List (List Int))) : Option (List (List Int)) :=
  bnd (lp (fun s => F_spec_l1Edges_l1 a0_0 s.1 s.2) (([] : (List (List Int))), 0)) (fun j => F_spec_l1Edges_k4 j)
noncomputable def F_spec_l24Places_l1 (a0 : (List Int)) (l63 : (List Int)) (i66 : Int) : Option (((List Int) × Int) ⊕ ((List Int) ⊕ (List Int))) :=
  if i66 < (a0.length : Int) then
    idx a0 i66 (fun x128 =>
      idx l63 x128 (fun x140 =>
        ck (i66 + 1) (fun _ =>
          some (.inl ((l63.set ((x128 : Int).toNat) i66), i66 + 1)))))
  else
    some (.inr (.inl l63))
noncomputable def F_spec_l24Places_k2  (l115 : (List Int)) : Option (List Int) :=
  some l115
noncomputable def F_spec_l24Places (a0 : (List Int)) : Option (List Int) :=
  mkS (a0.length : Int) (0 : Int) (fun _ =>
    bnd (lp (fun s => F_spec_l24Places_l1 a0 s.1 s.2) ((List.replicate ((a0.length : Int) : Int).toNat (0 : Int)), 0)) (fun j => F_spec_l24Places_k2 j))
noncomputable def F_spec_l1Min (a0 : Int) (a1 : Int) : Option Int :=
  if a0 < a1 then
    some a0
  else
    some a1
noncomputable def F_spec_l1Max (a0 : Int) (a1 : Int) : Option Int :=
  if a1 < a0 then
    some a0
  else
    some a1
noncomputable def F_spec_l24Cross (a0 : (List Int)) (a1 : (List Int)) (a2 : (List Int)) : Option Bool :=
  idx a1 0 (fun x1 =>
    idx a0 x1 (fun x13 =>
      idx a1 1 (fun x25 =>
        idx a0 x25 (fun x37 =>
          cal (F_spec_l1Min x13 x37) (fun x51 =>
            idx a1 0 (fun x57 =>
              idx a0 x57 (fun x69 =>
                idx a1 1 (fun x81 =>
                  idx a0 x81 (fun x93 =>
                    cal (F_spec_l1Max x69 x93) (fun x107 =>
                      idx a2 0 (fun x113 =>
                        idx a0 x113 (fun x125 =>
                          idx a2 1 (fun x137 =>
                            idx a0 x137 (fun x149 =>
                              cal (F_spec_l1Min x125 x149) (fun x163 =>
                                idx a2 0 (fun x169 =>
                                  idx a0 x169 (fun x181 =>
                                    idx a2 1 (fun x193 =>
                                      idx a0 x193 (fun x205 =>
                                        cal (F_spec_l1Max x181 x205) (fun x219 =>
                                          if x51 < x163 then
                                            if x163 < x107 then
                                              if x107 < x219 then
                                                some true
                                              else
                                                if x163 < x51 then
                                                  if x51 < x219 then
                                                    some (decide (x219 < x107))
                                                  else
                                                    some false
                                                else
                                                  some false
                                            else
                                              if x163 < x51 then
                                                if x51 < x219 then
                                                  some (decide (x219 < x107))
                                                else
                                                  some false
                                              else
                                                some false
                                          else
                                            if x163 < x51 then
                                              if x51 < x219 then
                                                some (decide (x219 < x107))
                                              else
                                                some false
                                            else
                                              some false))))))))))))))))))))
noncomputable def F_spec_l1Flag (a0 : Bool) : Option Int :=
  if a0 = true then
    some 1
  else
    some 0
noncomputable def F_spec_l24Crossings_l2 (a0 : (List (List Int))) (x1 : (List Int)) (i223 : Int) (i504 : Int) (i506 : Int) : Option ((Int × Int) ⊕ (Int ⊕ ((Int × Int) ⊕ (Int ⊕ Int)))) :=
  if i506 < i223 then
    idx a0 i223 (fun x581 =>
      idx a0 i506 (fun x595 =>
        cal (F_spec_l24Cross x1 x581 x595) (fun x614 =>
          cal (F_spec_l1Flag x614) (fun x618 =>
            ck (i504 + x618) (fun _ =>
              ck (i506 + 1) (fun _ =>
                some (.inl (i504 + x618, i506 + 1))))))))
  else
    some (.inr (.inl i504))
noncomputable def F_spec_l24Crossings_k3 (i223 : Int) (i569 : Int) : Option ((Int × Int) ⊕ (Int ⊕ Int)) :=
  ck (i223 + 1) (fun _ =>
    some (.inl (i569, i223 + 1)))
noncomputable def F_spec_l24Crossings_l1 (a0 : (List (List Int))) (x1 : (List Int)) (i221 : Int) (i223 : Int) : Option ((Int × Int) ⊕ (Int ⊕ Int)) :=
  if i223 < (a0.length : Int) then
    bnd (lp (fun s => F_spec_l24Crossings_l2 a0 x1 i223 s.1 s.2) (i221, 0)) (fun j => F_spec_l24Crossings_k3 i223 j)
  else
    some (.inr (.inl i221))
noncomputable def F_spec_l24Crossings_k4  (i427 : Int) : Option Int :=
  some i427
noncomputable def F_spec_l24Crossings (a0 : (List (List Int))) (a1 : (List Int)) : Option Int :=
  cal (F_spec_l24Places a1) (fun x1 =>
    bnd (lp (fun s => F_spec_l24Crossings_l1 a0 x1 s.1 s.2) (0, 0)) (fun j => F_spec_l24Crossings_k4 j))
noncomputable def F_spec_l1Copy (a0 : (List Int)) : Option (List Int) :=
  app ([] : (List Int)) a0 (fun _ =>
    some (([] : (List Int)) ++ a0))
noncomputable def F_spec_l24Rings_l1 (a0 : (List (List Int))) (a1 : (List Int)) (a2 : Int) (rc : (List (List Int)) → (List Int) → Int → (List Int) → Int → Option ((List Int) × Int)) (l146 : (List Int)) (i150 : Int) (i154 : Int) : Option (((List Int) × Int × Int) ⊕ (((List Int) × Int) ⊕ ((List Int) × Int))) :=
  if i154 < a2 then
    cal (F_spec_l1Has a1 i154) (fun x227 =>
      if ¬ (x227 = true) then
        cal (F_spec_l1Copy a1) (fun xqr3o2_1 =>
          app xqr3o2_1 ([i154]) (fun _ =>
            cal (rc a0 (xqr3o2_1 ++ ([i154])) a2 l146 i150) (fun xqr3o8_1 =>
              ck (i154 + 1) (fun _ =>
                some (.inl (xqr3o8_1.1, xqr3o8_1.2, i154 + 1))))))
      else
        ck (i154 + 1) (fun _ =>
          some (.inl (l146, i150, i154 + 1))))
  else
    some (.inr (.inl (l146, i150)))
noncomputable def F_spec_l24Rings_k2  (l201 : (List Int)) (i205 : Int) : Option ((List Int) × Int) :=
  some (l201, i205)
noncomputable def F_spec_l24Rings_body (rc : (List (List Int)) → (List Int) → Int → (List Int) → Int → Option ((List Int) × Int)) (a0 : (List (List Int))) (a1 : (List Int)) (a2 : Int) (a3_0 : (List Int)) (a3_1 : Int) : Option ((List Int) × Int) :=
  if a3_1 = 0 then
    some (a3_0, a3_1)
  else
    if (a1.length : Int) = a2 then
      cal (F_spec_l24Crossings a0 a1) (fun x25 =>
        if a3_1 < 0 then
          cal (F_spec_l1Copy a1) (fun x37 =>
            some (x37, x25))
        else
          if x25 < a3_1 then
            cal (F_spec_l1Copy a1) (fun x68 =>
              some (x68, x25))
          else
            some (a3_0, a3_1))
    else
      bnd (lp (fun s => F_spec_l24Rings_l1 a0 a1 a2 rc s.1 s.2.1 s.2.2) (a3_0, a3_1, 0)) (fun j => F_spec_l24Rings_k2 j.1 j.2)
noncomputable def F_spec_l24Rings (a0 : (List (List Int))) (a1 : (List Int)) (a2 : Int) (a3_0 : (List Int)) (a3_1 : Int) : Option ((List Int) × Int) := fixO (fun (rc : ((List (List Int)) × (List Int) × Int × (List Int) × Int) → Option ((List Int) × Int)) a => F_spec_l24Rings_body (fun z0 z1 z2 z3 z4 => rc (z0, z1, z2, z3, z4)) a.1 a.2.1 a.2.2.1 a.2.2.2.1 a.2.2.2.2) (a0, a1, a2, a3_0, a3_1)
noncomputable def F_spec_l24Least (a0_0 : (List (List Int))) : Option ((List Int) × Int) :=
  cal (F_spec_l1Edges a0_0) (fun xqr1o1_1 =>
    cal (F_spec_l1Size a0_0) (fun xqr1o4_1 =>
      cal (F_spec_l24Rings xqr1o1_1 ([0]) xqr1o4_1 [] (-1)) (fun xqr1o6_1 =>
        some (xqr1o6_1.1, xqr1o6_1.2))))
noncomputable def F_spec_OuterRing (a0_0 : (List (List Int))) : Option ((List Int) × Bool) :=
  cal (F_spec_l26Small a0_0) (fun x9 =>
    if ¬ (x9 = true) then
      some (([] : (List Int)), false)
    else
      cal (F_spec_l24Least a0_0) (fun x30 =>
        if x30.2 ≠ 0 then
          some (([] : (List Int)), false)
        else
          some (x30.1, true)))
noncomputable def F_impl_inRange (a0 : Int) (a1 : Int) (a2 : Int) : Option Bool :=
  if a1 ≤ a0 then
    some (decide (a0 ≤ a2))
  else
    some false
noncomputable def F_impl_increasing_l1 (a0 : (List Int)) (a1 : Int) (i49 : Int) : Option (Int ⊕ (Unit ⊕ Bool)) :=
  if i49 < (a0.length : Int) then
    idx a0 i49 (fun x108 =>
      ck (a1 - 1) (fun _ =>
        cal (F_impl_inRange x108 0 (a1 - 1)) (fun x122 =>
          if ¬ (x122 = true) then
            some (.inr (.inr false))
          else
            if 0 < i49 then
              ck (i49 - 1) (fun _ =>
                idx a0 (i49 - 1) (fun x134 =>
                  if x108 ≤ x134 then
                    some (.inr (.inr false))
                  else
                    ck (i49 + 1) (fun _ =>
                      some (.inl (i49 + 1)))))
            else
              ck (i49 + 1) (fun _ =>
                some (.inl (i49 + 1))))))
  else
    some (.inr (.inl ()))
noncomputable def F_impl_increasing_k2   : Option Bool :=
  some true
noncomputable def F_impl_increasing (a0 : (List Int)) (a1 : Int) : Option Bool :=
  bnd (lp (fun s => F_impl_increasing_l1 a0 a1 s) 0) (fun j => F_impl_increasing_k2 )
noncomputable def F_slices_Index_int64_l1 (a0 : (List Int)) (a1 : Int) (i23 : Int) : Option (Int ⊕ (Unit ⊕ Int)) :=
  if i23 < (a0.length : Int) then
    idx a0 i23 (fun x56 =>
      if a1 = x56 then
        some (.inr (.inr i23))
      else
        ck (i23 + 1) (fun _ =>
          some (.inl (i23 + 1))))
  else
    some (.inr (.inl ()))
noncomputable def F_slices_Index_int64_k2   : Option Int :=
  some (-1)
noncomputable def F_slices_Index_int64 (a0 : (List Int)) (a1 : Int) : Option Int :=
  bnd (lp (fun s => F_slices_Index_int64_l1 a0 a1 s) 0) (fun j => F_slices_Index_int64_k2 )
noncomputable def F_slices_Contains_int64 (a0 : (List Int)) (a1 : Int) : Option Bool :=
  cal (F_slices_Index_int64 a0 a1) (fun x1 =>
    some (decide (0 ≤ x1)))
noncomputable def F_impl_GraphOk_l1 (a0_0 : (List (List Int))) (i56 : Int) : Option (Int ⊕ (Unit ⊕ Bool)) :=
  if i56 < (a0_0.length : Int) then
    idx a0_0 i56 (fun x108 =>
      cal (F_impl_increasing x108 (a0_0.length : Int)) (fun x122 =>
        if ¬ (x122 = true) then
          some (.inr (.inr false))
        else
          cal (F_slices_Contains_int64 x108 i56) (fun x131 =>
            if x131 = true then
              some (.inr (.inr false))
            else
              ck (i56 + 1) (fun _ =>
                some (.inl (i56 + 1))))))
  else
    some (.inr (.inl ()))
noncomputable def F_impl_GraphOk_l4 (a0_0 : (List (List Int))) (i311 : Int) (x487 : (List Int)) (i549 : Int) : Option (Int ⊕ (Unit ⊕ (Int ⊕ (Unit ⊕ Bool)))) :=
  if i549 < (x487.length : Int) then
    idx x487 i549 (fun x606 =>
      idx a0_0 x606 (fun x618 =>
        cal (F_slices_Contains_int64 x618 i311) (fun x632 =>
          if ¬ (x632 = true) then
            some (.inr (.inr (.inr (.inr false))))
          else
            ck (i549 + 1) (fun _ =>
              some (.inl (i549 + 1))))))
  else
    some (.inr (.inl ()))
noncomputable def F_impl_GraphOk_k5 (i311 : Int)  : Option (Int ⊕ (Unit ⊕ Bool)) :=
  ck (i311 + 1) (fun _ =>
    some (.inl (i311 + 1)))
noncomputable def F_impl_GraphOk_l3 (a0_0 : (List (List Int))) (i311 : Int) : Option (Int ⊕ (Unit ⊕ Bool)) :=
  if i311 < (a0_0.length : Int) then
    idx a0_0 i311 (fun x487 =>
      bnd (lp (fun s => F_impl_GraphOk_l4 a0_0 i311 x487 s) 0) (fun j => F_impl_GraphOk_k5 i311 ))
  else
    some (.inr (.inl ()))
noncomputable def F_impl_GraphOk_k6   : Option Bool :=
  some true
noncomputable def F_impl_GraphOk_k2 (a0_0 : (List (List Int)))  : Option Bool :=
  bnd (lp (fun s => F_impl_GraphOk_l3 a0_0 s) 0) (fun j => F_impl_GraphOk_k6 )
noncomputable def F_impl_GraphOk (a0_0 : (List (List Int))) : Option Bool :=
  if (a0_0.length : Int) < 1 then
    some false
  else
    if 16 < (a0_0.length : Int) then
      some false
    else
      bnd (lp (fun s => F_impl_GraphOk_l1 a0_0 s) 0) (fun j => F_impl_GraphOk_k2 a0_0 )
noncomputable def F_impl_isSmall (a0_0 : (List (List Int))) : Option Bool :=
  cal (F_impl_GraphOk a0_0) (fun x9 =>
    if x9 = true then
      some (decide ((a0_0.length : Int) ≤ 8))
    else
      some false)
noncomputable def F_impl_edgesOf_l2 (i302 : Int) (x589 : (List Int)) (l687 : (List (List Int))) (i690 : Int) : Option (((List (List Int)) × Int) ⊕ ((List (List Int)) ⊕ (((List (List Int)) × Int) ⊕ ((List (List Int)) ⊕ (List (List Int)))))) :=
  if i690 < (x589.length : Int) then
    idx x589 i690 (fun x782 =>
      if i302 < x782 then
        app l687 ([[i302, x782]]) (fun _ =>
          ck (i690 + 1) (fun _ =>
            some (.inl ((l687 ++ ([[i302, x782]])), i690 + 1))))
      else
        ck (i690 + 1) (fun _ =>
          some (.inl (l687, i690 + 1))))
  else
    some (.inr (.inl l687))
noncomputable def F_impl_edgesOf_k3 (i302 : Int) (l769 : (List (List Int))) : Option (((List (List Int)) × Int) ⊕ ((List (List Int)) ⊕ (List (List Int)))) :=
  ck (i302 + 1) (fun _ =>
    some (.inl (l769, i302 + 1)))
noncomputable def F_impl_edgesOf_l1 (a0_0 : (List (List Int))) (l299 : (List (List Int))) (i302 : Int) : Option (((List (List Int)) × Int) ⊕ ((List (List Int)) ⊕ (List (List Int)))) :=
  if i302 < (a0_0.length : Int) then
    idx a0_0 i302 (fun x589 =>
      bnd (lp (fun s => F_impl_edgesOf_l2 i302 x589 s.1 s.2) (l299, 0)) (fun j => F_impl_edgesOf_k3 i302 j))
  else
    some (.inr (.inl l299))
noncomputable def F_impl_edgesOf_k4  (l576 : (List (List Int))) : Option (List (List Int)) :=
  some l576
noncomputable def F_impl_edgesOf (a0_0 : (List (List Int))) : Option (List (List Int)) :=
  bnd (lp (fun s => F_impl_edgesOf_l1 a0_0 s.1 s.2) (([] : (List (List Int))), 0)) (fun j => F_impl_edgesOf_k4 j)
noncomputable def F_slices_Values_int64 (a0 : (List Int)) : Option (List Int) := some a0
noncomputable def F_slices_Collect_int64 (a0 : (List Int)) : Option (List Int) := if a0.length ≤ 1099511627776 then some a0 else none
noncomputable def F_slices_Sort_int64 (a0 : (List Int)) : Option (List Int) := if a0.length ≤ 1099511627776 then some (a0.mergeSort fun x y => decide (x ≤ y)) else none
noncomputable def F_slices_Sorted_int64 (a0 : (List Int)) : Option (List Int) :=
  cal (F_slices_Collect_int64 a0) (fun x1 =>
    cal (F_slices_Sort_int64 x1) (fun x12 =>
      some x12))
noncomputable def F_impl_placesIn_l1 (a0 : (List Int)) (l123 : (List Int)) (i126 : Int) : Option (((List Int) × Int) ⊕ ((List Int) ⊕ ((List Int) × Bool))) :=
  if i126 < (a0.length : Int) then
    idx a0 i126 (fun x188 =>
      idx l123 x188 (fun x200 =>
        ck (i126 + 1) (fun _ =>
          some (.inl ((l123.set ((x188 : Int).toNat) i126), i126 + 1)))))
  else
    some (.inr (.inl l123))
noncomputable def F_impl_placesIn_k2  (l175 : (List Int)) : Option ((List Int) × Bool) :=
  some (l175, true)
noncomputable def F_impl_placesIn (a0 : (List Int)) : Option ((List Int) × Bool) :=
  if (a0.length : Int) < 1 then
    some (([] : (List Int)), false)
  else
    if 16 < (a0.length : Int) then
      some (([] : (List Int)), false)
    else
      cal (F_slices_Values_int64 a0) (fun x33 =>
        cal (F_slices_Sorted_int64 x33) (fun x40 =>
          cal (F_impl_increasing x40 (a0.length : Int)) (fun x54 =>
            if ¬ (x54 = true) then
              some (([] : (List Int)), false)
            else
              mkS (a0.length : Int) (0 : Int) (fun _ =>
                bnd (lp (fun s => F_impl_placesIn_l1 a0 s.1 s.2) ((List.replicate ((a0.length : Int) : Int).toNat (0 : Int)), 0)) (fun j => F_impl_placesIn_k2 j)))))
noncomputable def F_impl_alternate_1 (a0 : Int) (y0 : Int) (y1 : (List Int)) (y2 : Int) : Option Bool :=
  idx y1 a0 (fun x1 =>
    if y0 < x1 then
      idx y1 a0 (fun x14 =>
        some (decide (x14 < y2)))
    else
      some false)
noncomputable def F_impl_alternate (a0 : (List Int)) (a1 : (List Int)) (a2 : (List Int)) : Option Bool :=
  idx a1 0 (fun x10 =>
    idx a0 x10 (fun x22 =>
      idx a1 1 (fun x34 =>
        idx a0 x34 (fun x46 =>
          idx a1 0 (fun x58 =>
            idx a0 x58 (fun x70 =>
              idx a1 1 (fun x82 =>
                idx a0 x82 (fun x94 =>
                  idx a1 0 (fun x109 =>
                    idx a2 0 (fun x121 =>
                      if x109 ≠ x121 then
                        idx a1 0 (fun x134 =>
                          idx a2 1 (fun x146 =>
                            if x134 ≠ x146 then
                              idx a1 1 (fun x159 =>
                                idx a2 0 (fun x171 =>
                                  if x159 ≠ x171 then
                                    idx a1 1 (fun x184 =>
                                      idx a2 1 (fun x196 =>
                                        if x184 ≠ x196 then
                                          idx a2 0 (fun x212 =>
                                            cal (F_impl_alternate_1 x212 (min x22 x46) a0 (max x70 x94)) (fun x226 =>
                                              idx a2 1 (fun x228 =>
                                                cal (F_impl_alternate_1 x228 (min x22 x46) a0 (max x70 x94)) (fun x242 =>
                                                  some (x226 != x242)))))
                                        else
                                          some false))
                                  else
                                    some false))
                            else
                              some false))
                      else
                        some false))))))))))
noncomputable def F_impl_crossingsOn_l2 (a0 : (List (List Int))) (x1 : ((List Int) × Bool)) (i195 : Int) (x381 : (List Int)) (i450 : Int) (i452 : Int) : Option ((Int × Int) ⊕ (Int ⊕ ((Int × Int) ⊕ (Int ⊕ Int)))) :=
  if i452 < (((a0.drop (0 : Int).toNat).take ((i195 : Int).toNat - (0 : Int).toNat)).length : Int) then
    idx ((a0.drop (0 : Int).toNat).take ((i195 : Int).toNat - (0 : Int).toNat)) i452 (fun x510 =>
      cal (F_impl_alternate x1.1 x381 x510) (fun x527 =>
        if x527 = true then
          ck (i450 + 1) (fun _ =>
            ck (i452 + 1) (fun _ =>
              some (.inl (i450 + 1, i452 + 1))))
        else
          ck (i452 + 1) (fun _ =>
            some (.inl (i450, i452 + 1)))))
  else
    some (.inr (.inl i450))
noncomputable def F_impl_crossingsOn_k3 (i195 : Int) (i498 : Int) : Option ((Int × Int) ⊕ (Int ⊕ Int)) :=
  ck (i195 + 1) (fun _ =>
    some (.inl (i498, i195 + 1)))
noncomputable def F_impl_crossingsOn_l1 (a0 : (List (List Int))) (x1 : ((List Int) × Bool)) (i193 : Int) (i195 : Int) : Option ((Int × Int) ⊕ (Int ⊕ Int)) :=
  if i195 < (a0.length : Int) then
    idx a0 i195 (fun x381 =>
      slc a0 0 i195 (fun _ =>
        bnd (lp (fun s => F_impl_crossingsOn_l2 a0 x1 i195 x381 s.1 s.2) (i193, 0)) (fun j => F_impl_crossingsOn_k3 i195 j)))
  else
    some (.inr (.inl i193))
noncomputable def F_impl_crossingsOn_k4  (i369 : Int) : Option Int :=
  some i369
noncomputable def F_impl_crossingsOn (a0 : (List (List Int))) (a1 : (List Int)) : Option Int :=
  cal (F_impl_placesIn a1) (fun x1 =>
    bnd (lp (fun s => F_impl_crossingsOn_l1 a0 x1 s.1 s.2) (0, 0)) (fun j => F_impl_crossingsOn_k4 j))
noncomputable def F_impl_firstOf (a0 : Int) : Option (BitVec 32) :=
  grd ((0 : Int) ≤ a0) (
    some (((1#32) <<< (a0 : Int).toNat) - (1#32)))
noncomputable def F_math_bits_TrailingZeros32 (a0 : BitVec 32) : Option Int :=
  if a0 = (0#32) then
    some 32
  else
    idx deBruijn32 (BitVec.toNat (((a0 &&& (-a0)) * (125613361#32)) >>> (27 : Int).toNat) : Int) (fun x2 =>
      some (BitVec.toNat x2 : Int))
noncomputable def F_impl_vset_least (a0 : BitVec 32) : Option Int :=
  cal (F_math_bits_TrailingZeros32 a0) (fun x1 =>
    some x1)
noncomputable def F_impl_vset_list_l1  (u55 : BitVec 32) (l59 : (List Int)) : Option (((BitVec 32) × (List Int)) ⊕ ((List Int) ⊕ (List Int))) :=
  if u55 ≠ (0#32) then
    cal (F_impl_vset_least u55) (fun x119 =>
      app l59 ([x119]) (fun _ =>
        some (.inl (u55 &&& (u55 - (1#32)), (l59 ++ ([x119]))))))
  else
    some (.inr (.inl l59))
noncomputable def F_impl_vset_list_k2  (l106 : (List Int)) : Option (List Int) :=
  some l106
noncomputable def F_impl_vset_list (a0 : BitVec 32) : Option (List Int) :=
  bnd (lp (fun s => F_impl_vset_list_l1 s.1 s.2) (a0, ([] : (List Int)))) (fun j => F_impl_vset_list_k2 j)
noncomputable def F_slices_Clone_int64 (a0 : (List Int)) : Option (List Int) :=
  app ([] : (List Int)) a0 (fun _ =>
    some (([] : (List Int)) ++ a0))
noncomputable def F_impl_one (a0 : Int) : Option (BitVec 32) :=
  grd ((0 : Int) ≤ a0) (
    some ((1#32) <<< (a0 : Int).toNat))
noncomputable def F_impl_leastRing_1 (es : List (List Int)) (a0 : List Int) (s : List Int × Int) : Option (Bool × List Int × Int) :=
  cal (F_impl_crossingsOn es a0) (fun x1 =>
    if s.2 < 0 then
      cal (F_slices_Clone_int64 a0) (fun x9 =>
        some (decide (x1 = 0), x9, x1))
    else
      if x1 < s.2 then
        cal (F_slices_Clone_int64 a0) (fun x21 =>
          some (decide (x1 = 0), x21, x1))
      else
        some (decide (s.2 = 0), s))
noncomputable def F_impl_rings_l1 {S : Type} (a0 : Int) (a1 : (List Int)) (a2 : BitVec 32) (rc : Int → (List Int) → (BitVec 32) → S → Option (Bool × S)) (x14 : (List Int)) (s : S) (i112 : Int) : Option ((S × Int) ⊕ (S ⊕ (Bool × S))) :=
  if i112 < (x14.length : Int) then
    idx x14 i112 (fun x204 =>
      cal (F_slices_Clone_int64 a1) (fun x216 =>
        app x216 ([x204]) (fun _ =>
          cal (F_impl_one x204) (fun x256 =>
            cal (rc a0 (x216 ++ ([x204])) (a2 ||| x256) s) (fun x266 =>
              if x266.1 = true then
                some (.inr (.inr (true, x266.2)))
              else
                ck (i112 + 1) (fun _ =>
                  some (.inl (x266.2, i112 + 1))))))))
  else
    some (.inr (.inl s))
noncomputable def F_impl_rings_k2 {S : Type} (s : S) : Option (Bool × S) :=
  some (false, s)
noncomputable def F_impl_rings_body {S : Type} (a3 : (List Int) → S → Option (Bool × S)) (rc : Int → (List Int) → (BitVec 32) → S → Option (Bool × S)) (a0 : Int) (a1 : (List Int)) (a2 : BitVec 32) (s : S) : Option (Bool × S) :=
  if (a1.length : Int) = a0 then
    a3 a1 s
  else
    cal (F_impl_firstOf a0) (fun x8 =>
      cal (F_impl_vset_list (x8 &&& ~~~a2)) (fun x14 =>
        bnd (lp (fun q => F_impl_rings_l1 a0 a1 a2 rc x14 q.1 q.2) (s, 0)) (fun j => F_impl_rings_k2 j)))
noncomputable def F_impl_rings_B {S : Type} (a3 : (List Int) → S → Option (Bool × S)) (rc : (Int × (List Int) × (BitVec 32) × S) → Option (Bool × S)) (a : Int × (List Int) × (BitVec 32) × S) : Option (Bool × S) :=
  F_impl_rings_body a3 (fun z0 z1 z2 z3 => rc (z0, z1, z2, z3)) a.1 a.2.1 a.2.2.1 a.2.2.2
noncomputable def F_impl_rings {S : Type} (a3 : (List Int) → S → Option (Bool × S)) (a0 : Int) (a1 : (List Int)) (a2 : BitVec 32) (s : S) : Option (Bool × S) := fixO (F_impl_rings_B a3) (a0, a1, a2, s)
noncomputable def F_impl_leastRing (a0_0 : (List (List Int))) : Option ((List Int) × Int) :=
  cal (F_impl_edgesOf a0_0) (fun x19 =>
    cal (F_impl_rings (F_impl_leastRing_1 x19) (a0_0.length : Int) ([0]) (1#32) (([] : List Int), (-1 : Int))) (fun x106 =>
      some x106.2))

noncomputable def F_impl_LeastCrossings (a0_0 : (List (List Int))) : Option ((List Int) × Int) :=
  cal (F_impl_isSmall a0_0) (fun x9 =>
    if ¬ (x9 = true) then
      some (([] : (List Int)), (-1))
    else
      cal (F_impl_leastRing a0_0) (fun x16 =>
        some (x16.1, x16.2)))
noncomputable def F_impl_OuterRing (a0_0 : (List (List Int))) : Option ((List Int) × Bool) :=
  cal (F_impl_LeastCrossings a0_0) (fun x9 =>
    if x9.2 ≠ 0 then
      some (([] : (List Int)), false)
    else
      some (x9.1, true))
noncomputable def F_laws_eqInt64S_l1 (a0 : (List Int)) (a1 : (List Int)) (i39 : Int) : Option (Int ⊕ (Unit ⊕ Bool)) :=
  if i39 < (a0.length : Int) then
    idx a0 i39 (fun x87 =>
      idx a1 i39 (fun x99 =>
        if x87 ≠ x99 then
          some (.inr (.inr false))
        else
          ck (i39 + 1) (fun _ =>
            some (.inl (i39 + 1)))))
  else
    some (.inr (.inl ()))
noncomputable def F_laws_eqInt64S_k2   : Option Bool :=
  some true
noncomputable def F_laws_eqInt64S (a0 : (List Int)) (a1 : (List Int)) : Option Bool :=
  if (a0.length : Int) ≠ (a1.length : Int) then
    some false
  else
    bnd (lp (fun s => F_laws_eqInt64S_l1 a0 a1 s) 0) (fun j => F_laws_eqInt64S_k2 )
noncomputable def F_laws_eqInt64SS_l1 (a0 : (List (List Int))) (a1 : (List (List Int))) (i47 : Int) : Option (Int ⊕ (Unit ⊕ Bool)) :=
  if i47 < (a0.length : Int) then
    idx a0 i47 (fun x103 =>
      idx a1 i47 (fun x117 =>
        cal (F_laws_eqInt64S x103 x117) (fun x133 =>
          if ¬ (x133 = true) then
            some (.inr (.inr false))
          else
            ck (i47 + 1) (fun _ =>
              some (.inl (i47 + 1))))))
  else
    some (.inr (.inl ()))
noncomputable def F_laws_eqInt64SS_k2   : Option Bool :=
  some true
noncomputable def F_laws_eqInt64SS (a0 : (List (List Int))) (a1 : (List (List Int))) : Option Bool :=
  if (a0.length : Int) ≠ (a1.length : Int) then
    some false
  else
    bnd (lp (fun s => F_laws_eqInt64SS_l1 a0 a1 s) 0) (fun j => F_laws_eqInt64SS_k2 )
noncomputable def F_laws_eqGraph (a0_0 : (List (List Int))) (a1_0 : (List (List Int))) : Option Bool :=
  cal (F_laws_eqInt64SS a0_0 a1_0) (fun x19 =>
    if ¬ (x19 = true) then
      some false
    else
      some true)
noncomputable def F_laws_markInt64S_l1  (l38 : (List Int)) (i41 : Int) (i43 : Int) : Option (((List Int) × Int × Int) ⊕ ((Int × (List Int)) ⊕ (Int × (List Int)))) :=
  if i43 < (l38.length : Int) then
    idx l38 i43 (fun x95 =>
      ck (i41 + 1) (fun _ =>
        ck (i43 + 1) (fun _ =>
          some (.inl ((l38.set ((i43 : Int).toNat) i41), i41 + 1, i43 + 1)))))
  else
    some (.inr (.inl (i41, l38)))
noncomputable def F_laws_markInt64S_k2  (i79 : Int) (l82 : (List Int)) : Option (Int × (List Int)) :=
  some (i79, l82)
noncomputable def F_laws_markInt64S (a0 : (List Int)) (a1 : Int) : Option (Int × (List Int)) :=
  bnd (lp (fun s => F_laws_markInt64S_l1 s.1 s.2.1 s.2.2) (a0, a1, 0)) (fun j => F_laws_markInt64S_k2 j.1 j.2)
noncomputable def F_laws_markInt64SS_l1  (l46 : (List (List Int))) (i49 : Int) (i51 : Int) : Option (((List (List Int)) × Int × Int) ⊕ ((Int × (List (List Int))) ⊕ (Int × (List (List Int))))) :=
  if i51 < (l46.length : Int) then
    idx l46 i51 (fun x111 =>
      cal (F_laws_markInt64S x111 i49) (fun x130 =>
        ck (i51 + 1) (fun _ =>
          some (.inl ((l46.set ((i51 : Int).toNat) x130.2), x130.1, i51 + 1)))))
  else
    some (.inr (.inl (i49, l46)))
noncomputable def F_laws_markInt64SS_k2  (i95 : Int) (l98 : (List (List Int))) : Option (Int × (List (List Int))) :=
  some (i95, l98)
noncomputable def F_laws_markInt64SS (a0 : (List (List Int))) (a1 : Int) : Option (Int × (List (List Int))) :=
  bnd (lp (fun s => F_laws_markInt64SS_l1 s.1 s.2.1 s.2.2) (a0, a1, 0)) (fun j => F_laws_markInt64SS_k2 j.1 j.2)
noncomputable def F_laws_markGraph (a0_0 : (List (List Int))) (a1 : Int) : Option (Int × (List (List Int))) :=
  cal (F_laws_markInt64SS a0_0 a1) (fun x11 =>
    some (x11.1, x11.2))
noncomputable def F_laws_heldInt64S_l1 (a0 : (List Int)) (i27 : Int) (i29 : Int) : Option ((Int × Int) ⊕ (Int ⊕ Int)) :=
  if i29 < (a0.length : Int) then
    idx a0 i29 (fun x68 =>
      if x68 ≠ i27 then
        some (.inr (.inr (-1)))
      else
        ck (i27 + 1) (fun _ =>
          ck (i29 + 1) (fun _ =>
            some (.inl (i27 + 1, i29 + 1)))))
  else
    some (.inr (.inl i27))
noncomputable def F_laws_heldInt64S_k2  (i56 : Int) : Option Int :=
  some i56
noncomputable def F_laws_heldInt64S (a0 : (List Int)) (a1 : Int) : Option Int :=
  bnd (lp (fun s => F_laws_heldInt64S_l1 a0 s.1 s.2) (a1, 0)) (fun j => F_laws_heldInt64S_k2 j)
noncomputable def F_laws_FnExactOuterRing (a0_0 : (List (List Int))) : Option Bool :=
  cal (F_laws_szGraph a0_0 1048576) (fun x9 =>
    if x9 < 0 then
      some true
    else
      cal (F_laws_toGraph a0_0) (fun x17 =>
        cal (F_spec_OuterRing x17) (fun x39 =>
          cal (F_laws_toGraph a0_0) (fun x52 =>
            cal (F_impl_OuterRing x52) (fun x93 =>
              cal (F_laws_eqInt64S x93.1 x39.1) (fun x128 =>
                if ¬ (x128 = true) then
                  some false
                else
                  if (x93.2 != x39.2) = true then
                    some false
                  else
                    cal (F_laws_toGraph a0_0) (fun x139 =>
                      cal (F_laws_eqGraph x52 x139) (fun x178 =>
                        if ¬ (x178 = true) then
                          some false
                        else
                          cal (F_laws_markGraph x52 1) (fun x184 =>
                            if x184.1 < 0 then
                              some false
                            else
                              cal (F_laws_eqInt64S x93.1 x39.1) (fun x208 =>
                                if ¬ (x208 = true) then
                                  some false
                                else
                                  if (x93.2 != x39.2) = true then
                                    some false
                                  else
                                    cal (F_laws_markInt64S x93.1 1) (fun x216 =>
                                      cal (F_laws_heldInt64S x216.2 1) (fun x227 =>
                                        if x227 < 0 then
                                          some false
                                        else
                                          if x227 ≠ x216.1 then
                                            some false
                                          else
                                            cal (F_laws_toGraph a0_0) (fun x236 =>
                                              cal (F_impl_OuterRing x236) (fun x263 =>
                                                cal (F_laws_eqInt64S x263.1 x39.1) (fun x298 =>
                                                  if ¬ (x298 = true) then
                                                    some false
                                                  else
                                                    if (x263.2 != x39.2) = true then
                                                      some false
                                                    else
                                                      cal (F_laws_heldInt64S x216.2 1) (fun x309 =>
                                                        if x309 < 0 then
                                                          some false
                                                        else
                                                          if x309 ≠ x216.1 then
                                                            some false
                                                          else
                                                            some true))))))))))))))))
end Go.Proofs.YtkhaolpofeehoaaDoor
