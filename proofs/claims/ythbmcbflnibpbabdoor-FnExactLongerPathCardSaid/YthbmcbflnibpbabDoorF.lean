/- Functional forms, printed by gen.py. -/
import Derived.Test.YthbmcbflnibpbabDoorPure
namespace Go.Proofs.YthbmcbflnibpbabDoor

noncomputable def F_laws_szInt64S (a0 : (List Int)) (a1 : Int) : Option Int :=
  ck (a1 - (a0.length : Int)) (fun _ =>
    if (a1 - (a0.length : Int)) < 0 then
      some (-1)
    else
      some (a1 - (a0.length : Int)))
noncomputable def F_laws_szInt64SS_l1 (a0 : (List (List Int))) (i37 : Int) (i39 : Int) : Option ((Int × Int) ⊕ (Int ⊕ Int)) :=
  if i39 < (a0.length : Int) then
    idx a0 i39 (fun x85 =>
      cal (F_laws_szInt64S x85 i37) (fun x99 =>
        if x99 < 0 then
          some (.inr (.inr (-1)))
        else
          ck (i39 + 1) (fun _ =>
            some (.inl (x99, i39 + 1)))))
  else
    some (.inr (.inl i37))
noncomputable def F_laws_szInt64SS_k2  (i73 : Int) : Option Int :=
  some i73
noncomputable def F_laws_szInt64SS (a0 : (List (List Int))) (a1 : Int) : Option Int :=
  ck (a1 - (a0.length : Int)) (fun _ =>
    if (a1 - (a0.length : Int)) < 0 then
      some (-1)
    else
      bnd (lp (fun s => F_laws_szInt64SS_l1 a0 s.1 s.2) (a1 - (a0.length : Int), 0)) (fun j => F_laws_szInt64SS_k2 j))
noncomputable def F_laws_szGraph (a0_0 : (List (List Int))) (a1 : Int) : Option Int :=
  cal (F_laws_szInt64SS a0_0 a1) (fun x9 =>
    if x9 < 0 then
      some (-1)
    else
      some x9)
noncomputable def F_laws_toInt64S_l1 (a0 : (List Int)) (l63 : (List Int)) (i66 : Int) : Option (((List Int) × Int) ⊕ ((List Int) ⊕ (List Int))) :=
  if i66 < (a0.length : Int) then
    idx a0 i66 (fun x128 =>
      idx l63 i66 (fun x140 =>
        ck (i66 + 1) (fun _ =>
          some (.inl ((l63.set ((i66 : Int).toNat) x128), i66 + 1)))))
  else
    some (.inr (.inl l63))
noncomputable def F_laws_toInt64S_k2  (l115 : (List Int)) : Option (List Int) :=
  some l115
noncomputable def F_laws_toInt64S (a0 : (List Int)) : Option (List Int) :=
  mkS (a0.length : Int) (0 : Int) (fun _ =>
    bnd (lp (fun s => F_laws_toInt64S_l1 a0 s.1 s.2) ((List.replicate ((a0.length : Int) : Int).toNat (0 : Int)), 0)) (fun j => F_laws_toInt64S_k2 j))
noncomputable def F_laws_toInt64SS_l1 (a0 : (List (List Int))) (l96 : (List (List Int))) (i99 : Int) : Option (((List (List Int)) × Int) ⊕ ((List (List Int)) ⊕ (List (List Int)))) :=
  if i99 < (a0.length : Int) then
    idx a0 i99 (fun x191 =>
      cal (F_laws_toInt64S x191) (fun x205 =>
        idx l96 i99 (fun x219 =>
          ck (i99 + 1) (fun _ =>
            some (.inl ((l96.set ((i99 : Int).toNat) x205), i99 + 1))))))
  else
    some (.inr (.inl l96))
noncomputable def F_laws_toInt64SS_k2  (l178 : (List (List Int))) : Option (List (List Int)) :=
  some l178
noncomputable def F_laws_toInt64SS (a0 : (List (List Int))) : Option (List (List Int)) :=
  mkS (a0.length : Int) ([] : (List Int)) (fun _ =>
    bnd (lp (fun s => F_laws_toInt64SS_l1 a0 s.1 s.2) ((List.replicate ((a0.length : Int) : Int).toNat ([] : (List Int))), 0)) (fun j => F_laws_toInt64SS_k2 j))
noncomputable def F_laws_toGraph (a0_0 : (List (List Int))) : Option (List (List Int)) :=
  cal (F_laws_toInt64SS a0_0) (fun x31 =>
    some x31)
noncomputable def F_spec_l1Size (a0_0 : (List (List Int))) : Option Int :=
  some (a0_0.length : Int)
noncomputable def F_spec_l1In (a0 : Int) (a1 : Int) (a2 : Int) : Option Bool :=
  if a1 ≤ a0 then
    some (decide (a0 ≤ a2))
  else
    some false
noncomputable def F_spec_l1Set_l1 (a0 : (List Int)) (a1 : Int) (i69 : Int) : Option (Int ⊕ (Unit ⊕ Bool)) :=
  if i69 < (a0.length : Int) then
    idx a0 i69 (fun x147 =>
      ck (a1 - 1) (fun _ =>
        cal (F_spec_l1In x147 0 (a1 - 1)) (fun x163 =>
          if ¬ (x163 = true) then
            some (.inr (.inr false))
          else
            if 0 < i69 then
              idx a0 i69 (fun x172 =>
                ck (i69 - 1) (fun _ =>
                  idx a0 (i69 - 1) (fun x186 =>
                    if x172 ≤ x186 then
                      some (.inr (.inr false))
                    else
                      ck (i69 + 1) (fun _ =>
                        some (.inl (i69 + 1))))))
            else
              ck (i69 + 1) (fun _ =>
                some (.inl (i69 + 1))))))
  else
    some (.inr (.inl ()))
noncomputable def F_spec_l1Set_k2   : Option Bool :=
  some true
noncomputable def F_spec_l1Set (a0 : (List Int)) (a1 : Int) : Option Bool :=
  if a1 < (a0.length : Int) then
    some false
  else
    bnd (lp (fun s => F_spec_l1Set_l1 a0 a1 s) 0) (fun j => F_spec_l1Set_k2 )
noncomputable def F_spec_l1Has_l1 (a0 : (List Int)) (a1 : Int) (i23 : Int) : Option (Int ⊕ (Unit ⊕ Bool)) :=
  if i23 < (a0.length : Int) then
    idx a0 i23 (fun x56 =>
      if x56 = a1 then
        some (.inr (.inr true))
      else
        ck (i23 + 1) (fun _ =>
          some (.inl (i23 + 1))))
  else
    some (.inr (.inl ()))
noncomputable def F_spec_l1Has_k2   : Option Bool :=
  some false
noncomputable def F_spec_l1Has (a0 : (List Int)) (a1 : Int) : Option Bool :=
  bnd (lp (fun s => F_spec_l1Has_l1 a0 a1 s) 0) (fun j => F_spec_l1Has_k2 )
noncomputable def F_spec_GraphOk_l1 (a0_0 : (List (List Int))) (x9 : Int) (i80 : Int) : Option (Int ⊕ (Unit ⊕ Bool)) :=
  if i80 < x9 then
    idx a0_0 i80 (fun x146 =>
      cal (F_spec_l1Set x146 x9) (fun x160 =>
        if ¬ (x160 = true) then
          some (.inr (.inr false))
        else
          idx a0_0 i80 (fun x169 =>
            cal (F_spec_l1Has x169 i80) (fun x183 =>
              if x183 = true then
                some (.inr (.inr false))
              else
                ck (i80 + 1) (fun _ =>
                  some (.inl (i80 + 1)))))))
  else
    some (.inr (.inl ()))
noncomputable def F_spec_GraphOk_l4 (a0_0 : (List (List Int))) (i436 : Int) (i762 : Int) : Option (Int ⊕ (Unit ⊕ (Int ⊕ (Unit ⊕ Bool)))) :=
  idx a0_0 i436 (fun x847 =>
    if i762 < (x847.length : Int) then
      idx a0_0 i436 (fun x862 =>
        idx x862 i762 (fun x876 =>
          idx a0_0 x876 (fun x888 =>
            cal (F_spec_l1Has x888 i436) (fun x904 =>
              if ¬ (x904 = true) then
                some (.inr (.inr (.inr (.inr false))))
              else
                ck (i762 + 1) (fun _ =>
                  some (.inl (i762 + 1)))))))
    else
      some (.inr (.inl ())))
noncomputable def F_spec_GraphOk_k5 (i436 : Int)  : Option (Int ⊕ (Unit ⊕ Bool)) :=
  ck (i436 + 1) (fun _ =>
    some (.inl (i436 + 1)))
noncomputable def F_spec_GraphOk_l3 (a0_0 : (List (List Int))) (x9 : Int) (i436 : Int) : Option (Int ⊕ (Unit ⊕ Bool)) :=
  if i436 < x9 then
    bnd (lp (fun s => F_spec_GraphOk_l4 a0_0 i436 s) 0) (fun j => F_spec_GraphOk_k5 i436 )
  else
    some (.inr (.inl ()))
noncomputable def F_spec_GraphOk_k6   : Option Bool :=
  some true
noncomputable def F_spec_GraphOk_k2 (a0_0 : (List (List Int))) (x9 : Int)  : Option Bool :=
  bnd (lp (fun s => F_spec_GraphOk_l3 a0_0 x9 s) 0) (fun j => F_spec_GraphOk_k6 )
noncomputable def F_spec_GraphOk (a0_0 : (List (List Int))) : Option Bool :=
  cal (F_spec_l1Size a0_0) (fun x9 =>
    cal (F_spec_l1In x9 1 16) (fun x16 =>
      if ¬ (x16 = true) then
        some false
      else
        bnd (lp (fun s => F_spec_GraphOk_l1 a0_0 x9 s) 0) (fun j => F_spec_GraphOk_k2 a0_0 x9 )))
noncomputable def F_spec_l1There (a0_0 : (List (List Int))) (a1 : Int) : Option Bool :=
  cal (F_spec_l1Size a0_0) (fun x9 =>
    ck (x9 - 1) (fun _ =>
      cal (F_spec_l1In a1 0 (x9 - 1)) (fun x18 =>
        some x18)))
noncomputable def F_spec_l1Edge (a0_0 : (List (List Int))) (a1 : Int) (a2 : Int) : Option Bool :=
  idx a0_0 a1 (fun x9 =>
    cal (F_spec_l1Has x9 a2) (fun x23 =>
      some x23))
noncomputable def F_spec_EdgeIn (a0_0 : (List (List Int))) (a1 : Int) (a2 : Int) : Option Bool :=
  cal (F_spec_GraphOk a0_0) (fun x9 =>
    if x9 = true then
      cal (F_spec_l1There a0_0 a1) (fun x16 =>
        if x16 = true then
          cal (F_spec_l1There a0_0 a2) (fun x23 =>
            if x23 = true then
              cal (F_spec_l1Edge a0_0 a1 a2) (fun x30 =>
                some x30)
            else
              some false)
        else
          some false)
    else
      some false)
noncomputable def F_spec_MatchOk_l1 (a0_0 : (List (List Int))) (a1 : (List (List Int))) (l367 : (List Int)) (i370 : Int) : Option (((List Int) × Int) ⊕ (Unit ⊕ Bool)) :=
  if i370 < (a1.length : Int) then
    idx a1 i370 (fun x702 =>
      if (x702.length : Int) ≠ 2 then
        some (.inr (.inr false))
      else
        idx x702 0 (fun x722 =>
          idx x702 1 (fun x734 =>
            if x734 ≤ x722 then
              some (.inr (.inr false))
            else
              idx x702 0 (fun x752 =>
                idx x702 1 (fun x764 =>
                  cal (F_spec_EdgeIn a0_0 x752 x764) (fun x778 =>
                    if ¬ (x778 = true) then
                      some (.inr (.inr false))
                    else
                      idx x702 0 (fun x786 =>
                        cal (F_spec_l1Has l367 x786) (fun x803 =>
                          if x803 = true then
                            some (.inr (.inr false))
                          else
                            idx x702 1 (fun x811 =>
                              cal (F_spec_l1Has l367 x811) (fun x828 =>
                                if x828 = true then
                                  some (.inr (.inr false))
                                else
                                  if 0 < i370 then
                                    idx x702 0 (fun x837 =>
                                      ck (i370 - 1) (fun _ =>
                                        idx a1 (i370 - 1) (fun x851 =>
                                          idx x851 0 (fun x865 =>
                                            if x837 ≤ x865 then
                                              some (.inr (.inr false))
                                            else
                                              idx x702 0 (fun x883 =>
                                                idx x702 1 (fun x895 =>
                                                  app l367 ([x883, x895]) (fun _ =>
                                                    ck (i370 + 1) (fun _ =>
                                                      some (.inl ((l367 ++ ([x883, x895])), i370 + 1))))))))))
                                  else
                                    idx x702 0 (fun x951 =>
                                      idx x702 1 (fun x963 =>
                                        app l367 ([x951, x963]) (fun _ =>
                                          ck (i370 + 1) (fun _ =>
                                            some (.inl ((l367 ++ ([x951, x963])), i370 + 1))))))))))))))))
  else
    some (.inr (.inl ()))
noncomputable def F_spec_MatchOk_k2   : Option Bool :=
  some true
noncomputable def F_spec_MatchOk (a0_0 : (List (List Int))) (a1 : (List (List Int))) : Option Bool :=
  cal (F_spec_GraphOk a0_0) (fun x17 =>
    if ¬ (x17 = true) then
      some false
    else
      if 16 < (a1.length : Int) then
        some false
      else
        bnd (lp (fun s => F_spec_MatchOk_l1 a0_0 a1 s.1 s.2) (([] : (List Int)), 0)) (fun j => F_spec_MatchOk_k2 ))
noncomputable def F_spec_l26None_l1 (a0 : Int) (l54 : (List Int)) (i57 : Int) : Option (((List Int) × Int) ⊕ ((List Int) ⊕ (List Int))) :=
  if i57 < a0 then
    app l54 ([(-1)]) (fun _ =>
      ck (i57 + 1) (fun _ =>
        some (.inl ((l54 ++ ([(-1)])), i57 + 1))))
  else
    some (.inr (.inl l54))
noncomputable def F_spec_l26None_k2  (l99 : (List Int)) : Option (List Int) :=
  some l99
noncomputable def F_spec_l26None (a0 : Int) : Option (List Int) :=
  bnd (lp (fun s => F_spec_l26None_l1 a0 s.1 s.2) (([] : (List Int)), 0)) (fun j => F_spec_l26None_k2 j)
noncomputable def F_spec_l27Mates_l1 (a1 : (List (List Int))) (l195 : (List Int)) (i198 : Int) : Option (((List Int) × Int) ⊕ ((List Int) ⊕ (List Int))) :=
  if i198 < (a1.length : Int) then
    idx a1 i198 (fun x382 =>
      idx x382 0 (fun x396 =>
        idx a1 i198 (fun x408 =>
          idx x408 1 (fun x422 =>
            idx l195 x396 (fun x434 =>
              idx a1 i198 (fun x458 =>
                idx x458 1 (fun x472 =>
                  idx a1 i198 (fun x484 =>
                    idx x484 0 (fun x498 =>
                      idx (l195.set ((x396 : Int).toNat) x422) x472 (fun x510 =>
                        ck (i198 + 1) (fun _ =>
                          some (.inl (((l195.set ((x396 : Int).toNat) x422).set ((x472 : Int).toNat) x498), i198 + 1)))))))))))))
  else
    some (.inr (.inl l195))
noncomputable def F_spec_l27Mates_k2  (l369 : (List Int)) : Option (List Int) :=
  some l369
noncomputable def F_spec_l27Mates (a0_0 : (List (List Int))) (a1 : (List (List Int))) : Option (List Int) :=
  cal (F_spec_l26None (a0_0.length : Int)) (fun x9 =>
    bnd (lp (fun s => F_spec_l27Mates_l1 a1 s.1 s.2) (x9, 0)) (fun j => F_spec_l27Mates_k2 j))
noncomputable def F_spec_l1Copy (a0 : (List Int)) : Option (List Int) :=
  app ([] : (List Int)) a0 (fun _ =>
    some (([] : (List Int)) ++ a0))
noncomputable def F_spec_l27Way_l1 (a0_0 : (List (List Int))) (a1 : (List Int)) (a2 : (List Int)) (a3 : Int) (rc : (List (List Int)) → (List Int) → (List Int) → Int → Option ((List Int) × Bool)) (x11 : Int) (i205 : Int) : Option (Int ⊕ (Unit ⊕ ((List Int) × Bool))) :=
  idx a0_0 x11 (fun x393 =>
    if i205 < (x393.length : Int) then
      idx a0_0 x11 (fun x409 =>
        idx x409 i205 (fun x424 =>
          cal (F_spec_l1Has a2 x424) (fun x456 =>
            if x456 = true then
              ck (i205 + 1) (fun _ =>
                some (.inl (i205 + 1)))
            else
              idx a1 x424 (fun x465 =>
                if ((decide (a3 = 1)) != (decide (x465 < 0))) = true then
                  ck (i205 + 1) (fun _ =>
                    some (.inl (i205 + 1)))
                else
                  if a3 = 1 then
                    cal (F_spec_l1Copy a2) (fun x481 =>
                      app x481 ([x424]) (fun _ =>
                        some (.inr (.inr ((x481 ++ ([x424])), true)))))
                  else
                    idx a1 x424 (fun x526 =>
                      cal (F_spec_l1Has a2 x526) (fun x538 =>
                        if x538 = true then
                          ck (i205 + 1) (fun _ =>
                            some (.inl (i205 + 1)))
                        else
                          idx a1 x424 (fun x548 =>
                            ck (a3 - 1) (fun _ =>
                              cal (F_spec_l1Copy a2) (fun xqr3o3_1 =>
                                app xqr3o3_1 ([x424, x548]) (fun _ =>
                                  cal (rc a0_0 a1 (xqr3o3_1 ++ ([x424, x548])) (a3 - 1)) (fun xqr3o13_1 =>
                                    if xqr3o13_1.2 = true then
                                      some (.inr (.inr (xqr3o13_1.1, true)))
                                    else
                                      ck (i205 + 1) (fun _ =>
                                        some (.inl (i205 + 1))))))))))))))
    else
      some (.inr (.inl ())))
noncomputable def F_spec_l27Way_k2 (a2 : (List Int))  : Option ((List Int) × Bool) :=
  some (a2, false)
noncomputable def F_spec_l27Way_body (rc : (List (List Int)) → (List Int) → (List Int) → Int → Option ((List Int) × Bool)) (a0_0 : (List (List Int))) (a1 : (List Int)) (a2 : (List Int)) (a3 : Int) : Option ((List Int) × Bool) :=
  ck ((a2.length : Int) - 1) (fun _ =>
    idx a2 ((a2.length : Int) - 1) (fun x11 =>
      bnd (lp (fun s => F_spec_l27Way_l1 a0_0 a1 a2 a3 rc x11 s) 0) (fun j => F_spec_l27Way_k2 a2 )))
noncomputable def F_spec_l27Way (a0_0 : (List (List Int))) (a1 : (List Int)) (a2 : (List Int)) (a3 : Int) : Option ((List Int) × Bool) := fixO (fun (rc : ((List (List Int)) × (List Int) × (List Int) × Int) → Option ((List Int) × Bool)) a => F_spec_l27Way_body (fun z0 z1 z2 z3 => rc (z0, z1, z2, z3)) a.1 a.2.1 a.2.2.1 a.2.2.2) (a0_0, a1, a2, a3)
noncomputable def F_spec_LongerPath_l2 (a0_0 : (List (List Int))) (x30 : (List Int)) (i307 : Int) (i658 : Int) : Option (Int ⊕ (Unit ⊕ (Int ⊕ (Unit ⊕ (List Int))))) :=
  cal (F_spec_l1Size a0_0) (fun x749 =>
    if i658 < x749 then
      idx x30 i658 (fun x757 =>
        if 0 ≤ x757 then
          ck (i658 + 1) (fun _ =>
            some (.inl (i658 + 1)))
        else
          cal (F_spec_l27Way a0_0 x30 ([i658]) i307) (fun x791 =>
            if x791.2 = true then
              some (.inr (.inr (.inr (.inr x791.1))))
            else
              ck (i658 + 1) (fun _ =>
                some (.inl (i658 + 1)))))
    else
      some (.inr (.inl ())))
noncomputable def F_spec_LongerPath_k3 (i307 : Int)  : Option (Int ⊕ (Unit ⊕ (List Int))) :=
  ck (i307 + 1) (fun _ =>
    some (.inl (i307 + 1)))
noncomputable def F_spec_LongerPath_l1 (a0_0 : (List (List Int))) (a1 : (List (List Int))) (x30 : (List Int)) (i307 : Int) : Option (Int ⊕ (Unit ⊕ (List Int))) :=
  ck ((a1.length : Int) + 1) (fun _ =>
    if i307 ≤ ((a1.length : Int) + 1) then
      bnd (lp (fun s => F_spec_LongerPath_l2 a0_0 x30 i307 s) 0) (fun j => F_spec_LongerPath_k3 i307 )
    else
      some (.inr (.inl ())))
noncomputable def F_spec_LongerPath_k4   : Option (List Int) :=
  some ([] : (List Int))
noncomputable def F_spec_LongerPath (a0_0 : (List (List Int))) (a1 : (List (List Int))) : Option (List Int) :=
  cal (F_spec_MatchOk a0_0 a1) (fun x9 =>
    if ¬ (x9 = true) then
      some ([] : (List Int))
    else
      cal (F_spec_l27Mates a0_0 a1) (fun x30 =>
        bnd (lp (fun s => F_spec_LongerPath_l1 a0_0 a1 x30 s) 1) (fun j => F_spec_LongerPath_k4 )))
noncomputable def F_impl_inRange (a0 : Int) (a1 : Int) (a2 : Int) : Option Bool :=
  if a1 ≤ a0 then
    some (decide (a0 ≤ a2))
  else
    some false
noncomputable def F_impl_increasing_l1 (a0 : (List Int)) (a1 : Int) (i49 : Int) : Option (Int ⊕ (Unit ⊕ Bool)) :=
  if i49 < (a0.length : Int) then
    idx a0 i49 (fun x108 =>
      ck (a1 - 1) (fun _ =>
        cal (F_impl_inRange x108 0 (a1 - 1)) (fun x122 =>
          if ¬ (x122 = true) then
            some (.inr (.inr false))
          else
            if 0 < i49 then
              ck (i49 - 1) (fun _ =>
                idx a0 (i49 - 1) (fun x134 =>
                  if x108 ≤ x134 then
                    some (.inr (.inr false))
                  else
                    ck (i49 + 1) (fun _ =>
                      some (.inl (i49 + 1)))))
            else
              ck (i49 + 1) (fun _ =>
                some (.inl (i49 + 1))))))
  else
    some (.inr (.inl ()))
noncomputable def F_impl_increasing_k2   : Option Bool :=
  some true
noncomputable def F_impl_increasing (a0 : (List Int)) (a1 : Int) : Option Bool :=
  bnd (lp (fun s => F_impl_increasing_l1 a0 a1 s) 0) (fun j => F_impl_increasing_k2 )
noncomputable def F_slices_Index_int64_l1 (a0 : (List Int)) (a1 : Int) (i23 : Int) : Option (Int ⊕ (Unit ⊕ Int)) :=
  if i23 < (a0.length : Int) then
    idx a0 i23 (fun x56 =>
      if a1 = x56 then
        some (.inr (.inr i23))
      else
        ck (i23 + 1) (fun _ =>
          some (.inl (i23 + 1))))
  else
    some (.inr (.inl ()))
noncomputable def F_slices_Index_int64_k2   : Option Int :=
  some (-1)
noncomputable def F_slices_Index_int64 (a0 : (List Int)) (a1 : Int) : Option Int :=
  bnd (lp (fun s => F_slices_Index_int64_l1 a0 a1 s) 0) (fun j => F_slices_Index_int64_k2 )
noncomputable def F_slices_Contains_int64 (a0 : (List Int)) (a1 : Int) : Option Bool :=
  cal (F_slices_Index_int64 a0 a1) (fun x1 =>
    some (decide (0 ≤ x1)))
noncomputable def F_impl_GraphOk_l1 (a0_0 : (List (List Int))) (i56 : Int) : Option (Int ⊕ (Unit ⊕ Bool)) :=
  if i56 < (a0_0.length : Int) then
    idx a0_0 i56 (fun x108 =>
      cal (F_impl_increasing x108 (a0_0.length : Int)) (fun x122 =>
        if ¬ (x122 = true) then
          some (.inr (.inr false))
        else
          cal (F_slices_Contains_int64 x108 i56) (fun x131 =>
            if x131 = true then
              some (.inr (.inr false))
            else
              ck (i56 + 1) (fun _ =>
                some (.inl (i56 + 1))))))
  else
    some (.inr (.inl ()))
noncomputable def F_impl_GraphOk_l4 (a0_0 : (List (List Int))) (i311 : Int) (x487 : (List Int)) (i549 : Int) : Option (Int ⊕ (Unit ⊕ (Int ⊕ (Unit ⊕ Bool)))) :=
  if i549 < (x487.length : Int) then
    idx x487 i549 (fun x606 =>
      idx a0_0 x606 (fun x618 =>
        cal (F_slices_Contains_int64 x618 i311) (fun x632 =>
          if ¬ (x632 = true) then
            some (.inr (.inr (.inr (.inr false))))
          else
            ck (i549 + 1) (fun _ =>
              some (.inl (i549 + 1))))))
  else
    some (.inr (.inl ()))
noncomputable def F_impl_GraphOk_k5 (i311 : Int)  : Option (Int ⊕ (Unit ⊕ Bool)) :=
  ck (i311 + 1) (fun _ =>
    some (.inl (i311 + 1)))
noncomputable def F_impl_GraphOk_l3 (a0_0 : (List (List Int))) (i311 : Int) : Option (Int ⊕ (Unit ⊕ Bool)) :=
  if i311 < (a0_0.length : Int) then
    idx a0_0 i311 (fun x487 =>
      bnd (lp (fun s => F_impl_GraphOk_l4 a0_0 i311 x487 s) 0) (fun j => F_impl_GraphOk_k5 i311 ))
  else
    some (.inr (.inl ()))
noncomputable def F_impl_GraphOk_k6   : Option Bool :=
  some true
noncomputable def F_impl_GraphOk_k2 (a0_0 : (List (List Int)))  : Option Bool :=
  bnd (lp (fun s => F_impl_GraphOk_l3 a0_0 s) 0) (fun j => F_impl_GraphOk_k6 )
noncomputable def F_impl_GraphOk (a0_0 : (List (List Int))) : Option Bool :=
  if (a0_0.length : Int) < 1 then
    some false
  else
    if 16 < (a0_0.length : Int) then
      some false
    else
      bnd (lp (fun s => F_impl_GraphOk_l1 a0_0 s) 0) (fun j => F_impl_GraphOk_k2 a0_0 )
noncomputable def F_impl_isVertex (a0_0 : (List (List Int))) (a1 : Int) : Option Bool :=
  cal (F_impl_GraphOk a0_0) (fun x9 =>
    if x9 = true then
      ck ((a0_0.length : Int) - 1) (fun _ =>
        cal (F_impl_inRange a1 0 ((a0_0.length : Int) - 1)) (fun x18 =>
          some x18))
    else
      some false)
noncomputable def F_impl_EdgeIn (a0_0 : (List (List Int))) (a1 : Int) (a2 : Int) : Option Bool :=
  cal (F_impl_isVertex a0_0 a1) (fun x9 =>
    if x9 = true then
      idx a0_0 a1 (fun x16 =>
        cal (F_slices_Contains_int64 x16 a2) (fun x30 =>
          some x30))
    else
      some false)
noncomputable def F_impl_isEdge (a0_0 : (List (List Int))) (a1 : (List Int)) : Option Bool :=
  if (a1.length : Int) = 2 then
    idx a1 0 (fun x10 =>
      idx a1 1 (fun x22 =>
        if x10 < x22 then
          idx a1 0 (fun x35 =>
            idx a1 1 (fun x47 =>
              cal (F_impl_EdgeIn a0_0 x35 x47) (fun x61 =>
                some x61)))
        else
          some false))
  else
    some false
noncomputable def F_impl_one (a0 : Int) : Option (BitVec 32) :=
  grd ((0 : Int) ≤ a0) (
    some ((1#32) <<< (a0 : Int).toNat))
noncomputable def F_impl_maskOf_l1 (a0 : (List Int)) (u29 : BitVec 32) (i30 : Int) : Option (((BitVec 32) × Int) ⊕ ((BitVec 32) ⊕ (BitVec 32))) :=
  if i30 < (a0.length : Int) then
    idx a0 i30 (fun x70 =>
      cal (F_impl_one x70) (fun x82 =>
        ck (i30 + 1) (fun _ =>
          some (.inl (u29 ||| x82, i30 + 1)))))
  else
    some (.inr (.inl u29))
noncomputable def F_impl_maskOf_k2  (u59 : BitVec 32) : Option (BitVec 32) :=
  some u59
noncomputable def F_impl_maskOf (a0 : (List Int)) : Option (BitVec 32) :=
  bnd (lp (fun s => F_impl_maskOf_l1 a0 s.1 s.2) (0#32, 0)) (fun j => F_impl_maskOf_k2 j)
noncomputable def F_impl_MatchOk_l1 (a0_0 : (List (List Int))) (a1 : (List (List Int))) (u124 : BitVec 32) (i125 : Int) : Option (((BitVec 32) × Int) ⊕ (Unit ⊕ Bool)) :=
  if i125 < (a1.length : Int) then
    idx a1 i125 (fun x240 =>
      cal (F_impl_isEdge a0_0 x240) (fun x256 =>
        if ¬ (x256 = true) then
          some (.inr (.inr false))
        else
          cal (F_impl_maskOf x240) (fun x266 =>
            if (x266 &&& u124) ≠ (0#32) then
              some (.inr (.inr false))
            else
              if 0 < i125 then
                ck (i125 - 1) (fun _ =>
                  idx a1 (i125 - 1) (fun x277 =>
                    idx x277 0 (fun x291 =>
                      idx x240 0 (fun x303 =>
                        if x303 ≤ x291 then
                          some (.inr (.inr false))
                        else
                          cal (F_impl_maskOf x240) (fun x321 =>
                            ck (i125 + 1) (fun _ =>
                              some (.inl (u124 ||| x321, i125 + 1))))))))
              else
                cal (F_impl_maskOf x240) (fun x332 =>
                  ck (i125 + 1) (fun _ =>
                    some (.inl (u124 ||| x332, i125 + 1)))))))
  else
    some (.inr (.inl ()))
noncomputable def F_impl_MatchOk_k2   : Option Bool :=
  some true
noncomputable def F_impl_MatchOk (a0_0 : (List (List Int))) (a1 : (List (List Int))) : Option Bool :=
  cal (F_impl_GraphOk a0_0) (fun x9 =>
    if ¬ (x9 = true) then
      some false
    else
      bnd (lp (fun s => F_impl_MatchOk_l1 a0_0 a1 s.1 s.2) (0#32, 0)) (fun j => F_impl_MatchOk_k2 ))
noncomputable def F_impl_netsOf_l1 (a0_0 : (List (List Int))) (l84 : (List (BitVec 32))) (i87 : Int) : Option (((List (BitVec 32)) × Int) ⊕ ((List (BitVec 32)) ⊕ (List (BitVec 32)))) :=
  if i87 < (a0_0.length : Int) then
    idx a0_0 i87 (fun x162 =>
      cal (F_impl_maskOf x162) (fun x176 =>
        app l84 ([x176]) (fun _ =>
          ck (i87 + 1) (fun _ =>
            some (.inl ((l84 ++ ([x176])), i87 + 1))))))
  else
    some (.inr (.inl l84))
noncomputable def F_impl_netsOf_k2  (l149 : (List (BitVec 32))) : Option (List (BitVec 32)) :=
  some l149
noncomputable def F_impl_netsOf (a0_0 : (List (List Int))) : Option (List (BitVec 32)) :=
  bnd (lp (fun s => F_impl_netsOf_l1 a0_0 s.1 s.2) (([] : (List (BitVec 32))), 0)) (fun j => F_impl_netsOf_k2 j)
noncomputable def F_impl_firstOf (a0 : Int) : Option (BitVec 32) :=
  grd ((0 : Int) ≤ a0) (
    some (((1#32) <<< (a0 : Int).toNat) - (1#32)))
noncomputable def F_impl_nets_all (a0 : (List (BitVec 32))) : Option (BitVec 32) :=
  cal (F_impl_firstOf (a0.length : Int)) (fun x1 =>
    some x1)
noncomputable def F_math_bits_TrailingZeros32 (a0 : BitVec 32) : Option Int :=
  if a0 = (0#32) then
    some 32
  else
    idx deBruijn32 (BitVec.toNat (((a0 &&& (-a0)) * (125613361#32)) >>> (27 : Int).toNat) : Int) (fun x2 =>
      some (BitVec.toNat x2 : Int))
noncomputable def F_impl_vset_least (a0 : BitVec 32) : Option Int :=
  cal (F_math_bits_TrailingZeros32 a0) (fun x1 =>
    some x1)
noncomputable def F_impl_vset_list_l1  (u55 : BitVec 32) (l59 : (List Int)) : Option (((BitVec 32) × (List Int)) ⊕ ((List Int) ⊕ (List Int))) :=
  if u55 ≠ (0#32) then
    cal (F_impl_vset_least u55) (fun x119 =>
      app l59 ([x119]) (fun _ =>
        some (.inl (u55 &&& (u55 - (1#32)), (l59 ++ ([x119]))))))
  else
    some (.inr (.inl l59))
noncomputable def F_impl_vset_list_k2  (l106 : (List Int)) : Option (List Int) :=
  some l106
noncomputable def F_impl_vset_list (a0 : BitVec 32) : Option (List Int) :=
  bnd (lp (fun s => F_impl_vset_list_l1 s.1 s.2) (a0, ([] : (List Int)))) (fun j => F_impl_vset_list_k2 j)
noncomputable def F_impl_onSets_l2 (l444 : (List Int)) (u447 : BitVec 32) (x878 : (BitVec 32)) (x906 : (List Int)) (l1030 : (List Int)) (i1036 : Int) : Option (((List Int) × Int) ⊕ ((List Int) ⊕ (((List Int) × (BitVec 32)) ⊕ ((List Int) ⊕ (List Int))))) :=
  if i1036 < (x906.length : Int) then
    idx x906 i1036 (fun x1152 =>
      cal (F_impl_one x1152) (fun x1164 =>
        idx l444 (BitVec.toNat ((u447 &&& ~~~x878) &&& ~~~x1164) : Int) (fun x1170 =>
          app l1030 ([x1170]) (fun _ =>
            ck (i1036 + 1) (fun _ =>
              some (.inl ((l1030 ++ ([x1170])), i1036 + 1)))))))
  else
    some (.inr (.inl l1030))
noncomputable def F_impl_onSets_k3 (a2 : Int → (List Int) → Option Int) (l444 : (List Int)) (u447 : BitVec 32) (x878 : (BitVec 32)) (l1137 : (List Int)) : Option (((List Int) × (BitVec 32)) ⊕ ((List Int) ⊕ (List Int))) :=
  idx l444 (BitVec.toNat (u447 &&& ~~~x878) : Int) (fun x1215 =>
    cal (a2 x1215 l1137) (fun x1230 =>
      idx l444 (BitVec.toNat u447 : Int) (fun x1237 =>
        some (.inl ((l444.set (((BitVec.toNat u447 : Int) : Int).toNat) x1230), u447 + (1#32))))))
noncomputable def F_impl_onSets_l1 (a0 : (List (BitVec 32))) (a2 : Int → (List Int) → Option Int) (l444 : (List Int)) (u447 : BitVec 32) : Option (((List Int) × (BitVec 32)) ⊕ ((List Int) ⊕ (List Int))) :=
  cal (F_impl_nets_all a0) (fun x864 =>
    if u447 ≤ x864 then
      cal (F_impl_vset_least u447) (fun x871 =>
        cal (F_impl_one x871) (fun x878 =>
          idx a0 x871 (fun x895 =>
            cal (F_impl_vset_list (x895 &&& (u447 &&& ~~~x878))) (fun x906 =>
              bnd (lp (fun s => F_impl_onSets_l2 l444 u447 x878 x906 s.1 s.2) (([] : (List Int)), 0)) (fun j => F_impl_onSets_k3 a2 l444 u447 x878 j)))))
    else
      some (.inr (.inl l444)))
noncomputable def F_impl_onSets_k4  (l852 : (List Int)) : Option (List Int) :=
  some l852
noncomputable def F_impl_onSets (a0 : (List (BitVec 32))) (a1 : Int) (a2 : Int → (List Int) → Option Int) : Option (List Int) :=
  cal (F_impl_nets_all a0) (fun x1 =>
    mkS (BitVec.toNat (x1 + (1#32)) : Int) (0 : Int) (fun _ =>
      idx (List.replicate ((BitVec.toNat (x1 + (1#32)) : Int) : Int).toNat (0 : Int)) 0 (fun x18 =>
        bnd (lp (fun s => F_impl_onSets_l1 a0 a2 s.1 s.2) (((List.replicate ((BitVec.toNat (x1 + (1#32)) : Int) : Int).toNat (0 : Int)).set ((0 : Int).toNat) a1), 1#32)) (fun j => F_impl_onSets_k4 j))))
noncomputable def F_impl_mostEdges_1_l1 (a1 : (List Int)) (i26 : Int) (i28 : Int) : Option ((Int × Int) ⊕ (Int ⊕ Int)) :=
  if i28 < (a1.length : Int) then
    idx a1 i28 (fun x66 =>
      ck (x66 + 1) (fun _ =>
        ck (i28 + 1) (fun _ =>
          some (.inl (max i26 (x66 + 1), i28 + 1)))))
  else
    some (.inr (.inl i26))
noncomputable def F_impl_mostEdges_1_k2  (i54 : Int) : Option Int :=
  some i54
noncomputable def F_impl_mostEdges_1 (a0 : Int) (a1 : (List Int)) : Option Int :=
  bnd (lp (fun s => F_impl_mostEdges_1_l1 a1 s.1 s.2) (a0, 0)) (fun j => F_impl_mostEdges_1_k2 j)
noncomputable def F_impl_mostEdges (a0 : (List (BitVec 32))) : Option (List Int) :=
  cal (F_impl_onSets a0 0 (fun (z1 : Int) (z2 : (List Int)) => F_impl_mostEdges_1 z1 z2)) (fun x4 =>
    some x4)
noncomputable def F_impl_mates_l1 (a0 : Int) (l51 : (List Int)) (i54 : Int) : Option (((List Int) × Int) ⊕ ((List Int) ⊕ (List Int))) :=
  if i54 < ((List.replicate (a0 : Int).toNat (0 : Int)).length : Int) then
    idx l51 i54 (fun x104 =>
      ck (i54 + 1) (fun _ =>
        some (.inl ((l51.set ((i54 : Int).toNat) (-1)), i54 + 1))))
  else
    some (.inr (.inl l51))
noncomputable def F_impl_mates_l3 (a1 : (List (List Int))) (l255 : (List Int)) (i258 : Int) : Option (((List Int) × Int) ⊕ ((List Int) ⊕ (List Int))) :=
  if i258 < (a1.length : Int) then
    idx a1 i258 (fun x400 =>
      idx x400 0 (fun x414 =>
        idx x400 1 (fun x426 =>
          idx x400 1 (fun x438 =>
            idx x400 0 (fun x450 =>
              idx l255 x414 (fun x462 =>
                idx (l255.set ((x414 : Int).toNat) x438) x426 (fun x486 =>
                  ck (i258 + 1) (fun _ =>
                    some (.inl (((l255.set ((x414 : Int).toNat) x438).set ((x426 : Int).toNat) x450), i258 + 1))))))))))
  else
    some (.inr (.inl l255))
noncomputable def F_impl_mates_k4  (l387 : (List Int)) : Option (List Int) :=
  some l387
noncomputable def F_impl_mates_k2 (a1 : (List (List Int))) (l91 : (List Int)) : Option (List Int) :=
  bnd (lp (fun s => F_impl_mates_l3 a1 s.1 s.2) (l91, 0)) (fun j => F_impl_mates_k4 j)
noncomputable def F_impl_mates (a0 : Int) (a1 : (List (List Int))) : Option (List Int) :=
  mkS a0 (0 : Int) (fun _ =>
    bnd (lp (fun s => F_impl_mates_l1 a0 s.1 s.2) ((List.replicate (a0 : Int).toNat (0 : Int)), 0)) (fun j => F_impl_mates_k2 a1 j))
noncomputable def F_slices_Clone_int (a0 : (List Int)) : Option (List Int) :=
  app ([] : (List Int)) a0 (fun _ =>
    some (([] : (List Int)) ++ a0))
noncomputable def F_impl_vset_has (a0 : BitVec 32) (a1 : Int) : Option Bool :=
  grd ((0 : Int) ≤ a1) (
    some (decide (((a0 >>> (a1 : Int).toNat) &&& (1#32)) = (1#32))))
noncomputable def F_impl_longer_l1 (a0 : (List (BitVec 32))) (a1 : (List Int)) (a2 : (List Int)) (a3 : BitVec 32) (a4 : Int) (rc : (List (BitVec 32)) → (List Int) → (List Int) → (BitVec 32) → Int → Option (List Int)) (x3 : Int) (x26 : (List Int)) (i204 : Int) : Option (Int ⊕ (Unit ⊕ (List Int))) :=
  if i204 < (x26.length : Int) then
    idx x26 i204 (fun x376 =>
      cal (F_slices_Clone_int a2) (fun x388 =>
        app x388 ([x376]) (fun _ =>
          idx a1 x376 (fun x428 =>
            if x428 < 0 then
              if ((x388 ++ ([x376])).length : Int) = a4 then
                grd ((x388 ++ ([x376])) ≠ []) (some (.inr (.inr (x388 ++ ([x376])))))
              else
                ck (i204 + 1) (fun _ =>
                  some (.inl (i204 + 1)))
            else
              ck (((x388 ++ ([x376])).length : Int) + 1) (fun _ =>
                if a4 ≤ (((x388 ++ ([x376])).length : Int) + 1) then
                  ck (i204 + 1) (fun _ =>
                    some (.inl (i204 + 1)))
                else
                  idx a1 x3 (fun x487 =>
                    if x487 = x376 then
                      ck (i204 + 1) (fun _ =>
                        some (.inl (i204 + 1)))
                    else
                      idx a1 x376 (fun x502 =>
                        cal (F_impl_vset_has a3 x502) (fun x514 =>
                          if x514 = true then
                            ck (i204 + 1) (fun _ =>
                              some (.inl (i204 + 1)))
                          else
                            idx a1 x376 (fun xqr3o5_1 =>
                              app (x388 ++ ([x376])) ([xqr3o5_1]) (fun _ =>
                                cal (F_impl_one x376) (fun xqr3o11_1 =>
                                  idx a1 x376 (fun xqr3o15_1 =>
                                    cal (F_impl_one xqr3o15_1) (fun xqr3o17_1 =>
                                      cal (rc a0 a1 ((x388 ++ ([x376])) ++ ([xqr3o5_1])) ((a3 ||| xqr3o11_1) ||| xqr3o17_1) a4) (fun xqr3o20_1 =>
                                        if ¬ (xqr3o20_1 = []) then
                                          grd (xqr3o20_1 ≠ []) (some (.inr (.inr xqr3o20_1)))
                                        else
                                          ck (i204 + 1) (fun _ =>
                                            some (.inl (i204 + 1)))))))))))))))))
  else
    some (.inr (.inl ()))
noncomputable def F_impl_longer_k2   : Option (List Int) :=
  some ([] : (List Int))
noncomputable def F_impl_longer_body (rc : (List (BitVec 32)) → (List Int) → (List Int) → (BitVec 32) → Int → Option (List Int)) (a0 : (List (BitVec 32))) (a1 : (List Int)) (a2 : (List Int)) (a3 : BitVec 32) (a4 : Int) : Option (List Int) :=
  ck ((a2.length : Int) - 1) (fun _ =>
    idx a2 ((a2.length : Int) - 1) (fun x3 =>
      idx a0 x3 (fun x15 =>
        cal (F_impl_vset_list (x15 &&& ~~~a3)) (fun x26 =>
          bnd (lp (fun s => F_impl_longer_l1 a0 a1 a2 a3 a4 rc x3 x26 s) 0) (fun j => F_impl_longer_k2 )))))
noncomputable def F_impl_longer (a0 : (List (BitVec 32))) (a1 : (List Int)) (a2 : (List Int)) (a3 : BitVec 32) (a4 : Int) : Option (List Int) := fixO (fun (rc : ((List (BitVec 32)) × (List Int) × (List Int) × (BitVec 32) × Int) → Option (List Int)) a => F_impl_longer_body (fun z0 z1 z2 z3 z4 => rc (z0, z1, z2, z3, z4)) a.1 a.2.1 a.2.2.1 a.2.2.2.1 a.2.2.2.2) (a0, a1, a2, a3, a4)
noncomputable def F_impl_wide_l1 (a0 : (List Int)) (l67 : (List Int)) (i70 : Int) : Option (((List Int) × Int) ⊕ ((List Int) ⊕ (List Int))) :=
  if i70 < (a0.length : Int) then
    idx a0 i70 (fun x137 =>
      app l67 ([x137]) (fun _ =>
        ck (i70 + 1) (fun _ =>
          some (.inl ((l67 ++ ([x137])), i70 + 1)))))
  else
    some (.inr (.inl l67))
noncomputable def F_impl_wide_k2  (l124 : (List Int)) : Option (List Int) :=
  some l124
noncomputable def F_impl_wide (a0 : (List Int)) : Option (List Int) :=
  grd ((0 : Int) ≤ (a0.length : Int) ∧ (a0.length : Int) ≤ lim) (
    bnd (lp (fun s => F_impl_wide_l1 a0 s.1 s.2) (([] : (List Int)), 0)) (fun j => F_impl_wide_k2 j))
noncomputable def F_impl_LongerPath_l2 (x16 : (List (BitVec 32))) (x67 : (List Int)) (i428 : Int) (i888 : Int) : Option (Int ⊕ (Unit ⊕ (Int ⊕ (Unit ⊕ (List Int))))) :=
  if i888 < (x16.length : Int) then
    idx x67 i888 (fun x1008 =>
      if 0 ≤ x1008 then
        ck (i888 + 1) (fun _ =>
          some (.inl (i888 + 1)))
      else
        cal (F_impl_one i888) (fun x1036 =>
          cal (F_impl_longer x16 x67 ([i888]) x1036 i428) (fun x1051 =>
            if ¬ (x1051 = []) then
              cal (F_impl_wide x1051) (fun x1073 =>
                some (.inr (.inr (.inr (.inr x1073)))))
            else
              ck (i888 + 1) (fun _ =>
                some (.inl (i888 + 1))))))
  else
    some (.inr (.inl ()))
noncomputable def F_impl_LongerPath_k3 (i428 : Int)  : Option (Int ⊕ (Unit ⊕ (List Int))) :=
  ck (i428 + 2) (fun _ =>
    some (.inl (i428 + 2)))
noncomputable def F_impl_LongerPath_l1 (x16 : (List (BitVec 32))) (x67 : (List Int)) (i428 : Int) : Option (Int ⊕ (Unit ⊕ (List Int))) :=
  if i428 ≤ (x16.length : Int) then
    bnd (lp (fun s => F_impl_LongerPath_l2 x16 x67 i428 s) 0) (fun j => F_impl_LongerPath_k3 i428 )
  else
    some (.inr (.inl ()))
noncomputable def F_impl_LongerPath_k4   : Option (List Int) :=
  some ([] : (List Int))
noncomputable def F_impl_LongerPath (a0_0 : (List (List Int))) (a1 : (List (List Int))) : Option (List Int) :=
  cal (F_impl_MatchOk a0_0 a1) (fun x9 =>
    if ¬ (x9 = true) then
      some ([] : (List Int))
    else
      cal (F_impl_netsOf a0_0) (fun x16 =>
        cal (F_impl_mostEdges x16) (fun x32 =>
          cal (F_impl_nets_all x16) (fun x48 =>
            idx x32 (BitVec.toNat x48 : Int) (fun x54 =>
              if (a1.length : Int) = x54 then
                some ([] : (List Int))
              else
                cal (F_impl_mates (x16.length : Int) a1) (fun x67 =>
                  bnd (lp (fun s => F_impl_LongerPath_l1 x16 x67 s) 2) (fun j => F_impl_LongerPath_k4 )))))))
noncomputable def F_laws_eqInt64S_l1 (a0 : (List Int)) (a1 : (List Int)) (i39 : Int) : Option (Int ⊕ (Unit ⊕ Bool)) :=
  if i39 < (a0.length : Int) then
    idx a0 i39 (fun x87 =>
      idx a1 i39 (fun x99 =>
        if x87 ≠ x99 then
          some (.inr (.inr false))
        else
          ck (i39 + 1) (fun _ =>
            some (.inl (i39 + 1)))))
  else
    some (.inr (.inl ()))
noncomputable def F_laws_eqInt64S_k2   : Option Bool :=
  some true
noncomputable def F_laws_eqInt64S (a0 : (List Int)) (a1 : (List Int)) : Option Bool :=
  if (a0.length : Int) ≠ (a1.length : Int) then
    some false
  else
    bnd (lp (fun s => F_laws_eqInt64S_l1 a0 a1 s) 0) (fun j => F_laws_eqInt64S_k2 )
noncomputable def F_laws_eqInt64SS_l1 (a0 : (List (List Int))) (a1 : (List (List Int))) (i47 : Int) : Option (Int ⊕ (Unit ⊕ Bool)) :=
  if i47 < (a0.length : Int) then
    idx a0 i47 (fun x103 =>
      idx a1 i47 (fun x117 =>
        cal (F_laws_eqInt64S x103 x117) (fun x133 =>
          if ¬ (x133 = true) then
            some (.inr (.inr false))
          else
            ck (i47 + 1) (fun _ =>
              some (.inl (i47 + 1))))))
  else
    some (.inr (.inl ()))
noncomputable def F_laws_eqInt64SS_k2   : Option Bool :=
  some true
noncomputable def F_laws_eqInt64SS (a0 : (List (List Int))) (a1 : (List (List Int))) : Option Bool :=
  if (a0.length : Int) ≠ (a1.length : Int) then
    some false
  else
    bnd (lp (fun s => F_laws_eqInt64SS_l1 a0 a1 s) 0) (fun j => F_laws_eqInt64SS_k2 )
noncomputable def F_laws_eqGraph (a0_0 : (List (List Int))) (a1_0 : (List (List Int))) : Option Bool :=
  cal (F_laws_eqInt64SS a0_0 a1_0) (fun x19 =>
    if ¬ (x19 = true) then
      some false
    else
      some true)
noncomputable def F_laws_markInt64S_l1  (l38 : (List Int)) (i41 : Int) (i43 : Int) : Option (((List Int) × Int × Int) ⊕ ((Int × (List Int)) ⊕ (Int × (List Int)))) :=
  if i43 < (l38.length : Int) then
    idx l38 i43 (fun x95 =>
      ck (i41 + 1) (fun _ =>
        ck (i43 + 1) (fun _ =>
          some (.inl ((l38.set ((i43 : Int).toNat) i41), i41 + 1, i43 + 1)))))
  else
    some (.inr (.inl (i41, l38)))
noncomputable def F_laws_markInt64S_k2  (i79 : Int) (l82 : (List Int)) : Option (Int × (List Int)) :=
  some (i79, l82)
noncomputable def F_laws_markInt64S (a0 : (List Int)) (a1 : Int) : Option (Int × (List Int)) :=
  bnd (lp (fun s => F_laws_markInt64S_l1 s.1 s.2.1 s.2.2) (a0, a1, 0)) (fun j => F_laws_markInt64S_k2 j.1 j.2)
noncomputable def F_laws_markInt64SS_l1  (l46 : (List (List Int))) (i49 : Int) (i51 : Int) : Option (((List (List Int)) × Int × Int) ⊕ ((Int × (List (List Int))) ⊕ (Int × (List (List Int))))) :=
  if i51 < (l46.length : Int) then
    idx l46 i51 (fun x111 =>
      cal (F_laws_markInt64S x111 i49) (fun x130 =>
        ck (i51 + 1) (fun _ =>
          some (.inl ((l46.set ((i51 : Int).toNat) x130.2), x130.1, i51 + 1)))))
  else
    some (.inr (.inl (i49, l46)))
noncomputable def F_laws_markInt64SS_k2  (i95 : Int) (l98 : (List (List Int))) : Option (Int × (List (List Int))) :=
  some (i95, l98)
noncomputable def F_laws_markInt64SS (a0 : (List (List Int))) (a1 : Int) : Option (Int × (List (List Int))) :=
  bnd (lp (fun s => F_laws_markInt64SS_l1 s.1 s.2.1 s.2.2) (a0, a1, 0)) (fun j => F_laws_markInt64SS_k2 j.1 j.2)
noncomputable def F_laws_markGraph (a0_0 : (List (List Int))) (a1 : Int) : Option (Int × (List (List Int))) :=
  cal (F_laws_markInt64SS a0_0 a1) (fun x11 =>
    some (x11.1, x11.2))
noncomputable def F_laws_heldInt64S_l1 (a0 : (List Int)) (i27 : Int) (i29 : Int) : Option ((Int × Int) ⊕ (Int ⊕ Int)) :=
  if i29 < (a0.length : Int) then
    idx a0 i29 (fun x68 =>
      if x68 ≠ i27 then
        some (.inr (.inr (-1)))
      else
        ck (i27 + 1) (fun _ =>
          ck (i29 + 1) (fun _ =>
            some (.inl (i27 + 1, i29 + 1)))))
  else
    some (.inr (.inl i27))
noncomputable def F_laws_heldInt64S_k2  (i56 : Int) : Option Int :=
  some i56
noncomputable def F_laws_heldInt64S (a0 : (List Int)) (a1 : Int) : Option Int :=
  bnd (lp (fun s => F_laws_heldInt64S_l1 a0 s.1 s.2) (a1, 0)) (fun j => F_laws_heldInt64S_k2 j)
noncomputable def F_laws_FnExactLongerPath (a0_0 : (List (List Int))) (a1 : (List (List Int))) : Option Bool :=
  cal (F_laws_szGraph a0_0 1048576) (fun x9 =>
    if x9 < 0 then
      some true
    else
      cal (F_laws_szInt64SS a1 x9) (fun x17 =>
        if x17 < 0 then
          some true
        else
          cal (F_laws_toGraph a0_0) (fun x25 =>
            cal (F_laws_toInt64SS a1) (fun x44 =>
              cal (F_spec_LongerPath x25 x44) (fun x72 =>
                cal (F_laws_toGraph a0_0) (fun x83 =>
                  cal (F_laws_toInt64SS a1) (fun x121 =>
                    cal (F_impl_LongerPath x83 x121) (fun x154 =>
                      cal (F_laws_eqInt64S x154 x72) (fun x179 =>
                        if ¬ (x179 = true) then
                          some false
                        else
                          cal (F_laws_toGraph a0_0) (fun x189 =>
                            cal (F_laws_eqGraph x83 x189) (fun x232 =>
                              if ¬ (x232 = true) then
                                some false
                              else
                                cal (F_laws_toInt64SS a1) (fun x238 =>
                                  cal (F_laws_eqInt64SS x121 x238) (fun x278 =>
                                    if ¬ (x278 = true) then
                                      some false
                                    else
                                      cal (F_laws_markGraph x83 1) (fun x285 =>
                                        cal (F_laws_markInt64SS x121 x285.1) (fun x293 =>
                                          if x293.1 < 0 then
                                            some false
                                          else
                                            cal (F_laws_eqInt64S x154 x72) (fun x316 =>
                                              if ¬ (x316 = true) then
                                                some false
                                              else
                                                cal (F_laws_markInt64S x154 1) (fun x323 =>
                                                  cal (F_laws_heldInt64S x323.2 1) (fun x334 =>
                                                    if x334 < 0 then
                                                      some false
                                                    else
                                                      if x334 ≠ x323.1 then
                                                        some false
                                                      else
                                                        cal (F_laws_toGraph a0_0) (fun x343 =>
                                                          cal (F_laws_toInt64SS a1) (fun x367 =>
                                                            cal (F_impl_LongerPath x343 x367) (fun x400 =>
                                                              cal (F_laws_eqInt64S x400 x72) (fun x425 =>
                                                                if ¬ (x425 = true) then
                                                                  some false
                                                                else
                                                                  cal (F_laws_heldInt64S x323.2 1) (fun x435 =>
                                                                    if x435 < 0 then
                                                                      some false
                                                                    else
                                                                      if x435 ≠ x323.1 then
                                                                        some false
                                                                      else
                                                                        some true)))))))))))))))))))))))
end Go.Proofs.YthbmcbflnibpbabDoor
