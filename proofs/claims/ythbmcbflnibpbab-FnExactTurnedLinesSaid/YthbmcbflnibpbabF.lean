/- Functional forms, printed by gen.py. -/
import Derived.Test.YthbmcbflnibpbabPure
namespace Go.Proofs.Ythbmcbflnibpbab

noncomputable def F_laws_toInt64S_l1 (a0 : (List Int)) (l63 : (List Int)) (i66 : Int) : Option (((List Int) × Int) ⊕ ((List Int) ⊕ (List Int))) :=
  if i66 < (a0.length : Int) then
    idx a0 i66 (fun x128 =>
      idx l63 i66 (fun x140 =>
        ck (i66 + 1) (fun _ =>
          some (.inl ((l63.set ((i66 : Int).toNat) x128), i66 + 1)))))
  else
    some (.inr (.inl l63))
noncomputable def F_laws_toInt64S_k2  (l115 : (List Int)) : Option (List Int) :=
  some l115
noncomputable def F_laws_toInt64S (a0 : (List Int)) : Option (List Int) :=
  mkS (a0.length : Int) (0 : Int) (fun _ =>
    bnd (lp (fun s => F_laws_toInt64S_l1 a0 s.1 s.2) ((List.replicate ((a0.length : Int) : Int).toNat (0 : Int)), 0)) (fun j => F_laws_toInt64S_k2 j))
noncomputable def F_spec_l1In (a0 : Int) (a1 : Int) (a2 : Int) : Option Bool :=
  if a1 ≤ a0 then
    some (decide (a0 ≤ a2))
  else
    some false
noncomputable def F_spec_l1Has_l1 (a0 : (List Int)) (a1 : Int) (i23 : Int) : Option (Int ⊕ (Unit ⊕ Bool)) :=
  if i23 < (a0.length : Int) then
    idx a0 i23 (fun x56 =>
      if x56 = a1 then
        some (.inr (.inr true))
      else
        ck (i23 + 1) (fun _ =>
          some (.inl (i23 + 1))))
  else
    some (.inr (.inl ()))
noncomputable def F_spec_l1Has_k2   : Option Bool :=
  some false
noncomputable def F_spec_l1Has (a0 : (List Int)) (a1 : Int) : Option Bool :=
  bnd (lp (fun s => F_spec_l1Has_l1 a0 a1 s) 0) (fun j => F_spec_l1Has_k2 )
noncomputable def F_spec_l15Line_l1 (a0 : (List Int)) (i66 : Int) : Option (Int ⊕ (Unit ⊕ Bool)) :=
  if i66 < (a0.length : Int) then
    idx a0 i66 (fun x135 =>
      ck ((a0.length : Int) - 1) (fun _ =>
        cal (F_spec_l1In x135 0 ((a0.length : Int) - 1)) (fun x151 =>
          if ¬ (x151 = true) then
            some (.inr (.inr false))
          else
            slc a0 0 i66 (fun _ =>
              idx a0 i66 (fun x166 =>
                cal (F_spec_l1Has ((a0.drop (0 : Int).toNat).take ((i66 : Int).toNat - (0 : Int).toNat)) x166) (fun x180 =>
                  if x180 = true then
                    some (.inr (.inr false))
                  else
                    ck (i66 + 1) (fun _ =>
                      some (.inl (i66 + 1)))))))))
  else
    some (.inr (.inl ()))
noncomputable def F_spec_l15Line_k2   : Option Bool :=
  some true
noncomputable def F_spec_l15Line (a0 : (List Int)) : Option Bool :=
  cal (F_spec_l1In (a0.length : Int) 1 16) (fun x1 =>
    if ¬ (x1 = true) then
      some false
    else
      bnd (lp (fun s => F_spec_l15Line_l1 a0 s) 0) (fun j => F_spec_l15Line_k2 ))
noncomputable def F_spec_l15Lines (a0 : (List Int)) (a1 : (List Int)) : Option Bool :=
  cal (F_spec_l15Line a0) (fun x1 =>
    if x1 = true then
      cal (F_spec_l15Line a1) (fun x8 =>
        if x8 = true then
          some (decide ((a0.length : Int) = (a1.length : Int)))
        else
          some false)
    else
      some false)
noncomputable def F_spec_l1Copy (a0 : (List Int)) : Option (List Int) :=
  app ([] : (List Int)) a0 (fun _ =>
    some (([] : (List Int)) ++ a0))
noncomputable def F_spec_TurnedLines_l1 (a1 : (List Int)) (l95 : (List Int)) (i98 : Int) : Option (((List Int) × Int) ⊕ ((List Int) ⊕ ((List Int) × ((List Int) × Bool)))) :=
  if 0 ≤ i98 then
    idx a1 i98 (fun x165 =>
      app l95 ([x165]) (fun _ =>
        ck (i98 - 1) (fun _ =>
          some (.inl ((l95 ++ ([x165])), i98 - 1)))))
  else
    some (.inr (.inl l95))
noncomputable def F_spec_TurnedLines_k2 (a0 : (List Int)) (l152 : (List Int)) : Option ((List Int) × ((List Int) × Bool)) :=
  cal (F_spec_l1Copy a0) (fun x202 =>
    some (x202, l152, true))
noncomputable def F_spec_TurnedLines (a0 : (List Int)) (a1 : (List Int)) : Option ((List Int) × ((List Int) × Bool)) :=
  cal (F_spec_l15Lines a0 a1) (fun x1 =>
    if ¬ (x1 = true) then
      some (([] : (List Int)), ([] : (List Int)), false)
    else
      ck ((a1.length : Int) - 1) (fun _ =>
        bnd (lp (fun s => F_spec_TurnedLines_l1 a1 s.1 s.2) (([] : (List Int)), (a1.length : Int) - 1)) (fun j => F_spec_TurnedLines_k2 a0 j)))
noncomputable def F_slices_Values_int64 (a0 : (List Int)) : Option (List Int) := some a0
noncomputable def F_slices_Collect_int64 (a0 : (List Int)) : Option (List Int) := if a0.length ≤ 1099511627776 then some a0 else none
noncomputable def F_slices_Sort_int64 (a0 : (List Int)) : Option (List Int) := if a0.length ≤ 1099511627776 then some (a0.mergeSort fun x y => decide (x ≤ y)) else none
noncomputable def F_slices_Sorted_int64 (a0 : (List Int)) : Option (List Int) :=
  cal (F_slices_Collect_int64 a0) (fun x1 =>
    cal (F_slices_Sort_int64 x1) (fun x12 =>
      some x12))
noncomputable def F_impl_inRange (a0 : Int) (a1 : Int) (a2 : Int) : Option Bool :=
  if a1 ≤ a0 then
    some (decide (a0 ≤ a2))
  else
    some false
noncomputable def F_impl_increasing_l1 (a0 : (List Int)) (a1 : Int) (i49 : Int) : Option (Int ⊕ (Unit ⊕ Bool)) :=
  if i49 < (a0.length : Int) then
    idx a0 i49 (fun x108 =>
      ck (a1 - 1) (fun _ =>
        cal (F_impl_inRange x108 0 (a1 - 1)) (fun x122 =>
          if ¬ (x122 = true) then
            some (.inr (.inr false))
          else
            if 0 < i49 then
              ck (i49 - 1) (fun _ =>
                idx a0 (i49 - 1) (fun x134 =>
                  if x108 ≤ x134 then
                    some (.inr (.inr false))
                  else
                    ck (i49 + 1) (fun _ =>
                      some (.inl (i49 + 1)))))
            else
              ck (i49 + 1) (fun _ =>
                some (.inl (i49 + 1))))))
  else
    some (.inr (.inl ()))
noncomputable def F_impl_increasing_k2   : Option Bool :=
  some true
noncomputable def F_impl_increasing (a0 : (List Int)) (a1 : Int) : Option Bool :=
  bnd (lp (fun s => F_impl_increasing_l1 a0 a1 s) 0) (fun j => F_impl_increasing_k2 )
noncomputable def F_impl_placesIn_l1 (a0 : (List Int)) (l123 : (List Int)) (i126 : Int) : Option (((List Int) × Int) ⊕ ((List Int) ⊕ ((List Int) × Bool))) :=
  if i126 < (a0.length : Int) then
    idx a0 i126 (fun x188 =>
      idx l123 x188 (fun x200 =>
        ck (i126 + 1) (fun _ =>
          some (.inl ((l123.set ((x188 : Int).toNat) i126), i126 + 1)))))
  else
    some (.inr (.inl l123))
noncomputable def F_impl_placesIn_k2  (l175 : (List Int)) : Option ((List Int) × Bool) :=
  some (l175, true)
noncomputable def F_impl_placesIn (a0 : (List Int)) : Option ((List Int) × Bool) :=
  if (a0.length : Int) < 1 then
    some (([] : (List Int)), false)
  else
    if 16 < (a0.length : Int) then
      some (([] : (List Int)), false)
    else
      cal (F_slices_Values_int64 a0) (fun x33 =>
        cal (F_slices_Sorted_int64 x33) (fun x40 =>
          cal (F_impl_increasing x40 (a0.length : Int)) (fun x54 =>
            if ¬ (x54 = true) then
              some (([] : (List Int)), false)
            else
              mkS (a0.length : Int) (0 : Int) (fun _ =>
                bnd (lp (fun s => F_impl_placesIn_l1 a0 s.1 s.2) ((List.replicate ((a0.length : Int) : Int).toNat (0 : Int)), 0)) (fun j => F_impl_placesIn_k2 j)))))
noncomputable def F_impl_one (a0 : Int) : Option (BitVec 32) :=
  grd ((0 : Int) ≤ a0) (
    some ((1#32) <<< (a0 : Int).toNat))
noncomputable def F_impl_nets_join (a0 : (List (BitVec 32))) (a1 : Int) (a2 : Int) : Option (List (BitVec 32)) :=
  idx a0 a1 (fun x1 =>
    cal (F_impl_one a2) (fun x14 =>
      idx a0 a1 (fun x16 =>
        idx (a0.set ((a1 : Int).toNat) (x1 ||| x14)) a2 (fun x39 =>
          cal (F_impl_one a1) (fun x52 =>
            idx (a0.set ((a1 : Int).toNat) (x1 ||| x14)) a2 (fun x54 =>
              some ((a0.set ((a1 : Int).toNat) (x1 ||| x14)).set ((a2 : Int).toNat) (x39 ||| x52))))))))
noncomputable def F_impl_crossings_l2 (x1 : ((List Int) × Bool)) (x14 : ((List Int) × Bool)) (i405 : Int) (l868 : (List (BitVec 32))) (i871 : Int) : Option (((List (BitVec 32)) × Int) ⊕ ((List (BitVec 32)) ⊕ (((List (BitVec 32)) × Int) ⊕ ((List (BitVec 32)) ⊕ ((List (BitVec 32)) × Bool))))) :=
  if i871 < i405 then
    idx x1.1 i405 (fun x994 =>
      idx x1.1 i871 (fun x1006 =>
        idx x14.1 i405 (fun x1018 =>
          idx x14.1 i871 (fun x1030 =>
            if ((decide (x994 < x1006)) != (decide (x1018 < x1030))) = true then
              cal (F_impl_nets_join l868 i405 i871) (fun x1046 =>
                ck (i871 + 1) (fun _ =>
                  some (.inl (x1046, i871 + 1))))
            else
              ck (i871 + 1) (fun _ =>
                some (.inl (l868, i871 + 1)))))))
  else
    some (.inr (.inl l868))
noncomputable def F_impl_crossings_k3 (i405 : Int) (l975 : (List (BitVec 32))) : Option (((List (BitVec 32)) × Int) ⊕ ((List (BitVec 32)) ⊕ ((List (BitVec 32)) × Bool))) :=
  ck (i405 + 1) (fun _ =>
    some (.inl (l975, i405 + 1)))
noncomputable def F_impl_crossings_l1 (x1 : ((List Int) × Bool)) (x14 : ((List Int) × Bool)) (l402 : (List (BitVec 32))) (i405 : Int) : Option (((List (BitVec 32)) × Int) ⊕ ((List (BitVec 32)) ⊕ ((List (BitVec 32)) × Bool))) :=
  if i405 < (x1.1.length : Int) then
    bnd (lp (fun s => F_impl_crossings_l2 x1 x14 i405 s.1 s.2) (l402, 0)) (fun j => F_impl_crossings_k3 i405 j)
  else
    some (.inr (.inl l402))
noncomputable def F_impl_crossings_k4  (l743 : (List (BitVec 32))) : Option ((List (BitVec 32)) × Bool) :=
  some (l743, true)
noncomputable def F_impl_crossings (a0 : (List Int)) (a1 : (List Int)) : Option ((List (BitVec 32)) × Bool) :=
  cal (F_impl_placesIn a0) (fun x1 =>
    cal (F_impl_placesIn a1) (fun x14 =>
      if ¬ (x1.2 = true) then
        some (([] : (List (BitVec 32))), false)
      else
        if ¬ (x14.2 = true) then
          some (([] : (List (BitVec 32))), false)
        else
          if (a0.length : Int) ≠ (a1.length : Int) then
            some (([] : (List (BitVec 32))), false)
          else
            mkS (a0.length : Int) (0 : BitVec 32) (fun _ =>
              bnd (lp (fun s => F_impl_crossings_l1 x1 x14 s.1 s.2) ((List.replicate ((a0.length : Int) : Int).toNat (0 : BitVec 32)), 0)) (fun j => F_impl_crossings_k4 j))))
noncomputable def F_slices_Clone_int64 (a0 : (List Int)) : Option (List Int) :=
  app ([] : (List Int)) a0 (fun _ =>
    some (([] : (List Int)) ++ a0))
noncomputable def F_slices_Reverse_int64_l1  (l94 : (List Int)) (i97 : Int) (i99 : Int) : Option (((List Int) × Int × Int) ⊕ ((List Int) ⊕ (List Int))) :=
  if i97 < i99 then
    idx l94 i99 (fun x203 =>
      idx l94 i97 (fun x215 =>
        idx l94 i97 (fun x227 =>
          idx (l94.set ((i97 : Int).toNat) x203) i99 (fun x251 =>
            ck (i97 + 1) (fun _ =>
              ck (i99 - 1) (fun _ =>
                some (.inl (((l94.set ((i97 : Int).toNat) x203).set ((i99 : Int).toNat) x215), i97 + 1, i99 - 1))))))))
  else
    some (.inr (.inl l94))
noncomputable def F_slices_Reverse_int64_k2  (l190 : (List Int)) : Option (List Int) :=
  some l190
noncomputable def F_slices_Reverse_int64 (a0 : (List Int)) : Option (List Int) :=
  ck ((a0.length : Int) - 1) (fun _ =>
    bnd (lp (fun s => F_slices_Reverse_int64_l1 s.1 s.2.1 s.2.2) (a0, 0, (a0.length : Int) - 1)) (fun j => F_slices_Reverse_int64_k2 j))
noncomputable def F_impl_TurnedLines (a0 : (List Int)) (a1 : (List Int)) : Option ((List Int) × ((List Int) × Bool)) :=
  cal (F_impl_crossings a0 a1) (fun x1 =>
    if ¬ (x1.2 = true) then
      some (([] : (List Int)), ([] : (List Int)), false)
    else
      cal (F_slices_Clone_int64 a1) (fun x15 =>
        cal (F_slices_Reverse_int64 x15) (fun x26 =>
          cal (F_slices_Clone_int64 a0) (fun x33 =>
            some (x33, x26, true)))))
noncomputable def F_laws_eqInt64S_l1 (a0 : (List Int)) (a1 : (List Int)) (i39 : Int) : Option (Int ⊕ (Unit ⊕ Bool)) :=
  if i39 < (a0.length : Int) then
    idx a0 i39 (fun x87 =>
      idx a1 i39 (fun x99 =>
        if x87 ≠ x99 then
          some (.inr (.inr false))
        else
          ck (i39 + 1) (fun _ =>
            some (.inl (i39 + 1)))))
  else
    some (.inr (.inl ()))
noncomputable def F_laws_eqInt64S_k2   : Option Bool :=
  some true
noncomputable def F_laws_eqInt64S (a0 : (List Int)) (a1 : (List Int)) : Option Bool :=
  if (a0.length : Int) ≠ (a1.length : Int) then
    some false
  else
    bnd (lp (fun s => F_laws_eqInt64S_l1 a0 a1 s) 0) (fun j => F_laws_eqInt64S_k2 )
noncomputable def F_laws_markInt64S_l1  (l38 : (List Int)) (i41 : Int) (i43 : Int) : Option (((List Int) × Int × Int) ⊕ ((Int × (List Int)) ⊕ (Int × (List Int)))) :=
  if i43 < (l38.length : Int) then
    idx l38 i43 (fun x95 =>
      ck (i41 + 1) (fun _ =>
        ck (i43 + 1) (fun _ =>
          some (.inl ((l38.set ((i43 : Int).toNat) i41), i41 + 1, i43 + 1)))))
  else
    some (.inr (.inl (i41, l38)))
noncomputable def F_laws_markInt64S_k2  (i79 : Int) (l82 : (List Int)) : Option (Int × (List Int)) :=
  some (i79, l82)
noncomputable def F_laws_markInt64S (a0 : (List Int)) (a1 : Int) : Option (Int × (List Int)) :=
  bnd (lp (fun s => F_laws_markInt64S_l1 s.1 s.2.1 s.2.2) (a0, a1, 0)) (fun j => F_laws_markInt64S_k2 j.1 j.2)
noncomputable def F_laws_heldInt64S_l1 (a0 : (List Int)) (i27 : Int) (i29 : Int) : Option ((Int × Int) ⊕ (Int ⊕ Int)) :=
  if i29 < (a0.length : Int) then
    idx a0 i29 (fun x68 =>
      if x68 ≠ i27 then
        some (.inr (.inr (-1)))
      else
        ck (i27 + 1) (fun _ =>
          ck (i29 + 1) (fun _ =>
            some (.inl (i27 + 1, i29 + 1)))))
  else
    some (.inr (.inl i27))
noncomputable def F_laws_heldInt64S_k2  (i56 : Int) : Option Int :=
  some i56
noncomputable def F_laws_heldInt64S (a0 : (List Int)) (a1 : Int) : Option Int :=
  bnd (lp (fun s => F_laws_heldInt64S_l1 a0 s.1 s.2) (a1, 0)) (fun j => F_laws_heldInt64S_k2 j)
noncomputable def F_laws_FnExactTurnedLines (a0 : (List Int)) (a1 : (List Int)) : Option Bool :=
  if 1048576 < (a0.length : Int) then
    some true
  else
    if 1048576 < (a1.length : Int) then
      some true
    else
      cal (F_laws_toInt64S a0) (fun x3 =>
        cal (F_laws_toInt64S a1) (fun x14 =>
          cal (F_spec_TurnedLines x3 x14) (fun x33 =>
            cal (F_laws_toInt64S a0) (fun x62 =>
              cal (F_laws_toInt64S a1) (fun x77 =>
                cal (F_impl_TurnedLines x62 x77) (fun x100 =>
                  cal (F_laws_eqInt64S x100.1 x33.1) (fun x170 =>
                    if ¬ (x170 = true) then
                      some false
                    else
                      cal (F_laws_eqInt64S x100.2.1 x33.2.1) (fun x183 =>
                        if ¬ (x183 = true) then
                          some false
                        else
                          if (x100.2.2 != x33.2.2) = true then
                            some false
                          else
                            cal (F_laws_toInt64S a0) (fun x191 =>
                              cal (F_laws_eqInt64S x62 x191) (fun x220 =>
                                if ¬ (x220 = true) then
                                  some false
                                else
                                  cal (F_laws_toInt64S a1) (fun x227 =>
                                    cal (F_laws_eqInt64S x77 x227) (fun x256 =>
                                      if ¬ (x256 = true) then
                                        some false
                                      else
                                        cal (F_laws_markInt64S x62 1) (fun x263 =>
                                          cal (F_laws_markInt64S x77 x263.1) (fun x271 =>
                                            if x271.1 < 0 then
                                              some false
                                            else
                                              cal (F_laws_eqInt64S x100.1 x33.1) (fun x314 =>
                                                if ¬ (x314 = true) then
                                                  some false
                                                else
                                                  cal (F_laws_eqInt64S x100.2.1 x33.2.1) (fun x327 =>
                                                    if ¬ (x327 = true) then
                                                      some false
                                                    else
                                                      if (x100.2.2 != x33.2.2) = true then
                                                        some false
                                                      else
                                                        cal (F_laws_markInt64S x100.1 1) (fun x335 =>
                                                          cal (F_laws_markInt64S x100.2.1 x335.1) (fun x343 =>
                                                            cal (F_laws_heldInt64S x335.2 1) (fun x354 =>
                                                              if x354 < 0 then
                                                                some false
                                                              else
                                                                cal (F_laws_heldInt64S x343.2 x354) (fun x365 =>
                                                                  if x365 < 0 then
                                                                    some false
                                                                  else
                                                                    if x365 ≠ x343.1 then
                                                                      some false
                                                                    else
                                                                      cal (F_laws_toInt64S a0) (fun x374 =>
                                                                        cal (F_laws_toInt64S a1) (fun x393 =>
                                                                          cal (F_impl_TurnedLines x374 x393) (fun x420 =>
                                                                            cal (F_laws_eqInt64S x420.1 x33.1) (fun x498 =>
                                                                              if ¬ (x498 = true) then
                                                                                some false
                                                                              else
                                                                                cal (F_laws_eqInt64S x420.2.1 x33.2.1) (fun x511 =>
                                                                                  if ¬ (x511 = true) then
                                                                                    some false
                                                                                  else
                                                                                    if (x420.2.2 != x33.2.2) = true then
                                                                                      some false
                                                                                    else
                                                                                      cal (F_laws_heldInt64S x335.2 1) (fun x522 =>
                                                                                        if x522 < 0 then
                                                                                          some false
                                                                                        else
                                                                                          cal (F_laws_heldInt64S x343.2 x522) (fun x533 =>
                                                                                            if x533 < 0 then
                                                                                              some false
                                                                                            else
                                                                                              if x533 ≠ x343.1 then
                                                                                                some false
                                                                                              else
                                                                                                some true)))))))))))))))))))))))))))
end Go.Proofs.Ythbmcbflnibpbab
