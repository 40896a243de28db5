/- Functional forms, printed by gen.py. -/
import Derived.Test.YtlbgoodonecebabPure
namespace Go.Proofs.Ytlbgoodonecebab

noncomputable def F_laws_szInt64S (a0 : (List Int)) (a1 : Int) : Option Int :=
  ck (a1 - (a0.length : Int)) (fun _ =>
    if (a1 - (a0.length : Int)) < 0 then
      some (-1)
    else
      some (a1 - (a0.length : Int)))
noncomputable def F_laws_szInt64SS_l1 (a0 : (List (List Int))) (i37 : Int) (i39 : Int) : Option ((Int × Int) ⊕ (Int ⊕ Int)) :=
  if i39 < (a0.length : Int) then
    idx a0 i39 (fun x85 =>
      cal (F_laws_szInt64S x85 i37) (fun x99 =>
        if x99 < 0 then
          some (.inr (.inr (-1)))
        else
          ck (i39 + 1) (fun _ =>
            some (.inl (x99, i39 + 1)))))
  else
    some (.inr (.inl i37))
noncomputable def F_laws_szInt64SS_k2  (i73 : Int) : Option Int :=
  some i73
noncomputable def F_laws_szInt64SS (a0 : (List (List Int))) (a1 : Int) : Option Int :=
  ck (a1 - (a0.length : Int)) (fun _ =>
    if (a1 - (a0.length : Int)) < 0 then
      some (-1)
    else
      bnd (lp (fun s => F_laws_szInt64SS_l1 a0 s.1 s.2) (a1 - (a0.length : Int), 0)) (fun j => F_laws_szInt64SS_k2 j))
noncomputable def F_laws_szGraph (a0_0 : (List (List Int))) (a1 : Int) : Option Int :=
  cal (F_laws_szInt64SS a0_0 a1) (fun x9 =>
    if x9 < 0 then
      some (-1)
    else
      some x9)
noncomputable def F_laws_toInt64S_l1 (a0 : (List Int)) (l63 : (List Int)) (i66 : Int) : Option (((List Int) × Int) ⊕ ((List Int) ⊕ (List Int))) :=
  if i66 < (a0.length : Int) then
    idx a0 i66 (fun x128 =>
      idx l63 i66 (fun x140 =>
        ck (i66 + 1) (fun _ =>
          some (.inl ((l63.set ((i66 : Int).toNat) x128), i66 + 1)))))
  else
    some (.inr (.inl l63))
noncomputable def F_laws_toInt64S_k2  (l115 : (List Int)) : Option (List Int) :=
  some l115
noncomputable def F_laws_toInt64S (a0 : (List Int)) : Option (List Int) :=
  mkS (a0.length : Int) (0 : Int) (fun _ =>
    bnd (lp (fun s => F_laws_toInt64S_l1 a0 s.1 s.2) ((List.replicate ((a0.length : Int) : Int).toNat (0 : Int)), 0)) (fun j => F_laws_toInt64S_k2 j))
noncomputable def F_laws_toInt64SS_l1 (a0 : (List (List Int))) (l96 : (List (List Int))) (i99 : Int) : Option (((List (List Int)) × Int) ⊕ ((List (List Int)) ⊕ (List (List Int)))) :=
  if i99 < (a0.length : Int) then
    idx a0 i99 (fun x191 =>
      cal (F_laws_toInt64S x191) (fun x205 =>
        idx l96 i99 (fun x219 =>
          ck (i99 + 1) (fun _ =>
            some (.inl ((l96.set ((i99 : Int).toNat) x205), i99 + 1))))))
  else
    some (.inr (.inl l96))
noncomputable def F_laws_toInt64SS_k2  (l178 : (List (List Int))) : Option (List (List Int)) :=
  some l178
noncomputable def F_laws_toInt64SS (a0 : (List (List Int))) : Option (List (List Int)) :=
  mkS (a0.length : Int) ([] : (List Int)) (fun _ =>
    bnd (lp (fun s => F_laws_toInt64SS_l1 a0 s.1 s.2) ((List.replicate ((a0.length : Int) : Int).toNat ([] : (List Int))), 0)) (fun j => F_laws_toInt64SS_k2 j))
noncomputable def F_laws_toGraph (a0_0 : (List (List Int))) : Option (List (List Int)) :=
  cal (F_laws_toInt64SS a0_0) (fun x31 =>
    some x31)
noncomputable def F_spec_l1Size (a0_0 : (List (List Int))) : Option Int :=
  some (a0_0.length : Int)
noncomputable def F_spec_l1In (a0 : Int) (a1 : Int) (a2 : Int) : Option Bool :=
  if a1 ≤ a0 then
    some (decide (a0 ≤ a2))
  else
    some false
noncomputable def F_spec_l1Set_l1 (a0 : (List Int)) (a1 : Int) (i69 : Int) : Option (Int ⊕ (Unit ⊕ Bool)) :=
  if i69 < (a0.length : Int) then
    idx a0 i69 (fun x147 =>
      ck (a1 - 1) (fun _ =>
        cal (F_spec_l1In x147 0 (a1 - 1)) (fun x163 =>
          if ¬ (x163 = true) then
            some (.inr (.inr false))
          else
            if 0 < i69 then
              idx a0 i69 (fun x172 =>
                ck (i69 - 1) (fun _ =>
                  idx a0 (i69 - 1) (fun x186 =>
                    if x172 ≤ x186 then
                      some (.inr (.inr false))
                    else
                      ck (i69 + 1) (fun _ =>
                        some (.inl (i69 + 1))))))
            else
              ck (i69 + 1) (fun _ =>
                some (.inl (i69 + 1))))))
  else
    some (.inr (.inl ()))
noncomputable def F_spec_l1Set_k2   : Option Bool :=
  some true
noncomputable def F_spec_l1Set (a0 : (List Int)) (a1 : Int) : Option Bool :=
  if a1 < (a0.length : Int) then
    some false
  else
    bnd (lp (fun s => F_spec_l1Set_l1 a0 a1 s) 0) (fun j => F_spec_l1Set_k2 )
noncomputable def F_spec_l1Has_l1 (a0 : (List Int)) (a1 : Int) (i23 : Int) : Option (Int ⊕ (Unit ⊕ Bool)) :=
  if i23 < (a0.length : Int) then
    idx a0 i23 (fun x56 =>
      if x56 = a1 then
        some (.inr (.inr true))
      else
        ck (i23 + 1) (fun _ =>
          some (.inl (i23 + 1))))
  else
    some (.inr (.inl ()))
noncomputable def F_spec_l1Has_k2   : Option Bool :=
  some false
noncomputable def F_spec_l1Has (a0 : (List Int)) (a1 : Int) : Option Bool :=
  bnd (lp (fun s => F_spec_l1Has_l1 a0 a1 s) 0) (fun j => F_spec_l1Has_k2 )
noncomputable def F_spec_GraphOk_l1 (a0_0 : (List (List Int))) (x9 : Int) (i80 : Int) : Option (Int ⊕ (Unit ⊕ Bool)) :=
  if i80 < x9 then
    idx a0_0 i80 (fun x146 =>
      cal (F_spec_l1Set x146 x9) (fun x160 =>
        if ¬ (x160 = true) then
          some (.inr (.inr false))
        else
          idx a0_0 i80 (fun x169 =>
            cal (F_spec_l1Has x169 i80) (fun x183 =>
              if x183 = true then
                some (.inr (.inr false))
              else
                ck (i80 + 1) (fun _ =>
                  some (.inl (i80 + 1)))))))
  else
    some (.inr (.inl ()))
noncomputable def F_spec_GraphOk_l4 (a0_0 : (List (List Int))) (i436 : Int) (i762 : Int) : Option (Int ⊕ (Unit ⊕ (Int ⊕ (Unit ⊕ Bool)))) :=
  idx a0_0 i436 (fun x847 =>
    if i762 < (x847.length : Int) then
      idx a0_0 i436 (fun x862 =>
        idx x862 i762 (fun x876 =>
          idx a0_0 x876 (fun x888 =>
            cal (F_spec_l1Has x888 i436) (fun x904 =>
              if ¬ (x904 = true) then
                some (.inr (.inr (.inr (.inr false))))
              else
                ck (i762 + 1) (fun _ =>
                  some (.inl (i762 + 1)))))))
    else
      some (.inr (.inl ())))
noncomputable def F_spec_GraphOk_k5 (i436 : Int)  : Option (Int ⊕ (Unit ⊕ Bool)) :=
  ck (i436 + 1) (fun _ =>
    some (.inl (i436 + 1)))
noncomputable def F_spec_GraphOk_l3 (a0_0 : (List (List Int))) (x9 : Int) (i436 : Int) : Option (Int ⊕ (Unit ⊕ Bool)) :=
  if i436 < x9 then
    bnd (lp (fun s => F_spec_GraphOk_l4 a0_0 i436 s) 0) (fun j => F_spec_GraphOk_k5 i436 )
  else
    some (.inr (.inl ()))
noncomputable def F_spec_GraphOk_k6   : Option Bool :=
  some true
noncomputable def F_spec_GraphOk_k2 (a0_0 : (List (List Int))) (x9 : Int)  : Option Bool :=
  bnd (lp (fun s => F_spec_GraphOk_l3 a0_0 x9 s) 0) (fun j => F_spec_GraphOk_k6 )
noncomputable def F_spec_GraphOk (a0_0 : (List (List Int))) : Option Bool :=
  cal (F_spec_l1Size a0_0) (fun x9 =>
    cal (F_spec_l1In x9 1 16) (fun x16 =>
      if ¬ (x16 = true) then
        some false
      else
        bnd (lp (fun s => F_spec_GraphOk_l1 a0_0 x9 s) 0) (fun j => F_spec_GraphOk_k2 a0_0 x9 )))
noncomputable def F_spec_l1There (a0_0 : (List (List Int))) (a1 : Int) : Option Bool :=
  cal (F_spec_l1Size a0_0) (fun x9 =>
    ck (x9 - 1) (fun _ =>
      cal (F_spec_l1In a1 0 (x9 - 1)) (fun x18 =>
        some x18)))
noncomputable def F_spec_l1Edge (a0_0 : (List (List Int))) (a1 : Int) (a2 : Int) : Option Bool :=
  idx a0_0 a1 (fun x9 =>
    cal (F_spec_l1Has x9 a2) (fun x23 =>
      some x23))
noncomputable def F_spec_EdgeIn (a0_0 : (List (List Int))) (a1 : Int) (a2 : Int) : Option Bool :=
  cal (F_spec_GraphOk a0_0) (fun x9 =>
    if x9 = true then
      cal (F_spec_l1There a0_0 a1) (fun x16 =>
        if x16 = true then
          cal (F_spec_l1There a0_0 a2) (fun x23 =>
            if x23 = true then
              cal (F_spec_l1Edge a0_0 a1 a2) (fun x30 =>
                some x30)
            else
              some false)
        else
          some false)
    else
      some false)
noncomputable def F_spec_MatchOk_l1 (a0_0 : (List (List Int))) (a1 : (List (List Int))) (l367 : (List Int)) (i370 : Int) : Option (((List Int) × Int) ⊕ (Unit ⊕ Bool)) :=
  if i370 < (a1.length : Int) then
    idx a1 i370 (fun x702 =>
      if (x702.length : Int) ≠ 2 then
        some (.inr (.inr false))
      else
        idx x702 0 (fun x722 =>
          idx x702 1 (fun x734 =>
            if x734 ≤ x722 then
              some (.inr (.inr false))
            else
              idx x702 0 (fun x752 =>
                idx x702 1 (fun x764 =>
                  cal (F_spec_EdgeIn a0_0 x752 x764) (fun x778 =>
                    if ¬ (x778 = true) then
                      some (.inr (.inr false))
                    else
                      idx x702 0 (fun x786 =>
                        cal (F_spec_l1Has l367 x786) (fun x803 =>
                          if x803 = true then
                            some (.inr (.inr false))
                          else
                            idx x702 1 (fun x811 =>
                              cal (F_spec_l1Has l367 x811) (fun x828 =>
                                if x828 = true then
                                  some (.inr (.inr false))
                                else
                                  if 0 < i370 then
                                    idx x702 0 (fun x837 =>
                                      ck (i370 - 1) (fun _ =>
                                        idx a1 (i370 - 1) (fun x851 =>
                                          idx x851 0 (fun x865 =>
                                            if x837 ≤ x865 then
                                              some (.inr (.inr false))
                                            else
                                              idx x702 0 (fun x883 =>
                                                idx x702 1 (fun x895 =>
                                                  app l367 ([x883, x895]) (fun _ =>
                                                    ck (i370 + 1) (fun _ =>
                                                      some (.inl ((l367 ++ ([x883, x895])), i370 + 1))))))))))
                                  else
                                    idx x702 0 (fun x951 =>
                                      idx x702 1 (fun x963 =>
                                        app l367 ([x951, x963]) (fun _ =>
                                          ck (i370 + 1) (fun _ =>
                                            some (.inl ((l367 ++ ([x951, x963])), i370 + 1))))))))))))))))
  else
    some (.inr (.inl ()))
noncomputable def F_spec_MatchOk_k2   : Option Bool :=
  some true
noncomputable def F_spec_MatchOk (a0_0 : (List (List Int))) (a1 : (List (List Int))) : Option Bool :=
  cal (F_spec_GraphOk a0_0) (fun x17 =>
    if ¬ (x17 = true) then
      some false
    else
      if 16 < (a1.length : Int) then
        some false
      else
        bnd (lp (fun s => F_spec_MatchOk_l1 a0_0 a1 s.1 s.2) (([] : (List Int)), 0)) (fun j => F_spec_MatchOk_k2 ))
noncomputable def F_spec_l26None_l1 (a0 : Int) (l54 : (List Int)) (i57 : Int) : Option (((List Int) × Int) ⊕ ((List Int) ⊕ (List Int))) :=
  if i57 < a0 then
    app l54 ([(-1)]) (fun _ =>
      ck (i57 + 1) (fun _ =>
        some (.inl ((l54 ++ ([(-1)])), i57 + 1))))
  else
    some (.inr (.inl l54))
noncomputable def F_spec_l26None_k2  (l99 : (List Int)) : Option (List Int) :=
  some l99
noncomputable def F_spec_l26None (a0 : Int) : Option (List Int) :=
  bnd (lp (fun s => F_spec_l26None_l1 a0 s.1 s.2) (([] : (List Int)), 0)) (fun j => F_spec_l26None_k2 j)
noncomputable def F_spec_l27Mates_l1 (a1 : (List (List Int))) (l195 : (List Int)) (i198 : Int) : Option (((List Int) × Int) ⊕ ((List Int) ⊕ (List Int))) :=
  if i198 < (a1.length : Int) then
    idx a1 i198 (fun x382 =>
      idx x382 0 (fun x396 =>
        idx a1 i198 (fun x408 =>
          idx x408 1 (fun x422 =>
            idx l195 x396 (fun x434 =>
              idx a1 i198 (fun x458 =>
                idx x458 1 (fun x472 =>
                  idx a1 i198 (fun x484 =>
                    idx x484 0 (fun x498 =>
                      idx (l195.set ((x396 : Int).toNat) x422) x472 (fun x510 =>
                        ck (i198 + 1) (fun _ =>
                          some (.inl (((l195.set ((x396 : Int).toNat) x422).set ((x472 : Int).toNat) x498), i198 + 1)))))))))))))
  else
    some (.inr (.inl l195))
noncomputable def F_spec_l27Mates_k2  (l369 : (List Int)) : Option (List Int) :=
  some l369
noncomputable def F_spec_l27Mates (a0_0 : (List (List Int))) (a1 : (List (List Int))) : Option (List Int) :=
  cal (F_spec_l26None (a0_0.length : Int)) (fun x9 =>
    bnd (lp (fun s => F_spec_l27Mates_l1 a1 s.1 s.2) (x9, 0)) (fun j => F_spec_l27Mates_k2 j))
noncomputable def F_spec_l3Path_l1 (a0_0 : (List (List Int))) (a1 : (List Int)) (i111 : Int) : Option (Int ⊕ (Unit ⊕ Bool)) :=
  if i111 < (a1.length : Int) then
    idx a1 i111 (fun x220 =>
      cal (F_spec_l1There a0_0 x220) (fun x234 =>
        if ¬ (x234 = true) then
          some (.inr (.inr false))
        else
          slc a1 0 i111 (fun _ =>
            idx a1 i111 (fun x249 =>
              cal (F_spec_l1Has ((a1.drop (0 : Int).toNat).take ((i111 : Int).toNat - (0 : Int).toNat)) x249) (fun x263 =>
                if x263 = true then
                  some (.inr (.inr false))
                else
                  if 0 < i111 then
                    ck (i111 - 1) (fun _ =>
                      idx a1 (i111 - 1) (fun x274 =>
                        idx a1 i111 (fun x286 =>
                          cal (F_spec_l1Edge a0_0 x274 x286) (fun x300 =>
                            if ¬ (x300 = true) then
                              some (.inr (.inr false))
                            else
                              ck (i111 + 1) (fun _ =>
                                some (.inl (i111 + 1)))))))
                  else
                    ck (i111 + 1) (fun _ =>
                      some (.inl (i111 + 1))))))))
  else
    some (.inr (.inl ()))
noncomputable def F_spec_l3Path_k2   : Option Bool :=
  some true
noncomputable def F_spec_l3Path (a0_0 : (List (List Int))) (a1 : (List Int)) : Option Bool :=
  bnd (lp (fun s => F_spec_l3Path_l1 a0_0 a1 s) 0) (fun j => F_spec_l3Path_k2 )
noncomputable def F_spec_l27Longer_l1 (a1 : (List Int)) (a2 : (List Int)) (i181 : Int) : Option (Int ⊕ (Unit ⊕ Bool)) :=
  if i181 < (a2.length : Int) then
    if i181 = 0 then
      idx a2 i181 (fun x343 =>
        idx a1 x343 (fun x355 =>
          if x355 ≠ (-1) then
            some (.inr (.inr false))
          else
            ck (i181 + 1) (fun _ =>
              some (.inl (i181 + 1)))))
    else
      ck ((a2.length : Int) - 1) (fun _ =>
        if i181 = ((a2.length : Int) - 1) then
          idx a2 i181 (fun x375 =>
            idx a1 x375 (fun x387 =>
              if x387 ≠ (-1) then
                some (.inr (.inr false))
              else
                ck (i181 + 1) (fun _ =>
                  some (.inl (i181 + 1)))))
        else
          grd ((0 : Int) ≤ i181 ∧ (0 : Int) < 2) (
            if (i181 % 2) = 1 then
              ck (i181 + 1) (fun _ =>
                idx a2 (i181 + 1) (fun x409 =>
                  idx a2 i181 (fun x421 =>
                    idx a1 x421 (fun x433 =>
                      if x433 ≠ x409 then
                        some (.inr (.inr false))
                      else
                        ck (i181 + 1) (fun _ =>
                          some (.inl (i181 + 1)))))))
            else
              ck (i181 - 1) (fun _ =>
                idx a2 (i181 - 1) (fun x452 =>
                  idx a2 i181 (fun x464 =>
                    idx a1 x464 (fun x476 =>
                      if x476 ≠ x452 then
                        some (.inr (.inr false))
                      else
                        ck (i181 + 1) (fun _ =>
                          some (.inl (i181 + 1)))))))))
  else
    some (.inr (.inl ()))
noncomputable def F_spec_l27Longer_k2   : Option Bool :=
  some true
noncomputable def F_spec_l27Longer (a0_0 : (List (List Int))) (a1 : (List Int)) (a2 : (List Int)) : Option Bool :=
  if (a2.length : Int) < 2 then
    some false
  else
    grd ((0 : Int) ≤ (a2.length : Int) ∧ (0 : Int) < 2) (
      if ((a2.length : Int) % 2) ≠ 0 then
        some false
      else
        cal (F_spec_l3Path a0_0 a2) (fun x24 =>
          if ¬ (x24 = true) then
            some false
          else
            bnd (lp (fun s => F_spec_l27Longer_l1 a1 a2 s) 0) (fun j => F_spec_l27Longer_k2 )))
noncomputable def F_spec_SwitchedBy_l1 (a2 : (List Int)) (l218 : (List (List Int))) (l224 : (List Int)) (i227 : Int) : Option (((List (List Int)) × (List Int) × Int) ⊕ (((List (List Int)) × (List Int)) ⊕ ((List (List Int)) × Bool))) :=
  if i227 < (a2.length : Int) then
    idx a2 i227 (fun x399 =>
      ck (i227 + 1) (fun _ =>
        idx a2 (i227 + 1) (fun x413 =>
          idx l224 x399 (fun x425 =>
            ck (i227 + 1) (fun _ =>
              idx a2 (i227 + 1) (fun x451 =>
                idx a2 i227 (fun x463 =>
                  idx (l224.set ((x399 : Int).toNat) x413) x451 (fun x475 =>
                    ck (i227 + 2) (fun _ =>
                      some (.inl (l218, ((l224.set ((x399 : Int).toNat) x413).set ((x451 : Int).toNat) x463), i227 + 2)))))))))))
  else
    some (.inr (.inl (l218, l224)))
noncomputable def F_spec_SwitchedBy_l3 (a0_0 : (List (List Int))) (l380 : (List Int)) (l641 : (List (List Int))) (i647 : Int) : Option (((List (List Int)) × Int) ⊕ ((List (List Int)) ⊕ ((List (List Int)) × Bool))) :=
  cal (F_spec_l1Size a0_0) (fun x787 =>
    if i647 < x787 then
      idx l380 i647 (fun x795 =>
        if i647 < x795 then
          idx l380 i647 (fun x808 =>
            app l641 ([[i647, x808]]) (fun _ =>
              ck (i647 + 1) (fun _ =>
                some (.inl ((l641 ++ ([[i647, x808]])), i647 + 1)))))
        else
          ck (i647 + 1) (fun _ =>
            some (.inl (l641, i647 + 1))))
    else
      some (.inr (.inl l641)))
noncomputable def F_spec_SwitchedBy_k4  (l775 : (List (List Int))) : Option ((List (List Int)) × Bool) :=
  some (l775, true)
noncomputable def F_spec_SwitchedBy_k2 (a0_0 : (List (List Int))) (l374 : (List (List Int))) (l380 : (List Int)) : Option ((List (List Int)) × Bool) :=
  bnd (lp (fun s => F_spec_SwitchedBy_l3 a0_0 l380 s.1 s.2) (l374, 0)) (fun j => F_spec_SwitchedBy_k4 j)
noncomputable def F_spec_SwitchedBy (a0_0 : (List (List Int))) (a1 : (List (List Int))) (a2 : (List Int)) : Option ((List (List Int)) × Bool) :=
  cal (F_spec_MatchOk a0_0 a1) (fun x28 =>
    if ¬ (x28 = true) then
      some (([] : (List (List Int))), false)
    else
      if 16 < (a2.length : Int) then
        some (([] : (List (List Int))), false)
      else
        cal (F_spec_l27Mates a0_0 a1) (fun x36 =>
          cal (F_spec_l27Longer a0_0 x36 a2) (fun x54 =>
            if ¬ (x54 = true) then
              some (([] : (List (List Int))), false)
            else
              bnd (lp (fun s => F_spec_SwitchedBy_l1 a2 s.1 s.2.1 s.2.2) (([] : (List (List Int))), x36, 0)) (fun j => F_spec_SwitchedBy_k2 a0_0 j.1 j.2))))
noncomputable def F_impl_inRange (a0 : Int) (a1 : Int) (a2 : Int) : Option Bool :=
  if a1 ≤ a0 then
    some (decide (a0 ≤ a2))
  else
    some false
noncomputable def F_impl_increasing_l1 (a0 : (List Int)) (a1 : Int) (i49 : Int) : Option (Int ⊕ (Unit ⊕ Bool)) :=
  if i49 < (a0.length : Int) then
    idx a0 i49 (fun x108 =>
      ck (a1 - 1) (fun _ =>
        cal (F_impl_inRange x108 0 (a1 - 1)) (fun x122 =>
          if ¬ (x122 = true) then
            some (.inr (.inr false))
          else
            if 0 < i49 then
              ck (i49 - 1) (fun _ =>
                idx a0 (i49 - 1) (fun x134 =>
                  if x108 ≤ x134 then
                    some (.inr (.inr false))
                  else
                    ck (i49 + 1) (fun _ =>
                      some (.inl (i49 + 1)))))
            else
              ck (i49 + 1) (fun _ =>
                some (.inl (i49 + 1))))))
  else
    some (.inr (.inl ()))
noncomputable def F_impl_increasing_k2   : Option Bool :=
  some true
noncomputable def F_impl_increasing (a0 : (List Int)) (a1 : Int) : Option Bool :=
  bnd (lp (fun s => F_impl_increasing_l1 a0 a1 s) 0) (fun j => F_impl_increasing_k2 )
noncomputable def F_slices_Index_int64_l1 (a0 : (List Int)) (a1 : Int) (i23 : Int) : Option (Int ⊕ (Unit ⊕ Int)) :=
  if i23 < (a0.length : Int) then
    idx a0 i23 (fun x56 =>
      if a1 = x56 then
        some (.inr (.inr i23))
      else
        ck (i23 + 1) (fun _ =>
          some (.inl (i23 + 1))))
  else
    some (.inr (.inl ()))
noncomputable def F_slices_Index_int64_k2   : Option Int :=
  some (-1)
noncomputable def F_slices_Index_int64 (a0 : (List Int)) (a1 : Int) : Option Int :=
  bnd (lp (fun s => F_slices_Index_int64_l1 a0 a1 s) 0) (fun j => F_slices_Index_int64_k2 )
noncomputable def F_slices_Contains_int64 (a0 : (List Int)) (a1 : Int) : Option Bool :=
  cal (F_slices_Index_int64 a0 a1) (fun x1 =>
    some (decide (0 ≤ x1)))
noncomputable def F_impl_GraphOk_l1 (a0_0 : (List (List Int))) (i56 : Int) : Option (Int ⊕ (Unit ⊕ Bool)) :=
  if i56 < (a0_0.length : Int) then
    idx a0_0 i56 (fun x108 =>
      cal (F_impl_increasing x108 (a0_0.length : Int)) (fun x122 =>
        if ¬ (x122 = true) then
          some (.inr (.inr false))
        else
          cal (F_slices_Contains_int64 x108 i56) (fun x131 =>
            if x131 = true then
              some (.inr (.inr false))
            else
              ck (i56 + 1) (fun _ =>
                some (.inl (i56 + 1))))))
  else
    some (.inr (.inl ()))
noncomputable def F_impl_GraphOk_l4 (a0_0 : (List (List Int))) (i311 : Int) (x487 : (List Int)) (i549 : Int) : Option (Int ⊕ (Unit ⊕ (Int ⊕ (Unit ⊕ Bool)))) :=
  if i549 < (x487.length : Int) then
    idx x487 i549 (fun x606 =>
      idx a0_0 x606 (fun x618 =>
        cal (F_slices_Contains_int64 x618 i311) (fun x632 =>
          if ¬ (x632 = true) then
            some (.inr (.inr (.inr (.inr false))))
          else
            ck (i549 + 1) (fun _ =>
              some (.inl (i549 + 1))))))
  else
    some (.inr (.inl ()))
noncomputable def F_impl_GraphOk_k5 (i311 : Int)  : Option (Int ⊕ (Unit ⊕ Bool)) :=
  ck (i311 + 1) (fun _ =>
    some (.inl (i311 + 1)))
noncomputable def F_impl_GraphOk_l3 (a0_0 : (List (List Int))) (i311 : Int) : Option (Int ⊕ (Unit ⊕ Bool)) :=
  if i311 < (a0_0.length : Int) then
    idx a0_0 i311 (fun x487 =>
      bnd (lp (fun s => F_impl_GraphOk_l4 a0_0 i311 x487 s) 0) (fun j => F_impl_GraphOk_k5 i311 ))
  else
    some (.inr (.inl ()))
noncomputable def F_impl_GraphOk_k6   : Option Bool :=
  some true
noncomputable def F_impl_GraphOk_k2 (a0_0 : (List (List Int)))  : Option Bool :=
  bnd (lp (fun s => F_impl_GraphOk_l3 a0_0 s) 0) (fun j => F_impl_GraphOk_k6 )
noncomputable def F_impl_GraphOk (a0_0 : (List (List Int))) : Option Bool :=
  if (a0_0.length : Int) < 1 then
    some false
  else
    if 16 < (a0_0.length : Int) then
      some false
    else
      bnd (lp (fun s => F_impl_GraphOk_l1 a0_0 s) 0) (fun j => F_impl_GraphOk_k2 a0_0 )
noncomputable def F_impl_isVertex (a0_0 : (List (List Int))) (a1 : Int) : Option Bool :=
  cal (F_impl_GraphOk a0_0) (fun x9 =>
    if x9 = true then
      ck ((a0_0.length : Int) - 1) (fun _ =>
        cal (F_impl_inRange a1 0 ((a0_0.length : Int) - 1)) (fun x18 =>
          some x18))
    else
      some false)
noncomputable def F_impl_EdgeIn (a0_0 : (List (List Int))) (a1 : Int) (a2 : Int) : Option Bool :=
  cal (F_impl_isVertex a0_0 a1) (fun x9 =>
    if x9 = true then
      idx a0_0 a1 (fun x16 =>
        cal (F_slices_Contains_int64 x16 a2) (fun x30 =>
          some x30))
    else
      some false)
noncomputable def F_impl_isEdge (a0_0 : (List (List Int))) (a1 : (List Int)) : Option Bool :=
  if (a1.length : Int) = 2 then
    idx a1 0 (fun x10 =>
      idx a1 1 (fun x22 =>
        if x10 < x22 then
          idx a1 0 (fun x35 =>
            idx a1 1 (fun x47 =>
              cal (F_impl_EdgeIn a0_0 x35 x47) (fun x61 =>
                some x61)))
        else
          some false))
  else
    some false
noncomputable def F_impl_one (a0 : Int) : Option (BitVec 32) :=
  grd ((0 : Int) ≤ a0) (
    some ((1#32) <<< (a0 : Int).toNat))
noncomputable def F_impl_maskOf_l1 (a0 : (List Int)) (u29 : BitVec 32) (i30 : Int) : Option (((BitVec 32) × Int) ⊕ ((BitVec 32) ⊕ (BitVec 32))) :=
  if i30 < (a0.length : Int) then
    idx a0 i30 (fun x70 =>
      cal (F_impl_one x70) (fun x82 =>
        ck (i30 + 1) (fun _ =>
          some (.inl (u29 ||| x82, i30 + 1)))))
  else
    some (.inr (.inl u29))
noncomputable def F_impl_maskOf_k2  (u59 : BitVec 32) : Option (BitVec 32) :=
  some u59
noncomputable def F_impl_maskOf (a0 : (List Int)) : Option (BitVec 32) :=
  bnd (lp (fun s => F_impl_maskOf_l1 a0 s.1 s.2) (0#32, 0)) (fun j => F_impl_maskOf_k2 j)
noncomputable def F_impl_MatchOk_l1 (a0_0 : (List (List Int))) (a1 : (List (List Int))) (u124 : BitVec 32) (i125 : Int) : Option (((BitVec 32) × Int) ⊕ (Unit ⊕ Bool)) :=
  if i125 < (a1.length : Int) then
    idx a1 i125 (fun x240 =>
      cal (F_impl_isEdge a0_0 x240) (fun x256 =>
        if ¬ (x256 = true) then
          some (.inr (.inr false))
        else
          cal (F_impl_maskOf x240) (fun x266 =>
            if (x266 &&& u124) ≠ (0#32) then
              some (.inr (.inr false))
            else
              if 0 < i125 then
                ck (i125 - 1) (fun _ =>
                  idx a1 (i125 - 1) (fun x277 =>
                    idx x277 0 (fun x291 =>
                      idx x240 0 (fun x303 =>
                        if x303 ≤ x291 then
                          some (.inr (.inr false))
                        else
                          cal (F_impl_maskOf x240) (fun x321 =>
                            ck (i125 + 1) (fun _ =>
                              some (.inl (u124 ||| x321, i125 + 1))))))))
              else
                cal (F_impl_maskOf x240) (fun x332 =>
                  ck (i125 + 1) (fun _ =>
                    some (.inl (u124 ||| x332, i125 + 1)))))))
  else
    some (.inr (.inl ()))
noncomputable def F_impl_MatchOk_k2   : Option Bool :=
  some true
noncomputable def F_impl_MatchOk (a0_0 : (List (List Int))) (a1 : (List (List Int))) : Option Bool :=
  cal (F_impl_GraphOk a0_0) (fun x9 =>
    if ¬ (x9 = true) then
      some false
    else
      bnd (lp (fun s => F_impl_MatchOk_l1 a0_0 a1 s.1 s.2) (0#32, 0)) (fun j => F_impl_MatchOk_k2 ))
noncomputable def F_impl_mates_l1 (a0 : Int) (l51 : (List Int)) (i54 : Int) : Option (((List Int) × Int) ⊕ ((List Int) ⊕ (List Int))) :=
  if i54 < ((List.replicate (a0 : Int).toNat (0 : Int)).length : Int) then
    idx l51 i54 (fun x104 =>
      ck (i54 + 1) (fun _ =>
        some (.inl ((l51.set ((i54 : Int).toNat) (-1)), i54 + 1))))
  else
    some (.inr (.inl l51))
noncomputable def F_impl_mates_l3 (a1 : (List (List Int))) (l255 : (List Int)) (i258 : Int) : Option (((List Int) × Int) ⊕ ((List Int) ⊕ (List Int))) :=
  if i258 < (a1.length : Int) then
    idx a1 i258 (fun x400 =>
      idx x400 0 (fun x414 =>
        idx x400 1 (fun x426 =>
          idx x400 1 (fun x438 =>
            idx x400 0 (fun x450 =>
              idx l255 x414 (fun x462 =>
                idx (l255.set ((x414 : Int).toNat) x438) x426 (fun x486 =>
                  ck (i258 + 1) (fun _ =>
                    some (.inl (((l255.set ((x414 : Int).toNat) x438).set ((x426 : Int).toNat) x450), i258 + 1))))))))))
  else
    some (.inr (.inl l255))
noncomputable def F_impl_mates_k4  (l387 : (List Int)) : Option (List Int) :=
  some l387
noncomputable def F_impl_mates_k2 (a1 : (List (List Int))) (l91 : (List Int)) : Option (List Int) :=
  bnd (lp (fun s => F_impl_mates_l3 a1 s.1 s.2) (l91, 0)) (fun j => F_impl_mates_k4 j)
noncomputable def F_impl_mates (a0 : Int) (a1 : (List (List Int))) : Option (List Int) :=
  mkS a0 (0 : Int) (fun _ =>
    bnd (lp (fun s => F_impl_mates_l1 a0 s.1 s.2) ((List.replicate (a0 : Int).toNat (0 : Int)), 0)) (fun j => F_impl_mates_k2 a1 j))
noncomputable def F_impl_vset_has (a0 : BitVec 32) (a1 : Int) : Option Bool :=
  grd ((0 : Int) ≤ a1) (
    some (decide (((a0 >>> (a1 : Int).toNat) &&& (1#32)) = (1#32))))
noncomputable def F_impl_isTrail_l1 (a0_0 : (List (List Int))) (a1 : (List Int)) (u109 : BitVec 32) (i110 : Int) : Option (((BitVec 32) × Int) ⊕ (Unit ⊕ Bool)) :=
  if i110 < (a1.length : Int) then
    idx a1 i110 (fun x217 =>
      ck ((a0_0.length : Int) - 1) (fun _ =>
        cal (F_impl_inRange x217 0 ((a0_0.length : Int) - 1)) (fun x233 =>
          if ¬ (x233 = true) then
            some (.inr (.inr false))
          else
            cal (F_impl_vset_has u109 x217) (fun x243 =>
              if x243 = true then
                some (.inr (.inr false))
              else
                if 0 < i110 then
                  idx a0_0 x217 (fun x252 =>
                    ck (i110 - 1) (fun _ =>
                      idx a1 (i110 - 1) (fun x268 =>
                        cal (F_slices_Contains_int64 x252 x268) (fun x282 =>
                          if ¬ (x282 = true) then
                            some (.inr (.inr false))
                          else
                            cal (F_impl_one x217) (fun x290 =>
                              ck (i110 + 1) (fun _ =>
                                some (.inl (u109 ||| x290, i110 + 1))))))))
                else
                  cal (F_impl_one x217) (fun x301 =>
                    ck (i110 + 1) (fun _ =>
                      some (.inl (u109 ||| x301, i110 + 1))))))))
  else
    some (.inr (.inl ()))
noncomputable def F_impl_isTrail_k2   : Option Bool :=
  some true
noncomputable def F_impl_isTrail (a0_0 : (List (List Int))) (a1 : (List Int)) : Option Bool :=
  bnd (lp (fun s => F_impl_isTrail_l1 a0_0 a1 s.1 s.2) (0#32, 0)) (fun j => F_impl_isTrail_k2 )
noncomputable def F_impl_augments_l1 (a1 : (List Int)) (a2 : (List Int)) (i188 : Int) : Option (Int ⊕ (Unit ⊕ Bool)) :=
  ck (i188 + 1) (fun _ =>
    if (i188 + 1) < (a2.length : Int) then
      idx a2 i188 (fun x254 =>
        idx a1 x254 (fun x266 =>
          ck (i188 + 1) (fun _ =>
            idx a2 (i188 + 1) (fun x280 =>
              if x266 ≠ x280 then
                some (.inr (.inr false))
              else
                ck (i188 + 2) (fun _ =>
                  some (.inl (i188 + 2)))))))
    else
      some (.inr (.inl ())))
noncomputable def F_impl_augments_k2   : Option Bool :=
  some true
noncomputable def F_impl_augments (a0_0 : (List (List Int))) (a1 : (List Int)) (a2 : (List Int)) : Option Bool :=
  if (a2.length : Int) < 2 then
    some false
  else
    grd ((0 : Int) ≤ (a2.length : Int) ∧ (0 : Int) < 2) (
      if ((a2.length : Int) % 2) ≠ 0 then
        some false
      else
        cal (F_impl_isTrail a0_0 a2) (fun x76 =>
          if ¬ (x76 = true) then
            some false
          else
            idx a2 0 (fun x83 =>
              idx a1 x83 (fun x95 =>
                if 0 ≤ x95 then
                  some false
                else
                  ck ((a2.length : Int) - 1) (fun _ =>
                    idx a2 ((a2.length : Int) - 1) (fun x110 =>
                      idx a1 x110 (fun x122 =>
                        if 0 ≤ x122 then
                          some false
                        else
                          bnd (lp (fun s => F_impl_augments_l1 a1 a2 s) 1) (fun j => F_impl_augments_k2 ))))))))
noncomputable def F_impl_SwitchedBy_l1 (a2 : (List Int)) (l213 : (List Int)) (i216 : Int) : Option (((List Int) × Int) ⊕ ((List Int) ⊕ ((List (List Int)) × Bool))) :=
  if i216 < (a2.length : Int) then
    idx a2 i216 (fun x348 =>
      ck (i216 + 1) (fun _ =>
        idx a2 (i216 + 1) (fun x362 =>
          ck (i216 + 1) (fun _ =>
            idx a2 (i216 + 1) (fun x376 =>
              idx a2 i216 (fun x388 =>
                idx l213 x348 (fun x400 =>
                  idx (l213.set ((x348 : Int).toNat) x376) x362 (fun x424 =>
                    ck (i216 + 2) (fun _ =>
                      some (.inl (((l213.set ((x348 : Int).toNat) x376).set ((x362 : Int).toNat) x388), i216 + 2)))))))))))
  else
    some (.inr (.inl l213))
noncomputable def F_impl_SwitchedBy_l3 (l335 : (List Int)) (l562 : (List (List Int))) (i568 : Int) : Option (((List (List Int)) × Int) ⊕ ((List (List Int)) ⊕ ((List (List Int)) × Bool))) :=
  if i568 < (l335.length : Int) then
    idx l335 i568 (fun x674 =>
      if i568 < x674 then
        app l562 ([[i568, x674]]) (fun _ =>
          ck (i568 + 1) (fun _ =>
            some (.inl ((l562 ++ ([[i568, x674]])), i568 + 1))))
      else
        ck (i568 + 1) (fun _ =>
          some (.inl (l562, i568 + 1))))
  else
    some (.inr (.inl l562))
noncomputable def F_impl_SwitchedBy_k4  (l661 : (List (List Int))) : Option ((List (List Int)) × Bool) :=
  some (l661, true)
noncomputable def F_impl_SwitchedBy_k2  (l335 : (List Int)) : Option ((List (List Int)) × Bool) :=
  bnd (lp (fun s => F_impl_SwitchedBy_l3 l335 s.1 s.2) (([] : (List (List Int))), 0)) (fun j => F_impl_SwitchedBy_k4 j)
noncomputable def F_impl_SwitchedBy (a0_0 : (List (List Int))) (a1 : (List (List Int))) (a2 : (List Int)) : Option ((List (List Int)) × Bool) :=
  cal (F_impl_MatchOk a0_0 a1) (fun x46 =>
    if ¬ (x46 = true) then
      some (([] : (List (List Int))), false)
    else
      cal (F_impl_mates (a0_0.length : Int) a1) (fun x55 =>
        cal (F_impl_augments a0_0 x55 a2) (fun x73 =>
          if ¬ (x73 = true) then
            some (([] : (List (List Int))), false)
          else
            cal (F_impl_mates (a0_0.length : Int) a1) (fun x79 =>
              bnd (lp (fun s => F_impl_SwitchedBy_l1 a2 s.1 s.2) (x79, 0)) (fun j => F_impl_SwitchedBy_k2 j)))))
noncomputable def F_laws_eqInt64S_l1 (a0 : (List Int)) (a1 : (List Int)) (i39 : Int) : Option (Int ⊕ (Unit ⊕ Bool)) :=
  if i39 < (a0.length : Int) then
    idx a0 i39 (fun x87 =>
      idx a1 i39 (fun x99 =>
        if x87 ≠ x99 then
          some (.inr (.inr false))
        else
          ck (i39 + 1) (fun _ =>
            some (.inl (i39 + 1)))))
  else
    some (.inr (.inl ()))
noncomputable def F_laws_eqInt64S_k2   : Option Bool :=
  some true
noncomputable def F_laws_eqInt64S (a0 : (List Int)) (a1 : (List Int)) : Option Bool :=
  if (a0.length : Int) ≠ (a1.length : Int) then
    some false
  else
    bnd (lp (fun s => F_laws_eqInt64S_l1 a0 a1 s) 0) (fun j => F_laws_eqInt64S_k2 )
noncomputable def F_laws_eqInt64SS_l1 (a0 : (List (List Int))) (a1 : (List (List Int))) (i47 : Int) : Option (Int ⊕ (Unit ⊕ Bool)) :=
  if i47 < (a0.length : Int) then
    idx a0 i47 (fun x103 =>
      idx a1 i47 (fun x117 =>
        cal (F_laws_eqInt64S x103 x117) (fun x133 =>
          if ¬ (x133 = true) then
            some (.inr (.inr false))
          else
            ck (i47 + 1) (fun _ =>
              some (.inl (i47 + 1))))))
  else
    some (.inr (.inl ()))
noncomputable def F_laws_eqInt64SS_k2   : Option Bool :=
  some true
noncomputable def F_laws_eqInt64SS (a0 : (List (List Int))) (a1 : (List (List Int))) : Option Bool :=
  if (a0.length : Int) ≠ (a1.length : Int) then
    some false
  else
    bnd (lp (fun s => F_laws_eqInt64SS_l1 a0 a1 s) 0) (fun j => F_laws_eqInt64SS_k2 )
noncomputable def F_laws_eqGraph (a0_0 : (List (List Int))) (a1_0 : (List (List Int))) : Option Bool :=
  cal (F_laws_eqInt64SS a0_0 a1_0) (fun x19 =>
    if ¬ (x19 = true) then
      some false
    else
      some true)
noncomputable def F_laws_markInt64S_l1  (l38 : (List Int)) (i41 : Int) (i43 : Int) : Option (((List Int) × Int × Int) ⊕ ((Int × (List Int)) ⊕ (Int × (List Int)))) :=
  if i43 < (l38.length : Int) then
    idx l38 i43 (fun x95 =>
      ck (i41 + 1) (fun _ =>
        ck (i43 + 1) (fun _ =>
          some (.inl ((l38.set ((i43 : Int).toNat) i41), i41 + 1, i43 + 1)))))
  else
    some (.inr (.inl (i41, l38)))
noncomputable def F_laws_markInt64S_k2  (i79 : Int) (l82 : (List Int)) : Option (Int × (List Int)) :=
  some (i79, l82)
noncomputable def F_laws_markInt64S (a0 : (List Int)) (a1 : Int) : Option (Int × (List Int)) :=
  bnd (lp (fun s => F_laws_markInt64S_l1 s.1 s.2.1 s.2.2) (a0, a1, 0)) (fun j => F_laws_markInt64S_k2 j.1 j.2)
noncomputable def F_laws_markInt64SS_l1  (l46 : (List (List Int))) (i49 : Int) (i51 : Int) : Option (((List (List Int)) × Int × Int) ⊕ ((Int × (List (List Int))) ⊕ (Int × (List (List Int))))) :=
  if i51 < (l46.length : Int) then
    idx l46 i51 (fun x111 =>
      cal (F_laws_markInt64S x111 i49) (fun x130 =>
        ck (i51 + 1) (fun _ =>
          some (.inl ((l46.set ((i51 : Int).toNat) x130.2), x130.1, i51 + 1)))))
  else
    some (.inr (.inl (i49, l46)))
noncomputable def F_laws_markInt64SS_k2  (i95 : Int) (l98 : (List (List Int))) : Option (Int × (List (List Int))) :=
  some (i95, l98)
noncomputable def F_laws_markInt64SS (a0 : (List (List Int))) (a1 : Int) : Option (Int × (List (List Int))) :=
  bnd (lp (fun s => F_laws_markInt64SS_l1 s.1 s.2.1 s.2.2) (a0, a1, 0)) (fun j => F_laws_markInt64SS_k2 j.1 j.2)
noncomputable def F_laws_markGraph (a0_0 : (List (List Int))) (a1 : Int) : Option (Int × (List (List Int))) :=
  cal (F_laws_markInt64SS a0_0 a1) (fun x11 =>
    some (x11.1, x11.2))
noncomputable def F_laws_heldInt64S_l1 (a0 : (List Int)) (i27 : Int) (i29 : Int) : Option ((Int × Int) ⊕ (Int ⊕ Int)) :=
  if i29 < (a0.length : Int) then
    idx a0 i29 (fun x68 =>
      if x68 ≠ i27 then
        some (.inr (.inr (-1)))
      else
        ck (i27 + 1) (fun _ =>
          ck (i29 + 1) (fun _ =>
            some (.inl (i27 + 1, i29 + 1)))))
  else
    some (.inr (.inl i27))
noncomputable def F_laws_heldInt64S_k2  (i56 : Int) : Option Int :=
  some i56
noncomputable def F_laws_heldInt64S (a0 : (List Int)) (a1 : Int) : Option Int :=
  bnd (lp (fun s => F_laws_heldInt64S_l1 a0 s.1 s.2) (a1, 0)) (fun j => F_laws_heldInt64S_k2 j)
noncomputable def F_laws_heldInt64SS_l1 (a0 : (List (List Int))) (i34 : Int) (i36 : Int) : Option ((Int × Int) ⊕ (Int ⊕ Int)) :=
  if i36 < (a0.length : Int) then
    idx a0 i36 (fun x82 =>
      cal (F_laws_heldInt64S x82 i34) (fun x96 =>
        if x96 < 0 then
          some (.inr (.inr (-1)))
        else
          ck (i36 + 1) (fun _ =>
            some (.inl (x96, i36 + 1)))))
  else
    some (.inr (.inl i34))
noncomputable def F_laws_heldInt64SS_k2  (i70 : Int) : Option Int :=
  some i70
noncomputable def F_laws_heldInt64SS (a0 : (List (List Int))) (a1 : Int) : Option Int :=
  bnd (lp (fun s => F_laws_heldInt64SS_l1 a0 s.1 s.2) (a1, 0)) (fun j => F_laws_heldInt64SS_k2 j)
noncomputable def F_laws_FnExactSwitchedBy (a0_0 : (List (List Int))) (a1 : (List (List Int))) (a2 : (List Int)) : Option Bool :=
  if 1048576 < (a2.length : Int) then
    some true
  else
    cal (F_laws_szGraph a0_0 1048576) (fun x10 =>
      if x10 < 0 then
        some true
      else
        cal (F_laws_szInt64SS a1 x10) (fun x18 =>
          if x18 < 0 then
            some true
          else
            cal (F_laws_toGraph a0_0) (fun x26 =>
              cal (F_laws_toInt64SS a1) (fun x45 =>
                cal (F_laws_toInt64S a2) (fun x67 =>
                  cal (F_spec_SwitchedBy x26 x45 x67) (fun x95 =>
                    cal (F_laws_toGraph a0_0) (fun x126 =>
                      cal (F_laws_toInt64SS a1) (fun x167 =>
                        cal (F_laws_toInt64S a2) (fun x196 =>
                          cal (F_impl_SwitchedBy x126 x167 x196) (fun x229 =>
                            cal (F_laws_eqInt64SS x229.1 x95.1) (fun x287 =>
                              if ¬ (x287 = true) then
                                some false
                              else
                                if (x229.2 != x95.2) = true then
                                  some false
                                else
                                  cal (F_laws_toGraph a0_0) (fun x298 =>
                                    cal (F_laws_eqGraph x126 x298) (fun x347 =>
                                      if ¬ (x347 = true) then
                                        some false
                                      else
                                        cal (F_laws_toInt64SS a1) (fun x353 =>
                                          cal (F_laws_eqInt64SS x167 x353) (fun x399 =>
                                            if ¬ (x399 = true) then
                                              some false
                                            else
                                              cal (F_laws_toInt64S a2) (fun x406 =>
                                                cal (F_laws_eqInt64S x196 x406) (fun x441 =>
                                                  if ¬ (x441 = true) then
                                                    some false
                                                  else
                                                    cal (F_laws_markGraph x126 1) (fun x448 =>
                                                      cal (F_laws_markInt64SS x167 x448.1) (fun x456 =>
                                                        cal (F_laws_markInt64S x196 x456.1) (fun x464 =>
                                                          if x464.1 < 0 then
                                                            some false
                                                          else
                                                            cal (F_laws_eqInt64SS x229.1 x95.1) (fun x494 =>
                                                              if ¬ (x494 = true) then
                                                                some false
                                                              else
                                                                if (x229.2 != x95.2) = true then
                                                                  some false
                                                                else
                                                                  cal (F_laws_markInt64SS x229.1 1) (fun x502 =>
                                                                    cal (F_laws_heldInt64SS x502.2 1) (fun x513 =>
                                                                      if x513 < 0 then
                                                                        some false
                                                                      else
                                                                        if x513 ≠ x502.1 then
                                                                          some false
                                                                        else
                                                                          cal (F_laws_toGraph a0_0) (fun x522 =>
                                                                            cal (F_laws_toInt64SS a1) (fun x549 =>
                                                                              cal (F_laws_toInt64S a2) (fun x579 =>
                                                                                cal (F_impl_SwitchedBy x522 x549 x579) (fun x613 =>
                                                                                  cal (F_laws_eqInt64SS x613.1 x95.1) (fun x672 =>
                                                                                    if ¬ (x672 = true) then
                                                                                      some false
                                                                                    else
                                                                                      if (x613.2 != x95.2) = true then
                                                                                        some false
                                                                                      else
                                                                                        cal (F_laws_heldInt64SS x502.2 1) (fun x683 =>
                                                                                          if x683 < 0 then
                                                                                            some false
                                                                                          else
                                                                                            if x683 ≠ x502.1 then
                                                                                              some false
                                                                                            else
                                                                                              some true)))))))))))))))))))))))))))))
end Go.Proofs.Ytlbgoodonecebab
