/- Functional forms, printed by gen.py. -/
import Derived.Test.YtgikmgceiiahpaaPure
namespace Go.Proofs.Ytgikmgceiiahpaa

noncomputable def F_laws_toInt64S_l1 (a0 : (List Int)) (l63 : (List Int)) (i66 : Int) : Option (((List Int) × Int) ⊕ ((List Int) ⊕ (List Int))) :=
  if i66 < (a0.length : Int) then
    idx a0 i66 (fun x128 =>
      idx l63 i66 (fun x140 =>
        ck (i66 + 1) (fun _ =>
          some (.inl ((l63.set ((i66 : Int).toNat) x128), i66 + 1)))))
  else
    some (.inr (.inl l63))
noncomputable def F_laws_toInt64S_k2  (l115 : (List Int)) : Option (List Int) :=
  some l115
noncomputable def F_laws_toInt64S (a0 : (List Int)) : Option (List Int) :=
  mkS (a0.length : Int) (0 : Int) (fun _ =>
    bnd (lp (fun s => F_laws_toInt64S_l1 a0 s.1 s.2) ((List.replicate ((a0.length : Int) : Int).toNat (0 : Int)), 0)) (fun j => F_laws_toInt64S_k2 j))
noncomputable def F_spec_l1In (a0 : Int) (a1 : Int) (a2 : Int) : Option Bool :=
  if a1 ≤ a0 then
    some (decide (a0 ≤ a2))
  else
    some false
noncomputable def F_spec_l1Copy (a0 : (List Int)) : Option (List Int) :=
  app ([] : (List Int)) a0 (fun _ =>
    some (([] : (List Int)) ++ a0))
noncomputable def F_spec_NumsParts_l1 (a0 : (List Int)) (l331 : (List (Int × (Int × (List Int))))) (i334 : Int) : Option (((List (Int × (Int × (List Int)))) × Int) ⊕ ((List (Int × (Int × (List Int)))) ⊕ ((List (Int × (Int × (List Int)))) × Bool))) :=
  if i334 < (a0.length : Int) then
    ck (i334 + 3) (fun _ =>
      if (a0.length : Int) < (i334 + 3) then
        some (.inr (.inr (([] : (List (Int × (Int × (List Int))))), false)))
      else
        ck (i334 + 2) (fun _ =>
          idx a0 (i334 + 2) (fun x774 =>
            cal (F_spec_l1In x774 0 16) (fun x786 =>
              if ¬ (x786 = true) then
                some (.inr (.inr (([] : (List (Int × (Int × (List Int))))), false)))
              else
                ck (i334 + 3) (fun _ =>
                  ck (i334 + 2) (fun _ =>
                    idx a0 (i334 + 2) (fun x811 =>
                      ck ((i334 + 3) + x811) (fun _ =>
                        if (a0.length : Int) < ((i334 + 3) + x811) then
                          some (.inr (.inr (([] : (List (Int × (Int × (List Int))))), false)))
                        else
                          if (l331.length : Int) = 31 then
                            some (.inr (.inr (([] : (List (Int × (Int × (List Int))))), false)))
                          else
                            ck (i334 + 3) (fun _ =>
                              ck (i334 + 2) (fun _ =>
                                idx a0 (i334 + 2) (fun x859 =>
                                  ck ((i334 + 3) + x859) (fun _ =>
                                    idx a0 i334 (fun x873 =>
                                      ck (i334 + 1) (fun _ =>
                                        idx a0 (i334 + 1) (fun x887 =>
                                          ck (i334 + 3) (fun _ =>
                                            slc a0 (i334 + 3) ((i334 + 3) + x859) (fun _ =>
                                              cal (F_spec_l1Copy ((a0.drop (i334 + 3 : Int).toNat).take (((i334 + 3) + x859 : Int).toNat - (i334 + 3 : Int).toNat))) (fun x911 =>
                                                app l331 ([(x873, x887, x911)]) (fun _ =>
                                                  some (.inl ((l331 ++ ([(x873, x887, x911)])), (i334 + 3) + x859)))))))))))))))))))))
  else
    some (.inr (.inl l331))
noncomputable def F_spec_NumsParts_k2  (l650 : (List (Int × (Int × (List Int))))) : Option ((List (Int × (Int × (List Int)))) × Bool) :=
  some (l650, true)
noncomputable def F_spec_NumsParts (a0 : (List Int)) : Option ((List (Int × (Int × (List Int)))) × Bool) :=
  bnd (lp (fun s => F_spec_NumsParts_l1 a0 s.1 s.2) (([] : (List (Int × (Int × (List Int))))), 0)) (fun j => F_spec_NumsParts_k2 j)
noncomputable def F_impl_inRange (a0 : Int) (a1 : Int) (a2 : Int) : Option Bool :=
  if a1 ≤ a0 then
    some (decide (a0 ≤ a2))
  else
    some false
noncomputable def F_slices_Clone_int64 (a0 : (List Int)) : Option (List Int) :=
  app ([] : (List Int)) a0 (fun _ =>
    some (([] : (List Int)) ++ a0))
noncomputable def F_impl_NumsParts_l1  (l218 : (List Int)) (l227 : (List (Int × (Int × (List Int))))) : Option (((List Int) × (List (Int × (Int × (List Int))))) ⊕ ((List (Int × (Int × (List Int)))) ⊕ ((List (Int × (Int × (List Int)))) × Bool))) :=
  if 0 < (l218.length : Int) then
    if (l218.length : Int) < 3 then
      some (.inr (.inr (([] : (List (Int × (Int × (List Int))))), false)))
    else
      idx l218 2 (fun x499 =>
        cal (F_impl_inRange x499 0 16) (fun x511 =>
          if ¬ (x511 = true) then
            some (.inr (.inr (([] : (List (Int × (Int × (List Int))))), false)))
          else
            idx l218 2 (fun x520 =>
              ck (3 + x520) (fun _ =>
                if (l218.length : Int) < (3 + x520) then
                  some (.inr (.inr (([] : (List (Int × (Int × (List Int))))), false)))
                else
                  if (l227.length : Int) = 31 then
                    some (.inr (.inr (([] : (List (Int × (Int × (List Int))))), false)))
                  else
                    idx l218 2 (fun x540 =>
                      ck (3 + x540) (fun _ =>
                        idx l218 0 (fun x554 =>
                          idx l218 1 (fun x566 =>
                            slc l218 3 (3 + x540) (fun _ =>
                              cal (F_slices_Clone_int64 ((l218.drop (3 : Int).toNat).take ((3 + x540 : Int).toNat - (3 : Int).toNat))) (fun x589 =>
                                app l227 ([(x554, x566, x589)]) (fun _ =>
                                  slc l218 (3 + x540) (l218.length : Int) (fun _ =>
                                    some (.inl (((l218.drop (3 + x540 : Int).toNat).take (((l218.length : Int) : Int).toNat - (3 + x540 : Int).toNat)), (l227 ++ ([(x554, x566, x589)]))))))))))))))))
  else
    some (.inr (.inl l227))
noncomputable def F_impl_NumsParts_k2  (l444 : (List (Int × (Int × (List Int))))) : Option ((List (Int × (Int × (List Int)))) × Bool) :=
  some (l444, true)
noncomputable def F_impl_NumsParts (a0 : (List Int)) : Option ((List (Int × (Int × (List Int)))) × Bool) :=
  bnd (lp (fun s => F_impl_NumsParts_l1 s.1 s.2) (a0, ([] : (List (Int × (Int × (List Int))))))) (fun j => F_impl_NumsParts_k2 j)
noncomputable def F_laws_eqInt64S_l1 (a0 : (List Int)) (a1 : (List Int)) (i39 : Int) : Option (Int ⊕ (Unit ⊕ Bool)) :=
  if i39 < (a0.length : Int) then
    idx a0 i39 (fun x87 =>
      idx a1 i39 (fun x99 =>
        if x87 ≠ x99 then
          some (.inr (.inr false))
        else
          ck (i39 + 1) (fun _ =>
            some (.inl (i39 + 1)))))
  else
    some (.inr (.inl ()))
noncomputable def F_laws_eqInt64S_k2   : Option Bool :=
  some true
noncomputable def F_laws_eqInt64S (a0 : (List Int)) (a1 : (List Int)) : Option Bool :=
  if (a0.length : Int) ≠ (a1.length : Int) then
    some false
  else
    bnd (lp (fun s => F_laws_eqInt64S_l1 a0 a1 s) 0) (fun j => F_laws_eqInt64S_k2 )
noncomputable def F_laws_eqPart (a0_0 : Int) (a0_1 : Int) (a0_2 : (List Int)) (a1_0 : Int) (a1_1 : Int) (a1_2 : (List Int)) : Option Bool :=
  if a0_0 ≠ a1_0 then
    some false
  else
    if a0_1 ≠ a1_1 then
      some false
    else
      cal (F_laws_eqInt64S a0_2 a1_2) (fun x21 =>
        if ¬ (x21 = true) then
          some false
        else
          some true)
noncomputable def F_laws_eqPartS_l1 (a0 : (List (Int × (Int × (List Int))))) (a1 : (List (Int × (Int × (List Int))))) (i83 : Int) : Option (Int ⊕ (Unit ⊕ Bool)) :=
  if i83 < (a0.length : Int) then
    idx a0 i83 (fun x175 =>
      idx a1 i83 (fun x207 =>
        cal (F_laws_eqPart x175.1 x175.2.1 x175.2.2 x207.1 x207.2.1 x207.2.2) (fun x241 =>
          if ¬ (x241 = true) then
            some (.inr (.inr false))
          else
            ck (i83 + 1) (fun _ =>
              some (.inl (i83 + 1))))))
  else
    some (.inr (.inl ()))
noncomputable def F_laws_eqPartS_k2   : Option Bool :=
  some true
noncomputable def F_laws_eqPartS (a0 : (List (Int × (Int × (List Int))))) (a1 : (List (Int × (Int × (List Int))))) : Option Bool :=
  if (a0.length : Int) ≠ (a1.length : Int) then
    some false
  else
    bnd (lp (fun s => F_laws_eqPartS_l1 a0 a1 s) 0) (fun j => F_laws_eqPartS_k2 )
noncomputable def F_laws_markInt64S_l1  (l38 : (List Int)) (i41 : Int) (i43 : Int) : Option (((List Int) × Int × Int) ⊕ ((Int × (List Int)) ⊕ (Int × (List Int)))) :=
  if i43 < (l38.length : Int) then
    idx l38 i43 (fun x95 =>
      ck (i41 + 1) (fun _ =>
        ck (i43 + 1) (fun _ =>
          some (.inl ((l38.set ((i43 : Int).toNat) i41), i41 + 1, i43 + 1)))))
  else
    some (.inr (.inl (i41, l38)))
noncomputable def F_laws_markInt64S_k2  (i79 : Int) (l82 : (List Int)) : Option (Int × (List Int)) :=
  some (i79, l82)
noncomputable def F_laws_markInt64S (a0 : (List Int)) (a1 : Int) : Option (Int × (List Int)) :=
  bnd (lp (fun s => F_laws_markInt64S_l1 s.1 s.2.1 s.2.2) (a0, a1, 0)) (fun j => F_laws_markInt64S_k2 j.1 j.2)
noncomputable def F_laws_markPartS_l1  (l164 : (List (Int × (Int × (List Int))))) (i167 : Int) (i169 : Int) : Option (((List (Int × (Int × (List Int)))) × Int × Int) ⊕ ((Int × (List (Int × (Int × (List Int))))) ⊕ (Int × (List (Int × (Int × (List Int))))))) :=
  if i169 < (l164.length : Int) then
    idx l164 i169 (fun x347 =>
      ck (i167 + 1) (fun _ =>
        idx (l164.set ((i169 : Int).toNat) (i167, x347.2.1, x347.2.2)) i169 (fun x395 =>
          ck ((i167 + 1) + 1) (fun _ =>
            idx ((l164.set ((i169 : Int).toNat) (i167, x347.2.1, x347.2.2)).set ((i169 : Int).toNat) (x395.1, i167 + 1, x395.2.2)) i169 (fun x443 =>
              cal (F_laws_markInt64S x443.2.2 ((i167 + 1) + 1)) (fun x484 =>
                ck (i169 + 1) (fun _ =>
                  some (.inl ((((l164.set ((i169 : Int).toNat) (i167, x347.2.1, x347.2.2)).set ((i169 : Int).toNat) (x395.1, i167 + 1, x395.2.2)).set ((i169 : Int).toNat) (x443.1, x443.2.1, x484.2)), x484.1, i169 + 1)))))))))
  else
    some (.inr (.inl (i167, l164)))
noncomputable def F_laws_markPartS_k2  (i331 : Int) (l334 : (List (Int × (Int × (List Int))))) : Option (Int × (List (Int × (Int × (List Int))))) :=
  some (i331, l334)
noncomputable def F_laws_markPartS (a0 : (List (Int × (Int × (List Int))))) (a1 : Int) : Option (Int × (List (Int × (Int × (List Int))))) :=
  bnd (lp (fun s => F_laws_markPartS_l1 s.1 s.2.1 s.2.2) (a0, a1, 0)) (fun j => F_laws_markPartS_k2 j.1 j.2)
noncomputable def F_laws_heldInt64S_l1 (a0 : (List Int)) (i27 : Int) (i29 : Int) : Option ((Int × Int) ⊕ (Int ⊕ Int)) :=
  if i29 < (a0.length : Int) then
    idx a0 i29 (fun x68 =>
      if x68 ≠ i27 then
        some (.inr (.inr (-1)))
      else
        ck (i27 + 1) (fun _ =>
          ck (i29 + 1) (fun _ =>
            some (.inl (i27 + 1, i29 + 1)))))
  else
    some (.inr (.inl i27))
noncomputable def F_laws_heldInt64S_k2  (i56 : Int) : Option Int :=
  some i56
noncomputable def F_laws_heldInt64S (a0 : (List Int)) (a1 : Int) : Option Int :=
  bnd (lp (fun s => F_laws_heldInt64S_l1 a0 s.1 s.2) (a1, 0)) (fun j => F_laws_heldInt64S_k2 j)
noncomputable def F_laws_heldPartS_l1 (a0 : (List (Int × (Int × (List Int))))) (i122 : Int) (i124 : Int) : Option ((Int × Int) ⊕ (Int ⊕ Int)) :=
  if i124 < (a0.length : Int) then
    idx a0 i124 (fun x258 =>
      if x258.1 ≠ i122 then
        some (.inr (.inr (-1)))
      else
        ck (i122 + 1) (fun _ =>
          idx a0 i124 (fun x295 =>
            if x295.2.1 ≠ (i122 + 1) then
              some (.inr (.inr (-1)))
            else
              ck ((i122 + 1) + 1) (fun _ =>
                idx a0 i124 (fun x332 =>
                  cal (F_laws_heldInt64S x332.2.2 ((i122 + 1) + 1)) (fun x364 =>
                    if x364 < 0 then
                      some (.inr (.inr (-1)))
                    else
                      ck (i124 + 1) (fun _ =>
                        some (.inl (x364, i124 + 1)))))))))
  else
    some (.inr (.inl i122))
noncomputable def F_laws_heldPartS_k2  (i246 : Int) : Option Int :=
  some i246
noncomputable def F_laws_heldPartS (a0 : (List (Int × (Int × (List Int))))) (a1 : Int) : Option Int :=
  bnd (lp (fun s => F_laws_heldPartS_l1 a0 s.1 s.2) (a1, 0)) (fun j => F_laws_heldPartS_k2 j)
noncomputable def F_laws_FnExactNumsParts (a0 : (List Int)) : Option Bool :=
  if 1048576 < (a0.length : Int) then
    some true
  else
    cal (F_laws_toInt64S a0) (fun x2 =>
      cal (F_spec_NumsParts x2) (fun x15 =>
        cal (F_laws_toInt64S a0) (fun x35 =>
          cal (F_impl_NumsParts x35) (fun x51 =>
            cal (F_laws_eqPartS x51.1 x15.1) (fun x91 =>
              if ¬ (x91 = true) then
                some false
              else
                if (x51.2 != x15.2) = true then
                  some false
                else
                  cal (F_laws_toInt64S a0) (fun x99 =>
                    cal (F_laws_eqInt64S x35 x99) (fun x122 =>
                      if ¬ (x122 = true) then
                        some false
                      else
                        cal (F_laws_markInt64S x35 1) (fun x129 =>
                          if x129.1 < 0 then
                            some false
                          else
                            cal (F_laws_eqPartS x51.1 x15.1) (fun x155 =>
                              if ¬ (x155 = true) then
                                some false
                              else
                                if (x51.2 != x15.2) = true then
                                  some false
                                else
                                  cal (F_laws_markPartS x51.1 1) (fun x163 =>
                                    cal (F_laws_heldPartS x163.2 1) (fun x173 =>
                                      if x173 < 0 then
                                        some false
                                      else
                                        if x173 ≠ x163.1 then
                                          some false
                                        else
                                          cal (F_laws_toInt64S a0) (fun x182 =>
                                            cal (F_impl_NumsParts x182) (fun x201 =>
                                              cal (F_laws_eqPartS x201.1 x15.1) (fun x245 =>
                                                if ¬ (x245 = true) then
                                                  some false
                                                else
                                                  if (x201.2 != x15.2) = true then
                                                    some false
                                                  else
                                                    cal (F_laws_heldPartS x163.2 1) (fun x255 =>
                                                      if x255 < 0 then
                                                        some false
                                                      else
                                                        if x255 ≠ x163.1 then
                                                          some false
                                                        else
                                                          some true)))))))))))))))
end Go.Proofs.Ytgikmgceiiahpaa
