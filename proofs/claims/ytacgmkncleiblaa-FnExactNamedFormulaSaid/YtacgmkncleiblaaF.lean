/- Functional forms, printed by gen.py. -/
import Derived.Test.YtacgmkncleiblaaPure
namespace Go.Proofs.Ytacgmkncleiblaa

noncomputable def F_spec_l1In (a0 : Int) (a1 : Int) (a2 : Int) : Option Bool :=
  if a1 ≤ a0 then
    some (decide (a0 ≤ a2))
  else
    some false
noncomputable def F_spec_NamedFormula_l1 (a0 : Int) (l396 : (List (List Int))) (l404 : (List (Int × (Int × Int)))) (i407 : Int) : Option (((List (List Int)) × (List (Int × (Int × Int))) × Int) ⊕ ((List (Int × (Int × Int))) ⊕ ((List (Int × (Int × Int))) × Bool))) :=
  idx l396 a0 (fun x668 =>
    if i407 < (x668.length : Int) then
      idx l396 a0 (fun x687 =>
        idx x687 i407 (fun x705 =>
          idx l396 a0 (fun x717 =>
            ck (i407 + 1) (fun _ =>
              idx x717 (i407 + 1) (fun x737 =>
                idx l396 a0 (fun x749 =>
                  ck (i407 + 2) (fun _ =>
                    idx x749 (i407 + 2) (fun x769 =>
                      app l404 ([(x705, x737, x769)]) (fun _ =>
                        ck (i407 + 3) (fun _ =>
                          some (.inl (l396, (l404 ++ ([(x705, x737, x769)])), i407 + 3))))))))))))
    else
      some (.inr (.inl l404)))
noncomputable def F_spec_NamedFormula_k2  (l639 : (List (Int × (Int × Int)))) : Option ((List (Int × (Int × Int))) × Bool) :=
  some (l639, true)
noncomputable def F_spec_NamedFormula (a0 : Int) : Option ((List (Int × (Int × Int))) × Bool) :=
  ck ((([[1, 0, 1, 7, 1, 0, 4, 1, 0, 7, 0, 2], [1, 0, 1, 2, 0, 1, 6, 0, 1, 4, 2, 0, 7, 1, 3, 4, 4, 0, 7, 0, 5], [1, 0, 1, 1, 0, 2, 1, 1, 2, 5, 0, 1, 5, 3, 2, 7, 2, 4, 7, 1, 5, 7, 0, 6], [3, 0, 0, 3, 1, 0, 5, 0, 1, 4, 0, 0, 4, 1, 0, 5, 3, 4, 6, 2, 5, 1, 0, 1, 5, 7, 6, 7, 1, 8, 7, 0, 9, 4, 10, 0, 8, 0, 11], [3, 0, 0, 3, 1, 0, 4, 1, 0, 5, 0, 2, 1, 0, 1, 5, 3, 4, 7, 1, 5, 7, 0, 6, 4, 7, 0, 7, 0, 0, 4, 0, 0, 7, 0, 10, 5, 8, 9, 5, 12, 11, 8, 0, 13]]).length : Int) - 1) (fun _ =>
    cal (F_spec_l1In a0 0 ((([[1, 0, 1, 7, 1, 0, 4, 1, 0, 7, 0, 2], [1, 0, 1, 2, 0, 1, 6, 0, 1, 4, 2, 0, 7, 1, 3, 4, 4, 0, 7, 0, 5], [1, 0, 1, 1, 0, 2, 1, 1, 2, 5, 0, 1, 5, 3, 2, 7, 2, 4, 7, 1, 5, 7, 0, 6], [3, 0, 0, 3, 1, 0, 5, 0, 1, 4, 0, 0, 4, 1, 0, 5, 3, 4, 6, 2, 5, 1, 0, 1, 5, 7, 6, 7, 1, 8, 7, 0, 9, 4, 10, 0, 8, 0, 11], [3, 0, 0, 3, 1, 0, 4, 1, 0, 5, 0, 2, 1, 0, 1, 5, 3, 4, 7, 1, 5, 7, 0, 6, 4, 7, 0, 7, 0, 0, 4, 0, 0, 7, 0, 10, 5, 8, 9, 5, 12, 11, 8, 0, 13]]).length : Int) - 1)) (fun x123 =>
      if ¬ (x123 = true) then
        some (([] : (List (Int × (Int × Int)))), false)
      else
        bnd (lp (fun s => F_spec_NamedFormula_l1 a0 s.1 s.2.1 s.2.2) ([[1, 0, 1, 7, 1, 0, 4, 1, 0, 7, 0, 2], [1, 0, 1, 2, 0, 1, 6, 0, 1, 4, 2, 0, 7, 1, 3, 4, 4, 0, 7, 0, 5], [1, 0, 1, 1, 0, 2, 1, 1, 2, 5, 0, 1, 5, 3, 2, 7, 2, 4, 7, 1, 5, 7, 0, 6], [3, 0, 0, 3, 1, 0, 5, 0, 1, 4, 0, 0, 4, 1, 0, 5, 3, 4, 6, 2, 5, 1, 0, 1, 5, 7, 6, 7, 1, 8, 7, 0, 9, 4, 10, 0, 8, 0, 11], [3, 0, 0, 3, 1, 0, 4, 1, 0, 5, 0, 2, 1, 0, 1, 5, 3, 4, 7, 1, 5, 7, 0, 6, 4, 7, 0, 7, 0, 0, 4, 0, 0, 7, 0, 10, 5, 8, 9, 5, 12, 11, 8, 0, 13]], ([] : (List (Int × (Int × Int)))), 0)) (fun j => F_spec_NamedFormula_k2 j)))
noncomputable def F_impl_NamedFormula (a0 : Int) : Option ((List (Int × (Int × Int))) × Bool) :=
  if a0 = 0 then
    some ([(1, 0, 1), (7, 1, 0), (4, 1, 0), (7, 0, 2)], true)
  else
    if a0 = 1 then
      some ([(1, 0, 1), (2, 0, 1), (6, 0, 1), (4, 2, 0), (7, 1, 3), (4, 4, 0), (7, 0, 5)], true)
    else
      if a0 = 2 then
        some ([(1, 0, 1), (1, 0, 2), (1, 1, 2), (5, 0, 1), (5, 3, 2), (7, 2, 4), (7, 1, 5), (7, 0, 6)], true)
      else
        if a0 = 3 then
          some ([(3, 0, 0), (3, 1, 0), (5, 0, 1), (4, 0, 0), (4, 1, 0), (5, 3, 4), (6, 2, 5), (1, 0, 1), (5, 7, 6), (7, 1, 8), (7, 0, 9), (4, 10, 0), (8, 0, 11)], true)
        else
          if a0 = 4 then
            some ([(3, 0, 0), (3, 1, 0), (4, 1, 0), (5, 0, 2), (1, 0, 1), (5, 3, 4), (7, 1, 5), (7, 0, 6), (4, 7, 0), (7, 0, 0), (4, 0, 0), (7, 0, 10), (5, 8, 9), (5, 12, 11), (8, 0, 13)], true)
          else
            some (([] : (List (Int × (Int × Int)))), false)
noncomputable def F_laws_eqFact (a0_0 : Int) (a0_1 : Int) (a0_2 : Int) (a1_0 : Int) (a1_1 : Int) (a1_2 : Int) : Option Bool :=
  if a0_0 ≠ a1_0 then
    some false
  else
    if a0_1 ≠ a1_1 then
      some false
    else
      if a0_2 ≠ a1_2 then
        some false
      else
        some true
noncomputable def F_laws_eqFactS_l1 (a0 : (List (Int × (Int × Int)))) (a1 : (List (Int × (Int × Int)))) (i79 : Int) : Option (Int ⊕ (Unit ⊕ Bool)) :=
  if i79 < (a0.length : Int) then
    idx a0 i79 (fun x167 =>
      idx a1 i79 (fun x197 =>
        cal (F_laws_eqFact x167.1 x167.2.1 x167.2.2 x197.1 x197.2.1 x197.2.2) (fun x229 =>
          if ¬ (x229 = true) then
            some (.inr (.inr false))
          else
            ck (i79 + 1) (fun _ =>
              some (.inl (i79 + 1))))))
  else
    some (.inr (.inl ()))
noncomputable def F_laws_eqFactS_k2   : Option Bool :=
  some true
noncomputable def F_laws_eqFactS (a0 : (List (Int × (Int × Int)))) (a1 : (List (Int × (Int × Int)))) : Option Bool :=
  if (a0.length : Int) ≠ (a1.length : Int) then
    some false
  else
    bnd (lp (fun s => F_laws_eqFactS_l1 a0 a1 s) 0) (fun j => F_laws_eqFactS_k2 )
noncomputable def F_laws_eqFormula (a0_0 : (List (Int × (Int × Int)))) (a1_0 : (List (Int × (Int × Int)))) : Option Bool :=
  cal (F_laws_eqFactS a0_0 a1_0) (fun x19 =>
    if ¬ (x19 = true) then
      some false
    else
      some true)
noncomputable def F_laws_markFactS_l1  (l132 : (List (Int × (Int × Int)))) (i135 : Int) (i137 : Int) : Option (((List (Int × (Int × Int))) × Int × Int) ⊕ ((Int × (List (Int × (Int × Int)))) ⊕ (Int × (List (Int × (Int × Int)))))) :=
  if i137 < (l132.length : Int) then
    idx l132 i137 (fun x283 =>
      ck (i135 + 1) (fun _ =>
        idx (l132.set ((i137).toNat) (i135, x283.2.1, x283.2.2)) i137 (fun x321 =>
          ck ((i135 + 1) + 1) (fun _ =>
            idx ((l132.set ((i137).toNat) (i135, x283.2.1, x283.2.2)).set ((i137).toNat) (x321.1, i135 + 1, x321.2.2)) i137 (fun x359 =>
              ck (((i135 + 1) + 1) + 1) (fun _ =>
                ck (i137 + 1) (fun _ =>
                  some (.inl ((((l132.set ((i137).toNat) (i135, x283.2.1, x283.2.2)).set ((i137).toNat) (x321.1, i135 + 1, x321.2.2)).set ((i137).toNat) (x359.1, x359.2.1, (i135 + 1) + 1)), ((i135 + 1) + 1) + 1, i137 + 1)))))))))
  else
    some (.inr (.inl (i135, l132)))
noncomputable def F_laws_markFactS_k2  (i267 : Int) (l270 : (List (Int × (Int × Int)))) : Option (Int × (List (Int × (Int × Int)))) :=
  some (i267, l270)
noncomputable def F_laws_markFactS (a0 : (List (Int × (Int × Int)))) (a1 : Int) : Option (Int × (List (Int × (Int × Int)))) :=
  bnd (lp (fun s => F_laws_markFactS_l1 s.1 s.2.1 s.2.2) (a0, a1, 0)) (fun j => F_laws_markFactS_k2 j.1 j.2)
noncomputable def F_laws_markFormula (a0_0 : (List (Int × (Int × Int)))) (a1 : Int) : Option (Int × (List (Int × (Int × Int)))) :=
  cal (F_laws_markFactS a0_0 a1) (fun x11 =>
    some (x11.1, x11.2))
noncomputable def F_laws_heldFactS_l1 (a0 : (List (Int × (Int × Int)))) (i111 : Int) (i113 : Int) : Option ((Int × Int) ⊕ (Int ⊕ Int)) :=
  if i113 < (a0.length : Int) then
    idx a0 i113 (fun x236 =>
      if x236.1 ≠ i111 then
        some (.inr (.inr (-1)))
      else
        ck (i111 + 1) (fun _ =>
          idx a0 i113 (fun x271 =>
            if x271.2.1 ≠ (i111 + 1) then
              some (.inr (.inr (-1)))
            else
              ck ((i111 + 1) + 1) (fun _ =>
                idx a0 i113 (fun x306 =>
                  if x306.2.2 ≠ ((i111 + 1) + 1) then
                    some (.inr (.inr (-1)))
                  else
                    ck (((i111 + 1) + 1) + 1) (fun _ =>
                      ck (i113 + 1) (fun _ =>
                        some (.inl (((i111 + 1) + 1) + 1, i113 + 1)))))))))
  else
    some (.inr (.inl i111))
noncomputable def F_laws_heldFactS_k2  (i224 : Int) : Option Int :=
  some i224
noncomputable def F_laws_heldFactS (a0 : (List (Int × (Int × Int)))) (a1 : Int) : Option Int :=
  bnd (lp (fun s => F_laws_heldFactS_l1 a0 s.1 s.2) (a1, 0)) (fun j => F_laws_heldFactS_k2 j)
noncomputable def F_laws_heldFormula (a0_0 : (List (Int × (Int × Int)))) (a1 : Int) : Option Int :=
  cal (F_laws_heldFactS a0_0 a1) (fun x9 =>
    if x9 < 0 then
      some (-1)
    else
      some x9)
noncomputable def F_laws_FnExactNamedFormula (a0 : Int) : Option Bool :=
  cal (F_spec_NamedFormula a0) (fun x1 =>
    cal (F_impl_NamedFormula a0) (fun x29 =>
      cal (F_laws_eqFormula x29.1 x1.1) (fun x81 =>
        if ¬ (x81 = true) then
          some false
        else
          if (x29.2 != x1.2) = true then
            some false
          else
            cal (F_laws_markFormula x29.1 1) (fun x89 =>
              cal (F_laws_heldFormula x89.2 1) (fun x99 =>
                if x99 < 0 then
                  some false
                else
                  if x99 ≠ x89.1 then
                    some false
                  else
                    cal (F_impl_NamedFormula a0) (fun x108 =>
                      cal (F_laws_eqFormula x108.1 x1.1) (fun x168 =>
                        if ¬ (x168 = true) then
                          some false
                        else
                          if (x108.2 != x1.2) = true then
                            some false
                          else
                            cal (F_laws_heldFormula x89.2 1) (fun x178 =>
                              if x178 < 0 then
                                some false
                              else
                                if x178 ≠ x89.1 then
                                  some false
                                else
                                  some true))))))))
end Go.Proofs.Ytacgmkncleiblaa
