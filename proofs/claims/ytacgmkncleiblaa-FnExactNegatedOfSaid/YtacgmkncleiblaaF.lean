/- Functional forms, printed by gen.py. -/
import Derived.Test.YtacgmkncleiblaaPure
namespace Go.Proofs.Ytacgmkncleiblaa

noncomputable def F_laws_szFactS (a0 : (List (Int × (Int × Int)))) (a1 : Int) : Option Int :=
  ck (a1 - (a0.length : Int)) (fun _ =>
    if (a1 - (a0.length : Int)) < 0 then
      some (-1)
    else
      some (a1 - (a0.length : Int)))
noncomputable def F_laws_szFormula (a0_0 : (List (Int × (Int × Int)))) (a1 : Int) : Option Int :=
  cal (F_laws_szFactS a0_0 a1) (fun x9 =>
    if x9 < 0 then
      some (-1)
    else
      some x9)
noncomputable def F_laws_toFact (a0_0 : Int) (a0_1 : Int) (a0_2 : Int) : Option (Int × (Int × Int)) :=
  some (a0_0, a0_1, a0_2)
noncomputable def F_laws_toFactS_l1 (a0 : (List (Int × (Int × Int)))) (l111 : (List (Int × (Int × Int)))) (i114 : Int) : Option (((List (Int × (Int × Int))) × Int) ⊕ ((List (Int × (Int × Int))) ⊕ (List (Int × (Int × Int))))) :=
  if i114 < (a0.length : Int) then
    idx a0 i114 (fun x224 =>
      cal (F_laws_toFact x224.1 x224.2.1 x224.2.2) (fun x254 =>
        idx l111 i114 (fun x266 =>
          ck (i114 + 1) (fun _ =>
            some (.inl ((l111.set ((i114).toNat) (x254.1, x254.2.1, x254.2.2)), i114 + 1))))))
  else
    some (.inr (.inl l111))
noncomputable def F_laws_toFactS_k2  (l211 : (List (Int × (Int × Int)))) : Option (List (Int × (Int × Int))) :=
  some l211
noncomputable def F_laws_toFactS (a0 : (List (Int × (Int × Int)))) : Option (List (Int × (Int × Int))) :=
  mkS (a0.length : Int) ((0 : Int), (0 : Int), (0 : Int)) (fun _ =>
    bnd (lp (fun s => F_laws_toFactS_l1 a0 s.1 s.2) ((List.replicate ((a0.length : Int)).toNat ((0 : Int), (0 : Int), (0 : Int))), 0)) (fun j => F_laws_toFactS_k2 j))
noncomputable def F_laws_toFormula (a0_0 : (List (Int × (Int × Int)))) : Option (List (Int × (Int × Int))) :=
  cal (F_laws_toFactS a0_0) (fun x31 =>
    some x31)
noncomputable def F_spec_l1In (a0 : Int) (a1 : Int) (a2 : Int) : Option Bool :=
  if a1 ≤ a0 then
    some (decide (a0 ≤ a2))
  else
    some false
noncomputable def F_spec_l30Name (a0 : Int) : Option Bool :=
  cal (F_spec_l1In a0 0 2) (fun x1 =>
    some x1)
noncomputable def F_spec_l30SetName (a0 : Int) : Option Bool :=
  cal (F_spec_l1In a0 0 1) (fun x1 =>
    some x1)
noncomputable def F_spec_l30Fact_k2 (a0_0 : Int) (a0_1 : Int) (x11 : Bool) (x19 : Bool) (t72 : Bool) : Option Bool :=
  if t72 = true then
    if x11 = true then
      some x19
    else
      some false
  else
    if a0_0 = 7 then
      cal (F_spec_l30Name a0_1) (fun x78 =>
        if x78 = true then
          some x19
        else
          some false)
    else
      if a0_0 = 8 then
        cal (F_spec_l30SetName a0_1) (fun x86 =>
          if x86 = true then
            some x19
          else
            some false)
      else
        some false
noncomputable def F_spec_l30Fact_k1 (a0_0 : Int) (a0_1 : Int) (a0_2 : Int) (x11 : Bool) (x19 : Bool) (t32 : Bool) : Option Bool :=
  if t32 = true then
    cal (F_spec_l30Name a0_1) (fun x36 =>
      if x36 = true then
        cal (F_spec_l30Name a0_2) (fun x43 =>
          some x43)
      else
        some false)
  else
    if a0_0 = 3 then
      cal (F_spec_l30Name a0_1) (fun x50 =>
        if x50 = true then
          cal (F_spec_l30SetName a0_2) (fun x57 =>
            some x57)
        else
          some false)
    else
      if a0_0 = 4 then
        if x11 = true then
          some (decide (a0_2 = 0))
        else
          some false
      else
        bnd (
          if a0_0 = 5 then
            some (.inl (decide (a0_0 = 5)))
          else
            some (.inl (decide (a0_0 = 6)))) (fun j => F_spec_l30Fact_k2 a0_0 a0_1 x11 x19 j)
noncomputable def F_spec_l30Fact (a0_0 : Int) (a0_1 : Int) (a0_2 : Int) (a1 : Int) : Option Bool :=
  ck (a1 - 1) (fun _ =>
    cal (F_spec_l1In a0_1 0 (a1 - 1)) (fun x11 =>
      ck (a1 - 1) (fun _ =>
        cal (F_spec_l1In a0_2 0 (a1 - 1)) (fun x19 =>
          bnd (
            if a0_0 = 1 then
              some (.inl (decide (a0_0 = 1)))
            else
              some (.inl (decide (a0_0 = 2)))) (fun j => F_spec_l30Fact_k1 a0_0 a0_1 a0_2 x11 x19 j)))))
noncomputable def F_spec_FormulaOk_l1 (a0_0 : (List (Int × (Int × Int)))) (i68 : Int) : Option (Int ⊕ (Unit ⊕ Bool)) :=
  if i68 < (a0_0.length : Int) then
    idx a0_0 i68 (fun x127 =>
      cal (F_spec_l30Fact x127.1 x127.2.1 x127.2.2 i68) (fun x157 =>
        if ¬ (x157 = true) then
          some (.inr (.inr false))
        else
          ck (i68 + 1) (fun _ =>
            some (.inl (i68 + 1)))))
  else
    some (.inr (.inl ()))
noncomputable def F_spec_FormulaOk_k2   : Option Bool :=
  some true
noncomputable def F_spec_FormulaOk (a0_0 : (List (Int × (Int × Int)))) : Option Bool :=
  cal (F_spec_l1In (a0_0.length : Int) 1 40) (fun x9 =>
    if ¬ (x9 = true) then
      some false
    else
      bnd (lp (fun s => F_spec_FormulaOk_l1 a0_0 s) 0) (fun j => F_spec_FormulaOk_k2 ))
noncomputable def F_spec_NegatedOf (a0_0 : (List (Int × (Int × Int)))) : Option ((List (Int × (Int × Int))) × Bool) :=
  cal (F_spec_FormulaOk a0_0) (fun x19 =>
    if ¬ (x19 = true) then
      some (([] : (List (Int × (Int × Int)))), false)
    else
      if 40 ≤ (a0_0.length : Int) then
        some (([] : (List (Int × (Int × Int)))), false)
      else
        app ([] : (List (Int × (Int × Int)))) a0_0 (fun _ =>
          ck ((a0_0.length : Int) - 1) (fun _ =>
            app (([] : (List (Int × (Int × Int)))) ++ a0_0) ([(4, (a0_0.length : Int) - 1, 0)]) (fun _ =>
              some (((([] : (List (Int × (Int × Int)))) ++ a0_0) ++ ([(4, (a0_0.length : Int) - 1, 0)])), true)))))
noncomputable def F_impl_inRange (a0 : Int) (a1 : Int) (a2 : Int) : Option Bool :=
  if a1 ≤ a0 then
    some (decide (a0 ≤ a2))
  else
    some false
noncomputable def F_impl_goodFact_1 (a0 : Int) : Option Bool :=
  cal (F_impl_inRange a0 0 2) (fun x1 =>
    some x1)
noncomputable def F_impl_goodFact_2 (a0 : Int) : Option Bool :=
  cal (F_impl_inRange a0 0 1) (fun x1 =>
    some x1)
noncomputable def F_impl_goodFact_3 (a0 : Int) (y0 : Int) : Option Bool :=
  ck (y0 - 1) (fun _ =>
    cal (F_impl_inRange a0 0 (y0 - 1)) (fun x3 =>
      some x3))
noncomputable def F_impl_goodFact_k2 (a0_0 : Int) (a0_1 : Int) (a0_2 : Int) (a1 : Int) (t78 : Bool) : Option Bool :=
  if t78 = true then
    cal (F_impl_goodFact_3 a0_1 a1) (fun x84 =>
      if x84 = true then
        cal (F_impl_goodFact_3 a0_2 a1) (fun x91 =>
          some x91)
      else
        some false)
  else
    if a0_0 = 7 then
      cal (F_impl_goodFact_1 a0_1) (fun x98 =>
        if x98 = true then
          cal (F_impl_goodFact_3 a0_2 a1) (fun x105 =>
            some x105)
        else
          some false)
    else
      if a0_0 = 8 then
        cal (F_impl_goodFact_2 a0_1) (fun x112 =>
          if x112 = true then
            cal (F_impl_goodFact_3 a0_2 a1) (fun x119 =>
              some x119)
          else
            some false)
      else
        some false
noncomputable def F_impl_goodFact_k1 (a0_0 : Int) (a0_1 : Int) (a0_2 : Int) (a1 : Int) (t28 : Bool) : Option Bool :=
  if t28 = true then
    cal (F_impl_goodFact_1 a0_1) (fun x34 =>
      if x34 = true then
        cal (F_impl_goodFact_1 a0_2) (fun x41 =>
          some x41)
      else
        some false)
  else
    if a0_0 = 3 then
      cal (F_impl_goodFact_1 a0_1) (fun x48 =>
        if x48 = true then
          cal (F_impl_goodFact_2 a0_2) (fun x55 =>
            some x55)
        else
          some false)
    else
      if a0_0 = 4 then
        cal (F_impl_goodFact_3 a0_1 a1) (fun x62 =>
          if x62 = true then
            some (decide (a0_2 = 0))
          else
            some false)
      else
        bnd (
          if a0_0 = 5 then
            some (.inl (decide (a0_0 = 5)))
          else
            some (.inl (decide (a0_0 = 6)))) (fun j => F_impl_goodFact_k2 a0_0 a0_1 a0_2 a1 j)
noncomputable def F_impl_goodFact (a0_0 : Int) (a0_1 : Int) (a0_2 : Int) (a1 : Int) : Option Bool :=
  bnd (
    if a0_0 = 1 then
      some (.inl (decide (a0_0 = 1)))
    else
      some (.inl (decide (a0_0 = 2)))) (fun j => F_impl_goodFact_k1 a0_0 a0_1 a0_2 a1 j)
noncomputable def F_impl_FormulaOk_l1 (a0_0 : (List (Int × (Int × Int)))) (i71 : Int) : Option (Int ⊕ (Unit ⊕ Bool)) :=
  if i71 < (a0_0.length : Int) then
    idx a0_0 i71 (fun x140 =>
      cal (F_impl_goodFact x140.1 x140.2.1 x140.2.2 i71) (fun x182 =>
        if ¬ (x182 = true) then
          some (.inr (.inr false))
        else
          ck (i71 + 1) (fun _ =>
            some (.inl (i71 + 1)))))
  else
    some (.inr (.inl ()))
noncomputable def F_impl_FormulaOk_k2   : Option Bool :=
  some true
noncomputable def F_impl_FormulaOk (a0_0 : (List (Int × (Int × Int)))) : Option Bool :=
  if (a0_0.length : Int) < 1 then
    some false
  else
    if 40 < (a0_0.length : Int) then
      some false
    else
      bnd (lp (fun s => F_impl_FormulaOk_l1 a0_0 s) 0) (fun j => F_impl_FormulaOk_k2 )
noncomputable def F_slices_Clone_implFact (a0 : (List (Int × (Int × Int)))) : Option (List (Int × (Int × Int))) :=
  app ([] : (List (Int × (Int × Int)))) a0 (fun _ =>
    some (([] : (List (Int × (Int × Int)))) ++ a0))
noncomputable def F_impl_NegatedOf (a0_0 : (List (Int × (Int × Int)))) : Option ((List (Int × (Int × Int))) × Bool) :=
  cal (F_impl_FormulaOk a0_0) (fun x19 =>
    if ¬ (x19 = true) then
      some (([] : (List (Int × (Int × Int)))), false)
    else
      if (a0_0.length : Int) = 40 then
        some (([] : (List (Int × (Int × Int)))), false)
      else
        cal (F_slices_Clone_implFact a0_0) (fun x35 =>
          ck ((a0_0.length : Int) - 1) (fun _ =>
            app x35 ([(4, (a0_0.length : Int) - 1, 0)]) (fun _ =>
              some ((x35 ++ ([(4, (a0_0.length : Int) - 1, 0)])), true)))))
noncomputable def F_laws_eqFact (a0_0 : Int) (a0_1 : Int) (a0_2 : Int) (a1_0 : Int) (a1_1 : Int) (a1_2 : Int) : Option Bool :=
  if a0_0 ≠ a1_0 then
    some false
  else
    if a0_1 ≠ a1_1 then
      some false
    else
      if a0_2 ≠ a1_2 then
        some false
      else
        some true
noncomputable def F_laws_eqFactS_l1 (a0 : (List (Int × (Int × Int)))) (a1 : (List (Int × (Int × Int)))) (i79 : Int) : Option (Int ⊕ (Unit ⊕ Bool)) :=
  if i79 < (a0.length : Int) then
    idx a0 i79 (fun x167 =>
      idx a1 i79 (fun x197 =>
        cal (F_laws_eqFact x167.1 x167.2.1 x167.2.2 x197.1 x197.2.1 x197.2.2) (fun x229 =>
          if ¬ (x229 = true) then
            some (.inr (.inr false))
          else
            ck (i79 + 1) (fun _ =>
              some (.inl (i79 + 1))))))
  else
    some (.inr (.inl ()))
noncomputable def F_laws_eqFactS_k2   : Option Bool :=
  some true
noncomputable def F_laws_eqFactS (a0 : (List (Int × (Int × Int)))) (a1 : (List (Int × (Int × Int)))) : Option Bool :=
  if (a0.length : Int) ≠ (a1.length : Int) then
    some false
  else
    bnd (lp (fun s => F_laws_eqFactS_l1 a0 a1 s) 0) (fun j => F_laws_eqFactS_k2 )
noncomputable def F_laws_eqFormula (a0_0 : (List (Int × (Int × Int)))) (a1_0 : (List (Int × (Int × Int)))) : Option Bool :=
  cal (F_laws_eqFactS a0_0 a1_0) (fun x19 =>
    if ¬ (x19 = true) then
      some false
    else
      some true)
noncomputable def F_laws_markFactS_l1  (l132 : (List (Int × (Int × Int)))) (i135 : Int) (i137 : Int) : Option (((List (Int × (Int × Int))) × Int × Int) ⊕ ((Int × (List (Int × (Int × Int)))) ⊕ (Int × (List (Int × (Int × Int)))))) :=
  if i137 < (l132.length : Int) then
    idx l132 i137 (fun x283 =>
      ck (i135 + 1) (fun _ =>
        idx (l132.set ((i137).toNat) (i135, x283.2.1, x283.2.2)) i137 (fun x321 =>
          ck ((i135 + 1) + 1) (fun _ =>
            idx ((l132.set ((i137).toNat) (i135, x283.2.1, x283.2.2)).set ((i137).toNat) (x321.1, i135 + 1, x321.2.2)) i137 (fun x359 =>
              ck (((i135 + 1) + 1) + 1) (fun _ =>
                ck (i137 + 1) (fun _ =>
                  some (.inl ((((l132.set ((i137).toNat) (i135, x283.2.1, x283.2.2)).set ((i137).toNat) (x321.1, i135 + 1, x321.2.2)).set ((i137).toNat) (x359.1, x359.2.1, (i135 + 1) + 1)), ((i135 + 1) + 1) + 1, i137 + 1)))))))))
  else
    some (.inr (.inl (i135, l132)))
noncomputable def F_laws_markFactS_k2  (i267 : Int) (l270 : (List (Int × (Int × Int)))) : Option (Int × (List (Int × (Int × Int)))) :=
  some (i267, l270)
noncomputable def F_laws_markFactS (a0 : (List (Int × (Int × Int)))) (a1 : Int) : Option (Int × (List (Int × (Int × Int)))) :=
  bnd (lp (fun s => F_laws_markFactS_l1 s.1 s.2.1 s.2.2) (a0, a1, 0)) (fun j => F_laws_markFactS_k2 j.1 j.2)
noncomputable def F_laws_markFormula (a0_0 : (List (Int × (Int × Int)))) (a1 : Int) : Option (Int × (List (Int × (Int × Int)))) :=
  cal (F_laws_markFactS a0_0 a1) (fun x11 =>
    some (x11.1, x11.2))
noncomputable def F_laws_heldFactS_l1 (a0 : (List (Int × (Int × Int)))) (i111 : Int) (i113 : Int) : Option ((Int × Int) ⊕ (Int ⊕ Int)) :=
  if i113 < (a0.length : Int) then
    idx a0 i113 (fun x236 =>
      if x236.1 ≠ i111 then
        some (.inr (.inr (-1)))
      else
        ck (i111 + 1) (fun _ =>
          idx a0 i113 (fun x271 =>
            if x271.2.1 ≠ (i111 + 1) then
              some (.inr (.inr (-1)))
            else
              ck ((i111 + 1) + 1) (fun _ =>
                idx a0 i113 (fun x306 =>
                  if x306.2.2 ≠ ((i111 + 1) + 1) then
                    some (.inr (.inr (-1)))
                  else
                    ck (((i111 + 1) + 1) + 1) (fun _ =>
                      ck (i113 + 1) (fun _ =>
                        some (.inl (((i111 + 1) + 1) + 1, i113 + 1)))))))))
  else
    some (.inr (.inl i111))
noncomputable def F_laws_heldFactS_k2  (i224 : Int) : Option Int :=
  some i224
noncomputable def F_laws_heldFactS (a0 : (List (Int × (Int × Int)))) (a1 : Int) : Option Int :=
  bnd (lp (fun s => F_laws_heldFactS_l1 a0 s.1 s.2) (a1, 0)) (fun j => F_laws_heldFactS_k2 j)
noncomputable def F_laws_heldFormula (a0_0 : (List (Int × (Int × Int)))) (a1 : Int) : Option Int :=
  cal (F_laws_heldFactS a0_0 a1) (fun x9 =>
    if x9 < 0 then
      some (-1)
    else
      some x9)
noncomputable def F_laws_FnExactNegatedOf (a0_0 : (List (Int × (Int × Int)))) : Option Bool :=
  cal (F_laws_szFormula a0_0 1048576) (fun x9 =>
    if x9 < 0 then
      some true
    else
      cal (F_laws_toFormula a0_0) (fun x17 =>
        cal (F_spec_NegatedOf x17) (fun x33 =>
          cal (F_laws_toFormula a0_0) (fun x69 =>
            cal (F_impl_NegatedOf x69) (fun x109 =>
              cal (F_laws_eqFormula x109.1 x33.1) (fun x173 =>
                if ¬ (x173 = true) then
                  some false
                else
                  if (x109.2 != x33.2) = true then
                    some false
                  else
                    cal (F_laws_toFormula a0_0) (fun x184 =>
                      cal (F_laws_eqFormula x69 x184) (fun x216 =>
                        if ¬ (x216 = true) then
                          some false
                        else
                          cal (F_laws_markFormula x69 1) (fun x222 =>
                            if x222.1 < 0 then
                              some false
                            else
                              cal (F_laws_eqFormula x109.1 x33.1) (fun x248 =>
                                if ¬ (x248 = true) then
                                  some false
                                else
                                  if (x109.2 != x33.2) = true then
                                    some false
                                  else
                                    cal (F_laws_markFormula x109.1 1) (fun x256 =>
                                      cal (F_laws_heldFormula x256.2 1) (fun x266 =>
                                        if x266 < 0 then
                                          some false
                                        else
                                          if x266 ≠ x256.1 then
                                            some false
                                          else
                                            cal (F_laws_toFormula a0_0) (fun x275 =>
                                              cal (F_impl_NegatedOf x275) (fun x299 =>
                                                cal (F_laws_eqFormula x299.1 x33.1) (fun x367 =>
                                                  if ¬ (x367 = true) then
                                                    some false
                                                  else
                                                    if (x299.2 != x33.2) = true then
                                                      some false
                                                    else
                                                      cal (F_laws_heldFormula x256.2 1) (fun x377 =>
                                                        if x377 < 0 then
                                                          some false
                                                        else
                                                          if x377 ≠ x256.1 then
                                                            some false
                                                          else
                                                            some true))))))))))))))))
end Go.Proofs.Ytacgmkncleiblaa
