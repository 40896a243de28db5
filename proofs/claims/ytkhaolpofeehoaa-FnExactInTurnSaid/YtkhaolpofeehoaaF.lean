/- Functional forms, printed by gen.py. -/
import Derived.Test.YtkhaolpofeehoaaPure
namespace Go.Proofs.Ytkhaolpofeehoaa

noncomputable def F_laws_szInt64S (a0 : (List Int)) (a1 : Int) : Option Int :=
  ck (a1 - (a0.length : Int)) (fun _ =>
    if (a1 - (a0.length : Int)) < 0 then
      some (-1)
    else
      some (a1 - (a0.length : Int)))
noncomputable def F_laws_szInt64SS_l1 (a0 : (List (List Int))) (i37 : Int) (i39 : Int) : Option ((Int × Int) ⊕ (Int ⊕ Int)) :=
  if i39 < (a0.length : Int) then
    idx a0 i39 (fun x85 =>
      cal (F_laws_szInt64S x85 i37) (fun x99 =>
        if x99 < 0 then
          some (.inr (.inr (-1)))
        else
          ck (i39 + 1) (fun _ =>
            some (.inl (x99, i39 + 1)))))
  else
    some (.inr (.inl i37))
noncomputable def F_laws_szInt64SS_k2  (i73 : Int) : Option Int :=
  some i73
noncomputable def F_laws_szInt64SS (a0 : (List (List Int))) (a1 : Int) : Option Int :=
  ck (a1 - (a0.length : Int)) (fun _ =>
    if (a1 - (a0.length : Int)) < 0 then
      some (-1)
    else
      bnd (lp (fun s => F_laws_szInt64SS_l1 a0 s.1 s.2) (a1 - (a0.length : Int), 0)) (fun j => F_laws_szInt64SS_k2 j))
noncomputable def F_laws_szGraph (a0_0 : (List (List Int))) (a1 : Int) : Option Int :=
  cal (F_laws_szInt64SS a0_0 a1) (fun x9 =>
    if x9 < 0 then
      some (-1)
    else
      some x9)
noncomputable def F_laws_toInt64S_l1 (a0 : (List Int)) (l63 : (List Int)) (i66 : Int) : Option (((List Int) × Int) ⊕ ((List Int) ⊕ (List Int))) :=
  if i66 < (a0.length : Int) then
    idx a0 i66 (fun x128 =>
      idx l63 i66 (fun x140 =>
        ck (i66 + 1) (fun _ =>
          some (.inl ((l63.set ((i66 : Int).toNat) x128), i66 + 1)))))
  else
    some (.inr (.inl l63))
noncomputable def F_laws_toInt64S_k2  (l115 : (List Int)) : Option (List Int) :=
  some l115
noncomputable def F_laws_toInt64S (a0 : (List Int)) : Option (List Int) :=
  mkS (a0.length : Int) (0 : Int) (fun _ =>
    bnd (lp (fun s => F_laws_toInt64S_l1 a0 s.1 s.2) ((List.replicate ((a0.length : Int) : Int).toNat (0 : Int)), 0)) (fun j => F_laws_toInt64S_k2 j))
noncomputable def F_laws_toInt64SS_l1 (a0 : (List (List Int))) (l96 : (List (List Int))) (i99 : Int) : Option (((List (List Int)) × Int) ⊕ ((List (List Int)) ⊕ (List (List Int)))) :=
  if i99 < (a0.length : Int) then
    idx a0 i99 (fun x191 =>
      cal (F_laws_toInt64S x191) (fun x205 =>
        idx l96 i99 (fun x219 =>
          ck (i99 + 1) (fun _ =>
            some (.inl ((l96.set ((i99 : Int).toNat) x205), i99 + 1))))))
  else
    some (.inr (.inl l96))
noncomputable def F_laws_toInt64SS_k2  (l178 : (List (List Int))) : Option (List (List Int)) :=
  some l178
noncomputable def F_laws_toInt64SS (a0 : (List (List Int))) : Option (List (List Int)) :=
  mkS (a0.length : Int) ([] : (List Int)) (fun _ =>
    bnd (lp (fun s => F_laws_toInt64SS_l1 a0 s.1 s.2) ((List.replicate ((a0.length : Int) : Int).toNat ([] : (List Int))), 0)) (fun j => F_laws_toInt64SS_k2 j))
noncomputable def F_laws_toGraph (a0_0 : (List (List Int))) : Option (List (List Int)) :=
  cal (F_laws_toInt64SS a0_0) (fun x31 =>
    some x31)
noncomputable def F_spec_l1Size (a0_0 : (List (List Int))) : Option Int :=
  some (a0_0.length : Int)
noncomputable def F_spec_l1In (a0 : Int) (a1 : Int) (a2 : Int) : Option Bool :=
  if a1 ≤ a0 then
    some (decide (a0 ≤ a2))
  else
    some false
noncomputable def F_spec_l1Set_l1 (a0 : (List Int)) (a1 : Int) (i69 : Int) : Option (Int ⊕ (Unit ⊕ Bool)) :=
  if i69 < (a0.length : Int) then
    idx a0 i69 (fun x147 =>
      ck (a1 - 1) (fun _ =>
        cal (F_spec_l1In x147 0 (a1 - 1)) (fun x163 =>
          if ¬ (x163 = true) then
            some (.inr (.inr false))
          else
            if 0 < i69 then
              idx a0 i69 (fun x172 =>
                ck (i69 - 1) (fun _ =>
                  idx a0 (i69 - 1) (fun x186 =>
                    if x172 ≤ x186 then
                      some (.inr (.inr false))
                    else
                      ck (i69 + 1) (fun _ =>
                        some (.inl (i69 + 1))))))
            else
              ck (i69 + 1) (fun _ =>
                some (.inl (i69 + 1))))))
  else
    some (.inr (.inl ()))
noncomputable def F_spec_l1Set_k2   : Option Bool :=
  some true
noncomputable def F_spec_l1Set (a0 : (List Int)) (a1 : Int) : Option Bool :=
  if a1 < (a0.length : Int) then
    some false
  else
    bnd (lp (fun s => F_spec_l1Set_l1 a0 a1 s) 0) (fun j => F_spec_l1Set_k2 )
noncomputable def F_spec_l1Has_l1 (a0 : (List Int)) (a1 : Int) (i23 : Int) : Option (Int ⊕ (Unit ⊕ Bool)) :=
  if i23 < (a0.length : Int) then
    idx a0 i23 (fun x56 =>
      if x56 = a1 then
        some (.inr (.inr true))
      else
        ck (i23 + 1) (fun _ =>
          some (.inl (i23 + 1))))
  else
    some (.inr (.inl ()))
noncomputable def F_spec_l1Has_k2   : Option Bool :=
  some false
noncomputable def F_spec_l1Has (a0 : (List Int)) (a1 : Int) : Option Bool :=
  bnd (lp (fun s => F_spec_l1Has_l1 a0 a1 s) 0) (fun j => F_spec_l1Has_k2 )
noncomputable def F_spec_GraphOk_l1 (a0_0 : (List (List Int))) (x9 : Int) (i80 : Int) : Option (Int ⊕ (Unit ⊕ Bool)) :=
  if i80 < x9 then
    idx a0_0 i80 (fun x146 =>
      cal (F_spec_l1Set x146 x9) (fun x160 =>
        if ¬ (x160 = true) then
          some (.inr (.inr false))
        else
          idx a0_0 i80 (fun x169 =>
            cal (F_spec_l1Has x169 i80) (fun x183 =>
              if x183 = true then
                some (.inr (.inr false))
              else
                ck (i80 + 1) (fun _ =>
                  some (.inl (i80 + 1)))))))
  else
    some (.inr (.inl ()))
noncomputable def F_spec_GraphOk_l4 (a0_0 : (List (List Int))) (i436 : Int) (i762 : Int) : Option (Int ⊕ (Unit ⊕ (Int ⊕ (Unit ⊕ Bool)))) :=
  idx a0_0 i436 (fun x847 =>
    if i762 < (x847.length : Int) then
      idx a0_0 i436 (fun x862 =>
        idx x862 i762 (fun x876 =>
          idx a0_0 x876 (fun x888 =>
            cal (F_spec_l1Has x888 i436) (fun x904 =>
              if ¬ (x904 = true) then
                some (.inr (.inr (.inr (.inr false))))
              else
                ck (i762 + 1) (fun _ =>
                  some (.inl (i762 + 1)))))))
    else
      some (.inr (.inl ())))
noncomputable def F_spec_GraphOk_k5 (i436 : Int)  : Option (Int ⊕ (Unit ⊕ Bool)) :=
  ck (i436 + 1) (fun _ =>
    some (.inl (i436 + 1)))
noncomputable def F_spec_GraphOk_l3 (a0_0 : (List (List Int))) (x9 : Int) (i436 : Int) : Option (Int ⊕ (Unit ⊕ Bool)) :=
  if i436 < x9 then
    bnd (lp (fun s => F_spec_GraphOk_l4 a0_0 i436 s) 0) (fun j => F_spec_GraphOk_k5 i436 )
  else
    some (.inr (.inl ()))
noncomputable def F_spec_GraphOk_k6   : Option Bool :=
  some true
noncomputable def F_spec_GraphOk_k2 (a0_0 : (List (List Int))) (x9 : Int)  : Option Bool :=
  bnd (lp (fun s => F_spec_GraphOk_l3 a0_0 x9 s) 0) (fun j => F_spec_GraphOk_k6 )
noncomputable def F_spec_GraphOk (a0_0 : (List (List Int))) : Option Bool :=
  cal (F_spec_l1Size a0_0) (fun x9 =>
    cal (F_spec_l1In x9 1 16) (fun x16 =>
      if ¬ (x16 = true) then
        some false
      else
        bnd (lp (fun s => F_spec_GraphOk_l1 a0_0 x9 s) 0) (fun j => F_spec_GraphOk_k2 a0_0 x9 )))
noncomputable def F_spec_l1There (a0_0 : (List (List Int))) (a1 : Int) : Option Bool :=
  cal (F_spec_l1Size a0_0) (fun x9 =>
    ck (x9 - 1) (fun _ =>
      cal (F_spec_l1In a1 0 (x9 - 1)) (fun x18 =>
        some x18)))
noncomputable def F_spec_l1Order_l1 (a0_0 : (List (List Int))) (a1 : (List Int)) (i79 : Int) : Option (Int ⊕ (Unit ⊕ Bool)) :=
  if i79 < (a1.length : Int) then
    idx a1 i79 (fun x148 =>
      cal (F_spec_l1There a0_0 x148) (fun x162 =>
        if ¬ (x162 = true) then
          some (.inr (.inr false))
        else
          slc a1 0 i79 (fun _ =>
            idx a1 i79 (fun x177 =>
              cal (F_spec_l1Has ((a1.drop (0 : Int).toNat).take ((i79 : Int).toNat - (0 : Int).toNat)) x177) (fun x191 =>
                if x191 = true then
                  some (.inr (.inr false))
                else
                  ck (i79 + 1) (fun _ =>
                    some (.inl (i79 + 1))))))))
  else
    some (.inr (.inl ()))
noncomputable def F_spec_l1Order_k2   : Option Bool :=
  some true
noncomputable def F_spec_l1Order (a0_0 : (List (List Int))) (a1 : (List Int)) : Option Bool :=
  cal (F_spec_l1Size a0_0) (fun x9 =>
    if (a1.length : Int) ≠ x9 then
      some false
    else
      bnd (lp (fun s => F_spec_l1Order_l1 a0_0 a1 s) 0) (fun j => F_spec_l1Order_k2 ))
noncomputable def F_spec_OrderOk (a0_0 : (List (List Int))) (a1 : (List Int)) : Option Bool :=
  cal (F_spec_GraphOk a0_0) (fun x9 =>
    if x9 = true then
      cal (F_spec_l1Order a0_0 a1) (fun x16 =>
        some x16)
    else
      some false)
noncomputable def F_spec_l26None_l1 (a0 : Int) (l54 : (List Int)) (i57 : Int) : Option (((List Int) × Int) ⊕ ((List Int) ⊕ (List Int))) :=
  if i57 < a0 then
    app l54 ([(-1)]) (fun _ =>
      ck (i57 + 1) (fun _ =>
        some (.inl ((l54 ++ ([(-1)])), i57 + 1))))
  else
    some (.inr (.inl l54))
noncomputable def F_spec_l26None_k2  (l99 : (List Int)) : Option (List Int) :=
  some l99
noncomputable def F_spec_l26None (a0 : Int) : Option (List Int) :=
  bnd (lp (fun s => F_spec_l26None_l1 a0 s.1 s.2) (([] : (List Int)), 0)) (fun j => F_spec_l26None_k2 j)
noncomputable def F_spec_l26Free_l2 (a0_0 : (List (List Int))) (a1 : (List Int)) (a2 : Int) (i569 : Int) (t571 : Bool) (i572 : Int) : Option ((Int × Bool × Int) ⊕ ((Int × Bool) ⊕ ((Int × Bool) ⊕ (Int ⊕ Int)))) :=
  idx a0_0 a2 (fun x658 =>
    if i572 < (x658.length : Int) then
      idx a0_0 a2 (fun x673 =>
        idx x673 i572 (fun x687 =>
          idx a1 x687 (fun x699 =>
            if x699 = i569 then
              ck (i569 + 1) (fun _ =>
                ck (i572 + 1) (fun _ =>
                  some (.inl (i569 + 1, true, i572 + 1))))
            else
              ck (i572 + 1) (fun _ =>
                some (.inl (i569, t571, i572 + 1))))))
    else
      some (.inr (.inl (i569, t571))))
noncomputable def F_spec_l26Free_k3  (i646 : Int) (t648 : Bool) : Option ((Int × Bool) ⊕ (Int ⊕ Int)) :=
  some (.inl (i646, t648))
noncomputable def F_spec_l26Free_l1 (a0_0 : (List (List Int))) (a1 : (List Int)) (a2 : Int) (i246 : Int) (t248 : Bool) : Option ((Int × Bool) ⊕ (Int ⊕ Int)) :=
  if t248 = true then
    bnd (lp (fun s => F_spec_l26Free_l2 a0_0 a1 a2 s.1 s.2.1 s.2.2) (i246, false, 0)) (fun j => F_spec_l26Free_k3 j.1 j.2)
  else
    some (.inr (.inl i246))
noncomputable def F_spec_l26Free_k4  (i482 : Int) : Option Int :=
  some i482
noncomputable def F_spec_l26Free (a0_0 : (List (List Int))) (a1 : (List Int)) (a2 : Int) : Option Int :=
  bnd (lp (fun s => F_spec_l26Free_l1 a0_0 a1 a2 s.1 s.2) (0, true)) (fun j => F_spec_l26Free_k4 j)
noncomputable def F_spec_InTurn_l1 (a0_0 : (List (List Int))) (a1 : (List Int)) (l181 : (List Int)) (i184 : Int) : Option (((List Int) × Int) ⊕ ((List Int) ⊕ (List Int))) :=
  if i184 < (a1.length : Int) then
    idx a1 i184 (fun x278 =>
      idx a1 i184 (fun x290 =>
        cal (F_spec_l26Free a0_0 l181 x290) (fun x307 =>
          idx l181 x278 (fun x310 =>
            ck (i184 + 1) (fun _ =>
              some (.inl ((l181.set ((x278 : Int).toNat) x307), i184 + 1)))))))
  else
    some (.inr (.inl l181))
noncomputable def F_spec_InTurn_k2  (l265 : (List Int)) : Option (List Int) :=
  some l265
noncomputable def F_spec_InTurn (a0_0 : (List (List Int))) (a1 : (List Int)) : Option (List Int) :=
  cal (F_spec_GraphOk a0_0) (fun x45 =>
    if ¬ (x45 = true) then
      some ([] : (List Int))
    else
      cal (F_spec_OrderOk a0_0 a1) (fun x63 =>
        if ¬ (x63 = true) then
          some ([] : (List Int))
        else
          cal (F_spec_l26None (a0_0.length : Int)) (fun x81 =>
            bnd (lp (fun s => F_spec_InTurn_l1 a0_0 a1 s.1 s.2) (x81, 0)) (fun j => F_spec_InTurn_k2 j))))
noncomputable def F_impl_inRange (a0 : Int) (a1 : Int) (a2 : Int) : Option Bool :=
  if a1 ≤ a0 then
    some (decide (a0 ≤ a2))
  else
    some false
noncomputable def F_impl_increasing_l1 (a0 : (List Int)) (a1 : Int) (i49 : Int) : Option (Int ⊕ (Unit ⊕ Bool)) :=
  if i49 < (a0.length : Int) then
    idx a0 i49 (fun x108 =>
      ck (a1 - 1) (fun _ =>
        cal (F_impl_inRange x108 0 (a1 - 1)) (fun x122 =>
          if ¬ (x122 = true) then
            some (.inr (.inr false))
          else
            if 0 < i49 then
              ck (i49 - 1) (fun _ =>
                idx a0 (i49 - 1) (fun x134 =>
                  if x108 ≤ x134 then
                    some (.inr (.inr false))
                  else
                    ck (i49 + 1) (fun _ =>
                      some (.inl (i49 + 1)))))
            else
              ck (i49 + 1) (fun _ =>
                some (.inl (i49 + 1))))))
  else
    some (.inr (.inl ()))
noncomputable def F_impl_increasing_k2   : Option Bool :=
  some true
noncomputable def F_impl_increasing (a0 : (List Int)) (a1 : Int) : Option Bool :=
  bnd (lp (fun s => F_impl_increasing_l1 a0 a1 s) 0) (fun j => F_impl_increasing_k2 )
noncomputable def F_slices_Index_int64_l1 (a0 : (List Int)) (a1 : Int) (i23 : Int) : Option (Int ⊕ (Unit ⊕ Int)) :=
  if i23 < (a0.length : Int) then
    idx a0 i23 (fun x56 =>
      if a1 = x56 then
        some (.inr (.inr i23))
      else
        ck (i23 + 1) (fun _ =>
          some (.inl (i23 + 1))))
  else
    some (.inr (.inl ()))
noncomputable def F_slices_Index_int64_k2   : Option Int :=
  some (-1)
noncomputable def F_slices_Index_int64 (a0 : (List Int)) (a1 : Int) : Option Int :=
  bnd (lp (fun s => F_slices_Index_int64_l1 a0 a1 s) 0) (fun j => F_slices_Index_int64_k2 )
noncomputable def F_slices_Contains_int64 (a0 : (List Int)) (a1 : Int) : Option Bool :=
  cal (F_slices_Index_int64 a0 a1) (fun x1 =>
    some (decide (0 ≤ x1)))
noncomputable def F_impl_GraphOk_l1 (a0_0 : (List (List Int))) (i56 : Int) : Option (Int ⊕ (Unit ⊕ Bool)) :=
  if i56 < (a0_0.length : Int) then
    idx a0_0 i56 (fun x108 =>
      cal (F_impl_increasing x108 (a0_0.length : Int)) (fun x122 =>
        if ¬ (x122 = true) then
          some (.inr (.inr false))
        else
          cal (F_slices_Contains_int64 x108 i56) (fun x131 =>
            if x131 = true then
              some (.inr (.inr false))
            else
              ck (i56 + 1) (fun _ =>
                some (.inl (i56 + 1))))))
  else
    some (.inr (.inl ()))
noncomputable def F_impl_GraphOk_l4 (a0_0 : (List (List Int))) (i311 : Int) (x487 : (List Int)) (i549 : Int) : Option (Int ⊕ (Unit ⊕ (Int ⊕ (Unit ⊕ Bool)))) :=
  if i549 < (x487.length : Int) then
    idx x487 i549 (fun x606 =>
      idx a0_0 x606 (fun x618 =>
        cal (F_slices_Contains_int64 x618 i311) (fun x632 =>
          if ¬ (x632 = true) then
            some (.inr (.inr (.inr (.inr false))))
          else
            ck (i549 + 1) (fun _ =>
              some (.inl (i549 + 1))))))
  else
    some (.inr (.inl ()))
noncomputable def F_impl_GraphOk_k5 (i311 : Int)  : Option (Int ⊕ (Unit ⊕ Bool)) :=
  ck (i311 + 1) (fun _ =>
    some (.inl (i311 + 1)))
noncomputable def F_impl_GraphOk_l3 (a0_0 : (List (List Int))) (i311 : Int) : Option (Int ⊕ (Unit ⊕ Bool)) :=
  if i311 < (a0_0.length : Int) then
    idx a0_0 i311 (fun x487 =>
      bnd (lp (fun s => F_impl_GraphOk_l4 a0_0 i311 x487 s) 0) (fun j => F_impl_GraphOk_k5 i311 ))
  else
    some (.inr (.inl ()))
noncomputable def F_impl_GraphOk_k6   : Option Bool :=
  some true
noncomputable def F_impl_GraphOk_k2 (a0_0 : (List (List Int)))  : Option Bool :=
  bnd (lp (fun s => F_impl_GraphOk_l3 a0_0 s) 0) (fun j => F_impl_GraphOk_k6 )
noncomputable def F_impl_GraphOk (a0_0 : (List (List Int))) : Option Bool :=
  if (a0_0.length : Int) < 1 then
    some false
  else
    if 16 < (a0_0.length : Int) then
      some false
    else
      bnd (lp (fun s => F_impl_GraphOk_l1 a0_0 s) 0) (fun j => F_impl_GraphOk_k2 a0_0 )
noncomputable def F_slices_Values_int64 (a0 : (List Int)) : Option (List Int) := some a0
noncomputable def F_slices_Collect_int64 (a0 : (List Int)) : Option (List Int) := if a0.length ≤ 1099511627776 then some a0 else none
noncomputable def F_slices_Sort_int64 (a0 : (List Int)) : Option (List Int) := if a0.length ≤ 1099511627776 then some (a0.mergeSort fun x y => decide (x ≤ y)) else none
noncomputable def F_slices_Sorted_int64 (a0 : (List Int)) : Option (List Int) :=
  cal (F_slices_Collect_int64 a0) (fun x1 =>
    cal (F_slices_Sort_int64 x1) (fun x12 =>
      some x12))
noncomputable def F_impl_OrderOk (a0_0 : (List (List Int))) (a1 : (List Int)) : Option Bool :=
  cal (F_impl_GraphOk a0_0) (fun x9 =>
    if ¬ (x9 = true) then
      some false
    else
      if (a1.length : Int) ≠ (a0_0.length : Int) then
        some false
      else
        cal (F_slices_Values_int64 a1) (fun x17 =>
          cal (F_slices_Sorted_int64 x17) (fun x24 =>
            cal (F_impl_increasing x24 (a0_0.length : Int)) (fun x40 =>
              some x40))))
noncomputable def F_impl_one (a0 : Int) : Option (BitVec 32) :=
  grd ((0 : Int) ≤ a0) (
    some ((1#32) <<< (a0 : Int).toNat))
noncomputable def F_impl_maskOf_l1 (a0 : (List Int)) (u29 : BitVec 32) (i30 : Int) : Option (((BitVec 32) × Int) ⊕ ((BitVec 32) ⊕ (BitVec 32))) :=
  if i30 < (a0.length : Int) then
    idx a0 i30 (fun x70 =>
      cal (F_impl_one x70) (fun x82 =>
        ck (i30 + 1) (fun _ =>
          some (.inl (u29 ||| x82, i30 + 1)))))
  else
    some (.inr (.inl u29))
noncomputable def F_impl_maskOf_k2  (u59 : BitVec 32) : Option (BitVec 32) :=
  some u59
noncomputable def F_impl_maskOf (a0 : (List Int)) : Option (BitVec 32) :=
  bnd (lp (fun s => F_impl_maskOf_l1 a0 s.1 s.2) (0#32, 0)) (fun j => F_impl_maskOf_k2 j)
noncomputable def F_impl_netsOf_l1 (a0_0 : (List (List Int))) (l84 : (List (BitVec 32))) (i87 : Int) : Option (((List (BitVec 32)) × Int) ⊕ ((List (BitVec 32)) ⊕ (List (BitVec 32)))) :=
  if i87 < (a0_0.length : Int) then
    idx a0_0 i87 (fun x162 =>
      cal (F_impl_maskOf x162) (fun x176 =>
        app l84 ([x176]) (fun _ =>
          ck (i87 + 1) (fun _ =>
            some (.inl ((l84 ++ ([x176])), i87 + 1))))))
  else
    some (.inr (.inl l84))
noncomputable def F_impl_netsOf_k2  (l149 : (List (BitVec 32))) : Option (List (BitVec 32)) :=
  some l149
noncomputable def F_impl_netsOf (a0_0 : (List (List Int))) : Option (List (BitVec 32)) :=
  bnd (lp (fun s => F_impl_netsOf_l1 a0_0 s.1 s.2) (([] : (List (BitVec 32))), 0)) (fun j => F_impl_netsOf_k2 j)
noncomputable def F_slices_IndexFunc_implvset_l1 (a0 : (List (BitVec 32))) (a1 : (BitVec 32) → Option Bool) (i28 : Int) : Option (Int ⊕ (Unit ⊕ Int)) :=
  if i28 < (a0.length : Int) then
    idx a0 i28 (fun x66 =>
      cal (a1 x66) (fun x77 =>
        if x77 = true then
          some (.inr (.inr i28))
        else
          ck (i28 + 1) (fun _ =>
            some (.inl (i28 + 1)))))
  else
    some (.inr (.inl ()))
noncomputable def F_slices_IndexFunc_implvset_k2   : Option Int :=
  some (-1)
noncomputable def F_slices_IndexFunc_implvset (a0 : (List (BitVec 32))) (a1 : (BitVec 32) → Option Bool) : Option Int :=
  bnd (lp (fun s => F_slices_IndexFunc_implvset_l1 a0 a1 s) 0) (fun j => F_slices_IndexFunc_implvset_k2 )
noncomputable def F_impl_InTurn_1 (a0 : BitVec 32) (y0 : (List (BitVec 32))) (y1 : Int) : Option Bool :=
  idx y0 y1 (fun x1 =>
    some (decide ((a0 &&& x1) = (0#32))))
noncomputable def F_impl_InTurn_l2 (a1 : (List Int)) (l30 : (List (BitVec 32))) (l234 : (List (BitVec 32))) (l240 : (List Int)) (i243 : Int) : Option (((List (BitVec 32)) × (List Int) × Int) ⊕ ((List Int) ⊕ (List Int))) :=
  if i243 < (a1.length : Int) then
    idx a1 i243 (fun x413 =>
      cal (F_slices_IndexFunc_implvset l234 (fun (z448 : BitVec 32) => F_impl_InTurn_1 z448 l30 x413)) (fun x453 =>
        idx l234 x453 (fun x460 =>
          cal (F_impl_one x413) (fun x473 =>
            idx l234 x453 (fun x475 =>
              idx l240 x413 (fun x498 =>
                ck (i243 + 1) (fun _ =>
                  some (.inl ((l234.set ((x453 : Int).toNat) (x460 ||| x473)), (l240.set ((x413 : Int).toNat) x453), i243 + 1)))))))))
  else
    some (.inr (.inl l240))
noncomputable def F_impl_InTurn_k3  (l400 : (List Int)) : Option (List Int) :=
  some l400
noncomputable def F_impl_InTurn_k1 (a1 : (List Int)) (l30 : (List (BitVec 32))) (l36 : (List (BitVec 32))) (l42 : (List Int)) : Option (List Int) :=
  bnd (lp (fun s => F_impl_InTurn_l2 a1 l30 s.1 s.2.1 s.2.2) (l36, l42, 0)) (fun j => F_impl_InTurn_k3 j)
noncomputable def F_impl_InTurn (a0_0 : (List (List Int))) (a1 : (List Int)) : Option (List Int) :=
  cal (F_impl_OrderOk a0_0 a1) (fun x9 =>
    if ¬ (x9 = true) then
      some ([] : (List Int))
    else
      bnd (
        cal (F_impl_netsOf a0_0) (fun xqr2o1_1 =>
          mkS (a1.length : Int) (0 : BitVec 32) (fun _ =>
            mkS (a1.length : Int) (0 : Int) (fun _ =>
              some (.inl (xqr2o1_1, (List.replicate ((a1.length : Int) : Int).toNat (0 : BitVec 32)), (List.replicate ((a1.length : Int) : Int).toNat (0 : Int)))))))) (fun j => F_impl_InTurn_k1 a1 j.1 j.2.1 j.2.2))
noncomputable def F_laws_eqInt64S_l1 (a0 : (List Int)) (a1 : (List Int)) (i39 : Int) : Option (Int ⊕ (Unit ⊕ Bool)) :=
  if i39 < (a0.length : Int) then
    idx a0 i39 (fun x87 =>
      idx a1 i39 (fun x99 =>
        if x87 ≠ x99 then
          some (.inr (.inr false))
        else
          ck (i39 + 1) (fun _ =>
            some (.inl (i39 + 1)))))
  else
    some (.inr (.inl ()))
noncomputable def F_laws_eqInt64S_k2   : Option Bool :=
  some true
noncomputable def F_laws_eqInt64S (a0 : (List Int)) (a1 : (List Int)) : Option Bool :=
  if (a0.length : Int) ≠ (a1.length : Int) then
    some false
  else
    bnd (lp (fun s => F_laws_eqInt64S_l1 a0 a1 s) 0) (fun j => F_laws_eqInt64S_k2 )
noncomputable def F_laws_eqInt64SS_l1 (a0 : (List (List Int))) (a1 : (List (List Int))) (i47 : Int) : Option (Int ⊕ (Unit ⊕ Bool)) :=
  if i47 < (a0.length : Int) then
    idx a0 i47 (fun x103 =>
      idx a1 i47 (fun x117 =>
        cal (F_laws_eqInt64S x103 x117) (fun x133 =>
          if ¬ (x133 = true) then
            some (.inr (.inr false))
          else
            ck (i47 + 1) (fun _ =>
              some (.inl (i47 + 1))))))
  else
    some (.inr (.inl ()))
noncomputable def F_laws_eqInt64SS_k2   : Option Bool :=
  some true
noncomputable def F_laws_eqInt64SS (a0 : (List (List Int))) (a1 : (List (List Int))) : Option Bool :=
  if (a0.length : Int) ≠ (a1.length : Int) then
    some false
  else
    bnd (lp (fun s => F_laws_eqInt64SS_l1 a0 a1 s) 0) (fun j => F_laws_eqInt64SS_k2 )
noncomputable def F_laws_eqGraph (a0_0 : (List (List Int))) (a1_0 : (List (List Int))) : Option Bool :=
  cal (F_laws_eqInt64SS a0_0 a1_0) (fun x19 =>
    if ¬ (x19 = true) then
      some false
    else
      some true)
noncomputable def F_laws_markInt64S_l1  (l38 : (List Int)) (i41 : Int) (i43 : Int) : Option (((List Int) × Int × Int) ⊕ ((Int × (List Int)) ⊕ (Int × (List Int)))) :=
  if i43 < (l38.length : Int) then
    idx l38 i43 (fun x95 =>
      ck (i41 + 1) (fun _ =>
        ck (i43 + 1) (fun _ =>
          some (.inl ((l38.set ((i43 : Int).toNat) i41), i41 + 1, i43 + 1)))))
  else
    some (.inr (.inl (i41, l38)))
noncomputable def F_laws_markInt64S_k2  (i79 : Int) (l82 : (List Int)) : Option (Int × (List Int)) :=
  some (i79, l82)
noncomputable def F_laws_markInt64S (a0 : (List Int)) (a1 : Int) : Option (Int × (List Int)) :=
  bnd (lp (fun s => F_laws_markInt64S_l1 s.1 s.2.1 s.2.2) (a0, a1, 0)) (fun j => F_laws_markInt64S_k2 j.1 j.2)
noncomputable def F_laws_markInt64SS_l1  (l46 : (List (List Int))) (i49 : Int) (i51 : Int) : Option (((List (List Int)) × Int × Int) ⊕ ((Int × (List (List Int))) ⊕ (Int × (List (List Int))))) :=
  if i51 < (l46.length : Int) then
    idx l46 i51 (fun x111 =>
      cal (F_laws_markInt64S x111 i49) (fun x130 =>
        ck (i51 + 1) (fun _ =>
          some (.inl ((l46.set ((i51 : Int).toNat) x130.2), x130.1, i51 + 1)))))
  else
    some (.inr (.inl (i49, l46)))
noncomputable def F_laws_markInt64SS_k2  (i95 : Int) (l98 : (List (List Int))) : Option (Int × (List (List Int))) :=
  some (i95, l98)
noncomputable def F_laws_markInt64SS (a0 : (List (List Int))) (a1 : Int) : Option (Int × (List (List Int))) :=
  bnd (lp (fun s => F_laws_markInt64SS_l1 s.1 s.2.1 s.2.2) (a0, a1, 0)) (fun j => F_laws_markInt64SS_k2 j.1 j.2)
noncomputable def F_laws_markGraph (a0_0 : (List (List Int))) (a1 : Int) : Option (Int × (List (List Int))) :=
  cal (F_laws_markInt64SS a0_0 a1) (fun x11 =>
    some (x11.1, x11.2))
noncomputable def F_laws_heldInt64S_l1 (a0 : (List Int)) (i27 : Int) (i29 : Int) : Option ((Int × Int) ⊕ (Int ⊕ Int)) :=
  if i29 < (a0.length : Int) then
    idx a0 i29 (fun x68 =>
      if x68 ≠ i27 then
        some (.inr (.inr (-1)))
      else
        ck (i27 + 1) (fun _ =>
          ck (i29 + 1) (fun _ =>
            some (.inl (i27 + 1, i29 + 1)))))
  else
    some (.inr (.inl i27))
noncomputable def F_laws_heldInt64S_k2  (i56 : Int) : Option Int :=
  some i56
noncomputable def F_laws_heldInt64S (a0 : (List Int)) (a1 : Int) : Option Int :=
  bnd (lp (fun s => F_laws_heldInt64S_l1 a0 s.1 s.2) (a1, 0)) (fun j => F_laws_heldInt64S_k2 j)
noncomputable def F_laws_FnExactInTurn (a0_0 : (List (List Int))) (a1 : (List Int)) : Option Bool :=
  if 1048576 < (a1.length : Int) then
    some true
  else
    cal (F_laws_szGraph a0_0 1048576) (fun x10 =>
      if x10 < 0 then
        some true
      else
        cal (F_laws_toGraph a0_0) (fun x18 =>
          cal (F_laws_toInt64S a1) (fun x37 =>
            cal (F_spec_InTurn x18 x37) (fun x59 =>
              cal (F_laws_toGraph a0_0) (fun x77 =>
                cal (F_laws_toInt64S a1) (fun x117 =>
                  cal (F_impl_InTurn x77 x117) (fun x143 =>
                    cal (F_laws_eqInt64S x143 x59) (fun x171 =>
                      if ¬ (x171 = true) then
                        some false
                      else
                        cal (F_laws_toGraph a0_0) (fun x181 =>
                          cal (F_laws_eqGraph x77 x181) (fun x224 =>
                            if ¬ (x224 = true) then
                              some false
                            else
                              cal (F_laws_toInt64S a1) (fun x230 =>
                                cal (F_laws_eqInt64S x117 x230) (fun x260 =>
                                  if ¬ (x260 = true) then
                                    some false
                                  else
                                    cal (F_laws_markGraph x77 1) (fun x267 =>
                                      cal (F_laws_markInt64S x117 x267.1) (fun x275 =>
                                        if x275.1 < 0 then
                                          some false
                                        else
                                          cal (F_laws_eqInt64S x143 x59) (fun x304 =>
                                            if ¬ (x304 = true) then
                                              some false
                                            else
                                              cal (F_laws_markInt64S x143 1) (fun x311 =>
                                                cal (F_laws_heldInt64S x311.2 1) (fun x322 =>
                                                  if x322 < 0 then
                                                    some false
                                                  else
                                                    if x322 ≠ x311.1 then
                                                      some false
                                                    else
                                                      cal (F_laws_toGraph a0_0) (fun x331 =>
                                                        cal (F_laws_toInt64S a1) (fun x356 =>
                                                          cal (F_impl_InTurn x331 x356) (fun x382 =>
                                                            cal (F_laws_eqInt64S x382 x59) (fun x410 =>
                                                              if ¬ (x410 = true) then
                                                                some false
                                                              else
                                                                cal (F_laws_heldInt64S x311.2 1) (fun x420 =>
                                                                  if x420 < 0 then
                                                                    some false
                                                                  else
                                                                    if x420 ≠ x311.1 then
                                                                      some false
                                                                    else
                                                                      some true))))))))))))))))))))))
end Go.Proofs.Ytkhaolpofeehoaa
