/- Functional forms, printed by gen.py. -/
import Derived.Test.YthbmcbflnibpbaaDoorPure
namespace Go.Proofs.YthbmcbflnibpbaaDoor

noncomputable def F_laws_szInt64S (a0 : (List Int)) (a1 : Int) : Option Int :=
  ck (a1 - (a0.length : Int)) (fun _ =>
    if (a1 - (a0.length : Int)) < 0 then
      some (-1)
    else
      some (a1 - (a0.length : Int)))
noncomputable def F_laws_szInt64SS_l1 (a0 : (List (List Int))) (i37 : Int) (i39 : Int) : Option ((Int × Int) ⊕ (Int ⊕ Int)) :=
  if i39 < (a0.length : Int) then
    idx a0 i39 (fun x85 =>
      cal (F_laws_szInt64S x85 i37) (fun x99 =>
        if x99 < 0 then
          some (.inr (.inr (-1)))
        else
          ck (i39 + 1) (fun _ =>
            some (.inl (x99, i39 + 1)))))
  else
    some (.inr (.inl i37))
noncomputable def F_laws_szInt64SS_k2  (i73 : Int) : Option Int :=
  some i73
noncomputable def F_laws_szInt64SS (a0 : (List (List Int))) (a1 : Int) : Option Int :=
  ck (a1 - (a0.length : Int)) (fun _ =>
    if (a1 - (a0.length : Int)) < 0 then
      some (-1)
    else
      bnd (lp (fun s => F_laws_szInt64SS_l1 a0 s.1 s.2) (a1 - (a0.length : Int), 0)) (fun j => F_laws_szInt64SS_k2 j))
noncomputable def F_laws_szGraph (a0_0 : (List (List Int))) (a1 : Int) : Option Int :=
  cal (F_laws_szInt64SS a0_0 a1) (fun x9 =>
    if x9 < 0 then
      some (-1)
    else
      some x9)
noncomputable def F_laws_toInt64S_l1 (a0 : (List Int)) (l63 : (List Int)) (i66 : Int) : Option (((List Int) × Int) ⊕ ((List Int) ⊕ (List Int))) :=
  if i66 < (a0.length : Int) then
    idx a0 i66 (fun x128 =>
      idx l63 i66 (fun x140 =>
        ck (i66 + 1) (fun _ =>
          some (.inl ((l63.set ((i66 : Int).toNat) x128), i66 + 1)))))
  else
    some (.inr (.inl l63))
noncomputable def F_laws_toInt64S_k2  (l115 : (List Int)) : Option (List Int) :=
  some l115
noncomputable def F_laws_toInt64S (a0 : (List Int)) : Option (List Int) :=
  mkS (a0.length : Int) (0 : Int) (fun _ =>
    bnd (lp (fun s => F_laws_toInt64S_l1 a0 s.1 s.2) ((List.replicate ((a0.length : Int) : Int).toNat (0 : Int)), 0)) (fun j => F_laws_toInt64S_k2 j))
noncomputable def F_laws_toInt64SS_l1 (a0 : (List (List Int))) (l96 : (List (List Int))) (i99 : Int) : Option (((List (List Int)) × Int) ⊕ ((List (List Int)) ⊕ (List (List Int)))) :=
  if i99 < (a0.length : Int) then
    idx a0 i99 (fun x191 =>
      cal (F_laws_toInt64S x191) (fun x205 =>
        idx l96 i99 (fun x219 =>
          ck (i99 + 1) (fun _ =>
            some (.inl ((l96.set ((i99 : Int).toNat) x205), i99 + 1))))))
  else
    some (.inr (.inl l96))
noncomputable def F_laws_toInt64SS_k2  (l178 : (List (List Int))) : Option (List (List Int)) :=
  some l178
noncomputable def F_laws_toInt64SS (a0 : (List (List Int))) : Option (List (List Int)) :=
  mkS (a0.length : Int) ([] : (List Int)) (fun _ =>
    bnd (lp (fun s => F_laws_toInt64SS_l1 a0 s.1 s.2) ((List.replicate ((a0.length : Int) : Int).toNat ([] : (List Int))), 0)) (fun j => F_laws_toInt64SS_k2 j))
noncomputable def F_laws_toGraph (a0_0 : (List (List Int))) : Option (List (List Int)) :=
  cal (F_laws_toInt64SS a0_0) (fun x31 =>
    some x31)
noncomputable def F_spec_l1Size (a0_0 : (List (List Int))) : Option Int :=
  some (a0_0.length : Int)
noncomputable def F_spec_l1In (a0 : Int) (a1 : Int) (a2 : Int) : Option Bool :=
  if a1 ≤ a0 then
    some (decide (a0 ≤ a2))
  else
    some false
noncomputable def F_spec_l1Set_l1 (a0 : (List Int)) (a1 : Int) (i69 : Int) : Option (Int ⊕ (Unit ⊕ Bool)) :=
  if i69 < (a0.length : Int) then
    idx a0 i69 (fun x147 =>
      ck (a1 - 1) (fun _ =>
        cal (F_spec_l1In x147 0 (a1 - 1)) (fun x163 =>
          if ¬ (x163 = true) then
            some (.inr (.inr false))
          else
            if 0 < i69 then
              idx a0 i69 (fun x172 =>
                ck (i69 - 1) (fun _ =>
                  idx a0 (i69 - 1) (fun x186 =>
                    if x172 ≤ x186 then
                      some (.inr (.inr false))
                    else
                      ck (i69 + 1) (fun _ =>
                        some (.inl (i69 + 1))))))
            else
              ck (i69 + 1) (fun _ =>
                some (.inl (i69 + 1))))))
  else
    some (.inr (.inl ()))
noncomputable def F_spec_l1Set_k2   : Option Bool :=
  some true
noncomputable def F_spec_l1Set (a0 : (List Int)) (a1 : Int) : Option Bool :=
  if a1 < (a0.length : Int) then
    some false
  else
    bnd (lp (fun s => F_spec_l1Set_l1 a0 a1 s) 0) (fun j => F_spec_l1Set_k2 )
noncomputable def F_spec_l1Has_l1 (a0 : (List Int)) (a1 : Int) (i23 : Int) : Option (Int ⊕ (Unit ⊕ Bool)) :=
  if i23 < (a0.length : Int) then
    idx a0 i23 (fun x56 =>
      if x56 = a1 then
        some (.inr (.inr true))
      else
        ck (i23 + 1) (fun _ =>
          some (.inl (i23 + 1))))
  else
    some (.inr (.inl ()))
noncomputable def F_spec_l1Has_k2   : Option Bool :=
  some false
noncomputable def F_spec_l1Has (a0 : (List Int)) (a1 : Int) : Option Bool :=
  bnd (lp (fun s => F_spec_l1Has_l1 a0 a1 s) 0) (fun j => F_spec_l1Has_k2 )
noncomputable def F_spec_GraphOk_l1 (a0_0 : (List (List Int))) (x9 : Int) (i80 : Int) : Option (Int ⊕ (Unit ⊕ Bool)) :=
  if i80 < x9 then
    idx a0_0 i80 (fun x146 =>
      cal (F_spec_l1Set x146 x9) (fun x160 =>
        if ¬ (x160 = true) then
          some (.inr (.inr false))
        else
          idx a0_0 i80 (fun x169 =>
            cal (F_spec_l1Has x169 i80) (fun x183 =>
              if x183 = true then
                some (.inr (.inr false))
              else
                ck (i80 + 1) (fun _ =>
                  some (.inl (i80 + 1)))))))
  else
    some (.inr (.inl ()))
noncomputable def F_spec_GraphOk_l4 (a0_0 : (List (List Int))) (i436 : Int) (i762 : Int) : Option (Int ⊕ (Unit ⊕ (Int ⊕ (Unit ⊕ Bool)))) :=
  idx a0_0 i436 (fun x847 =>
    if i762 < (x847.length : Int) then
      idx a0_0 i436 (fun x862 =>
        idx x862 i762 (fun x876 =>
          idx a0_0 x876 (fun x888 =>
            cal (F_spec_l1Has x888 i436) (fun x904 =>
              if ¬ (x904 = true) then
                some (.inr (.inr (.inr (.inr false))))
              else
                ck (i762 + 1) (fun _ =>
                  some (.inl (i762 + 1)))))))
    else
      some (.inr (.inl ())))
noncomputable def F_spec_GraphOk_k5 (i436 : Int)  : Option (Int ⊕ (Unit ⊕ Bool)) :=
  ck (i436 + 1) (fun _ =>
    some (.inl (i436 + 1)))
noncomputable def F_spec_GraphOk_l3 (a0_0 : (List (List Int))) (x9 : Int) (i436 : Int) : Option (Int ⊕ (Unit ⊕ Bool)) :=
  if i436 < x9 then
    bnd (lp (fun s => F_spec_GraphOk_l4 a0_0 i436 s) 0) (fun j => F_spec_GraphOk_k5 i436 )
  else
    some (.inr (.inl ()))
noncomputable def F_spec_GraphOk_k6   : Option Bool :=
  some true
noncomputable def F_spec_GraphOk_k2 (a0_0 : (List (List Int))) (x9 : Int)  : Option Bool :=
  bnd (lp (fun s => F_spec_GraphOk_l3 a0_0 x9 s) 0) (fun j => F_spec_GraphOk_k6 )
noncomputable def F_spec_GraphOk (a0_0 : (List (List Int))) : Option Bool :=
  cal (F_spec_l1Size a0_0) (fun x9 =>
    cal (F_spec_l1In x9 1 16) (fun x16 =>
      if ¬ (x16 = true) then
        some false
      else
        bnd (lp (fun s => F_spec_GraphOk_l1 a0_0 x9 s) 0) (fun j => F_spec_GraphOk_k2 a0_0 x9 )))
noncomputable def F_spec_l25Bits_l2 (a0_0 : (List (List Int))) (i284 : Int) (i625 : Int) (i627 : Int) : Option ((Int × Int) ⊕ (Int ⊕ (((List Int) × Int) ⊕ ((List Int) ⊕ (List Int))))) :=
  idx a0_0 i284 (fun x709 =>
    if i627 < (x709.length : Int) then
      idx a0_0 i284 (fun x724 =>
        idx x724 i627 (fun x738 =>
          grd ((0 : Int) ≤ x738) (
            ck (1 * 2 ^ (x738 : Int).toNat) (fun _ =>
              ck (i627 + 1) (fun _ =>
                some (.inl (i64or i625 (1 * 2 ^ (x738 : Int).toNat), i627 + 1)))))))
    else
      some (.inr (.inl i625)))
noncomputable def F_spec_l25Bits_k3 (l281 : (List Int)) (i284 : Int) (i696 : Int) : Option (((List Int) × Int) ⊕ ((List Int) ⊕ (List Int))) :=
  app l281 ([i696]) (fun _ =>
    ck (i284 + 1) (fun _ =>
      some (.inl ((l281 ++ ([i696])), i284 + 1))))
noncomputable def F_spec_l25Bits_l1 (a0_0 : (List (List Int))) (l281 : (List Int)) (i284 : Int) : Option (((List Int) × Int) ⊕ ((List Int) ⊕ (List Int))) :=
  if i284 < (a0_0.length : Int) then
    bnd (lp (fun s => F_spec_l25Bits_l2 a0_0 i284 s.1 s.2) (0, 0)) (fun j => F_spec_l25Bits_k3 l281 i284 j)
  else
    some (.inr (.inl l281))
noncomputable def F_spec_l25Bits_k4  (l539 : (List Int)) : Option (List Int) :=
  some l539
noncomputable def F_spec_l25Bits (a0_0 : (List (List Int))) : Option (List Int) :=
  bnd (lp (fun s => F_spec_l25Bits_l1 a0_0 s.1 s.2) (([] : (List Int)), 0)) (fun j => F_spec_l25Bits_k4 j)
noncomputable def F_spec_l1Flag (a0 : Bool) : Option Int :=
  if a0 = true then
    some 1
  else
    some 0
noncomputable def F_spec_l27Low_l1 (a0 : Int) (i11 : Int) : Option (Int ⊕ (Int ⊕ Int)) :=
  grd ((0 : Int) ≤ i11) (
    if (i64and (a0 / 2 ^ (i11 : Int).toNat) 1) = 0 then
      ck (i11 + 1) (fun _ =>
        some (.inl (i11 + 1)))
    else
      some (.inr (.inl i11)))
noncomputable def F_spec_l27Low_k2  (i22 : Int) : Option Int :=
  some i22
noncomputable def F_spec_l27Low (a0 : Int) : Option Int :=
  bnd (lp (fun s => F_spec_l27Low_l1 a0 s) 0) (fun j => F_spec_l27Low_k2 j)
noncomputable def F_spec_l28Table_l3 (i1428 : Int) (i3322 : Int) (l3989 : (List (List Int))) (l3995 : (List Int)) (i3998 : Int) : Option (((List (List Int)) × (List Int) × Int) ⊕ (((List (List Int)) × (List Int)) ⊕ (((List (List Int)) × (List Int) × Int) ⊕ (((List (List Int)) × (List Int)) ⊕ (((List (List Int)) × Int) ⊕ ((List (List Int)) ⊕ (List (List Int)))))))) :=
  if 0 < i3998 then
    idx l3995 i3322 (fun x4125 =>
      idx l3989 (i64andn i1428 (1 * 2 ^ (i3322 : Int).toNat)) (fun x4137 =>
        cal (F_spec_l27Low i3998) (fun x4155 =>
          idx x4137 x4155 (fun x4158 =>
            ck (x4125 + x4158) (fun _ =>
              idx l3995 i3322 (fun x4172 =>
                ck (i3998 - 1) (fun _ =>
                  some (.inl (l3989, (l3995.set ((i3322 : Int).toNat) (x4125 + x4158)), i64and i3998 (i3998 - 1))))))))))
  else
    some (.inr (.inl (l3989, l3995)))
noncomputable def F_spec_l28Table_k4 (i3322 : Int) (l4104 : (List (List Int))) (l4110 : (List Int)) : Option (((List (List Int)) × (List Int) × Int) ⊕ (((List (List Int)) × (List Int)) ⊕ (((List (List Int)) × Int) ⊕ ((List (List Int)) ⊕ (List (List Int)))))) :=
  ck (i3322 + 1) (fun _ =>
    some (.inl (l4104, l4110, i3322 + 1)))
noncomputable def F_spec_l28Table_l2 (a0 : (List Int)) (a1 : Bool) (i1428 : Int) (l3313 : (List (List Int))) (l3319 : (List Int)) (i3322 : Int) : Option (((List (List Int)) × (List Int) × Int) ⊕ (((List (List Int)) × (List Int)) ⊕ (((List (List Int)) × Int) ⊕ ((List (List Int)) ⊕ (List (List Int)))))) :=
  if i3322 < (a0.length : Int) then
    grd ((0 : Int) ≤ i3322) (
      if (i64and (i1428 / 2 ^ (i3322 : Int).toNat) 1) = 0 then
        ck (i3322 + 1) (fun _ =>
          some (.inl (l3313, l3319, i3322 + 1)))
      else
        grd ((0 : Int) ≤ i3322) (
          ck (1 * 2 ^ (i3322 : Int).toNat) (fun _ =>
            if (i64andn i1428 (1 * 2 ^ (i3322 : Int).toNat)) = 0 then
              if ¬ (a1 = true) then
                cal (F_spec_l1Flag true) (fun x3797 =>
                  idx l3319 i3322 (fun x3804 =>
                    ck (i3322 + 1) (fun _ =>
                      some (.inl (l3313, (l3319.set ((i3322 : Int).toNat) x3797), i3322 + 1)))))
              else
                idx a0 i3322 (fun x3824 =>
                  cal (F_spec_l1Flag (decide ((i64and x3824 1) = 1))) (fun x3836 =>
                    idx l3319 i3322 (fun x3843 =>
                      ck (i3322 + 1) (fun _ =>
                        some (.inl (l3313, (l3319.set ((i3322 : Int).toNat) x3836), i3322 + 1))))))
            else
              idx a0 i3322 (fun x3863 =>
                bnd (lp (fun s => F_spec_l28Table_l3 i1428 i3322 s.1 s.2.1 s.2.2) (l3313, l3319, i64and x3863 (i64andn i1428 (1 * 2 ^ (i3322 : Int).toNat)))) (fun j => F_spec_l28Table_k4 i3322 j.1 j.2)))))
  else
    some (.inr (.inl (l3313, l3319)))
noncomputable def F_spec_l28Table_k5 (i1428 : Int) (l3767 : (List (List Int))) (l3773 : (List Int)) : Option (((List (List Int)) × Int) ⊕ ((List (List Int)) ⊕ (List (List Int)))) :=
  idx l3767 i1428 (fun x4200 =>
    ck (i1428 + 1) (fun _ =>
      some (.inl ((l3767.set ((i1428 : Int).toNat) l3773), i1428 + 1))))
noncomputable def F_spec_l28Table_l1 (a0 : (List Int)) (a1 : Bool) (l1425 : (List (List Int))) (i1428 : Int) : Option (((List (List Int)) × Int) ⊕ ((List (List Int)) ⊕ (List (List Int)))) :=
  if i1428 < (l1425.length : Int) then
    mkS (a0.length : Int) (0 : Int) (fun _ =>
      bnd (lp (fun s => F_spec_l28Table_l2 a0 a1 i1428 s.1 s.2.1 s.2.2) (l1425, (List.replicate ((a0.length : Int) : Int).toNat (0 : Int)), 0)) (fun j => F_spec_l28Table_k5 i1428 j.1 j.2))
  else
    some (.inr (.inl l1425))
noncomputable def F_spec_l28Table_k6  (l2833 : (List (List Int))) : Option (List (List Int)) :=
  some l2833
noncomputable def F_spec_l28Table (a0 : (List Int)) (a1 : Bool) : Option (List (List Int)) :=
  grd ((0 : Int) ≤ (a0.length : Int)) (
    ck (1 * 2 ^ ((a0.length : Int) : Int).toNat) (fun _ =>
      mkS (1 * 2 ^ ((a0.length : Int) : Int).toNat) ([] : (List Int)) (fun _ =>
        bnd (lp (fun s => F_spec_l28Table_l1 a0 a1 s.1 s.2) ((List.replicate (1 * 2 ^ ((a0.length : Int) : Int).toNat : Int).toNat ([] : (List Int))), 1)) (fun j => F_spec_l28Table_k6 j))))
noncomputable def F_spec_l25All (a0_0 : (List (List Int))) : Option Int :=
  grd ((0 : Int) ≤ (a0_0.length : Int)) (
    ck (1 * 2 ^ ((a0_0.length : Int) : Int).toNat) (fun _ =>
      ck ((1 * 2 ^ ((a0_0.length : Int) : Int).toNat) - 1) (fun _ =>
        some ((1 * 2 ^ ((a0_0.length : Int) : Int).toNat) - 1))))
noncomputable def F_spec_RoundsMany (a0_0 : (List (List Int))) : Option Int :=
  cal (F_spec_GraphOk a0_0) (fun x9 =>
    if ¬ (x9 = true) then
      some (-1)
    else
      cal (F_spec_l1Size a0_0) (fun x16 =>
        if x16 < 3 then
          some 0
        else
          cal (F_spec_l25Bits a0_0) (fun x27 =>
            cal (F_spec_l28Table x27 true) (fun x46 =>
              cal (F_spec_l25All a0_0) (fun x69 =>
                idx x46 x69 (fun x72 =>
                  idx x72 0 (fun x89 =>
                    grd ((0 : Int) ≤ x89 ∧ (0 : Int) < 2) (
                      some (x89 / 2)))))))))
noncomputable def F_impl_inRange (a0 : Int) (a1 : Int) (a2 : Int) : Option Bool :=
  if a1 ≤ a0 then
    some (decide (a0 ≤ a2))
  else
    some false
noncomputable def F_impl_increasing_l1 (a0 : (List Int)) (a1 : Int) (i49 : Int) : Option (Int ⊕ (Unit ⊕ Bool)) :=
  if i49 < (a0.length : Int) then
    idx a0 i49 (fun x108 =>
      ck (a1 - 1) (fun _ =>
        cal (F_impl_inRange x108 0 (a1 - 1)) (fun x122 =>
          if ¬ (x122 = true) then
            some (.inr (.inr false))
          else
            if 0 < i49 then
              ck (i49 - 1) (fun _ =>
                idx a0 (i49 - 1) (fun x134 =>
                  if x108 ≤ x134 then
                    some (.inr (.inr false))
                  else
                    ck (i49 + 1) (fun _ =>
                      some (.inl (i49 + 1)))))
            else
              ck (i49 + 1) (fun _ =>
                some (.inl (i49 + 1))))))
  else
    some (.inr (.inl ()))
noncomputable def F_impl_increasing_k2   : Option Bool :=
  some true
noncomputable def F_impl_increasing (a0 : (List Int)) (a1 : Int) : Option Bool :=
  bnd (lp (fun s => F_impl_increasing_l1 a0 a1 s) 0) (fun j => F_impl_increasing_k2 )
noncomputable def F_slices_Index_int64_l1 (a0 : (List Int)) (a1 : Int) (i23 : Int) : Option (Int ⊕ (Unit ⊕ Int)) :=
  if i23 < (a0.length : Int) then
    idx a0 i23 (fun x56 =>
      if a1 = x56 then
        some (.inr (.inr i23))
      else
        ck (i23 + 1) (fun _ =>
          some (.inl (i23 + 1))))
  else
    some (.inr (.inl ()))
noncomputable def F_slices_Index_int64_k2   : Option Int :=
  some (-1)
noncomputable def F_slices_Index_int64 (a0 : (List Int)) (a1 : Int) : Option Int :=
  bnd (lp (fun s => F_slices_Index_int64_l1 a0 a1 s) 0) (fun j => F_slices_Index_int64_k2 )
noncomputable def F_slices_Contains_int64 (a0 : (List Int)) (a1 : Int) : Option Bool :=
  cal (F_slices_Index_int64 a0 a1) (fun x1 =>
    some (decide (0 ≤ x1)))
noncomputable def F_impl_GraphOk_l1 (a0_0 : (List (List Int))) (i56 : Int) : Option (Int ⊕ (Unit ⊕ Bool)) :=
  if i56 < (a0_0.length : Int) then
    idx a0_0 i56 (fun x108 =>
      cal (F_impl_increasing x108 (a0_0.length : Int)) (fun x122 =>
        if ¬ (x122 = true) then
          some (.inr (.inr false))
        else
          cal (F_slices_Contains_int64 x108 i56) (fun x131 =>
            if x131 = true then
              some (.inr (.inr false))
            else
              ck (i56 + 1) (fun _ =>
                some (.inl (i56 + 1))))))
  else
    some (.inr (.inl ()))
noncomputable def F_impl_GraphOk_l4 (a0_0 : (List (List Int))) (i311 : Int) (x487 : (List Int)) (i549 : Int) : Option (Int ⊕ (Unit ⊕ (Int ⊕ (Unit ⊕ Bool)))) :=
  if i549 < (x487.length : Int) then
    idx x487 i549 (fun x606 =>
      idx a0_0 x606 (fun x618 =>
        cal (F_slices_Contains_int64 x618 i311) (fun x632 =>
          if ¬ (x632 = true) then
            some (.inr (.inr (.inr (.inr false))))
          else
            ck (i549 + 1) (fun _ =>
              some (.inl (i549 + 1))))))
  else
    some (.inr (.inl ()))
noncomputable def F_impl_GraphOk_k5 (i311 : Int)  : Option (Int ⊕ (Unit ⊕ Bool)) :=
  ck (i311 + 1) (fun _ =>
    some (.inl (i311 + 1)))
noncomputable def F_impl_GraphOk_l3 (a0_0 : (List (List Int))) (i311 : Int) : Option (Int ⊕ (Unit ⊕ Bool)) :=
  if i311 < (a0_0.length : Int) then
    idx a0_0 i311 (fun x487 =>
      bnd (lp (fun s => F_impl_GraphOk_l4 a0_0 i311 x487 s) 0) (fun j => F_impl_GraphOk_k5 i311 ))
  else
    some (.inr (.inl ()))
noncomputable def F_impl_GraphOk_k6   : Option Bool :=
  some true
noncomputable def F_impl_GraphOk_k2 (a0_0 : (List (List Int)))  : Option Bool :=
  bnd (lp (fun s => F_impl_GraphOk_l3 a0_0 s) 0) (fun j => F_impl_GraphOk_k6 )
noncomputable def F_impl_GraphOk (a0_0 : (List (List Int))) : Option Bool :=
  if (a0_0.length : Int) < 1 then
    some false
  else
    if 16 < (a0_0.length : Int) then
      some false
    else
      bnd (lp (fun s => F_impl_GraphOk_l1 a0_0 s) 0) (fun j => F_impl_GraphOk_k2 a0_0 )
noncomputable def F_impl_one (a0 : Int) : Option (BitVec 32) :=
  grd ((0 : Int) ≤ a0) (
    some ((1#32) <<< (a0 : Int).toNat))
noncomputable def F_impl_maskOf_l1 (a0 : (List Int)) (u29 : BitVec 32) (i30 : Int) : Option (((BitVec 32) × Int) ⊕ ((BitVec 32) ⊕ (BitVec 32))) :=
  if i30 < (a0.length : Int) then
    idx a0 i30 (fun x70 =>
      cal (F_impl_one x70) (fun x82 =>
        ck (i30 + 1) (fun _ =>
          some (.inl (u29 ||| x82, i30 + 1)))))
  else
    some (.inr (.inl u29))
noncomputable def F_impl_maskOf_k2  (u59 : BitVec 32) : Option (BitVec 32) :=
  some u59
noncomputable def F_impl_maskOf (a0 : (List Int)) : Option (BitVec 32) :=
  bnd (lp (fun s => F_impl_maskOf_l1 a0 s.1 s.2) (0#32, 0)) (fun j => F_impl_maskOf_k2 j)
noncomputable def F_impl_netsOf_l1 (a0_0 : (List (List Int))) (l84 : (List (BitVec 32))) (i87 : Int) : Option (((List (BitVec 32)) × Int) ⊕ ((List (BitVec 32)) ⊕ (List (BitVec 32)))) :=
  if i87 < (a0_0.length : Int) then
    idx a0_0 i87 (fun x162 =>
      cal (F_impl_maskOf x162) (fun x176 =>
        app l84 ([x176]) (fun _ =>
          ck (i87 + 1) (fun _ =>
            some (.inl ((l84 ++ ([x176])), i87 + 1))))))
  else
    some (.inr (.inl l84))
noncomputable def F_impl_netsOf_k2  (l149 : (List (BitVec 32))) : Option (List (BitVec 32)) :=
  some l149
noncomputable def F_impl_netsOf (a0_0 : (List (List Int))) : Option (List (BitVec 32)) :=
  bnd (lp (fun s => F_impl_netsOf_l1 a0_0 s.1 s.2) (([] : (List (BitVec 32))), 0)) (fun j => F_impl_netsOf_k2 j)
noncomputable def F_impl_firstOf (a0 : Int) : Option (BitVec 32) :=
  grd ((0 : Int) ≤ a0) (
    some (((1#32) <<< (a0 : Int).toNat) - (1#32)))
noncomputable def F_impl_nets_all (a0 : (List (BitVec 32))) : Option (BitVec 32) :=
  cal (F_impl_firstOf (a0.length : Int)) (fun x1 =>
    some x1)
noncomputable def F_math_bits_TrailingZeros32 (a0 : BitVec 32) : Option Int :=
  if a0 = (0#32) then
    some 32
  else
    idx deBruijn32 (BitVec.toNat (((a0 &&& (-a0)) * (125613361#32)) >>> (27 : Int).toNat) : Int) (fun x2 =>
      some (BitVec.toNat x2 : Int))
noncomputable def F_impl_vset_least (a0 : BitVec 32) : Option Int :=
  cal (F_math_bits_TrailingZeros32 a0) (fun x1 =>
    some x1)
noncomputable def F_impl_vset_list_l1  (u55 : BitVec 32) (l59 : (List Int)) : Option (((BitVec 32) × (List Int)) ⊕ ((List Int) ⊕ (List Int))) :=
  if u55 ≠ (0#32) then
    cal (F_impl_vset_least u55) (fun x119 =>
      app l59 ([x119]) (fun _ =>
        some (.inl (u55 &&& (u55 - (1#32)), (l59 ++ ([x119]))))))
  else
    some (.inr (.inl l59))
noncomputable def F_impl_vset_list_k2  (l106 : (List Int)) : Option (List Int) :=
  some l106
noncomputable def F_impl_vset_list (a0 : BitVec 32) : Option (List Int) :=
  bnd (lp (fun s => F_impl_vset_list_l1 s.1 s.2) (a0, ([] : (List Int)))) (fun j => F_impl_vset_list_k2 j)
noncomputable def F_impl_RoundsMany_l3 (u1615 : BitVec 32) (x4208 : Int) (x4251 : (List Int)) (l4415 : (List (List Int))) (i4424 : Int) : Option (((List (List Int)) × Int) ⊕ ((List (List Int)) ⊕ (((List (List Int)) × Int) ⊕ ((List (List Int)) ⊕ (((List (List Int)) × (BitVec 32)) ⊕ ((List (List Int)) ⊕ Int)))))) :=
  if i4424 < (x4251.length : Int) then
    idx x4251 i4424 (fun x4582 =>
      cal (F_impl_one x4582) (fun x4596 =>
        idx l4415 (BitVec.toNat (u1615 ||| x4596) : Int) (fun x4598 =>
          idx x4598 x4582 (fun x4611 =>
            idx l4415 (BitVec.toNat u1615 : Int) (fun x4615 =>
              idx x4615 x4208 (fun x4628 =>
                ck (x4611 + x4628) (fun _ =>
                  idx l4415 (BitVec.toNat (u1615 ||| x4596) : Int) (fun x4634 =>
                    idx x4634 x4582 (fun x4647 =>
                      ck (i4424 + 1) (fun _ =>
                        some (.inl ((l4415.set (((BitVec.toNat (u1615 ||| x4596) : Int) : Int).toNat) (x4634.set (x4582 : Int).toNat (x4611 + x4628))), i4424 + 1))))))))))))
  else
    some (.inr (.inl l4415))
noncomputable def F_impl_RoundsMany_k4 (i3696 : Int) (l4560 : (List (List Int))) : Option (((List (List Int)) × Int) ⊕ ((List (List Int)) ⊕ (((List (List Int)) × (BitVec 32)) ⊕ ((List (List Int)) ⊕ Int)))) :=
  ck (i3696 + 1) (fun _ =>
    some (.inl (l4560, i3696 + 1)))
noncomputable def F_impl_RoundsMany_l2 (x16 : (List (BitVec 32))) (u1615 : BitVec 32) (x3170 : (List Int)) (l3690 : (List (List Int))) (i3696 : Int) : Option (((List (List Int)) × Int) ⊕ ((List (List Int)) ⊕ (((List (List Int)) × (BitVec 32)) ⊕ ((List (List Int)) ⊕ Int)))) :=
  if i3696 < (x3170.length : Int) then
    idx x3170 i3696 (fun x4208 =>
      idx l3690 (BitVec.toNat u1615 : Int) (fun x4220 =>
        idx x4220 x4208 (fun x4233 =>
          if x4233 = 0 then
            ck (i3696 + 1) (fun _ =>
              some (.inl (l3690, i3696 + 1)))
          else
            idx x16 x4208 (fun x4240 =>
              cal (F_impl_vset_list (x4240 &&& ~~~u1615)) (fun x4251 =>
                bnd (lp (fun s => F_impl_RoundsMany_l3 u1615 x4208 x4251 s.1 s.2) (l3690, 0)) (fun j => F_impl_RoundsMany_k4 i3696 j))))))
  else
    some (.inr (.inl l3690))
noncomputable def F_impl_RoundsMany_k5 (u1615 : BitVec 32) (l4193 : (List (List Int))) : Option (((List (List Int)) × (BitVec 32)) ⊕ ((List (List Int)) ⊕ Int)) :=
  some (.inl (l4193, u1615 + (2#32)))
noncomputable def F_impl_RoundsMany_l1 (x16 : (List (BitVec 32))) (l1612 : (List (List Int))) (u1615 : BitVec 32) : Option (((List (List Int)) × (BitVec 32)) ⊕ ((List (List Int)) ⊕ Int)) :=
  cal (F_impl_nets_all x16) (fun x3163 =>
    if u1615 < x3163 then
      cal (F_impl_vset_list u1615) (fun x3170 =>
        bnd (lp (fun s => F_impl_RoundsMany_l2 x16 u1615 x3170 s.1 s.2) (l1612, 0)) (fun j => F_impl_RoundsMany_k5 u1615 j))
    else
      some (.inr (.inl l1612)))
noncomputable def F_impl_RoundsMany_l7 (x16 : (List (BitVec 32))) (l3146 : (List (List Int))) (x4678 : (List Int)) (i4780 : Int) (i4785 : Int) : Option ((Int × Int) ⊕ (Int ⊕ Int)) :=
  if i4785 < (x4678.length : Int) then
    idx x4678 i4785 (fun x4870 =>
      cal (F_impl_nets_all x16) (fun x4885 =>
        idx l3146 (BitVec.toNat x4885 : Int) (fun x4891 =>
          idx x4891 x4870 (fun x4904 =>
            ck (i4780 + x4904) (fun _ =>
              ck (i4785 + 1) (fun _ =>
                some (.inl (i4780 + x4904, i4785 + 1))))))))
  else
    some (.inr (.inl i4780))
noncomputable def F_impl_RoundsMany_k8  (i4858 : Int) : Option Int :=
  grd ((0 : Int) ≤ i4858 ∧ (0 : Int) < 2) (
    some (i4858 / 2))
noncomputable def F_impl_RoundsMany_k6 (x16 : (List (BitVec 32))) (l3146 : (List (List Int))) : Option Int :=
  idx x16 0 (fun x4667 =>
    cal (F_impl_vset_list x4667) (fun x4678 =>
      bnd (lp (fun s => F_impl_RoundsMany_l7 x16 l3146 x4678 s.1 s.2) (0, 0)) (fun j => F_impl_RoundsMany_k8 j)))
noncomputable def F_impl_RoundsMany (a0_0 : (List (List Int))) : Option Int :=
  cal (F_impl_GraphOk a0_0) (fun x9 =>
    if ¬ (x9 = true) then
      some (-1)
    else
      cal (F_impl_netsOf a0_0) (fun x16 =>
        if (x16.length : Int) < 3 then
          some 0
        else
          cal (F_impl_nets_all x16) (fun x33 =>
            mkS (BitVec.toNat (x33 + (1#32)) : Int) (List.replicate 16 (0 : Int)) (fun _ =>
              idx (List.replicate ((BitVec.toNat (x33 + (1#32)) : Int) : Int).toNat (List.replicate 16 (0 : Int))) 1 (fun x52 =>
                idx x52 0 (fun x65 =>
                  bnd (lp (fun s => F_impl_RoundsMany_l1 x16 s.1 s.2) (((List.replicate ((BitVec.toNat (x33 + (1#32)) : Int) : Int).toNat (List.replicate 16 (0 : Int))).set ((1 : Int).toNat) (x52.set (0 : Int).toNat 1)), 1#32)) (fun j => F_impl_RoundsMany_k6 x16 j)))))))
noncomputable def F_laws_eqInt64S_l1 (a0 : (List Int)) (a1 : (List Int)) (i39 : Int) : Option (Int ⊕ (Unit ⊕ Bool)) :=
  if i39 < (a0.length : Int) then
    idx a0 i39 (fun x87 =>
      idx a1 i39 (fun x99 =>
        if x87 ≠ x99 then
          some (.inr (.inr false))
        else
          ck (i39 + 1) (fun _ =>
            some (.inl (i39 + 1)))))
  else
    some (.inr (.inl ()))
noncomputable def F_laws_eqInt64S_k2   : Option Bool :=
  some true
noncomputable def F_laws_eqInt64S (a0 : (List Int)) (a1 : (List Int)) : Option Bool :=
  if (a0.length : Int) ≠ (a1.length : Int) then
    some false
  else
    bnd (lp (fun s => F_laws_eqInt64S_l1 a0 a1 s) 0) (fun j => F_laws_eqInt64S_k2 )
noncomputable def F_laws_eqInt64SS_l1 (a0 : (List (List Int))) (a1 : (List (List Int))) (i47 : Int) : Option (Int ⊕ (Unit ⊕ Bool)) :=
  if i47 < (a0.length : Int) then
    idx a0 i47 (fun x103 =>
      idx a1 i47 (fun x117 =>
        cal (F_laws_eqInt64S x103 x117) (fun x133 =>
          if ¬ (x133 = true) then
            some (.inr (.inr false))
          else
            ck (i47 + 1) (fun _ =>
              some (.inl (i47 + 1))))))
  else
    some (.inr (.inl ()))
noncomputable def F_laws_eqInt64SS_k2   : Option Bool :=
  some true
noncomputable def F_laws_eqInt64SS (a0 : (List (List Int))) (a1 : (List (List Int))) : Option Bool :=
  if (a0.length : Int) ≠ (a1.length : Int) then
    some false
  else
    bnd (lp (fun s => F_laws_eqInt64SS_l1 a0 a1 s) 0) (fun j => F_laws_eqInt64SS_k2 )
noncomputable def F_laws_eqGraph (a0_0 : (List (List Int))) (a1_0 : (List (List Int))) : Option Bool :=
  cal (F_laws_eqInt64SS a0_0 a1_0) (fun x19 =>
    if ¬ (x19 = true) then
      some false
    else
      some true)
noncomputable def F_laws_FnExactRoundsMany (a0_0 : (List (List Int))) : Option Bool :=
  cal (F_laws_szGraph a0_0 1048576) (fun x9 =>
    if x9 < 0 then
      some true
    else
      cal (F_laws_toGraph a0_0) (fun x17 =>
        cal (F_spec_RoundsMany x17) (fun x39 =>
          cal (F_laws_toGraph a0_0) (fun x46 =>
            cal (F_impl_RoundsMany x46) (fun x84 =>
              if x84 ≠ x39 then
                some false
              else
                cal (F_laws_toGraph a0_0) (fun x95 =>
                  cal (F_laws_eqGraph x46 x95) (fun x129 =>
                    if ¬ (x129 = true) then
                      some false
                    else
                      some true)))))))
end Go.Proofs.YthbmcbflnibpbaaDoor
