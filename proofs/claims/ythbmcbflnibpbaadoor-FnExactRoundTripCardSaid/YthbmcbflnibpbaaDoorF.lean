/- Functional forms, printed by gen.py. -/
import Derived.Test.YthbmcbflnibpbaaDoorPure
namespace Go.Proofs.YthbmcbflnibpbaaDoor

noncomputable def F_laws_szInt64S (a0 : (List Int)) (a1 : Int) : Option Int :=
  ck (a1 - (a0.length : Int)) (fun _ =>
    if (a1 - (a0.length : Int)) < 0 then
      some (-1)
    else
      some (a1 - (a0.length : Int)))
noncomputable def F_laws_szInt64SS_l1 (a0 : (List (List Int))) (i37 : Int) (i39 : Int) : Option ((Int × Int) ⊕ (Int ⊕ Int)) :=
  if i39 < (a0.length : Int) then
    idx a0 i39 (fun x85 =>
      cal (F_laws_szInt64S x85 i37) (fun x99 =>
        if x99 < 0 then
          some (.inr (.inr (-1)))
        else
          ck (i39 + 1) (fun _ =>
            some (.inl (x99, i39 + 1)))))
  else
    some (.inr (.inl i37))
noncomputable def F_laws_szInt64SS_k2  (i73 : Int) : Option Int :=
  some i73
noncomputable def F_laws_szInt64SS (a0 : (List (List Int))) (a1 : Int) : Option Int :=
  ck (a1 - (a0.length : Int)) (fun _ =>
    if (a1 - (a0.length : Int)) < 0 then
      some (-1)
    else
      bnd (lp (fun s => F_laws_szInt64SS_l1 a0 s.1 s.2) (a1 - (a0.length : Int), 0)) (fun j => F_laws_szInt64SS_k2 j))
noncomputable def F_laws_szGraph (a0_0 : (List (List Int))) (a1 : Int) : Option Int :=
  cal (F_laws_szInt64SS a0_0 a1) (fun x9 =>
    if x9 < 0 then
      some (-1)
    else
      some x9)
noncomputable def F_laws_toInt64S_l1 (a0 : (List Int)) (l63 : (List Int)) (i66 : Int) : Option (((List Int) × Int) ⊕ ((List Int) ⊕ (List Int))) :=
  if i66 < (a0.length : Int) then
    idx a0 i66 (fun x128 =>
      idx l63 i66 (fun x140 =>
        ck (i66 + 1) (fun _ =>
          some (.inl ((l63.set ((i66 : Int).toNat) x128), i66 + 1)))))
  else
    some (.inr (.inl l63))
noncomputable def F_laws_toInt64S_k2  (l115 : (List Int)) : Option (List Int) :=
  some l115
noncomputable def F_laws_toInt64S (a0 : (List Int)) : Option (List Int) :=
  mkS (a0.length : Int) (0 : Int) (fun _ =>
    bnd (lp (fun s => F_laws_toInt64S_l1 a0 s.1 s.2) ((List.replicate ((a0.length : Int) : Int).toNat (0 : Int)), 0)) (fun j => F_laws_toInt64S_k2 j))
noncomputable def F_laws_toInt64SS_l1 (a0 : (List (List Int))) (l96 : (List (List Int))) (i99 : Int) : Option (((List (List Int)) × Int) ⊕ ((List (List Int)) ⊕ (List (List Int)))) :=
  if i99 < (a0.length : Int) then
    idx a0 i99 (fun x191 =>
      cal (F_laws_toInt64S x191) (fun x205 =>
        idx l96 i99 (fun x219 =>
          ck (i99 + 1) (fun _ =>
            some (.inl ((l96.set ((i99 : Int).toNat) x205), i99 + 1))))))
  else
    some (.inr (.inl l96))
noncomputable def F_laws_toInt64SS_k2  (l178 : (List (List Int))) : Option (List (List Int)) :=
  some l178
noncomputable def F_laws_toInt64SS (a0 : (List (List Int))) : Option (List (List Int)) :=
  mkS (a0.length : Int) ([] : (List Int)) (fun _ =>
    bnd (lp (fun s => F_laws_toInt64SS_l1 a0 s.1 s.2) ((List.replicate ((a0.length : Int) : Int).toNat ([] : (List Int))), 0)) (fun j => F_laws_toInt64SS_k2 j))
noncomputable def F_laws_toGraph (a0_0 : (List (List Int))) : Option (List (List Int)) :=
  cal (F_laws_toInt64SS a0_0) (fun x31 =>
    some x31)
noncomputable def F_spec_l1Size (a0_0 : (List (List Int))) : Option Int :=
  some (a0_0.length : Int)
noncomputable def F_spec_l1In (a0 : Int) (a1 : Int) (a2 : Int) : Option Bool :=
  if a1 ≤ a0 then
    some (decide (a0 ≤ a2))
  else
    some false
noncomputable def F_spec_l1Set_l1 (a0 : (List Int)) (a1 : Int) (i69 : Int) : Option (Int ⊕ (Unit ⊕ Bool)) :=
  if i69 < (a0.length : Int) then
    idx a0 i69 (fun x147 =>
      ck (a1 - 1) (fun _ =>
        cal (F_spec_l1In x147 0 (a1 - 1)) (fun x163 =>
          if ¬ (x163 = true) then
            some (.inr (.inr false))
          else
            if 0 < i69 then
              idx a0 i69 (fun x172 =>
                ck (i69 - 1) (fun _ =>
                  idx a0 (i69 - 1) (fun x186 =>
                    if x172 ≤ x186 then
                      some (.inr (.inr false))
                    else
                      ck (i69 + 1) (fun _ =>
                        some (.inl (i69 + 1))))))
            else
              ck (i69 + 1) (fun _ =>
                some (.inl (i69 + 1))))))
  else
    some (.inr (.inl ()))
noncomputable def F_spec_l1Set_k2   : Option Bool :=
  some true
noncomputable def F_spec_l1Set (a0 : (List Int)) (a1 : Int) : Option Bool :=
  if a1 < (a0.length : Int) then
    some false
  else
    bnd (lp (fun s => F_spec_l1Set_l1 a0 a1 s) 0) (fun j => F_spec_l1Set_k2 )
noncomputable def F_spec_l1Has_l1 (a0 : (List Int)) (a1 : Int) (i23 : Int) : Option (Int ⊕ (Unit ⊕ Bool)) :=
  if i23 < (a0.length : Int) then
    idx a0 i23 (fun x56 =>
      if x56 = a1 then
        some (.inr (.inr true))
      else
        ck (i23 + 1) (fun _ =>
          some (.inl (i23 + 1))))
  else
    some (.inr (.inl ()))
noncomputable def F_spec_l1Has_k2   : Option Bool :=
  some false
noncomputable def F_spec_l1Has (a0 : (List Int)) (a1 : Int) : Option Bool :=
  bnd (lp (fun s => F_spec_l1Has_l1 a0 a1 s) 0) (fun j => F_spec_l1Has_k2 )
noncomputable def F_spec_GraphOk_l1 (a0_0 : (List (List Int))) (x9 : Int) (i80 : Int) : Option (Int ⊕ (Unit ⊕ Bool)) :=
  if i80 < x9 then
    idx a0_0 i80 (fun x146 =>
      cal (F_spec_l1Set x146 x9) (fun x160 =>
        if ¬ (x160 = true) then
          some (.inr (.inr false))
        else
          idx a0_0 i80 (fun x169 =>
            cal (F_spec_l1Has x169 i80) (fun x183 =>
              if x183 = true then
                some (.inr (.inr false))
              else
                ck (i80 + 1) (fun _ =>
                  some (.inl (i80 + 1)))))))
  else
    some (.inr (.inl ()))
noncomputable def F_spec_GraphOk_l4 (a0_0 : (List (List Int))) (i436 : Int) (i762 : Int) : Option (Int ⊕ (Unit ⊕ (Int ⊕ (Unit ⊕ Bool)))) :=
  idx a0_0 i436 (fun x847 =>
    if i762 < (x847.length : Int) then
      idx a0_0 i436 (fun x862 =>
        idx x862 i762 (fun x876 =>
          idx a0_0 x876 (fun x888 =>
            cal (F_spec_l1Has x888 i436) (fun x904 =>
              if ¬ (x904 = true) then
                some (.inr (.inr (.inr (.inr false))))
              else
                ck (i762 + 1) (fun _ =>
                  some (.inl (i762 + 1)))))))
    else
      some (.inr (.inl ())))
noncomputable def F_spec_GraphOk_k5 (i436 : Int)  : Option (Int ⊕ (Unit ⊕ Bool)) :=
  ck (i436 + 1) (fun _ =>
    some (.inl (i436 + 1)))
noncomputable def F_spec_GraphOk_l3 (a0_0 : (List (List Int))) (x9 : Int) (i436 : Int) : Option (Int ⊕ (Unit ⊕ Bool)) :=
  if i436 < x9 then
    bnd (lp (fun s => F_spec_GraphOk_l4 a0_0 i436 s) 0) (fun j => F_spec_GraphOk_k5 i436 )
  else
    some (.inr (.inl ()))
noncomputable def F_spec_GraphOk_k6   : Option Bool :=
  some true
noncomputable def F_spec_GraphOk_k2 (a0_0 : (List (List Int))) (x9 : Int)  : Option Bool :=
  bnd (lp (fun s => F_spec_GraphOk_l3 a0_0 x9 s) 0) (fun j => F_spec_GraphOk_k6 )
noncomputable def F_spec_GraphOk (a0_0 : (List (List Int))) : Option Bool :=
  cal (F_spec_l1Size a0_0) (fun x9 =>
    cal (F_spec_l1In x9 1 16) (fun x16 =>
      if ¬ (x16 = true) then
        some false
      else
        bnd (lp (fun s => F_spec_GraphOk_l1 a0_0 x9 s) 0) (fun j => F_spec_GraphOk_k2 a0_0 x9 )))
noncomputable def F_spec_l25Bits_l2 (a0_0 : (List (List Int))) (i284 : Int) (i625 : Int) (i627 : Int) : Option ((Int × Int) ⊕ (Int ⊕ (((List Int) × Int) ⊕ ((List Int) ⊕ (List Int))))) :=
  idx a0_0 i284 (fun x709 =>
    if i627 < (x709.length : Int) then
      idx a0_0 i284 (fun x724 =>
        idx x724 i627 (fun x738 =>
          grd ((0 : Int) ≤ x738) (
            ck (1 * 2 ^ (x738 : Int).toNat) (fun _ =>
              ck (i627 + 1) (fun _ =>
                some (.inl (i64or i625 (1 * 2 ^ (x738 : Int).toNat), i627 + 1)))))))
    else
      some (.inr (.inl i625)))
noncomputable def F_spec_l25Bits_k3 (l281 : (List Int)) (i284 : Int) (i696 : Int) : Option (((List Int) × Int) ⊕ ((List Int) ⊕ (List Int))) :=
  app l281 ([i696]) (fun _ =>
    ck (i284 + 1) (fun _ =>
      some (.inl ((l281 ++ ([i696])), i284 + 1))))
noncomputable def F_spec_l25Bits_l1 (a0_0 : (List (List Int))) (l281 : (List Int)) (i284 : Int) : Option (((List Int) × Int) ⊕ ((List Int) ⊕ (List Int))) :=
  if i284 < (a0_0.length : Int) then
    bnd (lp (fun s => F_spec_l25Bits_l2 a0_0 i284 s.1 s.2) (0, 0)) (fun j => F_spec_l25Bits_k3 l281 i284 j)
  else
    some (.inr (.inl l281))
noncomputable def F_spec_l25Bits_k4  (l539 : (List Int)) : Option (List Int) :=
  some l539
noncomputable def F_spec_l25Bits (a0_0 : (List (List Int))) : Option (List Int) :=
  bnd (lp (fun s => F_spec_l25Bits_l1 a0_0 s.1 s.2) (([] : (List Int)), 0)) (fun j => F_spec_l25Bits_k4 j)
noncomputable def F_spec_l1Flag (a0 : Bool) : Option Int :=
  if a0 = true then
    some 1
  else
    some 0
noncomputable def F_spec_l27Low_l1 (a0 : Int) (i11 : Int) : Option (Int ⊕ (Int ⊕ Int)) :=
  grd ((0 : Int) ≤ i11) (
    if (i64and (a0 / 2 ^ (i11 : Int).toNat) 1) = 0 then
      ck (i11 + 1) (fun _ =>
        some (.inl (i11 + 1)))
    else
      some (.inr (.inl i11)))
noncomputable def F_spec_l27Low_k2  (i22 : Int) : Option Int :=
  some i22
noncomputable def F_spec_l27Low (a0 : Int) : Option Int :=
  bnd (lp (fun s => F_spec_l27Low_l1 a0 s) 0) (fun j => F_spec_l27Low_k2 j)
noncomputable def F_spec_l28Table_l3 (i1428 : Int) (i3322 : Int) (l3989 : (List (List Int))) (l3995 : (List Int)) (i3998 : Int) : Option (((List (List Int)) × (List Int) × Int) ⊕ (((List (List Int)) × (List Int)) ⊕ (((List (List Int)) × (List Int) × Int) ⊕ (((List (List Int)) × (List Int)) ⊕ (((List (List Int)) × Int) ⊕ ((List (List Int)) ⊕ (List (List Int)))))))) :=
  if 0 < i3998 then
    idx l3995 i3322 (fun x4125 =>
      idx l3989 (i64andn i1428 (1 * 2 ^ (i3322 : Int).toNat)) (fun x4137 =>
        cal (F_spec_l27Low i3998) (fun x4155 =>
          idx x4137 x4155 (fun x4158 =>
            ck (x4125 + x4158) (fun _ =>
              idx l3995 i3322 (fun x4172 =>
                ck (i3998 - 1) (fun _ =>
                  some (.inl (l3989, (l3995.set ((i3322 : Int).toNat) (x4125 + x4158)), i64and i3998 (i3998 - 1))))))))))
  else
    some (.inr (.inl (l3989, l3995)))
noncomputable def F_spec_l28Table_k4 (i3322 : Int) (l4104 : (List (List Int))) (l4110 : (List Int)) : Option (((List (List Int)) × (List Int) × Int) ⊕ (((List (List Int)) × (List Int)) ⊕ (((List (List Int)) × Int) ⊕ ((List (List Int)) ⊕ (List (List Int)))))) :=
  ck (i3322 + 1) (fun _ =>
    some (.inl (l4104, l4110, i3322 + 1)))
noncomputable def F_spec_l28Table_l2 (a0 : (List Int)) (a1 : Bool) (i1428 : Int) (l3313 : (List (List Int))) (l3319 : (List Int)) (i3322 : Int) : Option (((List (List Int)) × (List Int) × Int) ⊕ (((List (List Int)) × (List Int)) ⊕ (((List (List Int)) × Int) ⊕ ((List (List Int)) ⊕ (List (List Int)))))) :=
  if i3322 < (a0.length : Int) then
    grd ((0 : Int) ≤ i3322) (
      if (i64and (i1428 / 2 ^ (i3322 : Int).toNat) 1) = 0 then
        ck (i3322 + 1) (fun _ =>
          some (.inl (l3313, l3319, i3322 + 1)))
      else
        grd ((0 : Int) ≤ i3322) (
          ck (1 * 2 ^ (i3322 : Int).toNat) (fun _ =>
            if (i64andn i1428 (1 * 2 ^ (i3322 : Int).toNat)) = 0 then
              if ¬ (a1 = true) then
                cal (F_spec_l1Flag true) (fun x3797 =>
                  idx l3319 i3322 (fun x3804 =>
                    ck (i3322 + 1) (fun _ =>
                      some (.inl (l3313, (l3319.set ((i3322 : Int).toNat) x3797), i3322 + 1)))))
              else
                idx a0 i3322 (fun x3824 =>
                  cal (F_spec_l1Flag (decide ((i64and x3824 1) = 1))) (fun x3836 =>
                    idx l3319 i3322 (fun x3843 =>
                      ck (i3322 + 1) (fun _ =>
                        some (.inl (l3313, (l3319.set ((i3322 : Int).toNat) x3836), i3322 + 1))))))
            else
              idx a0 i3322 (fun x3863 =>
                bnd (lp (fun s => F_spec_l28Table_l3 i1428 i3322 s.1 s.2.1 s.2.2) (l3313, l3319, i64and x3863 (i64andn i1428 (1 * 2 ^ (i3322 : Int).toNat)))) (fun j => F_spec_l28Table_k4 i3322 j.1 j.2)))))
  else
    some (.inr (.inl (l3313, l3319)))
noncomputable def F_spec_l28Table_k5 (i1428 : Int) (l3767 : (List (List Int))) (l3773 : (List Int)) : Option (((List (List Int)) × Int) ⊕ ((List (List Int)) ⊕ (List (List Int)))) :=
  idx l3767 i1428 (fun x4200 =>
    ck (i1428 + 1) (fun _ =>
      some (.inl ((l3767.set ((i1428 : Int).toNat) l3773), i1428 + 1))))
noncomputable def F_spec_l28Table_l1 (a0 : (List Int)) (a1 : Bool) (l1425 : (List (List Int))) (i1428 : Int) : Option (((List (List Int)) × Int) ⊕ ((List (List Int)) ⊕ (List (List Int)))) :=
  if i1428 < (l1425.length : Int) then
    mkS (a0.length : Int) (0 : Int) (fun _ =>
      bnd (lp (fun s => F_spec_l28Table_l2 a0 a1 i1428 s.1 s.2.1 s.2.2) (l1425, (List.replicate ((a0.length : Int) : Int).toNat (0 : Int)), 0)) (fun j => F_spec_l28Table_k5 i1428 j.1 j.2))
  else
    some (.inr (.inl l1425))
noncomputable def F_spec_l28Table_k6  (l2833 : (List (List Int))) : Option (List (List Int)) :=
  some l2833
noncomputable def F_spec_l28Table (a0 : (List Int)) (a1 : Bool) : Option (List (List Int)) :=
  grd ((0 : Int) ≤ (a0.length : Int)) (
    ck (1 * 2 ^ ((a0.length : Int) : Int).toNat) (fun _ =>
      mkS (1 * 2 ^ ((a0.length : Int) : Int).toNat) ([] : (List Int)) (fun _ =>
        bnd (lp (fun s => F_spec_l28Table_l1 a0 a1 s.1 s.2) ((List.replicate (1 * 2 ^ ((a0.length : Int) : Int).toNat : Int).toNat ([] : (List Int))), 1)) (fun j => F_spec_l28Table_k6 j))))
noncomputable def F_spec_l25All (a0_0 : (List (List Int))) : Option Int :=
  grd ((0 : Int) ≤ (a0_0.length : Int)) (
    ck (1 * 2 ^ ((a0_0.length : Int) : Int).toNat) (fun _ =>
      ck ((1 * 2 ^ ((a0_0.length : Int) : Int).toNat) - 1) (fun _ =>
        some ((1 * 2 ^ ((a0_0.length : Int) : Int).toNat) - 1))))
noncomputable def F_spec_l28Least_l2 (a1 : (List (List Int))) (i240 : Int) (i242 : Int) (i551 : Int) : Option (Int ⊕ (Int ⊕ ((Int × Int × (List Int)) ⊕ (Unit ⊕ (List Int))))) :=
  if 0 < i551 then
    idx a1 (i64andn i242 (1 * 2 ^ (i240 : Int).toNat)) (fun x617 =>
      cal (F_spec_l27Low i551) (fun x633 =>
        idx x617 x633 (fun x636 =>
          if x636 = 0 then
            ck (i551 - 1) (fun _ =>
              some (.inl (i64and i551 (i551 - 1))))
          else
            some (.inr (.inl i551)))))
  else
    some (.inr (.inl i551))
noncomputable def F_spec_l28Least_k3 (i240 : Int) (i242 : Int) (l247 : (List Int)) (i605 : Int) : Option ((Int × Int × (List Int)) ⊕ (Unit ⊕ (List Int))) :=
  if i605 = 0 then
    some (.inr (.inr l247))
  else
    cal (F_spec_l27Low i605) (fun x660 =>
      app l247 ([x660]) (fun _ =>
        some (.inl (x660, i64andn i242 (1 * 2 ^ (i240 : Int).toNat), (l247 ++ ([x660]))))))
noncomputable def F_spec_l28Least_l1 (a0 : (List Int)) (a1 : (List (List Int))) (i240 : Int) (i242 : Int) (l247 : (List Int)) : Option ((Int × Int × (List Int)) ⊕ (Unit ⊕ (List Int))) :=
  grd ((0 : Int) ≤ i240) (
    ck (1 * 2 ^ (i240 : Int).toNat) (fun _ =>
      idx a0 i240 (fun x483 =>
        bnd (lp (fun s => F_spec_l28Least_l2 a1 i240 i242 s) (i64and x483 (i64andn i242 (1 * 2 ^ (i240 : Int).toNat)))) (fun j => F_spec_l28Least_k3 i240 i242 l247 j))))
noncomputable def F_spec_l28Least (a0 : (List Int)) (a1 : (List (List Int))) (a2 : Int) : Option (List Int) :=
  grd ((0 : Int) ≤ (a0.length : Int)) (
    ck (1 * 2 ^ ((a0.length : Int) : Int).toNat) (fun _ =>
      ck ((1 * 2 ^ ((a0.length : Int) : Int).toNat) - 1) (fun _ =>
        bnd (lp (fun s => F_spec_l28Least_l1 a0 a1 s.1 s.2.1 s.2.2) (a2, (1 * 2 ^ ((a0.length : Int) : Int).toNat) - 1, [a2])) (fun _ => none))))
noncomputable def F_spec_RoundTrip (a0_0 : (List (List Int))) : Option ((List Int) × Bool) :=
  cal (F_spec_GraphOk a0_0) (fun x46 =>
    if ¬ (x46 = true) then
      some (([] : (List Int)), false)
    else
      cal (F_spec_l1Size a0_0) (fun x64 =>
        if x64 < 3 then
          some (([] : (List Int)), false)
        else
          cal (F_spec_l25Bits a0_0) (fun x83 =>
            cal (F_spec_l28Table x83 true) (fun x99 =>
              cal (F_spec_l25All a0_0) (fun x120 =>
                idx x99 x120 (fun x127 =>
                  idx x127 0 (fun x144 =>
                    if x144 = 0 then
                      some (([] : (List Int)), false)
                    else
                      cal (F_spec_l28Least x83 x99 0) (fun x177 =>
                        some (x177, true)))))))))
noncomputable def F_impl_inRange (a0 : Int) (a1 : Int) (a2 : Int) : Option Bool :=
  if a1 ≤ a0 then
    some (decide (a0 ≤ a2))
  else
    some false
noncomputable def F_impl_increasing_l1 (a0 : (List Int)) (a1 : Int) (i49 : Int) : Option (Int ⊕ (Unit ⊕ Bool)) :=
  if i49 < (a0.length : Int) then
    idx a0 i49 (fun x108 =>
      ck (a1 - 1) (fun _ =>
        cal (F_impl_inRange x108 0 (a1 - 1)) (fun x122 =>
          if ¬ (x122 = true) then
            some (.inr (.inr false))
          else
            if 0 < i49 then
              ck (i49 - 1) (fun _ =>
                idx a0 (i49 - 1) (fun x134 =>
                  if x108 ≤ x134 then
                    some (.inr (.inr false))
                  else
                    ck (i49 + 1) (fun _ =>
                      some (.inl (i49 + 1)))))
            else
              ck (i49 + 1) (fun _ =>
                some (.inl (i49 + 1))))))
  else
    some (.inr (.inl ()))
noncomputable def F_impl_increasing_k2   : Option Bool :=
  some true
noncomputable def F_impl_increasing (a0 : (List Int)) (a1 : Int) : Option Bool :=
  bnd (lp (fun s => F_impl_increasing_l1 a0 a1 s) 0) (fun j => F_impl_increasing_k2 )
noncomputable def F_slices_Index_int64_l1 (a0 : (List Int)) (a1 : Int) (i23 : Int) : Option (Int ⊕ (Unit ⊕ Int)) :=
  if i23 < (a0.length : Int) then
    idx a0 i23 (fun x56 =>
      if a1 = x56 then
        some (.inr (.inr i23))
      else
        ck (i23 + 1) (fun _ =>
          some (.inl (i23 + 1))))
  else
    some (.inr (.inl ()))
noncomputable def F_slices_Index_int64_k2   : Option Int :=
  some (-1)
noncomputable def F_slices_Index_int64 (a0 : (List Int)) (a1 : Int) : Option Int :=
  bnd (lp (fun s => F_slices_Index_int64_l1 a0 a1 s) 0) (fun j => F_slices_Index_int64_k2 )
noncomputable def F_slices_Contains_int64 (a0 : (List Int)) (a1 : Int) : Option Bool :=
  cal (F_slices_Index_int64 a0 a1) (fun x1 =>
    some (decide (0 ≤ x1)))
noncomputable def F_impl_GraphOk_l1 (a0_0 : (List (List Int))) (i56 : Int) : Option (Int ⊕ (Unit ⊕ Bool)) :=
  if i56 < (a0_0.length : Int) then
    idx a0_0 i56 (fun x108 =>
      cal (F_impl_increasing x108 (a0_0.length : Int)) (fun x122 =>
        if ¬ (x122 = true) then
          some (.inr (.inr false))
        else
          cal (F_slices_Contains_int64 x108 i56) (fun x131 =>
            if x131 = true then
              some (.inr (.inr false))
            else
              ck (i56 + 1) (fun _ =>
                some (.inl (i56 + 1))))))
  else
    some (.inr (.inl ()))
noncomputable def F_impl_GraphOk_l4 (a0_0 : (List (List Int))) (i311 : Int) (x487 : (List Int)) (i549 : Int) : Option (Int ⊕ (Unit ⊕ (Int ⊕ (Unit ⊕ Bool)))) :=
  if i549 < (x487.length : Int) then
    idx x487 i549 (fun x606 =>
      idx a0_0 x606 (fun x618 =>
        cal (F_slices_Contains_int64 x618 i311) (fun x632 =>
          if ¬ (x632 = true) then
            some (.inr (.inr (.inr (.inr false))))
          else
            ck (i549 + 1) (fun _ =>
              some (.inl (i549 + 1))))))
  else
    some (.inr (.inl ()))
noncomputable def F_impl_GraphOk_k5 (i311 : Int)  : Option (Int ⊕ (Unit ⊕ Bool)) :=
  ck (i311 + 1) (fun _ =>
    some (.inl (i311 + 1)))
noncomputable def F_impl_GraphOk_l3 (a0_0 : (List (List Int))) (i311 : Int) : Option (Int ⊕ (Unit ⊕ Bool)) :=
  if i311 < (a0_0.length : Int) then
    idx a0_0 i311 (fun x487 =>
      bnd (lp (fun s => F_impl_GraphOk_l4 a0_0 i311 x487 s) 0) (fun j => F_impl_GraphOk_k5 i311 ))
  else
    some (.inr (.inl ()))
noncomputable def F_impl_GraphOk_k6   : Option Bool :=
  some true
noncomputable def F_impl_GraphOk_k2 (a0_0 : (List (List Int)))  : Option Bool :=
  bnd (lp (fun s => F_impl_GraphOk_l3 a0_0 s) 0) (fun j => F_impl_GraphOk_k6 )
noncomputable def F_impl_GraphOk (a0_0 : (List (List Int))) : Option Bool :=
  if (a0_0.length : Int) < 1 then
    some false
  else
    if 16 < (a0_0.length : Int) then
      some false
    else
      bnd (lp (fun s => F_impl_GraphOk_l1 a0_0 s) 0) (fun j => F_impl_GraphOk_k2 a0_0 )
noncomputable def F_impl_one (a0 : Int) : Option (BitVec 32) :=
  grd ((0 : Int) ≤ a0) (
    some ((1#32) <<< (a0 : Int).toNat))
noncomputable def F_impl_maskOf_l1 (a0 : (List Int)) (u29 : BitVec 32) (i30 : Int) : Option (((BitVec 32) × Int) ⊕ ((BitVec 32) ⊕ (BitVec 32))) :=
  if i30 < (a0.length : Int) then
    idx a0 i30 (fun x70 =>
      cal (F_impl_one x70) (fun x82 =>
        ck (i30 + 1) (fun _ =>
          some (.inl (u29 ||| x82, i30 + 1)))))
  else
    some (.inr (.inl u29))
noncomputable def F_impl_maskOf_k2  (u59 : BitVec 32) : Option (BitVec 32) :=
  some u59
noncomputable def F_impl_maskOf (a0 : (List Int)) : Option (BitVec 32) :=
  bnd (lp (fun s => F_impl_maskOf_l1 a0 s.1 s.2) (0#32, 0)) (fun j => F_impl_maskOf_k2 j)
noncomputable def F_impl_netsOf_l1 (a0_0 : (List (List Int))) (l84 : (List (BitVec 32))) (i87 : Int) : Option (((List (BitVec 32)) × Int) ⊕ ((List (BitVec 32)) ⊕ (List (BitVec 32)))) :=
  if i87 < (a0_0.length : Int) then
    idx a0_0 i87 (fun x162 =>
      cal (F_impl_maskOf x162) (fun x176 =>
        app l84 ([x176]) (fun _ =>
          ck (i87 + 1) (fun _ =>
            some (.inl ((l84 ++ ([x176])), i87 + 1))))))
  else
    some (.inr (.inl l84))
noncomputable def F_impl_netsOf_k2  (l149 : (List (BitVec 32))) : Option (List (BitVec 32)) :=
  some l149
noncomputable def F_impl_netsOf (a0_0 : (List (List Int))) : Option (List (BitVec 32)) :=
  bnd (lp (fun s => F_impl_netsOf_l1 a0_0 s.1 s.2) (([] : (List (BitVec 32))), 0)) (fun j => F_impl_netsOf_k2 j)
noncomputable def F_impl_firstOf (a0 : Int) : Option (BitVec 32) :=
  grd ((0 : Int) ≤ a0) (
    some (((1#32) <<< (a0 : Int).toNat) - (1#32)))
noncomputable def F_impl_nets_all (a0 : (List (BitVec 32))) : Option (BitVec 32) :=
  cal (F_impl_firstOf (a0.length : Int)) (fun x1 =>
    some x1)
noncomputable def F_math_bits_TrailingZeros32 (a0 : BitVec 32) : Option Int :=
  if a0 = (0#32) then
    some 32
  else
    idx deBruijn32 (BitVec.toNat (((a0 &&& (-a0)) * (125613361#32)) >>> (27 : Int).toNat) : Int) (fun x2 =>
      some (BitVec.toNat x2 : Int))
noncomputable def F_impl_vset_least (a0 : BitVec 32) : Option Int :=
  cal (F_math_bits_TrailingZeros32 a0) (fun x1 =>
    some x1)
noncomputable def F_impl_vset_list_l1  (u55 : BitVec 32) (l59 : (List Int)) : Option (((BitVec 32) × (List Int)) ⊕ ((List Int) ⊕ (List Int))) :=
  if u55 ≠ (0#32) then
    cal (F_impl_vset_least u55) (fun x119 =>
      app l59 ([x119]) (fun _ =>
        some (.inl (u55 &&& (u55 - (1#32)), (l59 ++ ([x119]))))))
  else
    some (.inr (.inl l59))
noncomputable def F_impl_vset_list_k2  (l106 : (List Int)) : Option (List Int) :=
  some l106
noncomputable def F_impl_vset_list (a0 : BitVec 32) : Option (List Int) :=
  bnd (lp (fun s => F_impl_vset_list_l1 s.1 s.2) (a0, ([] : (List Int)))) (fun j => F_impl_vset_list_k2 j)
noncomputable def F_impl_vset_has (a0 : BitVec 32) (a1 : Int) : Option Bool :=
  grd ((0 : Int) ≤ a1) (
    some (decide (((a0 >>> (a1 : Int).toNat) &&& (1#32)) = (1#32))))
noncomputable def F_impl_endings_l3 (i1238 : Int) (l2853 : (List (BitVec 32))) (x3260 : Int) (x3283 : (List Int)) (i3420 : Int) : Option (Int ⊕ ((List (BitVec 32)) ⊕ (((List (BitVec 32)) × Int) ⊕ ((List (BitVec 32)) ⊕ (((List (BitVec 32)) × Int) ⊕ ((List (BitVec 32)) ⊕ (List (BitVec 32)))))))) :=
  if i3420 < (x3283.length : Int) then
    idx x3283 i3420 (fun x3546 =>
      cal (F_impl_one x3546) (fun x3558 =>
        idx l2853 (BitVec.toNat ((BitVec.ofInt 32 i1238) ||| x3558) : Int) (fun x3564 =>
          cal (F_impl_vset_has x3564 x3546) (fun x3575 =>
            if x3575 = true then
              idx l2853 i1238 (fun x3582 =>
                cal (F_impl_one x3260) (fun x3595 =>
                  idx l2853 i1238 (fun x3597 =>
                    some (.inr (.inl (l2853.set ((i1238 : Int).toNat) (x3582 ||| x3595)))))))
            else
              ck (i3420 + 1) (fun _ =>
                some (.inl (i3420 + 1)))))))
  else
    some (.inr (.inl l2853))
noncomputable def F_impl_endings_k4 (i2859 : Int) (l3528 : (List (BitVec 32))) : Option (((List (BitVec 32)) × Int) ⊕ ((List (BitVec 32)) ⊕ (((List (BitVec 32)) × Int) ⊕ ((List (BitVec 32)) ⊕ (List (BitVec 32)))))) :=
  ck (i2859 + 1) (fun _ =>
    some (.inl (l3528, i2859 + 1)))
noncomputable def F_impl_endings_l2 (a0 : (List (BitVec 32))) (i1238 : Int) (x2447 : (List Int)) (l2853 : (List (BitVec 32))) (i2859 : Int) : Option (((List (BitVec 32)) × Int) ⊕ ((List (BitVec 32)) ⊕ (((List (BitVec 32)) × Int) ⊕ ((List (BitVec 32)) ⊕ (List (BitVec 32)))))) :=
  if i2859 < (x2447.length : Int) then
    idx x2447 i2859 (fun x3260 =>
      idx a0 x3260 (fun x3272 =>
        cal (F_impl_vset_list (x3272 &&& ~~~(BitVec.ofInt 32 i1238))) (fun x3283 =>
          bnd (lp (fun s => F_impl_endings_l3 i1238 l2853 x3260 x3283 s) 0) (fun j => F_impl_endings_k4 i2859 j))))
  else
    some (.inr (.inl l2853))
noncomputable def F_impl_endings_k5 (i1238 : Int) (l3247 : (List (BitVec 32))) : Option (((List (BitVec 32)) × Int) ⊕ ((List (BitVec 32)) ⊕ (List (BitVec 32)))) :=
  ck (i1238 - 1) (fun _ =>
    some (.inl (l3247, i1238 - 1)))
noncomputable def F_impl_endings_l1 (a0 : (List (BitVec 32))) (l1235 : (List (BitVec 32))) (i1238 : Int) : Option (((List (BitVec 32)) × Int) ⊕ ((List (BitVec 32)) ⊕ (List (BitVec 32)))) :=
  if 0 < i1238 then
    cal (F_impl_vset_list (BitVec.ofInt 32 i1238)) (fun x2447 =>
      bnd (lp (fun s => F_impl_endings_l2 a0 i1238 x2447 s.1 s.2) (l1235, 0)) (fun j => F_impl_endings_k5 i1238 j))
  else
    some (.inr (.inl l1235))
noncomputable def F_impl_endings_k6  (l2434 : (List (BitVec 32))) : Option (List (BitVec 32)) :=
  some l2434
noncomputable def F_impl_endings (a0 : (List (BitVec 32))) (a1 : BitVec 32) : Option (List (BitVec 32)) :=
  cal (F_impl_nets_all a0) (fun x1 =>
    mkS (BitVec.toNat (x1 + (1#32)) : Int) (0 : BitVec 32) (fun _ =>
      idx (List.replicate ((BitVec.toNat (x1 + (1#32)) : Int) : Int).toNat (0 : BitVec 32)) (BitVec.toNat x1 : Int) (fun x18 =>
        ck ((BitVec.toNat x1 : Int) - 1) (fun _ =>
          bnd (lp (fun s => F_impl_endings_l1 a0 s.1 s.2) (((List.replicate ((BitVec.toNat (x1 + (1#32)) : Int) : Int).toNat (0 : BitVec 32)).set (((BitVec.toNat x1 : Int) : Int).toNat) a1), (BitVec.toNat x1 : Int) - 1)) (fun j => F_impl_endings_k6 j)))))
noncomputable def F_impl_tripFrom_l2 (a2 : (List (BitVec 32))) (i286 : Int) (u288 : BitVec 32) (x576 : (List Int)) (i656 : Int) : Option (Int ⊕ (Int ⊕ ((Int × (BitVec 32) × (List Int)) ⊕ ((List Int) ⊕ (List Int))))) :=
  if i656 < (x576.length : Int) then
    idx x576 i656 (fun x727 =>
      cal (F_impl_one x727) (fun x739 =>
        idx a2 (BitVec.toNat (u288 ||| x739) : Int) (fun x745 =>
          cal (F_impl_vset_has x745 x727) (fun x756 =>
            if x756 = true then
              some (.inr (.inl x727))
            else
              ck (i656 + 1) (fun _ =>
                some (.inl (i656 + 1)))))))
  else
    some (.inr (.inl i286))
noncomputable def F_impl_tripFrom_k3 (u288 : BitVec 32) (l292 : (List Int)) (i712 : Int) : Option ((Int × (BitVec 32) × (List Int)) ⊕ ((List Int) ⊕ (List Int))) :=
  cal (F_impl_one i712) (fun x765 =>
    app l292 ([i712]) (fun _ =>
      some (.inl (i712, u288 ||| x765, (l292 ++ ([i712]))))))
noncomputable def F_impl_tripFrom_l1 (a0 : (List (BitVec 32))) (a2 : (List (BitVec 32))) (i286 : Int) (u288 : BitVec 32) (l292 : (List Int)) : Option ((Int × (BitVec 32) × (List Int)) ⊕ ((List Int) ⊕ (List Int))) :=
  cal (F_impl_nets_all a0) (fun x558 =>
    if u288 ≠ x558 then
      idx a0 i286 (fun x565 =>
        cal (F_impl_vset_list (x565 &&& ~~~u288)) (fun x576 =>
          bnd (lp (fun s => F_impl_tripFrom_l2 a2 i286 u288 x576 s) 0) (fun j => F_impl_tripFrom_k3 u288 l292 j)))
    else
      some (.inr (.inl l292)))
noncomputable def F_impl_tripFrom_k4  (l546 : (List Int)) : Option (List Int) :=
  grd (l546 ≠ []) (some l546)
noncomputable def F_impl_tripFrom (a0 : (List (BitVec 32))) (a1 : Int) (a2 : (List (BitVec 32))) : Option (List Int) :=
  cal (F_impl_one a1) (fun x1 =>
    idx a2 (BitVec.toNat x1 : Int) (fun x16 =>
      cal (F_impl_vset_has x16 a1) (fun x27 =>
        if ¬ (x27 = true) then
          some ([] : (List Int))
        else
          bnd (lp (fun s => F_impl_tripFrom_l1 a0 a2 s.1 s.2.1 s.2.2) (a1, x1, [a1])) (fun j => F_impl_tripFrom_k4 j))))
noncomputable def F_impl_wide_l1 (a0 : (List Int)) (l67 : (List Int)) (i70 : Int) : Option (((List Int) × Int) ⊕ ((List Int) ⊕ (List Int))) :=
  if i70 < (a0.length : Int) then
    idx a0 i70 (fun x137 =>
      app l67 ([x137]) (fun _ =>
        ck (i70 + 1) (fun _ =>
          some (.inl ((l67 ++ ([x137])), i70 + 1)))))
  else
    some (.inr (.inl l67))
noncomputable def F_impl_wide_k2  (l124 : (List Int)) : Option (List Int) :=
  some l124
noncomputable def F_impl_wide (a0 : (List Int)) : Option (List Int) :=
  grd ((0 : Int) ≤ (a0.length : Int) ∧ (a0.length : Int) ≤ lim) (
    bnd (lp (fun s => F_impl_wide_l1 a0 s.1 s.2) (([] : (List Int)), 0)) (fun j => F_impl_wide_k2 j))
noncomputable def F_impl_RoundTrip (a0_0 : (List (List Int))) : Option ((List Int) × Bool) :=
  cal (F_impl_GraphOk a0_0) (fun x17 =>
    if ¬ (x17 = true) then
      some (([] : (List Int)), false)
    else
      if (a0_0.length : Int) < 3 then
        some (([] : (List Int)), false)
      else
        cal (F_impl_netsOf a0_0) (fun x25 =>
          idx x25 0 (fun x38 =>
            cal (F_impl_endings x25 x38) (fun x52 =>
              cal (F_impl_tripFrom x25 0 x52) (fun x71 =>
                if x71 = [] then
                  some (([] : (List Int)), false)
                else
                  cal (F_impl_wide x71) (fun x91 =>
                    some (x91, true)))))))
noncomputable def F_laws_eqInt64S_l1 (a0 : (List Int)) (a1 : (List Int)) (i39 : Int) : Option (Int ⊕ (Unit ⊕ Bool)) :=
  if i39 < (a0.length : Int) then
    idx a0 i39 (fun x87 =>
      idx a1 i39 (fun x99 =>
        if x87 ≠ x99 then
          some (.inr (.inr false))
        else
          ck (i39 + 1) (fun _ =>
            some (.inl (i39 + 1)))))
  else
    some (.inr (.inl ()))
noncomputable def F_laws_eqInt64S_k2   : Option Bool :=
  some true
noncomputable def F_laws_eqInt64S (a0 : (List Int)) (a1 : (List Int)) : Option Bool :=
  if (a0.length : Int) ≠ (a1.length : Int) then
    some false
  else
    bnd (lp (fun s => F_laws_eqInt64S_l1 a0 a1 s) 0) (fun j => F_laws_eqInt64S_k2 )
noncomputable def F_laws_eqInt64SS_l1 (a0 : (List (List Int))) (a1 : (List (List Int))) (i47 : Int) : Option (Int ⊕ (Unit ⊕ Bool)) :=
  if i47 < (a0.length : Int) then
    idx a0 i47 (fun x103 =>
      idx a1 i47 (fun x117 =>
        cal (F_laws_eqInt64S x103 x117) (fun x133 =>
          if ¬ (x133 = true) then
            some (.inr (.inr false))
          else
            ck (i47 + 1) (fun _ =>
              some (.inl (i47 + 1))))))
  else
    some (.inr (.inl ()))
noncomputable def F_laws_eqInt64SS_k2   : Option Bool :=
  some true
noncomputable def F_laws_eqInt64SS (a0 : (List (List Int))) (a1 : (List (List Int))) : Option Bool :=
  if (a0.length : Int) ≠ (a1.length : Int) then
    some false
  else
    bnd (lp (fun s => F_laws_eqInt64SS_l1 a0 a1 s) 0) (fun j => F_laws_eqInt64SS_k2 )
noncomputable def F_laws_eqGraph (a0_0 : (List (List Int))) (a1_0 : (List (List Int))) : Option Bool :=
  cal (F_laws_eqInt64SS a0_0 a1_0) (fun x19 =>
    if ¬ (x19 = true) then
      some false
    else
      some true)
noncomputable def F_laws_markInt64S_l1  (l38 : (List Int)) (i41 : Int) (i43 : Int) : Option (((List Int) × Int × Int) ⊕ ((Int × (List Int)) ⊕ (Int × (List Int)))) :=
  if i43 < (l38.length : Int) then
    idx l38 i43 (fun x95 =>
      ck (i41 + 1) (fun _ =>
        ck (i43 + 1) (fun _ =>
          some (.inl ((l38.set ((i43 : Int).toNat) i41), i41 + 1, i43 + 1)))))
  else
    some (.inr (.inl (i41, l38)))
noncomputable def F_laws_markInt64S_k2  (i79 : Int) (l82 : (List Int)) : Option (Int × (List Int)) :=
  some (i79, l82)
noncomputable def F_laws_markInt64S (a0 : (List Int)) (a1 : Int) : Option (Int × (List Int)) :=
  bnd (lp (fun s => F_laws_markInt64S_l1 s.1 s.2.1 s.2.2) (a0, a1, 0)) (fun j => F_laws_markInt64S_k2 j.1 j.2)
noncomputable def F_laws_markInt64SS_l1  (l46 : (List (List Int))) (i49 : Int) (i51 : Int) : Option (((List (List Int)) × Int × Int) ⊕ ((Int × (List (List Int))) ⊕ (Int × (List (List Int))))) :=
  if i51 < (l46.length : Int) then
    idx l46 i51 (fun x111 =>
      cal (F_laws_markInt64S x111 i49) (fun x130 =>
        ck (i51 + 1) (fun _ =>
          some (.inl ((l46.set ((i51 : Int).toNat) x130.2), x130.1, i51 + 1)))))
  else
    some (.inr (.inl (i49, l46)))
noncomputable def F_laws_markInt64SS_k2  (i95 : Int) (l98 : (List (List Int))) : Option (Int × (List (List Int))) :=
  some (i95, l98)
noncomputable def F_laws_markInt64SS (a0 : (List (List Int))) (a1 : Int) : Option (Int × (List (List Int))) :=
  bnd (lp (fun s => F_laws_markInt64SS_l1 s.1 s.2.1 s.2.2) (a0, a1, 0)) (fun j => F_laws_markInt64SS_k2 j.1 j.2)
noncomputable def F_laws_markGraph (a0_0 : (List (List Int))) (a1 : Int) : Option (Int × (List (List Int))) :=
  cal (F_laws_markInt64SS a0_0 a1) (fun x11 =>
    some (x11.1, x11.2))
noncomputable def F_laws_heldInt64S_l1 (a0 : (List Int)) (i27 : Int) (i29 : Int) : Option ((Int × Int) ⊕ (Int ⊕ Int)) :=
  if i29 < (a0.length : Int) then
    idx a0 i29 (fun x68 =>
      if x68 ≠ i27 then
        some (.inr (.inr (-1)))
      else
        ck (i27 + 1) (fun _ =>
          ck (i29 + 1) (fun _ =>
            some (.inl (i27 + 1, i29 + 1)))))
  else
    some (.inr (.inl i27))
noncomputable def F_laws_heldInt64S_k2  (i56 : Int) : Option Int :=
  some i56
noncomputable def F_laws_heldInt64S (a0 : (List Int)) (a1 : Int) : Option Int :=
  bnd (lp (fun s => F_laws_heldInt64S_l1 a0 s.1 s.2) (a1, 0)) (fun j => F_laws_heldInt64S_k2 j)
noncomputable def F_laws_FnExactRoundTrip (a0_0 : (List (List Int))) : Option Bool :=
  cal (F_laws_szGraph a0_0 1048576) (fun x9 =>
    if x9 < 0 then
      some true
    else
      cal (F_laws_toGraph a0_0) (fun x17 =>
        cal (F_spec_RoundTrip x17) (fun x39 =>
          cal (F_laws_toGraph a0_0) (fun x57 =>
            cal (F_impl_RoundTrip x57) (fun x100 =>
              cal (F_laws_eqInt64S x100.1 x39.1) (fun x142 =>
                if ¬ (x142 = true) then
                  some false
                else
                  if (x100.2 != x39.2) = true then
                    some false
                  else
                    cal (F_laws_toGraph a0_0) (fun x153 =>
                      cal (F_laws_eqGraph x57 x153) (fun x193 =>
                        if ¬ (x193 = true) then
                          some false
                        else
                          cal (F_laws_markGraph x57 1) (fun x199 =>
                            if x199.1 < 0 then
                              some false
                            else
                              cal (F_laws_eqInt64S x100.1 x39.1) (fun x229 =>
                                if ¬ (x229 = true) then
                                  some false
                                else
                                  if (x100.2 != x39.2) = true then
                                    some false
                                  else
                                    cal (F_laws_markInt64S x100.1 1) (fun x237 =>
                                      cal (F_laws_heldInt64S x237.2 1) (fun x248 =>
                                        if x248 < 0 then
                                          some false
                                        else
                                          if x248 ≠ x237.1 then
                                            some false
                                          else
                                            cal (F_laws_toGraph a0_0) (fun x257 =>
                                              cal (F_impl_RoundTrip x257) (fun x285 =>
                                                cal (F_laws_eqInt64S x285.1 x39.1) (fun x327 =>
                                                  if ¬ (x327 = true) then
                                                    some false
                                                  else
                                                    if (x285.2 != x39.2) = true then
                                                      some false
                                                    else
                                                      cal (F_laws_heldInt64S x237.2 1) (fun x338 =>
                                                        if x338 < 0 then
                                                          some false
                                                        else
                                                          if x338 ≠ x237.1 then
                                                            some false
                                                          else
                                                            some true))))))))))))))))
end Go.Proofs.YthbmcbflnibpbaaDoor
