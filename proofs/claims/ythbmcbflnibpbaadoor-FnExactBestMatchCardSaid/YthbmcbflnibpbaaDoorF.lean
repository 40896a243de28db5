/- Functional forms, printed by gen.py. -/
import Derived.Test.YthbmcbflnibpbaaDoorPure
namespace Go.Proofs.YthbmcbflnibpbaaDoor

noncomputable def F_laws_szInt64S (a0 : (List Int)) (a1 : Int) : Option Int :=
  ck (a1 - (a0.length : Int)) (fun _ =>
    if (a1 - (a0.length : Int)) < 0 then
      some (-1)
    else
      some (a1 - (a0.length : Int)))
noncomputable def F_laws_szInt64SS_l1 (a0 : (List (List Int))) (i37 : Int) (i39 : Int) : Option ((Int × Int) ⊕ (Int ⊕ Int)) :=
  if i39 < (a0.length : Int) then
    idx a0 i39 (fun x85 =>
      cal (F_laws_szInt64S x85 i37) (fun x99 =>
        if x99 < 0 then
          some (.inr (.inr (-1)))
        else
          ck (i39 + 1) (fun _ =>
            some (.inl (x99, i39 + 1)))))
  else
    some (.inr (.inl i37))
noncomputable def F_laws_szInt64SS_k2  (i73 : Int) : Option Int :=
  some i73
noncomputable def F_laws_szInt64SS (a0 : (List (List Int))) (a1 : Int) : Option Int :=
  ck (a1 - (a0.length : Int)) (fun _ =>
    if (a1 - (a0.length : Int)) < 0 then
      some (-1)
    else
      bnd (lp (fun s => F_laws_szInt64SS_l1 a0 s.1 s.2) (a1 - (a0.length : Int), 0)) (fun j => F_laws_szInt64SS_k2 j))
noncomputable def F_laws_szGraph (a0_0 : (List (List Int))) (a1 : Int) : Option Int :=
  cal (F_laws_szInt64SS a0_0 a1) (fun x9 =>
    if x9 < 0 then
      some (-1)
    else
      some x9)
noncomputable def F_laws_toInt64S_l1 (a0 : (List Int)) (l63 : (List Int)) (i66 : Int) : Option (((List Int) × Int) ⊕ ((List Int) ⊕ (List Int))) :=
  if i66 < (a0.length : Int) then
    idx a0 i66 (fun x128 =>
      idx l63 i66 (fun x140 =>
        ck (i66 + 1) (fun _ =>
          some (.inl ((l63.set ((i66 : Int).toNat) x128), i66 + 1)))))
  else
    some (.inr (.inl l63))
noncomputable def F_laws_toInt64S_k2  (l115 : (List Int)) : Option (List Int) :=
  some l115
noncomputable def F_laws_toInt64S (a0 : (List Int)) : Option (List Int) :=
  mkS (a0.length : Int) (0 : Int) (fun _ =>
    bnd (lp (fun s => F_laws_toInt64S_l1 a0 s.1 s.2) ((List.replicate ((a0.length : Int) : Int).toNat (0 : Int)), 0)) (fun j => F_laws_toInt64S_k2 j))
noncomputable def F_laws_toInt64SS_l1 (a0 : (List (List Int))) (l96 : (List (List Int))) (i99 : Int) : Option (((List (List Int)) × Int) ⊕ ((List (List Int)) ⊕ (List (List Int)))) :=
  if i99 < (a0.length : Int) then
    idx a0 i99 (fun x191 =>
      cal (F_laws_toInt64S x191) (fun x205 =>
        idx l96 i99 (fun x219 =>
          ck (i99 + 1) (fun _ =>
            some (.inl ((l96.set ((i99 : Int).toNat) x205), i99 + 1))))))
  else
    some (.inr (.inl l96))
noncomputable def F_laws_toInt64SS_k2  (l178 : (List (List Int))) : Option (List (List Int)) :=
  some l178
noncomputable def F_laws_toInt64SS (a0 : (List (List Int))) : Option (List (List Int)) :=
  mkS (a0.length : Int) ([] : (List Int)) (fun _ =>
    bnd (lp (fun s => F_laws_toInt64SS_l1 a0 s.1 s.2) ((List.replicate ((a0.length : Int) : Int).toNat ([] : (List Int))), 0)) (fun j => F_laws_toInt64SS_k2 j))
noncomputable def F_laws_toGraph (a0_0 : (List (List Int))) : Option (List (List Int)) :=
  cal (F_laws_toInt64SS a0_0) (fun x31 =>
    some x31)
noncomputable def F_spec_l1Size (a0_0 : (List (List Int))) : Option Int :=
  some (a0_0.length : Int)
noncomputable def F_spec_l1In (a0 : Int) (a1 : Int) (a2 : Int) : Option Bool :=
  if a1 ≤ a0 then
    some (decide (a0 ≤ a2))
  else
    some false
noncomputable def F_spec_l1Set_l1 (a0 : (List Int)) (a1 : Int) (i69 : Int) : Option (Int ⊕ (Unit ⊕ Bool)) :=
  if i69 < (a0.length : Int) then
    idx a0 i69 (fun x147 =>
      ck (a1 - 1) (fun _ =>
        cal (F_spec_l1In x147 0 (a1 - 1)) (fun x163 =>
          if ¬ (x163 = true) then
            some (.inr (.inr false))
          else
            if 0 < i69 then
              idx a0 i69 (fun x172 =>
                ck (i69 - 1) (fun _ =>
                  idx a0 (i69 - 1) (fun x186 =>
                    if x172 ≤ x186 then
                      some (.inr (.inr false))
                    else
                      ck (i69 + 1) (fun _ =>
                        some (.inl (i69 + 1))))))
            else
              ck (i69 + 1) (fun _ =>
                some (.inl (i69 + 1))))))
  else
    some (.inr (.inl ()))
noncomputable def F_spec_l1Set_k2   : Option Bool :=
  some true
noncomputable def F_spec_l1Set (a0 : (List Int)) (a1 : Int) : Option Bool :=
  if a1 < (a0.length : Int) then
    some false
  else
    bnd (lp (fun s => F_spec_l1Set_l1 a0 a1 s) 0) (fun j => F_spec_l1Set_k2 )
noncomputable def F_spec_l1Has_l1 (a0 : (List Int)) (a1 : Int) (i23 : Int) : Option (Int ⊕ (Unit ⊕ Bool)) :=
  if i23 < (a0.length : Int) then
    idx a0 i23 (fun x56 =>
      if x56 = a1 then
        some (.inr (.inr true))
      else
        ck (i23 + 1) (fun _ =>
          some (.inl (i23 + 1))))
  else
    some (.inr (.inl ()))
noncomputable def F_spec_l1Has_k2   : Option Bool :=
  some false
noncomputable def F_spec_l1Has (a0 : (List Int)) (a1 : Int) : Option Bool :=
  bnd (lp (fun s => F_spec_l1Has_l1 a0 a1 s) 0) (fun j => F_spec_l1Has_k2 )
noncomputable def F_spec_GraphOk_l1 (a0_0 : (List (List Int))) (x9 : Int) (i80 : Int) : Option (Int ⊕ (Unit ⊕ Bool)) :=
  if i80 < x9 then
    idx a0_0 i80 (fun x146 =>
      cal (F_spec_l1Set x146 x9) (fun x160 =>
        if ¬ (x160 = true) then
          some (.inr (.inr false))
        else
          idx a0_0 i80 (fun x169 =>
            cal (F_spec_l1Has x169 i80) (fun x183 =>
              if x183 = true then
                some (.inr (.inr false))
              else
                ck (i80 + 1) (fun _ =>
                  some (.inl (i80 + 1)))))))
  else
    some (.inr (.inl ()))
noncomputable def F_spec_GraphOk_l4 (a0_0 : (List (List Int))) (i436 : Int) (i762 : Int) : Option (Int ⊕ (Unit ⊕ (Int ⊕ (Unit ⊕ Bool)))) :=
  idx a0_0 i436 (fun x847 =>
    if i762 < (x847.length : Int) then
      idx a0_0 i436 (fun x862 =>
        idx x862 i762 (fun x876 =>
          idx a0_0 x876 (fun x888 =>
            cal (F_spec_l1Has x888 i436) (fun x904 =>
              if ¬ (x904 = true) then
                some (.inr (.inr (.inr (.inr false))))
              else
                ck (i762 + 1) (fun _ =>
                  some (.inl (i762 + 1)))))))
    else
      some (.inr (.inl ())))
noncomputable def F_spec_GraphOk_k5 (i436 : Int)  : Option (Int ⊕ (Unit ⊕ Bool)) :=
  ck (i436 + 1) (fun _ =>
    some (.inl (i436 + 1)))
noncomputable def F_spec_GraphOk_l3 (a0_0 : (List (List Int))) (x9 : Int) (i436 : Int) : Option (Int ⊕ (Unit ⊕ Bool)) :=
  if i436 < x9 then
    bnd (lp (fun s => F_spec_GraphOk_l4 a0_0 i436 s) 0) (fun j => F_spec_GraphOk_k5 i436 )
  else
    some (.inr (.inl ()))
noncomputable def F_spec_GraphOk_k6   : Option Bool :=
  some true
noncomputable def F_spec_GraphOk_k2 (a0_0 : (List (List Int))) (x9 : Int)  : Option Bool :=
  bnd (lp (fun s => F_spec_GraphOk_l3 a0_0 x9 s) 0) (fun j => F_spec_GraphOk_k6 )
noncomputable def F_spec_GraphOk (a0_0 : (List (List Int))) : Option Bool :=
  cal (F_spec_l1Size a0_0) (fun x9 =>
    cal (F_spec_l1In x9 1 16) (fun x16 =>
      if ¬ (x16 = true) then
        some false
      else
        bnd (lp (fun s => F_spec_GraphOk_l1 a0_0 x9 s) 0) (fun j => F_spec_GraphOk_k2 a0_0 x9 )))
noncomputable def F_spec_l25Bits_l2 (a0_0 : (List (List Int))) (i284 : Int) (i625 : Int) (i627 : Int) : Option ((Int × Int) ⊕ (Int ⊕ (((List Int) × Int) ⊕ ((List Int) ⊕ (List Int))))) :=
  idx a0_0 i284 (fun x709 =>
    if i627 < (x709.length : Int) then
      idx a0_0 i284 (fun x724 =>
        idx x724 i627 (fun x738 =>
          grd ((0 : Int) ≤ x738) (
            ck (1 * 2 ^ (x738 : Int).toNat) (fun _ =>
              ck (i627 + 1) (fun _ =>
                some (.inl (i64or i625 (1 * 2 ^ (x738 : Int).toNat), i627 + 1)))))))
    else
      some (.inr (.inl i625)))
noncomputable def F_spec_l25Bits_k3 (l281 : (List Int)) (i284 : Int) (i696 : Int) : Option (((List Int) × Int) ⊕ ((List Int) ⊕ (List Int))) :=
  app l281 ([i696]) (fun _ =>
    ck (i284 + 1) (fun _ =>
      some (.inl ((l281 ++ ([i696])), i284 + 1))))
noncomputable def F_spec_l25Bits_l1 (a0_0 : (List (List Int))) (l281 : (List Int)) (i284 : Int) : Option (((List Int) × Int) ⊕ ((List Int) ⊕ (List Int))) :=
  if i284 < (a0_0.length : Int) then
    bnd (lp (fun s => F_spec_l25Bits_l2 a0_0 i284 s.1 s.2) (0, 0)) (fun j => F_spec_l25Bits_k3 l281 i284 j)
  else
    some (.inr (.inl l281))
noncomputable def F_spec_l25Bits_k4  (l539 : (List Int)) : Option (List Int) :=
  some l539
noncomputable def F_spec_l25Bits (a0_0 : (List (List Int))) : Option (List Int) :=
  bnd (lp (fun s => F_spec_l25Bits_l1 a0_0 s.1 s.2) (([] : (List Int)), 0)) (fun j => F_spec_l25Bits_k4 j)
noncomputable def F_spec_l27Low_l1 (a0 : Int) (i11 : Int) : Option (Int ⊕ (Int ⊕ Int)) :=
  grd ((0 : Int) ≤ i11) (
    if (i64and (a0 / 2 ^ (i11 : Int).toNat) 1) = 0 then
      ck (i11 + 1) (fun _ =>
        some (.inl (i11 + 1)))
    else
      some (.inr (.inl i11)))
noncomputable def F_spec_l27Low_k2  (i22 : Int) : Option Int :=
  some i22
noncomputable def F_spec_l27Low (a0 : Int) : Option Int :=
  bnd (lp (fun s => F_spec_l27Low_l1 a0 s) 0) (fun j => F_spec_l27Low_k2 j)
noncomputable def F_spec_l1Max (a0 : Int) (a1 : Int) : Option Int :=
  if a1 < a0 then
    some a0
  else
    some a1
noncomputable def F_spec_l27Table_l2 (l210 : (List Int)) (i213 : Int) (i495 : Int) (i497 : Int) : Option ((Int × Int) ⊕ (Int ⊕ (((List Int) × Int) ⊕ ((List Int) ⊕ (List Int))))) :=
  if 0 < i497 then
    ck (0 - i497) (fun _ =>
      idx l210 (i64andn (i64and i213 (i213 - 1)) (i64and i497 (0 - i497))) (fun x552 =>
        ck (1 + x552) (fun _ =>
          cal (F_spec_l1Max i495 (1 + x552)) (fun x566 =>
            ck (i497 - 1) (fun _ =>
              some (.inl (x566, i64and i497 (i497 - 1))))))))
  else
    some (.inr (.inl i495))
noncomputable def F_spec_l27Table_k3 (l210 : (List Int)) (i213 : Int) (i538 : Int) : Option (((List Int) × Int) ⊕ ((List Int) ⊕ (List Int))) :=
  idx l210 i213 (fun x575 =>
    ck (i213 + 1) (fun _ =>
      some (.inl ((l210.set ((i213 : Int).toNat) i538), i213 + 1))))
noncomputable def F_spec_l27Table_l1 (a0 : (List Int)) (l210 : (List Int)) (i213 : Int) : Option (((List Int) × Int) ⊕ ((List Int) ⊕ (List Int))) :=
  if i213 < (l210.length : Int) then
    cal (F_spec_l27Low i213) (fun x419 =>
      ck (i213 - 1) (fun _ =>
        idx l210 (i64and i213 (i213 - 1)) (fun x428 =>
          idx a0 x419 (fun x440 =>
            bnd (lp (fun s => F_spec_l27Table_l2 l210 i213 s.1 s.2) (x428, i64and x440 (i64and i213 (i213 - 1)))) (fun j => F_spec_l27Table_k3 l210 i213 j)))))
  else
    some (.inr (.inl l210))
noncomputable def F_spec_l27Table_k4  (l406 : (List Int)) : Option (List Int) :=
  some l406
noncomputable def F_spec_l27Table (a0 : (List Int)) : Option (List Int) :=
  grd ((0 : Int) ≤ (a0.length : Int)) (
    ck (1 * 2 ^ ((a0.length : Int) : Int).toNat) (fun _ =>
      mkS (1 * 2 ^ ((a0.length : Int) : Int).toNat) (0 : Int) (fun _ =>
        bnd (lp (fun s => F_spec_l27Table_l1 a0 s.1 s.2) ((List.replicate (1 * 2 ^ ((a0.length : Int) : Int).toNat : Int).toNat (0 : Int)), 1)) (fun j => F_spec_l27Table_k4 j))))
noncomputable def F_spec_l25All (a0_0 : (List (List Int))) : Option Int :=
  grd ((0 : Int) ≤ (a0_0.length : Int)) (
    ck (1 * 2 ^ ((a0_0.length : Int) : Int).toNat) (fun _ =>
      ck ((1 * 2 ^ ((a0_0.length : Int) : Int).toNat) - 1) (fun _ =>
        some ((1 * 2 ^ ((a0_0.length : Int) : Int).toNat) - 1))))
noncomputable def F_spec_BestMatch_l2 (x45 : (List Int)) (i467 : Int) (l980 : (List (List Int))) (i989 : Int) : Option (((List (List Int)) × Int) ⊕ (((List (List Int)) × Int) ⊕ (((List (List Int)) × Int) ⊕ ((List (List Int)) ⊕ (List (List Int)))))) :=
  if 0 < i989 then
    ck (0 - i989) (fun _ =>
      idx x45 (i64andn (i64and i467 (i467 - 1)) (i64and i989 (0 - i989))) (fun x1096 =>
        ck (1 + x1096) (fun _ =>
          idx x45 i467 (fun x1110 =>
            if (1 + x1096) < x1110 then
              ck (i989 - 1) (fun _ =>
                some (.inl (l980, i64and i989 (i989 - 1))))
            else
              some (.inr (.inl (l980, i989)))))))
  else
    some (.inr (.inl (l980, i989)))
noncomputable def F_spec_BestMatch_k3 (i467 : Int) (x870 : Int) (l1067 : (List (List Int))) (i1076 : Int) : Option (((List (List Int)) × Int) ⊕ ((List (List Int)) ⊕ (List (List Int)))) :=
  if 0 < i1076 then
    cal (F_spec_l27Low i1076) (fun x1132 =>
      app l1067 ([[x870, x1132]]) (fun _ =>
        grd ((0 : Int) ≤ x1132) (
          ck (1 * 2 ^ (x1132 : Int).toNat) (fun _ =>
            some (.inl ((l1067 ++ ([[x870, x1132]])), i64andn (i64and i467 (i467 - 1)) (1 * 2 ^ (x1132 : Int).toNat)))))))
  else
    some (.inl (l1067, i64and i467 (i467 - 1)))
noncomputable def F_spec_BestMatch_l1 (x27 : (List Int)) (x45 : (List Int)) (l458 : (List (List Int))) (i467 : Int) : Option (((List (List Int)) × Int) ⊕ ((List (List Int)) ⊕ (List (List Int)))) :=
  idx x45 i467 (fun x857 =>
    if 0 < x857 then
      cal (F_spec_l27Low i467) (fun x870 =>
        ck (i467 - 1) (fun _ =>
          idx x27 x870 (fun x879 =>
            bnd (lp (fun s => F_spec_BestMatch_l2 x45 i467 s.1 s.2) (l458, i64and x879 (i64and i467 (i467 - 1)))) (fun j => F_spec_BestMatch_k3 i467 x870 j.1 j.2))))
    else
      some (.inr (.inl l458)))
noncomputable def F_spec_BestMatch_k4  (l845 : (List (List Int))) : Option (List (List Int)) :=
  some l845
noncomputable def F_spec_BestMatch (a0_0 : (List (List Int))) : Option (List (List Int)) :=
  cal (F_spec_GraphOk a0_0) (fun x20 =>
    if ¬ (x20 = true) then
      some ([] : (List (List Int)))
    else
      cal (F_spec_l25Bits a0_0) (fun x27 =>
        cal (F_spec_l27Table x27) (fun x45 =>
          cal (F_spec_l25All a0_0) (fun x62 =>
            bnd (lp (fun s => F_spec_BestMatch_l1 x27 x45 s.1 s.2) (([] : (List (List Int))), x62)) (fun j => F_spec_BestMatch_k4 j)))))
noncomputable def F_impl_inRange (a0 : Int) (a1 : Int) (a2 : Int) : Option Bool :=
  if a1 ≤ a0 then
    some (decide (a0 ≤ a2))
  else
    some false
noncomputable def F_impl_increasing_l1 (a0 : (List Int)) (a1 : Int) (i49 : Int) : Option (Int ⊕ (Unit ⊕ Bool)) :=
  if i49 < (a0.length : Int) then
    idx a0 i49 (fun x108 =>
      ck (a1 - 1) (fun _ =>
        cal (F_impl_inRange x108 0 (a1 - 1)) (fun x122 =>
          if ¬ (x122 = true) then
            some (.inr (.inr false))
          else
            if 0 < i49 then
              ck (i49 - 1) (fun _ =>
                idx a0 (i49 - 1) (fun x134 =>
                  if x108 ≤ x134 then
                    some (.inr (.inr false))
                  else
                    ck (i49 + 1) (fun _ =>
                      some (.inl (i49 + 1)))))
            else
              ck (i49 + 1) (fun _ =>
                some (.inl (i49 + 1))))))
  else
    some (.inr (.inl ()))
noncomputable def F_impl_increasing_k2   : Option Bool :=
  some true
noncomputable def F_impl_increasing (a0 : (List Int)) (a1 : Int) : Option Bool :=
  bnd (lp (fun s => F_impl_increasing_l1 a0 a1 s) 0) (fun j => F_impl_increasing_k2 )
noncomputable def F_slices_Index_int64_l1 (a0 : (List Int)) (a1 : Int) (i23 : Int) : Option (Int ⊕ (Unit ⊕ Int)) :=
  if i23 < (a0.length : Int) then
    idx a0 i23 (fun x56 =>
      if a1 = x56 then
        some (.inr (.inr i23))
      else
        ck (i23 + 1) (fun _ =>
          some (.inl (i23 + 1))))
  else
    some (.inr (.inl ()))
noncomputable def F_slices_Index_int64_k2   : Option Int :=
  some (-1)
noncomputable def F_slices_Index_int64 (a0 : (List Int)) (a1 : Int) : Option Int :=
  bnd (lp (fun s => F_slices_Index_int64_l1 a0 a1 s) 0) (fun j => F_slices_Index_int64_k2 )
noncomputable def F_slices_Contains_int64 (a0 : (List Int)) (a1 : Int) : Option Bool :=
  cal (F_slices_Index_int64 a0 a1) (fun x1 =>
    some (decide (0 ≤ x1)))
noncomputable def F_impl_GraphOk_l1 (a0_0 : (List (List Int))) (i56 : Int) : Option (Int ⊕ (Unit ⊕ Bool)) :=
  if i56 < (a0_0.length : Int) then
    idx a0_0 i56 (fun x108 =>
      cal (F_impl_increasing x108 (a0_0.length : Int)) (fun x122 =>
        if ¬ (x122 = true) then
          some (.inr (.inr false))
        else
          cal (F_slices_Contains_int64 x108 i56) (fun x131 =>
            if x131 = true then
              some (.inr (.inr false))
            else
              ck (i56 + 1) (fun _ =>
                some (.inl (i56 + 1))))))
  else
    some (.inr (.inl ()))
noncomputable def F_impl_GraphOk_l4 (a0_0 : (List (List Int))) (i311 : Int) (x487 : (List Int)) (i549 : Int) : Option (Int ⊕ (Unit ⊕ (Int ⊕ (Unit ⊕ Bool)))) :=
  if i549 < (x487.length : Int) then
    idx x487 i549 (fun x606 =>
      idx a0_0 x606 (fun x618 =>
        cal (F_slices_Contains_int64 x618 i311) (fun x632 =>
          if ¬ (x632 = true) then
            some (.inr (.inr (.inr (.inr false))))
          else
            ck (i549 + 1) (fun _ =>
              some (.inl (i549 + 1))))))
  else
    some (.inr (.inl ()))
noncomputable def F_impl_GraphOk_k5 (i311 : Int)  : Option (Int ⊕ (Unit ⊕ Bool)) :=
  ck (i311 + 1) (fun _ =>
    some (.inl (i311 + 1)))
noncomputable def F_impl_GraphOk_l3 (a0_0 : (List (List Int))) (i311 : Int) : Option (Int ⊕ (Unit ⊕ Bool)) :=
  if i311 < (a0_0.length : Int) then
    idx a0_0 i311 (fun x487 =>
      bnd (lp (fun s => F_impl_GraphOk_l4 a0_0 i311 x487 s) 0) (fun j => F_impl_GraphOk_k5 i311 ))
  else
    some (.inr (.inl ()))
noncomputable def F_impl_GraphOk_k6   : Option Bool :=
  some true
noncomputable def F_impl_GraphOk_k2 (a0_0 : (List (List Int)))  : Option Bool :=
  bnd (lp (fun s => F_impl_GraphOk_l3 a0_0 s) 0) (fun j => F_impl_GraphOk_k6 )
noncomputable def F_impl_GraphOk (a0_0 : (List (List Int))) : Option Bool :=
  if (a0_0.length : Int) < 1 then
    some false
  else
    if 16 < (a0_0.length : Int) then
      some false
    else
      bnd (lp (fun s => F_impl_GraphOk_l1 a0_0 s) 0) (fun j => F_impl_GraphOk_k2 a0_0 )
noncomputable def F_impl_one (a0 : Int) : Option (BitVec 32) :=
  grd ((0 : Int) ≤ a0) (
    some ((1#32) <<< (a0 : Int).toNat))
noncomputable def F_impl_maskOf_l1 (a0 : (List Int)) (u29 : BitVec 32) (i30 : Int) : Option (((BitVec 32) × Int) ⊕ ((BitVec 32) ⊕ (BitVec 32))) :=
  if i30 < (a0.length : Int) then
    idx a0 i30 (fun x70 =>
      cal (F_impl_one x70) (fun x82 =>
        ck (i30 + 1) (fun _ =>
          some (.inl (u29 ||| x82, i30 + 1)))))
  else
    some (.inr (.inl u29))
noncomputable def F_impl_maskOf_k2  (u59 : BitVec 32) : Option (BitVec 32) :=
  some u59
noncomputable def F_impl_maskOf (a0 : (List Int)) : Option (BitVec 32) :=
  bnd (lp (fun s => F_impl_maskOf_l1 a0 s.1 s.2) (0#32, 0)) (fun j => F_impl_maskOf_k2 j)
noncomputable def F_impl_netsOf_l1 (a0_0 : (List (List Int))) (l84 : (List (BitVec 32))) (i87 : Int) : Option (((List (BitVec 32)) × Int) ⊕ ((List (BitVec 32)) ⊕ (List (BitVec 32)))) :=
  if i87 < (a0_0.length : Int) then
    idx a0_0 i87 (fun x162 =>
      cal (F_impl_maskOf x162) (fun x176 =>
        app l84 ([x176]) (fun _ =>
          ck (i87 + 1) (fun _ =>
            some (.inl ((l84 ++ ([x176])), i87 + 1))))))
  else
    some (.inr (.inl l84))
noncomputable def F_impl_netsOf_k2  (l149 : (List (BitVec 32))) : Option (List (BitVec 32)) :=
  some l149
noncomputable def F_impl_netsOf (a0_0 : (List (List Int))) : Option (List (BitVec 32)) :=
  bnd (lp (fun s => F_impl_netsOf_l1 a0_0 s.1 s.2) (([] : (List (BitVec 32))), 0)) (fun j => F_impl_netsOf_k2 j)
noncomputable def F_impl_firstOf (a0 : Int) : Option (BitVec 32) :=
  grd ((0 : Int) ≤ a0) (
    some (((1#32) <<< (a0 : Int).toNat) - (1#32)))
noncomputable def F_impl_nets_all (a0 : (List (BitVec 32))) : Option (BitVec 32) :=
  cal (F_impl_firstOf (a0.length : Int)) (fun x1 =>
    some x1)
noncomputable def F_math_bits_TrailingZeros32 (a0 : BitVec 32) : Option Int :=
  if a0 = (0#32) then
    some 32
  else
    idx deBruijn32 (BitVec.toNat (((a0 &&& (-a0)) * (125613361#32)) >>> (27 : Int).toNat) : Int) (fun x2 =>
      some (BitVec.toNat x2 : Int))
noncomputable def F_impl_vset_least (a0 : BitVec 32) : Option Int :=
  cal (F_math_bits_TrailingZeros32 a0) (fun x1 =>
    some x1)
noncomputable def F_impl_vset_list_l1  (u55 : BitVec 32) (l59 : (List Int)) : Option (((BitVec 32) × (List Int)) ⊕ ((List Int) ⊕ (List Int))) :=
  if u55 ≠ (0#32) then
    cal (F_impl_vset_least u55) (fun x119 =>
      app l59 ([x119]) (fun _ =>
        some (.inl (u55 &&& (u55 - (1#32)), (l59 ++ ([x119]))))))
  else
    some (.inr (.inl l59))
noncomputable def F_impl_vset_list_k2  (l106 : (List Int)) : Option (List Int) :=
  some l106
noncomputable def F_impl_vset_list (a0 : BitVec 32) : Option (List Int) :=
  bnd (lp (fun s => F_impl_vset_list_l1 s.1 s.2) (a0, ([] : (List Int)))) (fun j => F_impl_vset_list_k2 j)
noncomputable def F_impl_onSets_l2 (l444 : (List Int)) (u447 : BitVec 32) (x878 : (BitVec 32)) (x906 : (List Int)) (l1030 : (List Int)) (i1036 : Int) : Option (((List Int) × Int) ⊕ ((List Int) ⊕ (((List Int) × (BitVec 32)) ⊕ ((List Int) ⊕ (List Int))))) :=
  if i1036 < (x906.length : Int) then
    idx x906 i1036 (fun x1152 =>
      cal (F_impl_one x1152) (fun x1164 =>
        idx l444 (BitVec.toNat ((u447 &&& ~~~x878) &&& ~~~x1164) : Int) (fun x1170 =>
          app l1030 ([x1170]) (fun _ =>
            ck (i1036 + 1) (fun _ =>
              some (.inl ((l1030 ++ ([x1170])), i1036 + 1)))))))
  else
    some (.inr (.inl l1030))
noncomputable def F_impl_onSets_k3 (a2 : Int → (List Int) → Option Int) (l444 : (List Int)) (u447 : BitVec 32) (x878 : (BitVec 32)) (l1137 : (List Int)) : Option (((List Int) × (BitVec 32)) ⊕ ((List Int) ⊕ (List Int))) :=
  idx l444 (BitVec.toNat (u447 &&& ~~~x878) : Int) (fun x1215 =>
    cal (a2 x1215 l1137) (fun x1230 =>
      idx l444 (BitVec.toNat u447 : Int) (fun x1237 =>
        some (.inl ((l444.set (((BitVec.toNat u447 : Int) : Int).toNat) x1230), u447 + (1#32))))))
noncomputable def F_impl_onSets_l1 (a0 : (List (BitVec 32))) (a2 : Int → (List Int) → Option Int) (l444 : (List Int)) (u447 : BitVec 32) : Option (((List Int) × (BitVec 32)) ⊕ ((List Int) ⊕ (List Int))) :=
  cal (F_impl_nets_all a0) (fun x864 =>
    if u447 ≤ x864 then
      cal (F_impl_vset_least u447) (fun x871 =>
        cal (F_impl_one x871) (fun x878 =>
          idx a0 x871 (fun x895 =>
            cal (F_impl_vset_list (x895 &&& (u447 &&& ~~~x878))) (fun x906 =>
              bnd (lp (fun s => F_impl_onSets_l2 l444 u447 x878 x906 s.1 s.2) (([] : (List Int)), 0)) (fun j => F_impl_onSets_k3 a2 l444 u447 x878 j)))))
    else
      some (.inr (.inl l444)))
noncomputable def F_impl_onSets_k4  (l852 : (List Int)) : Option (List Int) :=
  some l852
noncomputable def F_impl_onSets (a0 : (List (BitVec 32))) (a1 : Int) (a2 : Int → (List Int) → Option Int) : Option (List Int) :=
  cal (F_impl_nets_all a0) (fun x1 =>
    mkS (BitVec.toNat (x1 + (1#32)) : Int) (0 : Int) (fun _ =>
      idx (List.replicate ((BitVec.toNat (x1 + (1#32)) : Int) : Int).toNat (0 : Int)) 0 (fun x18 =>
        bnd (lp (fun s => F_impl_onSets_l1 a0 a2 s.1 s.2) (((List.replicate ((BitVec.toNat (x1 + (1#32)) : Int) : Int).toNat (0 : Int)).set ((0 : Int).toNat) a1), 1#32)) (fun j => F_impl_onSets_k4 j))))
noncomputable def F_impl_mostEdges_1_l1 (a1 : (List Int)) (i26 : Int) (i28 : Int) : Option ((Int × Int) ⊕ (Int ⊕ Int)) :=
  if i28 < (a1.length : Int) then
    idx a1 i28 (fun x66 =>
      ck (x66 + 1) (fun _ =>
        ck (i28 + 1) (fun _ =>
          some (.inl (max i26 (x66 + 1), i28 + 1)))))
  else
    some (.inr (.inl i26))
noncomputable def F_impl_mostEdges_1_k2  (i54 : Int) : Option Int :=
  some i54
noncomputable def F_impl_mostEdges_1 (a0 : Int) (a1 : (List Int)) : Option Int :=
  bnd (lp (fun s => F_impl_mostEdges_1_l1 a1 s.1 s.2) (a0, 0)) (fun j => F_impl_mostEdges_1_k2 j)
noncomputable def F_impl_mostEdges (a0 : (List (BitVec 32))) : Option (List Int) :=
  cal (F_impl_onSets a0 0 (fun (z1 : Int) (z2 : (List Int)) => F_impl_mostEdges_1 z1 z2)) (fun x4 =>
    some x4)
noncomputable def F_impl_edgesOf_l2 (i302 : Int) (x589 : (List Int)) (l687 : (List (List Int))) (i690 : Int) : Option (((List (List Int)) × Int) ⊕ ((List (List Int)) ⊕ (((List (List Int)) × Int) ⊕ ((List (List Int)) ⊕ (List (List Int)))))) :=
  if i690 < (x589.length : Int) then
    idx x589 i690 (fun x782 =>
      if i302 < x782 then
        app l687 ([[i302, x782]]) (fun _ =>
          ck (i690 + 1) (fun _ =>
            some (.inl ((l687 ++ ([[i302, x782]])), i690 + 1))))
      else
        ck (i690 + 1) (fun _ =>
          some (.inl (l687, i690 + 1))))
  else
    some (.inr (.inl l687))
noncomputable def F_impl_edgesOf_k3 (i302 : Int) (l769 : (List (List Int))) : Option (((List (List Int)) × Int) ⊕ ((List (List Int)) ⊕ (List (List Int)))) :=
  ck (i302 + 1) (fun _ =>
    some (.inl (l769, i302 + 1)))
noncomputable def F_impl_edgesOf_l1 (a0_0 : (List (List Int))) (l299 : (List (List Int))) (i302 : Int) : Option (((List (List Int)) × Int) ⊕ ((List (List Int)) ⊕ (List (List Int)))) :=
  if i302 < (a0_0.length : Int) then
    idx a0_0 i302 (fun x589 =>
      bnd (lp (fun s => F_impl_edgesOf_l2 i302 x589 s.1 s.2) (l299, 0)) (fun j => F_impl_edgesOf_k3 i302 j))
  else
    some (.inr (.inl l299))
noncomputable def F_impl_edgesOf_k4  (l576 : (List (List Int))) : Option (List (List Int)) :=
  some l576
noncomputable def F_impl_edgesOf (a0_0 : (List (List Int))) : Option (List (List Int)) :=
  bnd (lp (fun s => F_impl_edgesOf_l1 a0_0 s.1 s.2) (([] : (List (List Int))), 0)) (fun j => F_impl_edgesOf_k4 j)
noncomputable def F_impl_BestMatch_l1 (x45 : (List Int)) (x71 : (List (List Int))) (l258 : (List (List Int))) (u264 : BitVec 32) (i274 : Int) : Option (((List (List Int)) × (BitVec 32) × Int) ⊕ ((List (List Int)) ⊕ (List (List Int)))) :=
  if i274 < (x71.length : Int) then
    idx x71 i274 (fun x436 =>
      cal (F_impl_maskOf x436) (fun x453 =>
        idx x436 0 (fun x459 =>
          ck (x459 + 1) (fun _ =>
            cal (F_impl_firstOf (x459 + 1)) (fun x473 =>
              if (x453 &&& ~~~u264) = (0#32) then
                idx x45 (BitVec.toNat u264 : Int) (fun x480 =>
                  if 0 < x480 then
                    idx x45 (BitVec.toNat ((u264 &&& ~~~x473) &&& ~~~x453) : Int) (fun x493 =>
                      ck (x493 + 1) (fun _ =>
                        idx x45 (BitVec.toNat u264 : Int) (fun x507 =>
                          if (x493 + 1) = x507 then
                            app l258 [x436] (fun _ =>
                              ck (i274 + 1) (fun _ =>
                                some (.inl (l258 ++ [x436], (u264 &&& ~~~x473) &&& ~~~x453, i274 + 1))))
                          else
                            ck (i274 + 1) (fun _ =>
                              some (.inl (l258, u264, i274 + 1))))))
                  else
                    ck (i274 + 1) (fun _ =>
                      some (.inl (l258, u264, i274 + 1))))
              else
                ck (i274 + 1) (fun _ =>
                  some (.inl (l258, u264, i274 + 1))))))))
  else
    some (.inr (.inl l258))
noncomputable def F_impl_BestMatch_k2  (l423 : (List (List Int))) : Option (List (List Int)) :=
  some l423
noncomputable def F_impl_BestMatch (a0_0 : (List (List Int))) : Option (List (List Int)) :=
  cal (F_impl_GraphOk a0_0) (fun x9 =>
    if ¬ (x9 = true) then
      some ([] : (List (List Int)))
    else
      cal (F_impl_netsOf a0_0) (fun x16 =>
        cal (F_impl_mostEdges x16) (fun x45 =>
          cal (F_impl_nets_all x16) (fun x65 =>
            cal (F_impl_edgesOf a0_0) (fun x71 =>
              bnd (lp (fun s => F_impl_BestMatch_l1 x45 x71 s.1 s.2.1 s.2.2) (([] : (List (List Int))), x65, 0)) (fun j => F_impl_BestMatch_k2 j))))))

noncomputable def F_laws_eqInt64S_l1 (a0 : (List Int)) (a1 : (List Int)) (i39 : Int) : Option (Int ⊕ (Unit ⊕ Bool)) :=
  if i39 < (a0.length : Int) then
    idx a0 i39 (fun x87 =>
      idx a1 i39 (fun x99 =>
        if x87 ≠ x99 then
          some (.inr (.inr false))
        else
          ck (i39 + 1) (fun _ =>
            some (.inl (i39 + 1)))))
  else
    some (.inr (.inl ()))
noncomputable def F_laws_eqInt64S_k2   : Option Bool :=
  some true
noncomputable def F_laws_eqInt64S (a0 : (List Int)) (a1 : (List Int)) : Option Bool :=
  if (a0.length : Int) ≠ (a1.length : Int) then
    some false
  else
    bnd (lp (fun s => F_laws_eqInt64S_l1 a0 a1 s) 0) (fun j => F_laws_eqInt64S_k2 )
noncomputable def F_laws_eqInt64SS_l1 (a0 : (List (List Int))) (a1 : (List (List Int))) (i47 : Int) : Option (Int ⊕ (Unit ⊕ Bool)) :=
  if i47 < (a0.length : Int) then
    idx a0 i47 (fun x103 =>
      idx a1 i47 (fun x117 =>
        cal (F_laws_eqInt64S x103 x117) (fun x133 =>
          if ¬ (x133 = true) then
            some (.inr (.inr false))
          else
            ck (i47 + 1) (fun _ =>
              some (.inl (i47 + 1))))))
  else
    some (.inr (.inl ()))
noncomputable def F_laws_eqInt64SS_k2   : Option Bool :=
  some true
noncomputable def F_laws_eqInt64SS (a0 : (List (List Int))) (a1 : (List (List Int))) : Option Bool :=
  if (a0.length : Int) ≠ (a1.length : Int) then
    some false
  else
    bnd (lp (fun s => F_laws_eqInt64SS_l1 a0 a1 s) 0) (fun j => F_laws_eqInt64SS_k2 )
noncomputable def F_laws_eqGraph (a0_0 : (List (List Int))) (a1_0 : (List (List Int))) : Option Bool :=
  cal (F_laws_eqInt64SS a0_0 a1_0) (fun x19 =>
    if ¬ (x19 = true) then
      some false
    else
      some true)
noncomputable def F_laws_markInt64S_l1  (l38 : (List Int)) (i41 : Int) (i43 : Int) : Option (((List Int) × Int × Int) ⊕ ((Int × (List Int)) ⊕ (Int × (List Int)))) :=
  if i43 < (l38.length : Int) then
    idx l38 i43 (fun x95 =>
      ck (i41 + 1) (fun _ =>
        ck (i43 + 1) (fun _ =>
          some (.inl ((l38.set ((i43 : Int).toNat) i41), i41 + 1, i43 + 1)))))
  else
    some (.inr (.inl (i41, l38)))
noncomputable def F_laws_markInt64S_k2  (i79 : Int) (l82 : (List Int)) : Option (Int × (List Int)) :=
  some (i79, l82)
noncomputable def F_laws_markInt64S (a0 : (List Int)) (a1 : Int) : Option (Int × (List Int)) :=
  bnd (lp (fun s => F_laws_markInt64S_l1 s.1 s.2.1 s.2.2) (a0, a1, 0)) (fun j => F_laws_markInt64S_k2 j.1 j.2)
noncomputable def F_laws_markInt64SS_l1  (l46 : (List (List Int))) (i49 : Int) (i51 : Int) : Option (((List (List Int)) × Int × Int) ⊕ ((Int × (List (List Int))) ⊕ (Int × (List (List Int))))) :=
  if i51 < (l46.length : Int) then
    idx l46 i51 (fun x111 =>
      cal (F_laws_markInt64S x111 i49) (fun x130 =>
        ck (i51 + 1) (fun _ =>
          some (.inl ((l46.set ((i51 : Int).toNat) x130.2), x130.1, i51 + 1)))))
  else
    some (.inr (.inl (i49, l46)))
noncomputable def F_laws_markInt64SS_k2  (i95 : Int) (l98 : (List (List Int))) : Option (Int × (List (List Int))) :=
  some (i95, l98)
noncomputable def F_laws_markInt64SS (a0 : (List (List Int))) (a1 : Int) : Option (Int × (List (List Int))) :=
  bnd (lp (fun s => F_laws_markInt64SS_l1 s.1 s.2.1 s.2.2) (a0, a1, 0)) (fun j => F_laws_markInt64SS_k2 j.1 j.2)
noncomputable def F_laws_markGraph (a0_0 : (List (List Int))) (a1 : Int) : Option (Int × (List (List Int))) :=
  cal (F_laws_markInt64SS a0_0 a1) (fun x11 =>
    some (x11.1, x11.2))
noncomputable def F_laws_heldInt64S_l1 (a0 : (List Int)) (i27 : Int) (i29 : Int) : Option ((Int × Int) ⊕ (Int ⊕ Int)) :=
  if i29 < (a0.length : Int) then
    idx a0 i29 (fun x68 =>
      if x68 ≠ i27 then
        some (.inr (.inr (-1)))
      else
        ck (i27 + 1) (fun _ =>
          ck (i29 + 1) (fun _ =>
            some (.inl (i27 + 1, i29 + 1)))))
  else
    some (.inr (.inl i27))
noncomputable def F_laws_heldInt64S_k2  (i56 : Int) : Option Int :=
  some i56
noncomputable def F_laws_heldInt64S (a0 : (List Int)) (a1 : Int) : Option Int :=
  bnd (lp (fun s => F_laws_heldInt64S_l1 a0 s.1 s.2) (a1, 0)) (fun j => F_laws_heldInt64S_k2 j)
noncomputable def F_laws_heldInt64SS_l1 (a0 : (List (List Int))) (i34 : Int) (i36 : Int) : Option ((Int × Int) ⊕ (Int ⊕ Int)) :=
  if i36 < (a0.length : Int) then
    idx a0 i36 (fun x82 =>
      cal (F_laws_heldInt64S x82 i34) (fun x96 =>
        if x96 < 0 then
          some (.inr (.inr (-1)))
        else
          ck (i36 + 1) (fun _ =>
            some (.inl (x96, i36 + 1)))))
  else
    some (.inr (.inl i34))
noncomputable def F_laws_heldInt64SS_k2  (i70 : Int) : Option Int :=
  some i70
noncomputable def F_laws_heldInt64SS (a0 : (List (List Int))) (a1 : Int) : Option Int :=
  bnd (lp (fun s => F_laws_heldInt64SS_l1 a0 s.1 s.2) (a1, 0)) (fun j => F_laws_heldInt64SS_k2 j)
noncomputable def F_laws_FnExactBestMatch (a0_0 : (List (List Int))) : Option Bool :=
  cal (F_laws_szGraph a0_0 1048576) (fun x9 =>
    if x9 < 0 then
      some true
    else
      cal (F_laws_toGraph a0_0) (fun x17 =>
        cal (F_spec_BestMatch x17) (fun x39 =>
          cal (F_laws_toGraph a0_0) (fun x61 =>
            cal (F_impl_BestMatch x61) (fun x105 =>
              cal (F_laws_eqInt64SS x105 x39) (fun x140 =>
                if ¬ (x140 = true) then
                  some false
                else
                  cal (F_laws_toGraph a0_0) (fun x150 =>
                    cal (F_laws_eqGraph x61 x150) (fun x192 =>
                      if ¬ (x192 = true) then
                        some false
                      else
                        cal (F_laws_markGraph x61 1) (fun x198 =>
                          if x198.1 < 0 then
                            some false
                          else
                            cal (F_laws_eqInt64SS x105 x39) (fun x227 =>
                              if ¬ (x227 = true) then
                                some false
                              else
                                cal (F_laws_markInt64SS x105 1) (fun x234 =>
                                  cal (F_laws_heldInt64SS x234.2 1) (fun x245 =>
                                    if x245 < 0 then
                                      some false
                                    else
                                      if x245 ≠ x234.1 then
                                        some false
                                      else
                                        cal (F_laws_toGraph a0_0) (fun x254 =>
                                          cal (F_impl_BestMatch x254) (fun x284 =>
                                            cal (F_laws_eqInt64SS x284 x39) (fun x320 =>
                                              if ¬ (x320 = true) then
                                                some false
                                              else
                                                cal (F_laws_heldInt64SS x234.2 1) (fun x330 =>
                                                  if x330 < 0 then
                                                    some false
                                                  else
                                                    if x330 ≠ x234.1 then
                                                      some false
                                                    else
                                                      some true))))))))))))))))
end Go.Proofs.YthbmcbflnibpbaaDoor
