/- Functional forms, printed by gen.py. -/
import Derived.Test.YtdlmmchdpnmaeaaDoorPure
namespace Go.Proofs.YtdlmmchdpnmaeaaDoor

noncomputable def F_laws_szInt64S (a0 : (List Int)) (a1 : Int) : Option Int :=
  ck (a1 - (a0.length : Int)) (fun _ =>
    if (a1 - (a0.length : Int)) < 0 then
      some (-1)
    else
      some (a1 - (a0.length : Int)))
noncomputable def F_laws_szInt64SS_l1 (a0 : (List (List Int))) (i37 : Int) (i39 : Int) : Option ((Int × Int) ⊕ (Int ⊕ Int)) :=
  if i39 < (a0.length : Int) then
    idx a0 i39 (fun x85 =>
      cal (F_laws_szInt64S x85 i37) (fun x99 =>
        if x99 < 0 then
          some (.inr (.inr (-1)))
        else
          ck (i39 + 1) (fun _ =>
            some (.inl (x99, i39 + 1)))))
  else
    some (.inr (.inl i37))
noncomputable def F_laws_szInt64SS_k2  (i73 : Int) : Option Int :=
  some i73
noncomputable def F_laws_szInt64SS (a0 : (List (List Int))) (a1 : Int) : Option Int :=
  ck (a1 - (a0.length : Int)) (fun _ =>
    if (a1 - (a0.length : Int)) < 0 then
      some (-1)
    else
      bnd (lp (fun s => F_laws_szInt64SS_l1 a0 s.1 s.2) (a1 - (a0.length : Int), 0)) (fun j => F_laws_szInt64SS_k2 j))
noncomputable def F_laws_szGraph (a0_0 : (List (List Int))) (a1 : Int) : Option Int :=
  cal (F_laws_szInt64SS a0_0 a1) (fun x9 =>
    if x9 < 0 then
      some (-1)
    else
      some x9)
noncomputable def F_laws_toInt64S_l1 (a0 : (List Int)) (l63 : (List Int)) (i66 : Int) : Option (((List Int) × Int) ⊕ ((List Int) ⊕ (List Int))) :=
  if i66 < (a0.length : Int) then
    idx a0 i66 (fun x128 =>
      idx l63 i66 (fun x140 =>
        ck (i66 + 1) (fun _ =>
          some (.inl ((l63.set ((i66 : Int).toNat) x128), i66 + 1)))))
  else
    some (.inr (.inl l63))
noncomputable def F_laws_toInt64S_k2  (l115 : (List Int)) : Option (List Int) :=
  some l115
noncomputable def F_laws_toInt64S (a0 : (List Int)) : Option (List Int) :=
  mkS (a0.length : Int) (0 : Int) (fun _ =>
    bnd (lp (fun s => F_laws_toInt64S_l1 a0 s.1 s.2) ((List.replicate ((a0.length : Int) : Int).toNat (0 : Int)), 0)) (fun j => F_laws_toInt64S_k2 j))
noncomputable def F_laws_toInt64SS_l1 (a0 : (List (List Int))) (l96 : (List (List Int))) (i99 : Int) : Option (((List (List Int)) × Int) ⊕ ((List (List Int)) ⊕ (List (List Int)))) :=
  if i99 < (a0.length : Int) then
    idx a0 i99 (fun x191 =>
      cal (F_laws_toInt64S x191) (fun x205 =>
        idx l96 i99 (fun x219 =>
          ck (i99 + 1) (fun _ =>
            some (.inl ((l96.set ((i99 : Int).toNat) x205), i99 + 1))))))
  else
    some (.inr (.inl l96))
noncomputable def F_laws_toInt64SS_k2  (l178 : (List (List Int))) : Option (List (List Int)) :=
  some l178
noncomputable def F_laws_toInt64SS (a0 : (List (List Int))) : Option (List (List Int)) :=
  mkS (a0.length : Int) ([] : (List Int)) (fun _ =>
    bnd (lp (fun s => F_laws_toInt64SS_l1 a0 s.1 s.2) ((List.replicate ((a0.length : Int) : Int).toNat ([] : (List Int))), 0)) (fun j => F_laws_toInt64SS_k2 j))
noncomputable def F_laws_toGraph (a0_0 : (List (List Int))) : Option (List (List Int)) :=
  cal (F_laws_toInt64SS a0_0) (fun x31 =>
    some x31)
noncomputable def F_spec_l1Size (a0_0 : (List (List Int))) : Option Int :=
  some (a0_0.length : Int)
noncomputable def F_spec_l1In (a0 : Int) (a1 : Int) (a2 : Int) : Option Bool :=
  if a1 ≤ a0 then
    some (decide (a0 ≤ a2))
  else
    some false
noncomputable def F_spec_l1Set_l1 (a0 : (List Int)) (a1 : Int) (i69 : Int) : Option (Int ⊕ (Unit ⊕ Bool)) :=
  if i69 < (a0.length : Int) then
    idx a0 i69 (fun x147 =>
      ck (a1 - 1) (fun _ =>
        cal (F_spec_l1In x147 0 (a1 - 1)) (fun x163 =>
          if ¬ (x163 = true) then
            some (.inr (.inr false))
          else
            if 0 < i69 then
              idx a0 i69 (fun x172 =>
                ck (i69 - 1) (fun _ =>
                  idx a0 (i69 - 1) (fun x186 =>
                    if x172 ≤ x186 then
                      some (.inr (.inr false))
                    else
                      ck (i69 + 1) (fun _ =>
                        some (.inl (i69 + 1))))))
            else
              ck (i69 + 1) (fun _ =>
                some (.inl (i69 + 1))))))
  else
    some (.inr (.inl ()))
noncomputable def F_spec_l1Set_k2   : Option Bool :=
  some true
noncomputable def F_spec_l1Set (a0 : (List Int)) (a1 : Int) : Option Bool :=
  if a1 < (a0.length : Int) then
    some false
  else
    bnd (lp (fun s => F_spec_l1Set_l1 a0 a1 s) 0) (fun j => F_spec_l1Set_k2 )
noncomputable def F_spec_l1Has_l1 (a0 : (List Int)) (a1 : Int) (i23 : Int) : Option (Int ⊕ (Unit ⊕ Bool)) :=
  if i23 < (a0.length : Int) then
    idx a0 i23 (fun x56 =>
      if x56 = a1 then
        some (.inr (.inr true))
      else
        ck (i23 + 1) (fun _ =>
          some (.inl (i23 + 1))))
  else
    some (.inr (.inl ()))
noncomputable def F_spec_l1Has_k2   : Option Bool :=
  some false
noncomputable def F_spec_l1Has (a0 : (List Int)) (a1 : Int) : Option Bool :=
  bnd (lp (fun s => F_spec_l1Has_l1 a0 a1 s) 0) (fun j => F_spec_l1Has_k2 )
noncomputable def F_spec_GraphOk_l1 (a0_0 : (List (List Int))) (x9 : Int) (i80 : Int) : Option (Int ⊕ (Unit ⊕ Bool)) :=
  if i80 < x9 then
    idx a0_0 i80 (fun x146 =>
      cal (F_spec_l1Set x146 x9) (fun x160 =>
        if ¬ (x160 = true) then
          some (.inr (.inr false))
        else
          idx a0_0 i80 (fun x169 =>
            cal (F_spec_l1Has x169 i80) (fun x183 =>
              if x183 = true then
                some (.inr (.inr false))
              else
                ck (i80 + 1) (fun _ =>
                  some (.inl (i80 + 1)))))))
  else
    some (.inr (.inl ()))
noncomputable def F_spec_GraphOk_l4 (a0_0 : (List (List Int))) (i436 : Int) (i762 : Int) : Option (Int ⊕ (Unit ⊕ (Int ⊕ (Unit ⊕ Bool)))) :=
  idx a0_0 i436 (fun x847 =>
    if i762 < (x847.length : Int) then
      idx a0_0 i436 (fun x862 =>
        idx x862 i762 (fun x876 =>
          idx a0_0 x876 (fun x888 =>
            cal (F_spec_l1Has x888 i436) (fun x904 =>
              if ¬ (x904 = true) then
                some (.inr (.inr (.inr (.inr false))))
              else
                ck (i762 + 1) (fun _ =>
                  some (.inl (i762 + 1)))))))
    else
      some (.inr (.inl ())))
noncomputable def F_spec_GraphOk_k5 (i436 : Int)  : Option (Int ⊕ (Unit ⊕ Bool)) :=
  ck (i436 + 1) (fun _ =>
    some (.inl (i436 + 1)))
noncomputable def F_spec_GraphOk_l3 (a0_0 : (List (List Int))) (x9 : Int) (i436 : Int) : Option (Int ⊕ (Unit ⊕ Bool)) :=
  if i436 < x9 then
    bnd (lp (fun s => F_spec_GraphOk_l4 a0_0 i436 s) 0) (fun j => F_spec_GraphOk_k5 i436 )
  else
    some (.inr (.inl ()))
noncomputable def F_spec_GraphOk_k6   : Option Bool :=
  some true
noncomputable def F_spec_GraphOk_k2 (a0_0 : (List (List Int))) (x9 : Int)  : Option Bool :=
  bnd (lp (fun s => F_spec_GraphOk_l3 a0_0 x9 s) 0) (fun j => F_spec_GraphOk_k6 )
noncomputable def F_spec_GraphOk (a0_0 : (List (List Int))) : Option Bool :=
  cal (F_spec_l1Size a0_0) (fun x9 =>
    cal (F_spec_l1In x9 1 16) (fun x16 =>
      if ¬ (x16 = true) then
        some false
      else
        bnd (lp (fun s => F_spec_GraphOk_l1 a0_0 x9 s) 0) (fun j => F_spec_GraphOk_k2 a0_0 x9 )))
noncomputable def F_spec_l1There (a0_0 : (List (List Int))) (a1 : Int) : Option Bool :=
  cal (F_spec_l1Size a0_0) (fun x9 =>
    ck (x9 - 1) (fun _ =>
      cal (F_spec_l1In a1 0 (x9 - 1)) (fun x18 =>
        some x18)))
noncomputable def F_spec_l1Edge (a0_0 : (List (List Int))) (a1 : Int) (a2 : Int) : Option Bool :=
  idx a0_0 a1 (fun x9 =>
    cal (F_spec_l1Has x9 a2) (fun x23 =>
      some x23))
noncomputable def F_spec_EdgeIn (a0_0 : (List (List Int))) (a1 : Int) (a2 : Int) : Option Bool :=
  cal (F_spec_GraphOk a0_0) (fun x9 =>
    if x9 = true then
      cal (F_spec_l1There a0_0 a1) (fun x16 =>
        if x16 = true then
          cal (F_spec_l1There a0_0 a2) (fun x23 =>
            if x23 = true then
              cal (F_spec_l1Edge a0_0 a1 a2) (fun x30 =>
                some x30)
            else
              some false)
        else
          some false)
    else
      some false)
noncomputable def F_spec_MatchOk_l1 (a0_0 : (List (List Int))) (a1 : (List (List Int))) (l367 : (List Int)) (i370 : Int) : Option (((List Int) × Int) ⊕ (Unit ⊕ Bool)) :=
  if i370 < (a1.length : Int) then
    idx a1 i370 (fun x702 =>
      if (x702.length : Int) ≠ 2 then
        some (.inr (.inr false))
      else
        idx x702 0 (fun x722 =>
          idx x702 1 (fun x734 =>
            if x734 ≤ x722 then
              some (.inr (.inr false))
            else
              idx x702 0 (fun x752 =>
                idx x702 1 (fun x764 =>
                  cal (F_spec_EdgeIn a0_0 x752 x764) (fun x778 =>
                    if ¬ (x778 = true) then
                      some (.inr (.inr false))
                    else
                      idx x702 0 (fun x786 =>
                        cal (F_spec_l1Has l367 x786) (fun x803 =>
                          if x803 = true then
                            some (.inr (.inr false))
                          else
                            idx x702 1 (fun x811 =>
                              cal (F_spec_l1Has l367 x811) (fun x828 =>
                                if x828 = true then
                                  some (.inr (.inr false))
                                else
                                  if 0 < i370 then
                                    idx x702 0 (fun x837 =>
                                      ck (i370 - 1) (fun _ =>
                                        idx a1 (i370 - 1) (fun x851 =>
                                          idx x851 0 (fun x865 =>
                                            if x837 ≤ x865 then
                                              some (.inr (.inr false))
                                            else
                                              idx x702 0 (fun x883 =>
                                                idx x702 1 (fun x895 =>
                                                  app l367 ([x883, x895]) (fun _ =>
                                                    ck (i370 + 1) (fun _ =>
                                                      some (.inl ((l367 ++ ([x883, x895])), i370 + 1))))))))))
                                  else
                                    idx x702 0 (fun x951 =>
                                      idx x702 1 (fun x963 =>
                                        app l367 ([x951, x963]) (fun _ =>
                                          ck (i370 + 1) (fun _ =>
                                            some (.inl ((l367 ++ ([x951, x963])), i370 + 1))))))))))))))))
  else
    some (.inr (.inl ()))
noncomputable def F_spec_MatchOk_k2   : Option Bool :=
  some true
noncomputable def F_spec_MatchOk (a0_0 : (List (List Int))) (a1 : (List (List Int))) : Option Bool :=
  cal (F_spec_GraphOk a0_0) (fun x17 =>
    if ¬ (x17 = true) then
      some false
    else
      if 16 < (a1.length : Int) then
        some false
      else
        bnd (lp (fun s => F_spec_MatchOk_l1 a0_0 a1 s.1 s.2) (([] : (List Int)), 0)) (fun j => F_spec_MatchOk_k2 ))
noncomputable def F_spec_SetOk (a0_0 : (List (List Int))) (a1 : (List Int)) : Option Bool :=
  cal (F_spec_GraphOk a0_0) (fun x9 =>
    if x9 = true then
      cal (F_spec_l1Size a0_0) (fun x16 =>
        cal (F_spec_l1Set a1 x16) (fun x23 =>
          some x23))
    else
      some false)
noncomputable def F_spec_l25Bits_l2 (a0_0 : (List (List Int))) (i284 : Int) (i625 : Int) (i627 : Int) : Option ((Int × Int) ⊕ (Int ⊕ (((List Int) × Int) ⊕ ((List Int) ⊕ (List Int))))) :=
  idx a0_0 i284 (fun x709 =>
    if i627 < (x709.length : Int) then
      idx a0_0 i284 (fun x724 =>
        idx x724 i627 (fun x738 =>
          grd ((0 : Int) ≤ x738) (
            ck (1 * 2 ^ (x738 : Int).toNat) (fun _ =>
              ck (i627 + 1) (fun _ =>
                some (.inl (i64or i625 (1 * 2 ^ (x738 : Int).toNat), i627 + 1)))))))
    else
      some (.inr (.inl i625)))
noncomputable def F_spec_l25Bits_k3 (l281 : (List Int)) (i284 : Int) (i696 : Int) : Option (((List Int) × Int) ⊕ ((List Int) ⊕ (List Int))) :=
  app l281 ([i696]) (fun _ =>
    ck (i284 + 1) (fun _ =>
      some (.inl ((l281 ++ ([i696])), i284 + 1))))
noncomputable def F_spec_l25Bits_l1 (a0_0 : (List (List Int))) (l281 : (List Int)) (i284 : Int) : Option (((List Int) × Int) ⊕ ((List Int) ⊕ (List Int))) :=
  if i284 < (a0_0.length : Int) then
    bnd (lp (fun s => F_spec_l25Bits_l2 a0_0 i284 s.1 s.2) (0, 0)) (fun j => F_spec_l25Bits_k3 l281 i284 j)
  else
    some (.inr (.inl l281))
noncomputable def F_spec_l25Bits_k4  (l539 : (List Int)) : Option (List Int) :=
  some l539
noncomputable def F_spec_l25Bits (a0_0 : (List (List Int))) : Option (List Int) :=
  bnd (lp (fun s => F_spec_l25Bits_l1 a0_0 s.1 s.2) (([] : (List Int)), 0)) (fun j => F_spec_l25Bits_k4 j)
noncomputable def F_spec_l25All (a0_0 : (List (List Int))) : Option Int :=
  grd ((0 : Int) ≤ (a0_0.length : Int)) (
    ck (1 * 2 ^ ((a0_0.length : Int) : Int).toNat) (fun _ =>
      ck ((1 * 2 ^ ((a0_0.length : Int) : Int).toNat) - 1) (fun _ =>
        some ((1 * 2 ^ ((a0_0.length : Int) : Int).toNat) - 1))))
noncomputable def F_spec_l25Mask_l1 (a0 : (List Int)) (i27 : Int) (i29 : Int) : Option ((Int × Int) ⊕ (Int ⊕ Int)) :=
  if i29 < (a0.length : Int) then
    idx a0 i29 (fun x68 =>
      grd ((0 : Int) ≤ x68) (
        ck (1 * 2 ^ (x68 : Int).toNat) (fun _ =>
          ck (i29 + 1) (fun _ =>
            some (.inl (i64or i27 (1 * 2 ^ (x68 : Int).toNat), i29 + 1))))))
  else
    some (.inr (.inl i27))
noncomputable def F_spec_l25Mask_k2  (i56 : Int) : Option Int :=
  some i56
noncomputable def F_spec_l25Mask (a0 : (List Int)) : Option Int :=
  bnd (lp (fun s => F_spec_l25Mask_l1 a0 s.1 s.2) (0, 0)) (fun j => F_spec_l25Mask_k2 j)
noncomputable def F_spec_l27Low_l1 (a0 : Int) (i11 : Int) : Option (Int ⊕ (Int ⊕ Int)) :=
  grd ((0 : Int) ≤ i11) (
    if (i64and (a0 / 2 ^ (i11 : Int).toNat) 1) = 0 then
      ck (i11 + 1) (fun _ =>
        some (.inl (i11 + 1)))
    else
      some (.inr (.inl i11)))
noncomputable def F_spec_l27Low_k2  (i22 : Int) : Option Int :=
  some i22
noncomputable def F_spec_l27Low (a0 : Int) : Option Int :=
  bnd (lp (fun s => F_spec_l27Low_l1 a0 s) 0) (fun j => F_spec_l27Low_k2 j)
noncomputable def F_spec_l27Part_l2 (a0 : (List Int)) (a2 : Int) (i348 : Int) (t350 : Bool) (i351 : Int) : Option ((Int × Bool × Int) ⊕ ((Int × Bool) ⊕ ((Int × Bool) ⊕ (Int ⊕ Int)))) :=
  if i351 < (a0.length : Int) then
    grd ((0 : Int) ≤ i351) (
      if (i64and (i348 / 2 ^ (i351 : Int).toNat) 1) = 1 then
        idx a0 i351 (fun x410 =>
          if (i64andn (i64and x410 a2) i348) ≠ 0 then
            idx a0 i351 (fun x423 =>
              ck (i351 + 1) (fun _ =>
                some (.inl (i64or i348 (i64and x423 a2), true, i351 + 1))))
          else
            ck (i351 + 1) (fun _ =>
              some (.inl (i348, t350, i351 + 1))))
      else
        ck (i351 + 1) (fun _ =>
          some (.inl (i348, t350, i351 + 1))))
  else
    some (.inr (.inl (i348, t350)))
noncomputable def F_spec_l27Part_k3  (i395 : Int) (t397 : Bool) : Option ((Int × Bool) ⊕ (Int ⊕ Int)) :=
  some (.inl (i395, t397))
noncomputable def F_spec_l27Part_l1 (a0 : (List Int)) (a2 : Int) (i147 : Int) (t149 : Bool) : Option ((Int × Bool) ⊕ (Int ⊕ Int)) :=
  if t149 = true then
    bnd (lp (fun s => F_spec_l27Part_l2 a0 a2 s.1 s.2.1 s.2.2) (i147, false, 0)) (fun j => F_spec_l27Part_k3 j.1 j.2)
  else
    some (.inr (.inl i147))
noncomputable def F_spec_l27Part_k4  (i293 : Int) : Option Int :=
  some i293
noncomputable def F_spec_l27Part (a0 : (List Int)) (a1 : Int) (a2 : Int) : Option Int :=
  grd ((0 : Int) ≤ a1) (
    ck (1 * 2 ^ (a1 : Int).toNat) (fun _ =>
      bnd (lp (fun s => F_spec_l27Part_l1 a0 a2 s.1 s.2) (1 * 2 ^ (a1 : Int).toNat, true)) (fun j => F_spec_l27Part_k4 j)))
noncomputable def F_spec_l25Many_l1  (i14 : Int) (i16 : Int) : Option ((Int × Int) ⊕ (Int ⊕ Int)) :=
  if 0 < i14 then
    ck (i16 + 1) (fun _ =>
      ck (i14 - 1) (fun _ =>
        some (.inl (i64and i14 (i14 - 1), i16 + 1))))
  else
    some (.inr (.inl i16))
noncomputable def F_spec_l25Many_k2  (i30 : Int) : Option Int :=
  some i30
noncomputable def F_spec_l25Many (a0 : Int) : Option Int :=
  bnd (lp (fun s => F_spec_l25Many_l1 s.1 s.2) (a0, 0)) (fun j => F_spec_l25Many_k2 j)
noncomputable def F_spec_l27Parts_l1 (a0 : (List Int)) (i39 : Int) (i41 : Int) (i43 : Int) : Option ((Int × Int × Int) ⊕ ((Int × Int) ⊕ (Int × Int))) :=
  if 0 < i39 then
    cal (F_spec_l27Low i39) (fun x96 =>
      cal (F_spec_l27Part a0 x96 i39) (fun x103 =>
        ck (i41 + 1) (fun _ =>
          cal (F_spec_l25Many x103) (fun x112 =>
            grd ((0 : Int) ≤ x112 ∧ (0 : Int) < 2) (
              ck (i43 + (x112 % 2)) (fun _ =>
                some (.inl (i64andn i39 x103, i41 + 1, i43 + (x112 % 2)))))))))
  else
    some (.inr (.inl (i41, i43)))
noncomputable def F_spec_l27Parts_k2  (i82 : Int) (i84 : Int) : Option (Int × Int) :=
  some (i82, i84)
noncomputable def F_spec_l27Parts (a0 : (List Int)) (a1 : Int) : Option (Int × Int) :=
  bnd (lp (fun s => F_spec_l27Parts_l1 a0 s.1 s.2.1 s.2.2) (a1, 0, 0)) (fun j => F_spec_l27Parts_k2 j.1 j.2)
noncomputable def F_spec_OddParts (a0_0 : (List (List Int))) (a1 : (List Int)) : Option Int :=
  cal (F_spec_GraphOk a0_0) (fun x23 =>
    if ¬ (x23 = true) then
      some (-1)
    else
      cal (F_spec_SetOk a0_0 a1) (fun x30 =>
        if ¬ (x30 = true) then
          some (-1)
        else
          cal (F_spec_l25Bits a0_0) (fun x40 =>
            cal (F_spec_l25All a0_0) (fun x55 =>
              cal (F_spec_l25Mask a1) (fun x60 =>
                cal (F_spec_l27Parts x40 (i64andn x55 x60)) (fun x69 =>
                  some x69.2))))))
noncomputable def F_spec_BarrierOk (a0_0 : (List (List Int))) (a1 : (List Int)) (a2 : (List (List Int))) : Option Bool :=
  cal (F_spec_MatchOk a0_0 a2) (fun x9 =>
    if ¬ (x9 = true) then
      some false
    else
      cal (F_spec_SetOk a0_0 a1) (fun x16 =>
        if ¬ (x16 = true) then
          some false
        else
          ck (2 * (a2.length : Int)) (fun _ =>
            cal (F_spec_OddParts a0_0 a1) (fun x27 =>
              ck ((2 * (a2.length : Int)) + x27) (fun _ =>
                cal (F_spec_l1Size a0_0) (fun x34 =>
                  ck (x34 + (a1.length : Int)) (fun _ =>
                    some (decide (((2 * (a2.length : Int)) + x27) = (x34 + (a1.length : Int)))))))))))
noncomputable def F_impl_inRange (a0 : Int) (a1 : Int) (a2 : Int) : Option Bool :=
  if a1 ≤ a0 then
    some (decide (a0 ≤ a2))
  else
    some false
noncomputable def F_impl_increasing_l1 (a0 : (List Int)) (a1 : Int) (i49 : Int) : Option (Int ⊕ (Unit ⊕ Bool)) :=
  if i49 < (a0.length : Int) then
    idx a0 i49 (fun x108 =>
      ck (a1 - 1) (fun _ =>
        cal (F_impl_inRange x108 0 (a1 - 1)) (fun x122 =>
          if ¬ (x122 = true) then
            some (.inr (.inr false))
          else
            if 0 < i49 then
              ck (i49 - 1) (fun _ =>
                idx a0 (i49 - 1) (fun x134 =>
                  if x108 ≤ x134 then
                    some (.inr (.inr false))
                  else
                    ck (i49 + 1) (fun _ =>
                      some (.inl (i49 + 1)))))
            else
              ck (i49 + 1) (fun _ =>
                some (.inl (i49 + 1))))))
  else
    some (.inr (.inl ()))
noncomputable def F_impl_increasing_k2   : Option Bool :=
  some true
noncomputable def F_impl_increasing (a0 : (List Int)) (a1 : Int) : Option Bool :=
  bnd (lp (fun s => F_impl_increasing_l1 a0 a1 s) 0) (fun j => F_impl_increasing_k2 )
noncomputable def F_slices_Index_int64_l1 (a0 : (List Int)) (a1 : Int) (i23 : Int) : Option (Int ⊕ (Unit ⊕ Int)) :=
  if i23 < (a0.length : Int) then
    idx a0 i23 (fun x56 =>
      if a1 = x56 then
        some (.inr (.inr i23))
      else
        ck (i23 + 1) (fun _ =>
          some (.inl (i23 + 1))))
  else
    some (.inr (.inl ()))
noncomputable def F_slices_Index_int64_k2   : Option Int :=
  some (-1)
noncomputable def F_slices_Index_int64 (a0 : (List Int)) (a1 : Int) : Option Int :=
  bnd (lp (fun s => F_slices_Index_int64_l1 a0 a1 s) 0) (fun j => F_slices_Index_int64_k2 )
noncomputable def F_slices_Contains_int64 (a0 : (List Int)) (a1 : Int) : Option Bool :=
  cal (F_slices_Index_int64 a0 a1) (fun x1 =>
    some (decide (0 ≤ x1)))
noncomputable def F_impl_GraphOk_l1 (a0_0 : (List (List Int))) (i56 : Int) : Option (Int ⊕ (Unit ⊕ Bool)) :=
  if i56 < (a0_0.length : Int) then
    idx a0_0 i56 (fun x108 =>
      cal (F_impl_increasing x108 (a0_0.length : Int)) (fun x122 =>
        if ¬ (x122 = true) then
          some (.inr (.inr false))
        else
          cal (F_slices_Contains_int64 x108 i56) (fun x131 =>
            if x131 = true then
              some (.inr (.inr false))
            else
              ck (i56 + 1) (fun _ =>
                some (.inl (i56 + 1))))))
  else
    some (.inr (.inl ()))
noncomputable def F_impl_GraphOk_l4 (a0_0 : (List (List Int))) (i311 : Int) (x487 : (List Int)) (i549 : Int) : Option (Int ⊕ (Unit ⊕ (Int ⊕ (Unit ⊕ Bool)))) :=
  if i549 < (x487.length : Int) then
    idx x487 i549 (fun x606 =>
      idx a0_0 x606 (fun x618 =>
        cal (F_slices_Contains_int64 x618 i311) (fun x632 =>
          if ¬ (x632 = true) then
            some (.inr (.inr (.inr (.inr false))))
          else
            ck (i549 + 1) (fun _ =>
              some (.inl (i549 + 1))))))
  else
    some (.inr (.inl ()))
noncomputable def F_impl_GraphOk_k5 (i311 : Int)  : Option (Int ⊕ (Unit ⊕ Bool)) :=
  ck (i311 + 1) (fun _ =>
    some (.inl (i311 + 1)))
noncomputable def F_impl_GraphOk_l3 (a0_0 : (List (List Int))) (i311 : Int) : Option (Int ⊕ (Unit ⊕ Bool)) :=
  if i311 < (a0_0.length : Int) then
    idx a0_0 i311 (fun x487 =>
      bnd (lp (fun s => F_impl_GraphOk_l4 a0_0 i311 x487 s) 0) (fun j => F_impl_GraphOk_k5 i311 ))
  else
    some (.inr (.inl ()))
noncomputable def F_impl_GraphOk_k6   : Option Bool :=
  some true
noncomputable def F_impl_GraphOk_k2 (a0_0 : (List (List Int)))  : Option Bool :=
  bnd (lp (fun s => F_impl_GraphOk_l3 a0_0 s) 0) (fun j => F_impl_GraphOk_k6 )
noncomputable def F_impl_GraphOk (a0_0 : (List (List Int))) : Option Bool :=
  if (a0_0.length : Int) < 1 then
    some false
  else
    if 16 < (a0_0.length : Int) then
      some false
    else
      bnd (lp (fun s => F_impl_GraphOk_l1 a0_0 s) 0) (fun j => F_impl_GraphOk_k2 a0_0 )
noncomputable def F_impl_SetOk (a0_0 : (List (List Int))) (a1 : (List Int)) : Option Bool :=
  cal (F_impl_GraphOk a0_0) (fun x9 =>
    if x9 = true then
      cal (F_impl_increasing a1 (a0_0.length : Int)) (fun x16 =>
        some x16)
    else
      some false)
noncomputable def F_impl_isVertex (a0_0 : (List (List Int))) (a1 : Int) : Option Bool :=
  cal (F_impl_GraphOk a0_0) (fun x9 =>
    if x9 = true then
      ck ((a0_0.length : Int) - 1) (fun _ =>
        cal (F_impl_inRange a1 0 ((a0_0.length : Int) - 1)) (fun x18 =>
          some x18))
    else
      some false)
noncomputable def F_impl_EdgeIn (a0_0 : (List (List Int))) (a1 : Int) (a2 : Int) : Option Bool :=
  cal (F_impl_isVertex a0_0 a1) (fun x9 =>
    if x9 = true then
      idx a0_0 a1 (fun x16 =>
        cal (F_slices_Contains_int64 x16 a2) (fun x30 =>
          some x30))
    else
      some false)
noncomputable def F_impl_isEdge (a0_0 : (List (List Int))) (a1 : (List Int)) : Option Bool :=
  if (a1.length : Int) = 2 then
    idx a1 0 (fun x10 =>
      idx a1 1 (fun x22 =>
        if x10 < x22 then
          idx a1 0 (fun x35 =>
            idx a1 1 (fun x47 =>
              cal (F_impl_EdgeIn a0_0 x35 x47) (fun x61 =>
                some x61)))
        else
          some false))
  else
    some false
noncomputable def F_impl_one (a0 : Int) : Option (BitVec 32) :=
  grd ((0 : Int) ≤ a0) (
    some ((1#32) <<< (a0 : Int).toNat))
noncomputable def F_impl_maskOf_l1 (a0 : (List Int)) (u29 : BitVec 32) (i30 : Int) : Option (((BitVec 32) × Int) ⊕ ((BitVec 32) ⊕ (BitVec 32))) :=
  if i30 < (a0.length : Int) then
    idx a0 i30 (fun x70 =>
      cal (F_impl_one x70) (fun x82 =>
        ck (i30 + 1) (fun _ =>
          some (.inl (u29 ||| x82, i30 + 1)))))
  else
    some (.inr (.inl u29))
noncomputable def F_impl_maskOf_k2  (u59 : BitVec 32) : Option (BitVec 32) :=
  some u59
noncomputable def F_impl_maskOf (a0 : (List Int)) : Option (BitVec 32) :=
  bnd (lp (fun s => F_impl_maskOf_l1 a0 s.1 s.2) (0#32, 0)) (fun j => F_impl_maskOf_k2 j)
noncomputable def F_impl_MatchOk_l1 (a0_0 : (List (List Int))) (a1 : (List (List Int))) (u124 : BitVec 32) (i125 : Int) : Option (((BitVec 32) × Int) ⊕ (Unit ⊕ Bool)) :=
  if i125 < (a1.length : Int) then
    idx a1 i125 (fun x240 =>
      cal (F_impl_isEdge a0_0 x240) (fun x256 =>
        if ¬ (x256 = true) then
          some (.inr (.inr false))
        else
          cal (F_impl_maskOf x240) (fun x266 =>
            if (x266 &&& u124) ≠ (0#32) then
              some (.inr (.inr false))
            else
              if 0 < i125 then
                ck (i125 - 1) (fun _ =>
                  idx a1 (i125 - 1) (fun x277 =>
                    idx x277 0 (fun x291 =>
                      idx x240 0 (fun x303 =>
                        if x303 ≤ x291 then
                          some (.inr (.inr false))
                        else
                          cal (F_impl_maskOf x240) (fun x321 =>
                            ck (i125 + 1) (fun _ =>
                              some (.inl (u124 ||| x321, i125 + 1))))))))
              else
                cal (F_impl_maskOf x240) (fun x332 =>
                  ck (i125 + 1) (fun _ =>
                    some (.inl (u124 ||| x332, i125 + 1)))))))
  else
    some (.inr (.inl ()))
noncomputable def F_impl_MatchOk_k2   : Option Bool :=
  some true
noncomputable def F_impl_MatchOk (a0_0 : (List (List Int))) (a1 : (List (List Int))) : Option Bool :=
  cal (F_impl_GraphOk a0_0) (fun x9 =>
    if ¬ (x9 = true) then
      some false
    else
      bnd (lp (fun s => F_impl_MatchOk_l1 a0_0 a1 s.1 s.2) (0#32, 0)) (fun j => F_impl_MatchOk_k2 ))
noncomputable def F_impl_netsOf_l1 (a0_0 : (List (List Int))) (l84 : (List (BitVec 32))) (i87 : Int) : Option (((List (BitVec 32)) × Int) ⊕ ((List (BitVec 32)) ⊕ (List (BitVec 32)))) :=
  if i87 < (a0_0.length : Int) then
    idx a0_0 i87 (fun x162 =>
      cal (F_impl_maskOf x162) (fun x176 =>
        app l84 ([x176]) (fun _ =>
          ck (i87 + 1) (fun _ =>
            some (.inl ((l84 ++ ([x176])), i87 + 1))))))
  else
    some (.inr (.inl l84))
noncomputable def F_impl_netsOf_k2  (l149 : (List (BitVec 32))) : Option (List (BitVec 32)) :=
  some l149
noncomputable def F_impl_netsOf (a0_0 : (List (List Int))) : Option (List (BitVec 32)) :=
  bnd (lp (fun s => F_impl_netsOf_l1 a0_0 s.1 s.2) (([] : (List (BitVec 32))), 0)) (fun j => F_impl_netsOf_k2 j)
noncomputable def F_impl_firstOf (a0 : Int) : Option (BitVec 32) :=
  grd ((0 : Int) ≤ a0) (
    some (((1#32) <<< (a0 : Int).toNat) - (1#32)))
noncomputable def F_impl_nets_all (a0 : (List (BitVec 32))) : Option (BitVec 32) :=
  cal (F_impl_firstOf (a0.length : Int)) (fun x1 =>
    some x1)
noncomputable def F_math_bits_TrailingZeros32 (a0 : BitVec 32) : Option Int :=
  if a0 = (0#32) then
    some 32
  else
    idx deBruijn32 (BitVec.toNat (((a0 &&& (-a0)) * (125613361#32)) >>> (27 : Int).toNat) : Int) (fun x2 =>
      some (BitVec.toNat x2 : Int))
noncomputable def F_impl_vset_least (a0 : BitVec 32) : Option Int :=
  cal (F_math_bits_TrailingZeros32 a0) (fun x1 =>
    some x1)
noncomputable def F_impl_vset_list_l1  (u55 : BitVec 32) (l59 : (List Int)) : Option (((BitVec 32) × (List Int)) ⊕ ((List Int) ⊕ (List Int))) :=
  if u55 ≠ (0#32) then
    cal (F_impl_vset_least u55) (fun x119 =>
      app l59 ([x119]) (fun _ =>
        some (.inl (u55 &&& (u55 - (1#32)), (l59 ++ ([x119]))))))
  else
    some (.inr (.inl l59))
noncomputable def F_impl_vset_list_k2  (l106 : (List Int)) : Option (List Int) :=
  some l106
noncomputable def F_impl_vset_list (a0 : BitVec 32) : Option (List Int) :=
  bnd (lp (fun s => F_impl_vset_list_l1 s.1 s.2) (a0, ([] : (List Int)))) (fun j => F_impl_vset_list_k2 j)
noncomputable def F_impl_reach_l2 (a0 : (List (BitVec 32))) (a2 : BitVec 32) (x282 : (List Int)) (u332 : BitVec 32) (i336 : Int) : Option (((BitVec 32) × Int) ⊕ ((BitVec 32) ⊕ ((BitVec 32) ⊕ (Unit ⊕ (BitVec 32))))) :=
  if i336 < (x282.length : Int) then
    idx x282 i336 (fun x384 =>
      idx a0 x384 (fun x396 =>
        ck (i336 + 1) (fun _ =>
          some (.inl (u332 ||| (x396 &&& a2), i336 + 1)))))
  else
    some (.inr (.inl u332))
noncomputable def F_impl_reach_k3 (u140 : BitVec 32) (u373 : BitVec 32) : Option ((BitVec 32) ⊕ (Unit ⊕ (BitVec 32))) :=
  if u373 = u140 then
    some (.inr (.inr u140))
  else
    some (.inl u373)
noncomputable def F_impl_reach_l1 (a0 : (List (BitVec 32))) (a2 : BitVec 32) (u140 : BitVec 32) : Option ((BitVec 32) ⊕ (Unit ⊕ (BitVec 32))) :=
  cal (F_impl_vset_list u140) (fun x282 =>
    bnd (lp (fun s => F_impl_reach_l2 a0 a2 x282 s.1 s.2) (u140, 0)) (fun j => F_impl_reach_k3 u140 j))
noncomputable def F_impl_reach (a0 : (List (BitVec 32))) (a1 : Int) (a2 : BitVec 32) : Option (BitVec 32) :=
  cal (F_impl_one a1) (fun x1 =>
    bnd (lp (fun s => F_impl_reach_l1 a0 a2 s) x1) (fun _ => none))
noncomputable def F_impl_partsOf_l1 (a0 : (List (BitVec 32))) (u61 : BitVec 32) (l65 : (List (BitVec 32))) : Option (((BitVec 32) × (List (BitVec 32))) ⊕ ((List (BitVec 32)) ⊕ (List (BitVec 32)))) :=
  if u61 ≠ (0#32) then
    cal (F_impl_vset_least u61) (fun x131 =>
      cal (F_impl_reach a0 x131 u61) (fun x138 =>
        app l65 ([x138]) (fun _ =>
          some (.inl (u61 &&& ~~~x138, (l65 ++ ([x138])))))))
  else
    some (.inr (.inl l65))
noncomputable def F_impl_partsOf_k2  (l118 : (List (BitVec 32))) : Option (List (BitVec 32)) :=
  some l118
noncomputable def F_impl_partsOf (a0 : (List (BitVec 32))) (a1 : BitVec 32) : Option (List (BitVec 32)) :=
  bnd (lp (fun s => F_impl_partsOf_l1 a0 s.1 s.2) (a1, ([] : (List (BitVec 32))))) (fun j => F_impl_partsOf_k2 j)
noncomputable def F_math_bits_OnesCount32 (a0 : BitVec 32) : Option Int :=
  idx popTab (BitVec.toNat (a0 >>> (24 : Int).toNat) : Int) (fun x1 =>
    idx popTab (BitVec.toNat ((a0 >>> (16 : Int).toNat) &&& (255#32)) : Int) (fun x4 =>
      idx popTab (BitVec.toNat ((a0 >>> (8 : Int).toNat) &&& (255#32)) : Int) (fun x7 =>
        idx popTab (BitVec.toNat (a0 &&& (255#32)) : Int) (fun x10 =>
          some (BitVec.toNat (((x1 + x4) + x7) + x10) : Int)))))
noncomputable def F_impl_vset_size (a0 : BitVec 32) : Option Int :=
  cal (F_math_bits_OnesCount32 a0) (fun x1 =>
    some x1)
noncomputable def F_impl_oddParts_l1 (x1 : (List (BitVec 32))) (i51 : Int) (i56 : Int) : Option ((Int × Int) ⊕ (Int ⊕ Int)) :=
  if i56 < (x1.length : Int) then
    idx x1 i56 (fun x105 =>
      cal (F_impl_vset_size x105) (fun x116 =>
        grd ((0 : Int) ≤ x116 ∧ (0 : Int) < 2) (
          ck (i51 + (x116 % 2)) (fun _ =>
            ck (i56 + 1) (fun _ =>
              some (.inl (i51 + (x116 % 2), i56 + 1)))))))
  else
    some (.inr (.inl i51))
noncomputable def F_impl_oddParts_k2  (i93 : Int) : Option Int :=
  some i93
noncomputable def F_impl_oddParts (a0 : (List (BitVec 32))) (a1 : BitVec 32) : Option Int :=
  cal (F_impl_partsOf a0 a1) (fun x1 =>
    bnd (lp (fun s => F_impl_oddParts_l1 x1 s.1 s.2) (0, 0)) (fun j => F_impl_oddParts_k2 j))
noncomputable def F_impl_OddParts (a0_0 : (List (List Int))) (a1 : (List Int)) : Option Int :=
  cal (F_impl_SetOk a0_0 a1) (fun x9 =>
    if ¬ (x9 = true) then
      some (-1)
    else
      cal (F_impl_netsOf a0_0) (fun x16 =>
        cal (F_impl_nets_all x16) (fun x32 =>
          cal (F_impl_maskOf a1) (fun x38 =>
            cal (F_impl_oddParts x16 (x32 &&& ~~~x38)) (fun x47 =>
              some x47)))))
noncomputable def F_impl_BarrierOk (a0_0 : (List (List Int))) (a1 : (List Int)) (a2 : (List (List Int))) : Option Bool :=
  cal (F_impl_SetOk a0_0 a1) (fun x11 =>
    if x11 = true then
      cal (F_impl_MatchOk a0_0 a2) (fun x16 =>
        if x16 = true then
          ck (2 * (a2.length : Int)) (fun _ =>
            cal (F_impl_OddParts a0_0 a1) (fun x23 =>
              ck ((2 * (a2.length : Int)) + x23) (fun _ =>
                ck ((a0_0.length : Int) + (a1.length : Int)) (fun _ =>
                  some (decide (((2 * (a2.length : Int)) + x23) = ((a0_0.length : Int) + (a1.length : Int))))))))
        else
          some false)
    else
      some false)
noncomputable def F_laws_eqInt64S_l1 (a0 : (List Int)) (a1 : (List Int)) (i39 : Int) : Option (Int ⊕ (Unit ⊕ Bool)) :=
  if i39 < (a0.length : Int) then
    idx a0 i39 (fun x87 =>
      idx a1 i39 (fun x99 =>
        if x87 ≠ x99 then
          some (.inr (.inr false))
        else
          ck (i39 + 1) (fun _ =>
            some (.inl (i39 + 1)))))
  else
    some (.inr (.inl ()))
noncomputable def F_laws_eqInt64S_k2   : Option Bool :=
  some true
noncomputable def F_laws_eqInt64S (a0 : (List Int)) (a1 : (List Int)) : Option Bool :=
  if (a0.length : Int) ≠ (a1.length : Int) then
    some false
  else
    bnd (lp (fun s => F_laws_eqInt64S_l1 a0 a1 s) 0) (fun j => F_laws_eqInt64S_k2 )
noncomputable def F_laws_eqInt64SS_l1 (a0 : (List (List Int))) (a1 : (List (List Int))) (i47 : Int) : Option (Int ⊕ (Unit ⊕ Bool)) :=
  if i47 < (a0.length : Int) then
    idx a0 i47 (fun x103 =>
      idx a1 i47 (fun x117 =>
        cal (F_laws_eqInt64S x103 x117) (fun x133 =>
          if ¬ (x133 = true) then
            some (.inr (.inr false))
          else
            ck (i47 + 1) (fun _ =>
              some (.inl (i47 + 1))))))
  else
    some (.inr (.inl ()))
noncomputable def F_laws_eqInt64SS_k2   : Option Bool :=
  some true
noncomputable def F_laws_eqInt64SS (a0 : (List (List Int))) (a1 : (List (List Int))) : Option Bool :=
  if (a0.length : Int) ≠ (a1.length : Int) then
    some false
  else
    bnd (lp (fun s => F_laws_eqInt64SS_l1 a0 a1 s) 0) (fun j => F_laws_eqInt64SS_k2 )
noncomputable def F_laws_eqGraph (a0_0 : (List (List Int))) (a1_0 : (List (List Int))) : Option Bool :=
  cal (F_laws_eqInt64SS a0_0 a1_0) (fun x19 =>
    if ¬ (x19 = true) then
      some false
    else
      some true)
noncomputable def F_laws_FnExactBarrierOk (a0_0 : (List (List Int))) (a1 : (List Int)) (a2 : (List (List Int))) : Option Bool :=
  if 1048576 < (a1.length : Int) then
    some true
  else
    cal (F_laws_szGraph a0_0 1048576) (fun x10 =>
      if x10 < 0 then
        some true
      else
        cal (F_laws_szInt64SS a2 x10) (fun x18 =>
          if x18 < 0 then
            some true
          else
            cal (F_laws_toGraph a0_0) (fun x26 =>
              cal (F_laws_toInt64S a1) (fun x45 =>
                cal (F_laws_toInt64SS a2) (fun x61 =>
                  cal (F_spec_BarrierOk x26 x45 x61) (fun x95 =>
                    cal (F_laws_toGraph a0_0) (fun x101 =>
                      cal (F_laws_toInt64S a1) (fun x136 =>
                        cal (F_laws_toInt64SS a2) (fun x154 =>
                          cal (F_impl_BarrierOk x101 x136 x154) (fun x191 =>
                            if (x191 != x95) = true then
                              some false
                            else
                              cal (F_laws_toGraph a0_0) (fun x201 =>
                                cal (F_laws_eqGraph x101 x201) (fun x242 =>
                                  if ¬ (x242 = true) then
                                    some false
                                  else
                                    cal (F_laws_toInt64S a1) (fun x248 =>
                                      cal (F_laws_eqInt64S x136 x248) (fun x270 =>
                                        if ¬ (x270 = true) then
                                          some false
                                        else
                                          cal (F_laws_toInt64SS a2) (fun x277 =>
                                            cal (F_laws_eqInt64SS x154 x277) (fun x302 =>
                                              if ¬ (x302 = true) then
                                                some false
                                              else
                                                some true))))))))))))))))
end Go.Proofs.YtdlmmchdpnmaeaaDoor
