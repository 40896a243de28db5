/- Functional forms, printed by gen.py. -/
import Derived.Test.YtnebbhginakaiaaDoorPure
import Derived.Test.YtnebbhginakaiaaDoorRul
namespace Go.Proofs.YtnebbhginakaiaaDoor

noncomputable def F_laws_szInt64S (a0 : (List Int)) (a1 : Int) : Option Int :=
  ck (a1 - (a0.length : Int)) (fun _ =>
    if (a1 - (a0.length : Int)) < 0 then
      some (-1)
    else
      some (a1 - (a0.length : Int)))
noncomputable def F_laws_szInt64SS_l1 (a0 : (List (List Int))) (i37 : Int) (i39 : Int) : Option ((Int × Int) ⊕ (Int ⊕ Int)) :=
  if i39 < (a0.length : Int) then
    idx a0 i39 (fun x85 =>
      cal (F_laws_szInt64S x85 i37) (fun x99 =>
        if x99 < 0 then
          some (.inr (.inr (-1)))
        else
          ck (i39 + 1) (fun _ =>
            some (.inl (x99, i39 + 1)))))
  else
    some (.inr (.inl i37))
noncomputable def F_laws_szInt64SS_k2  (i73 : Int) : Option Int :=
  some i73
noncomputable def F_laws_szInt64SS (a0 : (List (List Int))) (a1 : Int) : Option Int :=
  ck (a1 - (a0.length : Int)) (fun _ =>
    if (a1 - (a0.length : Int)) < 0 then
      some (-1)
    else
      bnd (lp (fun s => F_laws_szInt64SS_l1 a0 s.1 s.2) (a1 - (a0.length : Int), 0)) (fun j => F_laws_szInt64SS_k2 j))
noncomputable def F_laws_szGraph (a0_0 : (List (List Int))) (a1 : Int) : Option Int :=
  cal (F_laws_szInt64SS a0_0 a1) (fun x9 =>
    if x9 < 0 then
      some (-1)
    else
      some x9)
noncomputable def F_laws_szNice (a0_0 : (List Int)) (a0_1 : (List Int)) (a0_2 : (List (List Int))) (a0_3 : (List (List Int))) (a1 : Int) : Option Int :=
  cal (F_laws_szInt64S a0_0 a1) (fun x9 =>
    if x9 < 0 then
      some (-1)
    else
      cal (F_laws_szInt64S a0_1 x9) (fun x17 =>
        if x17 < 0 then
          some (-1)
        else
          cal (F_laws_szInt64SS a0_2 x17) (fun x25 =>
            if x25 < 0 then
              some (-1)
            else
              cal (F_laws_szInt64SS a0_3 x25) (fun x33 =>
                if x33 < 0 then
                  some (-1)
                else
                  some x33))))
noncomputable def F_laws_toInt64S_l1 (a0 : (List Int)) (l63 : (List Int)) (i66 : Int) : Option (((List Int) × Int) ⊕ ((List Int) ⊕ (List Int))) :=
  if i66 < (a0.length : Int) then
    idx a0 i66 (fun x128 =>
      idx l63 i66 (fun x140 =>
        ck (i66 + 1) (fun _ =>
          some (.inl ((l63.set ((i66 : Int).toNat) x128), i66 + 1)))))
  else
    some (.inr (.inl l63))
noncomputable def F_laws_toInt64S_k2  (l115 : (List Int)) : Option (List Int) :=
  some l115
noncomputable def F_laws_toInt64S (a0 : (List Int)) : Option (List Int) :=
  mkS (a0.length : Int) (0 : Int) (fun _ =>
    bnd (lp (fun s => F_laws_toInt64S_l1 a0 s.1 s.2) ((List.replicate ((a0.length : Int) : Int).toNat (0 : Int)), 0)) (fun j => F_laws_toInt64S_k2 j))
noncomputable def F_laws_toInt64SS_l1 (a0 : (List (List Int))) (l96 : (List (List Int))) (i99 : Int) : Option (((List (List Int)) × Int) ⊕ ((List (List Int)) ⊕ (List (List Int)))) :=
  if i99 < (a0.length : Int) then
    idx a0 i99 (fun x191 =>
      cal (F_laws_toInt64S x191) (fun x205 =>
        idx l96 i99 (fun x219 =>
          ck (i99 + 1) (fun _ =>
            some (.inl ((l96.set ((i99 : Int).toNat) x205), i99 + 1))))))
  else
    some (.inr (.inl l96))
noncomputable def F_laws_toInt64SS_k2  (l178 : (List (List Int))) : Option (List (List Int)) :=
  some l178
noncomputable def F_laws_toInt64SS (a0 : (List (List Int))) : Option (List (List Int)) :=
  mkS (a0.length : Int) ([] : (List Int)) (fun _ =>
    bnd (lp (fun s => F_laws_toInt64SS_l1 a0 s.1 s.2) ((List.replicate ((a0.length : Int) : Int).toNat ([] : (List Int))), 0)) (fun j => F_laws_toInt64SS_k2 j))
noncomputable def F_laws_toGraph (a0_0 : (List (List Int))) : Option (List (List Int)) :=
  cal (F_laws_toInt64SS a0_0) (fun x31 =>
    some x31)
noncomputable def F_laws_toNice (a0_0 : (List Int)) (a0_1 : (List Int)) (a0_2 : (List (List Int))) (a0_3 : (List (List Int))) : Option ((List Int) × ((List Int) × ((List (List Int)) × (List (List Int))))) :=
  cal (F_laws_toInt64S a0_0) (fun x31 =>
    cal (F_laws_toInt64S a0_1) (fun x52 =>
      cal (F_laws_toInt64SS a0_2) (fun x75 =>
        cal (F_laws_toInt64SS a0_3) (fun x109 =>
          some (x31, x52, x75, x109)))))
noncomputable def F_spec_l1Size (a0_0 : (List (List Int))) : Option Int :=
  some (a0_0.length : Int)
noncomputable def F_spec_l1In (a0 : Int) (a1 : Int) (a2 : Int) : Option Bool :=
  if a1 ≤ a0 then
    some (decide (a0 ≤ a2))
  else
    some false
noncomputable def F_spec_l1Set_l1 (a0 : (List Int)) (a1 : Int) (i69 : Int) : Option (Int ⊕ (Unit ⊕ Bool)) :=
  if i69 < (a0.length : Int) then
    idx a0 i69 (fun x147 =>
      ck (a1 - 1) (fun _ =>
        cal (F_spec_l1In x147 0 (a1 - 1)) (fun x163 =>
          if ¬ (x163 = true) then
            some (.inr (.inr false))
          else
            if 0 < i69 then
              idx a0 i69 (fun x172 =>
                ck (i69 - 1) (fun _ =>
                  idx a0 (i69 - 1) (fun x186 =>
                    if x172 ≤ x186 then
                      some (.inr (.inr false))
                    else
                      ck (i69 + 1) (fun _ =>
                        some (.inl (i69 + 1))))))
            else
              ck (i69 + 1) (fun _ =>
                some (.inl (i69 + 1))))))
  else
    some (.inr (.inl ()))
noncomputable def F_spec_l1Set_k2   : Option Bool :=
  some true
noncomputable def F_spec_l1Set (a0 : (List Int)) (a1 : Int) : Option Bool :=
  if a1 < (a0.length : Int) then
    some false
  else
    bnd (lp (fun s => F_spec_l1Set_l1 a0 a1 s) 0) (fun j => F_spec_l1Set_k2 )
noncomputable def F_spec_l1Has_l1 (a0 : (List Int)) (a1 : Int) (i23 : Int) : Option (Int ⊕ (Unit ⊕ Bool)) :=
  if i23 < (a0.length : Int) then
    idx a0 i23 (fun x56 =>
      if x56 = a1 then
        some (.inr (.inr true))
      else
        ck (i23 + 1) (fun _ =>
          some (.inl (i23 + 1))))
  else
    some (.inr (.inl ()))
noncomputable def F_spec_l1Has_k2   : Option Bool :=
  some false
noncomputable def F_spec_l1Has (a0 : (List Int)) (a1 : Int) : Option Bool :=
  bnd (lp (fun s => F_spec_l1Has_l1 a0 a1 s) 0) (fun j => F_spec_l1Has_k2 )
noncomputable def F_spec_GraphOk_l1 (a0_0 : (List (List Int))) (x9 : Int) (i80 : Int) : Option (Int ⊕ (Unit ⊕ Bool)) :=
  if i80 < x9 then
    idx a0_0 i80 (fun x146 =>
      cal (F_spec_l1Set x146 x9) (fun x160 =>
        if ¬ (x160 = true) then
          some (.inr (.inr false))
        else
          idx a0_0 i80 (fun x169 =>
            cal (F_spec_l1Has x169 i80) (fun x183 =>
              if x183 = true then
                some (.inr (.inr false))
              else
                ck (i80 + 1) (fun _ =>
                  some (.inl (i80 + 1)))))))
  else
    some (.inr (.inl ()))
noncomputable def F_spec_GraphOk_l4 (a0_0 : (List (List Int))) (i436 : Int) (i762 : Int) : Option (Int ⊕ (Unit ⊕ (Int ⊕ (Unit ⊕ Bool)))) :=
  idx a0_0 i436 (fun x847 =>
    if i762 < (x847.length : Int) then
      idx a0_0 i436 (fun x862 =>
        idx x862 i762 (fun x876 =>
          idx a0_0 x876 (fun x888 =>
            cal (F_spec_l1Has x888 i436) (fun x904 =>
              if ¬ (x904 = true) then
                some (.inr (.inr (.inr (.inr false))))
              else
                ck (i762 + 1) (fun _ =>
                  some (.inl (i762 + 1)))))))
    else
      some (.inr (.inl ())))
noncomputable def F_spec_GraphOk_k5 (i436 : Int)  : Option (Int ⊕ (Unit ⊕ Bool)) :=
  ck (i436 + 1) (fun _ =>
    some (.inl (i436 + 1)))
noncomputable def F_spec_GraphOk_l3 (a0_0 : (List (List Int))) (x9 : Int) (i436 : Int) : Option (Int ⊕ (Unit ⊕ Bool)) :=
  if i436 < x9 then
    bnd (lp (fun s => F_spec_GraphOk_l4 a0_0 i436 s) 0) (fun j => F_spec_GraphOk_k5 i436 )
  else
    some (.inr (.inl ()))
noncomputable def F_spec_GraphOk_k6   : Option Bool :=
  some true
noncomputable def F_spec_GraphOk_k2 (a0_0 : (List (List Int))) (x9 : Int)  : Option Bool :=
  bnd (lp (fun s => F_spec_GraphOk_l3 a0_0 x9 s) 0) (fun j => F_spec_GraphOk_k6 )
noncomputable def F_spec_GraphOk (a0_0 : (List (List Int))) : Option Bool :=
  cal (F_spec_l1Size a0_0) (fun x9 =>
    cal (F_spec_l1In x9 1 16) (fun x16 =>
      if ¬ (x16 = true) then
        some false
      else
        bnd (lp (fun s => F_spec_GraphOk_l1 a0_0 x9 s) 0) (fun j => F_spec_GraphOk_k2 a0_0 x9 )))
noncomputable def F_spec_l1Copy (a0 : (List Int)) : Option (List Int) :=
  app ([] : (List Int)) a0 (fun _ =>
    some (([] : (List Int)) ++ a0))
noncomputable def F_spec_l1Into_l1 (a0 : (List Int)) (a1 : Int) (i23 : Int) : Option (Int ⊕ (Int ⊕ (List Int))) :=
  if i23 < (a0.length : Int) then
    idx a0 i23 (fun x58 =>
      if x58 < a1 then
        ck (i23 + 1) (fun _ =>
          some (.inl (i23 + 1)))
      else
        some (.inr (.inl i23)))
  else
    some (.inr (.inl i23))
noncomputable def F_spec_l1Into_k2 (a0 : (List Int)) (a1 : Int) (i46 : Int) : Option (List Int) :=
  if i46 < (a0.length : Int) then
    idx a0 i46 (fun x74 =>
      if x74 = a1 then
        some a0
      else
        slc a0 0 i46 (fun _ =>
          cal (F_spec_l1Copy ((a0.drop (0 : Int).toNat).take ((i46 : Int).toNat - (0 : Int).toNat))) (fun x95 =>
            app x95 ([a1]) (fun _ =>
              slc a0 i46 (a0.length : Int) (fun _ =>
                app (x95 ++ ([a1])) ((a0.drop (i46 : Int).toNat).take (((a0.length : Int) : Int).toNat - (i46 : Int).toNat)) (fun _ =>
                  some ((x95 ++ ([a1])) ++ ((a0.drop (i46 : Int).toNat).take (((a0.length : Int) : Int).toNat - (i46 : Int).toNat)))))))))
  else
    slc a0 0 i46 (fun _ =>
      cal (F_spec_l1Copy ((a0.drop (0 : Int).toNat).take ((i46 : Int).toNat - (0 : Int).toNat))) (fun x159 =>
        app x159 ([a1]) (fun _ =>
          slc a0 i46 (a0.length : Int) (fun _ =>
            app (x159 ++ ([a1])) ((a0.drop (i46 : Int).toNat).take (((a0.length : Int) : Int).toNat - (i46 : Int).toNat)) (fun _ =>
              some ((x159 ++ ([a1])) ++ ((a0.drop (i46 : Int).toNat).take (((a0.length : Int) : Int).toNat - (i46 : Int).toNat))))))))
noncomputable def F_spec_l1Into (a0 : (List Int)) (a1 : Int) : Option (List Int) :=
  bnd (lp (fun s => F_spec_l1Into_l1 a0 a1 s) 0) (fun j => F_spec_l1Into_k2 a0 a1 j)
noncomputable def F_spec_l1Same_l1 (a0 : (List Int)) (a1 : (List Int)) (i39 : Int) : Option (Int ⊕ (Unit ⊕ Bool)) :=
  if i39 < (a0.length : Int) then
    idx a0 i39 (fun x87 =>
      idx a1 i39 (fun x99 =>
        if x87 ≠ x99 then
          some (.inr (.inr false))
        else
          ck (i39 + 1) (fun _ =>
            some (.inl (i39 + 1)))))
  else
    some (.inr (.inl ()))
noncomputable def F_spec_l1Same_k2   : Option Bool :=
  some true
noncomputable def F_spec_l1Same (a0 : (List Int)) (a1 : (List Int)) : Option Bool :=
  if (a0.length : Int) ≠ (a1.length : Int) then
    some false
  else
    bnd (lp (fun s => F_spec_l1Same_l1 a0 a1 s) 0) (fun j => F_spec_l1Same_k2 )
noncomputable def F_spec_l29More (a0 : (List Int)) (a1 : (List Int)) (a2 : Int) : Option Bool :=
  cal (F_spec_l1Has a0 a2) (fun x1 =>
    if ¬ (x1 = true) then
      cal (F_spec_l1Into a0 a2) (fun x8 =>
        cal (F_spec_l1Same x8 a1) (fun x18 =>
          some x18))
    else
      some false)
noncomputable def F_spec_l29Node_l1 (a2 : Int) (x33 : (List Int)) (i113 : Int) : Option (Int ⊕ (Unit ⊕ Bool)) :=
  if i113 < (x33.length : Int) then
    idx x33 i113 (fun x158 =>
      ck (a2 - 1) (fun _ =>
        cal (F_spec_l1In x158 0 (a2 - 1)) (fun x172 =>
          if ¬ (x172 = true) then
            some (.inr (.inr false))
          else
            ck (i113 + 1) (fun _ =>
              some (.inl (i113 + 1))))))
  else
    some (.inr (.inl ()))
noncomputable def F_spec_l29Node_k2 (a1_0 : (List Int)) (a1_1 : (List Int)) (a1_2 : (List (List Int))) (a2 : Int) (x19 : (List Int)) (x33 : (List Int))  : Option Bool :=
  idx a1_0 a2 (fun x183 =>
    if x183 = 1 then
      idx a1_1 a2 (fun x196 =>
        if x196 = (-1) then
          if (x19.length : Int) = 0 then
            some (decide ((x33.length : Int) = 0))
          else
            some false
        else
          some false)
    else
      if x183 = 2 then
        if (x33.length : Int) = 1 then
          idx x33 0 (fun x212 =>
            idx a1_2 x212 (fun x224 =>
              idx a1_1 a2 (fun x238 =>
                cal (F_spec_l29More x224 x19 x238) (fun x252 =>
                  some x252))))
        else
          some false
      else
        if x183 = 3 then
          if (x33.length : Int) = 1 then
            idx x33 0 (fun x262 =>
              idx a1_2 x262 (fun x274 =>
                idx a1_1 a2 (fun x288 =>
                  cal (F_spec_l29More x19 x274 x288) (fun x302 =>
                    some x302))))
          else
            some false
        else
          if x183 = 4 then
            idx a1_1 a2 (fun x311 =>
              if x311 = (-1) then
                if (x33.length : Int) = 2 then
                  idx x33 0 (fun x325 =>
                    idx a1_2 x325 (fun x337 =>
                      cal (F_spec_l1Same x337 x19) (fun x353 =>
                        if x353 = true then
                          idx x33 1 (fun x356 =>
                            idx a1_2 x356 (fun x368 =>
                              cal (F_spec_l1Same x368 x19) (fun x384 =>
                                some x384)))
                        else
                          some false)))
                else
                  some false
              else
                some false)
          else
            some false)
noncomputable def F_spec_l29Node (a0_0 : (List (List Int))) (a1_0 : (List Int)) (a1_1 : (List Int)) (a1_2 : (List (List Int))) (a1_3 : (List (List Int))) (a2 : Int) : Option Bool :=
  idx a1_2 a2 (fun x19 =>
    idx a1_3 a2 (fun x33 =>
      if 8 < (x19.length : Int) then
        some false
      else
        cal (F_spec_l1Size a0_0) (fun x63 =>
          cal (F_spec_l1Set x19 x63) (fun x70 =>
            if ¬ (x70 = true) then
              some false
            else
              bnd (lp (fun s => F_spec_l29Node_l1 a2 x33 s) 0) (fun j => F_spec_l29Node_k2 a1_0 a1_1 a1_2 a2 x19 x33 )))))
noncomputable def F_spec_l29Tree_l2 (a0_3 : (List (List Int))) (i350 : Int) (l785 : (List Int)) (i788 : Int) : Option (((List Int) × Int) ⊕ ((List Int) ⊕ (((List Int) × Int) ⊕ ((List Int) ⊕ Bool)))) :=
  idx a0_3 i350 (fun x901 =>
    if i788 < (x901.length : Int) then
      idx a0_3 i350 (fun x916 =>
        idx x916 i788 (fun x930 =>
          idx l785 x930 (fun x942 =>
            ck (x942 + 1) (fun _ =>
              idx l785 x930 (fun x956 =>
                ck (i788 + 1) (fun _ =>
                  some (.inl ((l785.set ((x930 : Int).toNat) (x942 + 1)), i788 + 1))))))))
    else
      some (.inr (.inl l785)))
noncomputable def F_spec_l29Tree_k3 (i350 : Int) (l887 : (List Int)) : Option (((List Int) × Int) ⊕ ((List Int) ⊕ Bool)) :=
  ck (i350 + 1) (fun _ =>
    some (.inl (l887, i350 + 1)))
noncomputable def F_spec_l29Tree_l1 (a0_3 : (List (List Int))) (l347 : (List Int)) (i350 : Int) : Option (((List Int) × Int) ⊕ ((List Int) ⊕ Bool)) :=
  if i350 < (a0_3.length : Int) then
    bnd (lp (fun s => F_spec_l29Tree_l2 a0_3 i350 s.1 s.2) (l347, 0)) (fun j => F_spec_l29Tree_k3 i350 j)
  else
    some (.inr (.inl l347))
noncomputable def F_spec_l29Tree_l5 (l669 : (List Int)) (i1011 : Int) : Option (Int ⊕ (Unit ⊕ Bool)) :=
  ck (i1011 + 1) (fun _ =>
    if (i1011 + 1) < (l669.length : Int) then
      idx l669 i1011 (fun x1051 =>
        if x1051 ≠ 1 then
          some (.inr (.inr false))
        else
          ck (i1011 + 1) (fun _ =>
            some (.inl (i1011 + 1))))
    else
      some (.inr (.inl ())))
noncomputable def F_spec_l29Tree_k6   : Option Bool :=
  some true
noncomputable def F_spec_l29Tree_k4  (l669 : (List Int)) : Option Bool :=
  bnd (lp (fun s => F_spec_l29Tree_l5 l669 s) 0) (fun j => F_spec_l29Tree_k6 )
noncomputable def F_spec_l29Tree (a0_0 : (List Int)) (a0_1 : (List Int)) (a0_2 : (List (List Int))) (a0_3 : (List (List Int))) : Option Bool :=
  mkS (a0_0.length : Int) (0 : Int) (fun _ =>
    bnd (lp (fun s => F_spec_l29Tree_l1 a0_3 s.1 s.2) ((List.replicate ((a0_0.length : Int) : Int).toNat (0 : Int)), 0)) (fun j => F_spec_l29Tree_k4 j))
noncomputable def F_spec_l25Mask_l1 (a0 : (List Int)) (i27 : Int) (i29 : Int) : Option ((Int × Int) ⊕ (Int ⊕ Int)) :=
  if i29 < (a0.length : Int) then
    idx a0 i29 (fun x68 =>
      grd ((0 : Int) ≤ x68) (
        ck (1 * 2 ^ (x68 : Int).toNat) (fun _ =>
          ck (i29 + 1) (fun _ =>
            some (.inl (i64or i27 (1 * 2 ^ (x68 : Int).toNat), i29 + 1))))))
  else
    some (.inr (.inl i27))
noncomputable def F_spec_l25Mask_k2  (i56 : Int) : Option Int :=
  some i56
noncomputable def F_spec_l25Mask (a0 : (List Int)) : Option Int :=
  bnd (lp (fun s => F_spec_l25Mask_l1 a0 s.1 s.2) (0, 0)) (fun j => F_spec_l25Mask_k2 j)
noncomputable def F_spec_l25Bits_l2 (a0_0 : (List (List Int))) (i284 : Int) (i625 : Int) (i627 : Int) : Option ((Int × Int) ⊕ (Int ⊕ (((List Int) × Int) ⊕ ((List Int) ⊕ (List Int))))) :=
  idx a0_0 i284 (fun x709 =>
    if i627 < (x709.length : Int) then
      idx a0_0 i284 (fun x724 =>
        idx x724 i627 (fun x738 =>
          grd ((0 : Int) ≤ x738) (
            ck (1 * 2 ^ (x738 : Int).toNat) (fun _ =>
              ck (i627 + 1) (fun _ =>
                some (.inl (i64or i625 (1 * 2 ^ (x738 : Int).toNat), i627 + 1)))))))
    else
      some (.inr (.inl i625)))
noncomputable def F_spec_l25Bits_k3 (l281 : (List Int)) (i284 : Int) (i696 : Int) : Option (((List Int) × Int) ⊕ ((List Int) ⊕ (List Int))) :=
  app l281 ([i696]) (fun _ =>
    ck (i284 + 1) (fun _ =>
      some (.inl ((l281 ++ ([i696])), i284 + 1))))
noncomputable def F_spec_l25Bits_l1 (a0_0 : (List (List Int))) (l281 : (List Int)) (i284 : Int) : Option (((List Int) × Int) ⊕ ((List Int) ⊕ (List Int))) :=
  if i284 < (a0_0.length : Int) then
    bnd (lp (fun s => F_spec_l25Bits_l2 a0_0 i284 s.1 s.2) (0, 0)) (fun j => F_spec_l25Bits_k3 l281 i284 j)
  else
    some (.inr (.inl l281))
noncomputable def F_spec_l25Bits_k4  (l539 : (List Int)) : Option (List Int) :=
  some l539
noncomputable def F_spec_l25Bits (a0_0 : (List (List Int))) : Option (List Int) :=
  bnd (lp (fun s => F_spec_l25Bits_l1 a0_0 s.1 s.2) (([] : (List Int)), 0)) (fun j => F_spec_l25Bits_k4 j)
noncomputable def F_spec_l29Whole_l3 (a1_2 : (List (List Int))) (i750 : Int) (x1612 : Int) (l1787 : (List Int)) (i1790 : Int) : Option (((List Int) × Int) ⊕ ((List Int) ⊕ (((List Int) × (List Int) × Int) ⊕ (((List Int) × (List Int)) ⊕ Bool)))) :=
  idx a1_2 i750 (fun x1973 =>
    if i1790 < (x1973.length : Int) then
      idx a1_2 i750 (fun x1988 =>
        idx x1988 i1790 (fun x2002 =>
          idx a1_2 i750 (fun x2014 =>
            idx x2014 i1790 (fun x2028 =>
              idx l1787 x2028 (fun x2040 =>
                idx l1787 x2002 (fun x2052 =>
                  ck (i1790 + 1) (fun _ =>
                    some (.inl ((l1787.set ((x2002 : Int).toNat) (i64or x2040 x1612)), i1790 + 1)))))))))
    else
      some (.inr (.inl l1787)))
noncomputable def F_spec_l29Whole_k4 (i750 : Int) (l1522 : (List Int)) (l1949 : (List Int)) : Option (((List Int) × (List Int) × Int) ⊕ (((List Int) × (List Int)) ⊕ Bool)) :=
  ck (i750 + 1) (fun _ =>
    some (.inl (l1522, l1949, i750 + 1)))
noncomputable def F_spec_l29Whole_k2 (a1_2 : (List (List Int))) (l747 : (List Int)) (i750 : Int) (l1522 : (List Int)) : Option (((List Int) × (List Int) × Int) ⊕ (((List Int) × (List Int)) ⊕ Bool)) :=
  idx a1_2 i750 (fun x1598 =>
    cal (F_spec_l25Mask x1598) (fun x1612 =>
      bnd (lp (fun s => F_spec_l29Whole_l3 a1_2 i750 x1612 s.1 s.2) (l747, 0)) (fun j => F_spec_l29Whole_k4 i750 l1522 j)))
noncomputable def F_spec_l29Whole_l1 (a1_0 : (List Int)) (a1_1 : (List Int)) (a1_2 : (List (List Int))) (l741 : (List Int)) (l747 : (List Int)) (i750 : Int) : Option (((List Int) × (List Int) × Int) ⊕ (((List Int) × (List Int)) ⊕ Bool)) :=
  if i750 < (a1_0.length : Int) then
    bnd (
      idx a1_0 i750 (fun x1541 =>
        if x1541 = 3 then
          idx a1_1 i750 (fun x1554 =>
            idx l741 x1554 (fun x1566 =>
              ck (x1566 + 1) (fun _ =>
                idx l741 x1554 (fun x1580 =>
                  some (.inl (l741.set ((x1554 : Int).toNat) (x1566 + 1)))))))
        else
          some (.inl l741))) (fun j => F_spec_l29Whole_k2 a1_2 l747 i750 j)
  else
    some (.inr (.inl (l741, l747)))
noncomputable def F_spec_l29Whole_l6 (l1429 : (List Int)) (l1435 : (List Int)) (x2080 : (List Int)) (i2189 : Int) : Option (Int ⊕ (Unit ⊕ Bool)) :=
  if i2189 < (l1429.length : Int) then
    idx l1429 i2189 (fun x2274 =>
      if x2274 ≠ 1 then
        some (.inr (.inr false))
      else
        idx x2080 i2189 (fun x2292 =>
          idx l1435 i2189 (fun x2304 =>
            if (i64andn x2292 x2304) ≠ 0 then
              some (.inr (.inr false))
            else
              ck (i2189 + 1) (fun _ =>
                some (.inl (i2189 + 1))))))
  else
    some (.inr (.inl ()))
noncomputable def F_spec_l29Whole_k7   : Option Bool :=
  some true
noncomputable def F_spec_l29Whole_k5 (a0_0 : (List (List Int))) (l1429 : (List Int)) (l1435 : (List Int)) : Option Bool :=
  cal (F_spec_l25Bits a0_0) (fun x2080 =>
    bnd (lp (fun s => F_spec_l29Whole_l6 l1429 l1435 x2080 s) 0) (fun j => F_spec_l29Whole_k7 ))
noncomputable def F_spec_l29Whole (a0_0 : (List (List Int))) (a1_0 : (List Int)) (a1_1 : (List Int)) (a1_2 : (List (List Int))) (a1_3 : (List (List Int))) : Option Bool :=
  mkS (a0_0.length : Int) (0 : Int) (fun _ =>
    mkS (a0_0.length : Int) (0 : Int) (fun _ =>
      bnd (lp (fun s => F_spec_l29Whole_l1 a1_0 a1_1 a1_2 s.1 s.2.1 s.2.2) ((List.replicate ((a0_0.length : Int) : Int).toNat (0 : Int)), (List.replicate ((a0_0.length : Int) : Int).toNat (0 : Int)), 0)) (fun j => F_spec_l29Whole_k5 a0_0 j.1 j.2)))
noncomputable def F_spec_NiceOk_l1 (a0_0 : (List (List Int))) (a1_0 : (List Int)) (a1_1 : (List Int)) (a1_2 : (List (List Int))) (a1_3 : (List (List Int))) (i75 : Int) : Option (Int ⊕ (Unit ⊕ Bool)) :=
  if i75 < (a1_0.length : Int) then
    cal (F_spec_l29Node a0_0 a1_0 a1_1 a1_2 a1_3 i75) (fun x116 =>
      if ¬ (x116 = true) then
        some (.inr (.inr false))
      else
        ck (i75 + 1) (fun _ =>
          some (.inl (i75 + 1))))
  else
    some (.inr (.inl ()))
noncomputable def F_spec_NiceOk_k2 (a0_0 : (List (List Int))) (a1_0 : (List Int)) (a1_1 : (List Int)) (a1_2 : (List (List Int))) (a1_3 : (List (List Int)))  : Option Bool :=
  ck ((a1_0.length : Int) - 1) (fun _ =>
    idx a1_2 ((a1_0.length : Int) - 1) (fun x129 =>
      if (x129.length : Int) = 0 then
        cal (F_spec_l29Tree a1_0 a1_1 a1_2 a1_3) (fun x144 =>
          if x144 = true then
            cal (F_spec_l29Whole a0_0 a1_0 a1_1 a1_2 a1_3) (fun x151 =>
              some x151)
          else
            some false)
      else
        some false))
noncomputable def F_spec_NiceOk (a0_0 : (List (List Int))) (a1_0 : (List Int)) (a1_1 : (List Int)) (a1_2 : (List (List Int))) (a1_3 : (List (List Int))) : Option Bool :=
  cal (F_spec_GraphOk a0_0) (fun x31 =>
    if ¬ (x31 = true) then
      some false
    else
      if (a1_0.length : Int) < 1 then
        some false
      else
        if 200 < (a1_0.length : Int) then
          some false
        else
          if (a1_1.length : Int) ≠ (a1_0.length : Int) then
            some false
          else
            if (a1_2.length : Int) ≠ (a1_0.length : Int) then
              some false
            else
              if (a1_3.length : Int) ≠ (a1_0.length : Int) then
                some false
              else
                bnd (lp (fun s => F_spec_NiceOk_l1 a0_0 a1_0 a1_1 a1_2 a1_3 s) 0) (fun j => F_spec_NiceOk_k2 a0_0 a1_0 a1_1 a1_2 a1_3 ))
noncomputable def F_spec_l29Power_l1 (a0 : Int) (i14 : Int) (i16 : Int) : Option ((Int × Int) ⊕ (Int ⊕ Int)) :=
  if 0 < i14 then
    ck (i16 * a0) (fun _ =>
      ck (i14 - 1) (fun _ =>
        some (.inl (i14 - 1, i16 * a0))))
  else
    some (.inr (.inl i16))
noncomputable def F_spec_l29Power_k2  (i30 : Int) : Option Int :=
  some i30
noncomputable def F_spec_l29Power (a0 : Int) (a1 : Int) : Option Int :=
  bnd (lp (fun s => F_spec_l29Power_l1 a0 s.1 s.2) (a1, 1)) (fun j => F_spec_l29Power_k2 j)
noncomputable def F_spec_l29At_l1 (a0 : (List Int)) (a1 : Int) (i23 : Int) : Option (Int ⊕ (Unit ⊕ Int)) :=
  if i23 < (a0.length : Int) then
    idx a0 i23 (fun x56 =>
      if x56 = a1 then
        some (.inr (.inr i23))
      else
        ck (i23 + 1) (fun _ =>
          some (.inl (i23 + 1))))
  else
    some (.inr (.inl ()))
noncomputable def F_spec_l29At_k2   : Option Int :=
  some 0
noncomputable def F_spec_l29At (a0 : (List Int)) (a1 : Int) : Option Int :=
  bnd (lp (fun s => F_spec_l29At_l1 a0 a1 s) 0) (fun j => F_spec_l29At_k2 )
noncomputable def F_spec_l29Digit (a0 : Int) (a1 : Int) (a2 : Int) : Option Int :=
  cal (F_spec_l29Power a1 a2) (fun x1 =>
    grd ((0 : Int) ≤ a0 ∧ (0 : Int) < x1) (
      grd ((0 : Int) ≤ (a0 / x1) ∧ (0 : Int) < a1) (
        some ((a0 / x1) % a1))))
noncomputable def F_spec_l29Out (a0 : Int) (a1 : Int) (a2 : Int) : Option Int :=
  cal (F_spec_l29Power a1 a2) (fun x1 =>
    ck (x1 * a1) (fun _ =>
      grd ((0 : Int) ≤ a0 ∧ (0 : Int) < (x1 * a1)) (
        ck ((a0 / (x1 * a1)) * x1) (fun _ =>
          grd ((0 : Int) ≤ a0 ∧ (0 : Int) < x1) (
            ck (((a0 / (x1 * a1)) * x1) + (a0 % x1)) (fun _ =>
              some (((a0 / (x1 * a1)) * x1) + (a0 % x1))))))))
noncomputable def F_spec_l1Edge (a0_0 : (List (List Int))) (a1 : Int) (a2 : Int) : Option Bool :=
  idx a0_0 a1 (fun x9 =>
    cal (F_spec_l1Has x9 a2) (fun x23 =>
      some x23))
noncomputable def F_spec_l29Near_l1 (a0_0 : (List (List Int))) (a1 : (List Int)) (a2 : Int) (a3 : Int) (a4 : Int) (a5 : Int) (i55 : Int) : Option (Int ⊕ (Unit ⊕ Bool)) :=
  if i55 < (a1.length : Int) then
    idx a1 i55 (fun x108 =>
      cal (F_spec_l1Edge a0_0 a4 x108) (fun x122 =>
        if x122 = true then
          cal (F_spec_l29Digit a2 a3 i55) (fun x127 =>
            if x127 = a5 then
              some (.inr (.inr true))
            else
              ck (i55 + 1) (fun _ =>
                some (.inl (i55 + 1))))
        else
          ck (i55 + 1) (fun _ =>
            some (.inl (i55 + 1)))))
  else
    some (.inr (.inl ()))
noncomputable def F_spec_l29Near_k2   : Option Bool :=
  some false
noncomputable def F_spec_l29Near (a0_0 : (List (List Int))) (a1 : (List Int)) (a2 : Int) (a3 : Int) (a4 : Int) (a5 : Int) : Option Bool :=
  bnd (lp (fun s => F_spec_l29Near_l1 a0_0 a1 a2 a3 a4 a5 s) 0) (fun j => F_spec_l29Near_k2 )
noncomputable def F_spec_l29In (a0 : Int) (a1 : Int) (a2 : Int) (a3 : Int) : Option Int :=
  cal (F_spec_l29Power a1 a2) (fun x1 =>
    grd ((0 : Int) ≤ a0 ∧ (0 : Int) < x1) (
      ck ((a0 / x1) * a1) (fun _ =>
        ck (((a0 / x1) * a1) + a3) (fun _ =>
          ck ((((a0 / x1) * a1) + a3) * x1) (fun _ =>
            grd ((0 : Int) ≤ a0 ∧ (0 : Int) < x1) (
              ck (((((a0 / x1) * a1) + a3) * x1) + (a0 % x1)) (fun _ =>
                some (((((a0 / x1) * a1) + a3) * x1) + (a0 % x1)))))))))
noncomputable def F_spec_l29Colours_l3 (a1_3 : (List (List Int))) (a2 : Int) (i3522 : Int) (i8191 : Int) (x9771 : Int) (l9953 : (List (List Int))) (l9959 : (List Int)) (i9962 : Int) : Option (((List (List Int)) × (List Int) × Int) ⊕ (((List (List Int)) × (List Int)) ⊕ ((Bool × (List (List Int)) × (List Int) × Int) ⊕ ((Bool × (List (List Int)) × (List Int)) ⊕ ((Bool × (List (List Int)) × Int) ⊕ ((List (List Int)) ⊕ Int)))))) :=
  if i9962 < a2 then
    idx l9959 i8191 (fun x10158 =>
      idx a1_3 i3522 (fun x10170 =>
        idx x10170 0 (fun x10184 =>
          idx l9953 x10184 (fun x10196 =>
            cal (F_spec_l29In i8191 a2 x9771 i9962) (fun x10216 =>
              idx x10196 x10216 (fun x10219 =>
                ck (x10158 + x10219) (fun _ =>
                  idx l9959 i8191 (fun x10233 =>
                    ck (i9962 + 1) (fun _ =>
                      some (.inl (l9953, (l9959.set ((i8191 : Int).toNat) (x10158 + x10219)), i9962 + 1)))))))))))
  else
    some (.inr (.inl (l9953, l9959)))
noncomputable def F_spec_l29Colours_k4 (t8171 : Bool) (i8191 : Int) (l10126 : (List (List Int))) (l10132 : (List Int)) : Option ((Bool × (List (List Int)) × (List Int) × Int) ⊕ ((Bool × (List (List Int)) × (List Int)) ⊕ ((Bool × (List (List Int)) × Int) ⊕ ((List (List Int)) ⊕ Int)))) :=
  ck (i8191 + 1) (fun _ =>
    some (.inl (t8171, l10126, l10132, i8191 + 1)))
noncomputable def F_spec_l29Colours_l2 (a0_0 : (List (List Int))) (a1_0 : (List Int)) (a1_1 : (List Int)) (a1_2 : (List (List Int))) (a1_3 : (List (List Int))) (a2 : Int) (i3522 : Int) (x7008 : (List Int)) (t8171 : Bool) (l8182 : (List (List Int))) (l8188 : (List Int)) (i8191 : Int) : Option ((Bool × (List (List Int)) × (List Int) × Int) ⊕ ((Bool × (List (List Int)) × (List Int)) ⊕ ((Bool × (List (List Int)) × Int) ⊕ ((List (List Int)) ⊕ Int)))) :=
  if i8191 < (l8188.length : Int) then
    idx a1_0 i3522 (fun x9346 =>
      if x9346 = 1 then
        idx l8188 i8191 (fun x9359 =>
          ck (i8191 + 1) (fun _ =>
            some (.inl (t8171, l8182, (l8188.set ((i8191 : Int).toNat) 1), i8191 + 1))))
      else
        if x9346 = 2 then
          idx a1_1 i3522 (fun x9380 =>
            cal (F_spec_l29At x7008 x9380) (fun x9392 =>
              cal (F_spec_l29Digit i8191 a2 x9392) (fun x9399 =>
                if t8171 = true then
                  if x9399 = 0 then
                    idx a1_3 i3522 (fun x9411 =>
                      idx x9411 0 (fun x9425 =>
                        idx l8182 x9425 (fun x9437 =>
                          cal (F_spec_l29Out i8191 a2 x9392) (fun x9457 =>
                            idx x9437 x9457 (fun x9460 =>
                              idx l8188 i8191 (fun x9472 =>
                                ck (i8191 + 1) (fun _ =>
                                  some (.inl (true, l8182, (l8188.set ((i8191 : Int).toNat) x9460), i8191 + 1)))))))))
                  else
                    idx a1_1 i3522 (fun x9498 =>
                      cal (F_spec_l29Near a0_0 x7008 i8191 a2 x9498 x9399) (fun x9512 =>
                        if ¬ (x9512 = true) then
                          idx a1_3 i3522 (fun x9518 =>
                            idx x9518 0 (fun x9532 =>
                              idx l8182 x9532 (fun x9544 =>
                                cal (F_spec_l29Out i8191 a2 x9392) (fun x9564 =>
                                  idx x9544 x9564 (fun x9567 =>
                                    idx l8188 i8191 (fun x9579 =>
                                      ck (i8191 + 1) (fun _ =>
                                        some (.inl (true, l8182, (l8188.set ((i8191 : Int).toNat) x9567), i8191 + 1)))))))))
                        else
                          ck (i8191 + 1) (fun _ =>
                            some (.inl (true, l8182, l8188, i8191 + 1)))))
                else
                  idx a1_1 i3522 (fun x9607 =>
                    cal (F_spec_l29Near a0_0 x7008 i8191 a2 x9607 x9399) (fun x9621 =>
                      if ¬ (x9621 = true) then
                        idx a1_3 i3522 (fun x9627 =>
                          idx x9627 0 (fun x9641 =>
                            idx l8182 x9641 (fun x9653 =>
                              cal (F_spec_l29Out i8191 a2 x9392) (fun x9673 =>
                                idx x9653 x9673 (fun x9676 =>
                                  idx l8188 i8191 (fun x9688 =>
                                    ck (i8191 + 1) (fun _ =>
                                      some (.inl (false, l8182, (l8188.set ((i8191 : Int).toNat) x9676), i8191 + 1)))))))))
                      else
                        ck (i8191 + 1) (fun _ =>
                          some (.inl (false, l8182, l8188, i8191 + 1))))))))
        else
          if x9346 = 3 then
            idx a1_3 i3522 (fun x9717 =>
              idx x9717 0 (fun x9731 =>
                idx a1_2 x9731 (fun x9743 =>
                  idx a1_1 i3522 (fun x9757 =>
                    cal (F_spec_l29At x9743 x9757) (fun x9771 =>
                      bnd (lp (fun s => F_spec_l29Colours_l3 a1_3 a2 i3522 i8191 x9771 s.1 s.2.1 s.2.2) (l8182, l8188, 0)) (fun j => F_spec_l29Colours_k4 t8171 i8191 j.1 j.2))))))
          else
            if x9346 = 4 then
              idx a1_3 i3522 (fun x10262 =>
                idx x10262 0 (fun x10276 =>
                  idx l8182 x10276 (fun x10288 =>
                    idx x10288 i8191 (fun x10306 =>
                      idx a1_3 i3522 (fun x10318 =>
                        idx x10318 1 (fun x10332 =>
                          idx l8182 x10332 (fun x10344 =>
                            idx x10344 i8191 (fun x10362 =>
                              ck (x10306 * x10362) (fun _ =>
                                idx l8188 i8191 (fun x10376 =>
                                  ck (i8191 + 1) (fun _ =>
                                    some (.inl (t8171, l8182, (l8188.set ((i8191 : Int).toNat) (x10306 * x10362)), i8191 + 1)))))))))))))
            else
              ck (i8191 + 1) (fun _ =>
                some (.inl (t8171, l8182, l8188, i8191 + 1))))
  else
    some (.inr (.inl (t8171, l8182, l8188)))
noncomputable def F_spec_l29Colours_k5 (i3522 : Int) (t9303 : Bool) (l9314 : (List (List Int))) (l9320 : (List Int)) : Option ((Bool × (List (List Int)) × Int) ⊕ ((List (List Int)) ⊕ Int)) :=
  app l9314 ([l9320]) (fun _ =>
    ck (i3522 + 1) (fun _ =>
      some (.inl (t9303, (l9314 ++ ([l9320])), i3522 + 1))))
noncomputable def F_spec_l29Colours_l1 (a0_0 : (List (List Int))) (a1_0 : (List Int)) (a1_1 : (List Int)) (a1_2 : (List (List Int))) (a1_3 : (List (List Int))) (a2 : Int) (t3508 : Bool) (l3519 : (List (List Int))) (i3522 : Int) : Option ((Bool × (List (List Int)) × Int) ⊕ ((List (List Int)) ⊕ Int)) :=
  if i3522 < (a1_0.length : Int) then
    idx a1_2 i3522 (fun x7008 =>
      cal (F_spec_l29Power a2 (x7008.length : Int)) (fun x7022 =>
        mkS x7022 (0 : Int) (fun _ =>
          bnd (lp (fun s => F_spec_l29Colours_l2 a0_0 a1_0 a1_1 a1_2 a1_3 a2 i3522 x7008 s.1 s.2.1 s.2.2.1 s.2.2.2) (t3508, l3519, (List.replicate (x7022 : Int).toNat (0 : Int)), 0)) (fun j => F_spec_l29Colours_k5 i3522 j.1 j.2.1 j.2.2))))
  else
    some (.inr (.inl l3519))
noncomputable def F_spec_l29Colours_k6  (l6995 : (List (List Int))) : Option Int :=
  ck ((l6995.length : Int) - 1) (fun _ =>
    idx l6995 ((l6995.length : Int) - 1) (fun x10443 =>
      idx x10443 0 (fun x10458 =>
        some x10458)))
noncomputable def F_spec_l29Colours (a0_0 : (List (List Int))) (a1_0 : (List Int)) (a1_1 : (List Int)) (a1_2 : (List (List Int))) (a1_3 : (List (List Int))) (a2 : Int) (a3 : Bool) : Option Int :=
  bnd (lp (fun s => F_spec_l29Colours_l1 a0_0 a1_0 a1_1 a1_2 a1_3 a2 s.1 s.2.1 s.2.2) (a3, ([] : (List (List Int))), 0)) (fun j => F_spec_l29Colours_k6 j)
noncomputable def F_spec_ColoursBy (a0_0 : (List (List Int))) (a1_0 : (List Int)) (a1_1 : (List Int)) (a1_2 : (List (List Int))) (a1_3 : (List (List Int))) (a2 : Int) : Option Int :=
  cal (F_spec_NiceOk a0_0 a1_0 a1_1 a1_2 a1_3) (fun x19 =>
    if ¬ (x19 = true) then
      some (-1)
    else
      cal (F_spec_l1In a2 0 4) (fun x26 =>
        if ¬ (x26 = true) then
          some (-1)
        else
          cal (F_spec_l29Colours a0_0 a1_0 a1_1 a1_2 a1_3 a2 false) (fun x33 =>
            some x33)))
noncomputable def F_impl_inRange (a0 : Int) (a1 : Int) (a2 : Int) : Option Bool :=
  if a1 ≤ a0 then
    some (decide (a0 ≤ a2))
  else
    some false
noncomputable def F_impl_increasing_l1 (a0 : (List Int)) (a1 : Int) (i49 : Int) : Option (Int ⊕ (Unit ⊕ Bool)) :=
  if i49 < (a0.length : Int) then
    idx a0 i49 (fun x108 =>
      ck (a1 - 1) (fun _ =>
        cal (F_impl_inRange x108 0 (a1 - 1)) (fun x122 =>
          if ¬ (x122 = true) then
            some (.inr (.inr false))
          else
            if 0 < i49 then
              ck (i49 - 1) (fun _ =>
                idx a0 (i49 - 1) (fun x134 =>
                  if x108 ≤ x134 then
                    some (.inr (.inr false))
                  else
                    ck (i49 + 1) (fun _ =>
                      some (.inl (i49 + 1)))))
            else
              ck (i49 + 1) (fun _ =>
                some (.inl (i49 + 1))))))
  else
    some (.inr (.inl ()))
noncomputable def F_impl_increasing_k2   : Option Bool :=
  some true
noncomputable def F_impl_increasing (a0 : (List Int)) (a1 : Int) : Option Bool :=
  bnd (lp (fun s => F_impl_increasing_l1 a0 a1 s) 0) (fun j => F_impl_increasing_k2 )
noncomputable def F_slices_Index_int64_l1 (a0 : (List Int)) (a1 : Int) (i23 : Int) : Option (Int ⊕ (Unit ⊕ Int)) :=
  if i23 < (a0.length : Int) then
    idx a0 i23 (fun x56 =>
      if a1 = x56 then
        some (.inr (.inr i23))
      else
        ck (i23 + 1) (fun _ =>
          some (.inl (i23 + 1))))
  else
    some (.inr (.inl ()))
noncomputable def F_slices_Index_int64_k2   : Option Int :=
  some (-1)
noncomputable def F_slices_Index_int64 (a0 : (List Int)) (a1 : Int) : Option Int :=
  bnd (lp (fun s => F_slices_Index_int64_l1 a0 a1 s) 0) (fun j => F_slices_Index_int64_k2 )
noncomputable def F_slices_Contains_int64 (a0 : (List Int)) (a1 : Int) : Option Bool :=
  cal (F_slices_Index_int64 a0 a1) (fun x1 =>
    some (decide (0 ≤ x1)))
noncomputable def F_impl_GraphOk_l1 (a0_0 : (List (List Int))) (i56 : Int) : Option (Int ⊕ (Unit ⊕ Bool)) :=
  if i56 < (a0_0.length : Int) then
    idx a0_0 i56 (fun x108 =>
      cal (F_impl_increasing x108 (a0_0.length : Int)) (fun x122 =>
        if ¬ (x122 = true) then
          some (.inr (.inr false))
        else
          cal (F_slices_Contains_int64 x108 i56) (fun x131 =>
            if x131 = true then
              some (.inr (.inr false))
            else
              ck (i56 + 1) (fun _ =>
                some (.inl (i56 + 1))))))
  else
    some (.inr (.inl ()))
noncomputable def F_impl_GraphOk_l4 (a0_0 : (List (List Int))) (i311 : Int) (x487 : (List Int)) (i549 : Int) : Option (Int ⊕ (Unit ⊕ (Int ⊕ (Unit ⊕ Bool)))) :=
  if i549 < (x487.length : Int) then
    idx x487 i549 (fun x606 =>
      idx a0_0 x606 (fun x618 =>
        cal (F_slices_Contains_int64 x618 i311) (fun x632 =>
          if ¬ (x632 = true) then
            some (.inr (.inr (.inr (.inr false))))
          else
            ck (i549 + 1) (fun _ =>
              some (.inl (i549 + 1))))))
  else
    some (.inr (.inl ()))
noncomputable def F_impl_GraphOk_k5 (i311 : Int)  : Option (Int ⊕ (Unit ⊕ Bool)) :=
  ck (i311 + 1) (fun _ =>
    some (.inl (i311 + 1)))
noncomputable def F_impl_GraphOk_l3 (a0_0 : (List (List Int))) (i311 : Int) : Option (Int ⊕ (Unit ⊕ Bool)) :=
  if i311 < (a0_0.length : Int) then
    idx a0_0 i311 (fun x487 =>
      bnd (lp (fun s => F_impl_GraphOk_l4 a0_0 i311 x487 s) 0) (fun j => F_impl_GraphOk_k5 i311 ))
  else
    some (.inr (.inl ()))
noncomputable def F_impl_GraphOk_k6   : Option Bool :=
  some true
noncomputable def F_impl_GraphOk_k2 (a0_0 : (List (List Int)))  : Option Bool :=
  bnd (lp (fun s => F_impl_GraphOk_l3 a0_0 s) 0) (fun j => F_impl_GraphOk_k6 )
noncomputable def F_impl_GraphOk (a0_0 : (List (List Int))) : Option Bool :=
  if (a0_0.length : Int) < 1 then
    some false
  else
    if 16 < (a0_0.length : Int) then
      some false
    else
      bnd (lp (fun s => F_impl_GraphOk_l1 a0_0 s) 0) (fun j => F_impl_GraphOk_k2 a0_0 )
noncomputable def F_impl_one (a0 : Int) : Option (BitVec 32) :=
  grd ((0 : Int) ≤ a0) (
    some ((1#32) <<< (a0 : Int).toNat))
noncomputable def F_impl_maskOf_l1 (a0 : (List Int)) (u29 : BitVec 32) (i30 : Int) : Option (((BitVec 32) × Int) ⊕ ((BitVec 32) ⊕ (BitVec 32))) :=
  if i30 < (a0.length : Int) then
    idx a0 i30 (fun x70 =>
      cal (F_impl_one x70) (fun x82 =>
        ck (i30 + 1) (fun _ =>
          some (.inl (u29 ||| x82, i30 + 1)))))
  else
    some (.inr (.inl u29))
noncomputable def F_impl_maskOf_k2  (u59 : BitVec 32) : Option (BitVec 32) :=
  some u59
noncomputable def F_impl_maskOf (a0 : (List Int)) : Option (BitVec 32) :=
  bnd (lp (fun s => F_impl_maskOf_l1 a0 s.1 s.2) (0#32, 0)) (fun j => F_impl_maskOf_k2 j)
noncomputable def F_impl_bagMasks_l1 (a0 : (List (List Int))) (l74 : (List (BitVec 32))) (i77 : Int) : Option (((List (BitVec 32)) × Int) ⊕ ((List (BitVec 32)) ⊕ (List (BitVec 32)))) :=
  if i77 < (a0.length : Int) then
    idx a0 i77 (fun x152 =>
      cal (F_impl_maskOf x152) (fun x166 =>
        app l74 ([x166]) (fun _ =>
          ck (i77 + 1) (fun _ =>
            some (.inl ((l74 ++ ([x166])), i77 + 1))))))
  else
    some (.inr (.inl l74))
noncomputable def F_impl_bagMasks_k2  (l139 : (List (BitVec 32))) : Option (List (BitVec 32)) :=
  some l139
noncomputable def F_impl_bagMasks (a0 : (List (List Int))) : Option (List (BitVec 32)) :=
  bnd (lp (fun s => F_impl_bagMasks_l1 a0 s.1 s.2) (([] : (List (BitVec 32))), 0)) (fun j => F_impl_bagMasks_k2 j)
noncomputable def F_slices_IndexFunc_int64_l1 (a0 : (List Int)) (a1 : Int → Option Bool) (i29 : Int) : Option (Int ⊕ (Unit ⊕ Int)) :=
  if i29 < (a0.length : Int) then
    idx a0 i29 (fun x68 =>
      cal (a1 x68) (fun x80 =>
        if x80 = true then
          some (.inr (.inr i29))
        else
          ck (i29 + 1) (fun _ =>
            some (.inl (i29 + 1)))))
  else
    some (.inr (.inl ()))
noncomputable def F_slices_IndexFunc_int64_k2   : Option Int :=
  some (-1)
noncomputable def F_slices_IndexFunc_int64 (a0 : (List Int)) (a1 : Int → Option Bool) : Option Int :=
  bnd (lp (fun s => F_slices_IndexFunc_int64_l1 a0 a1 s) 0) (fun j => F_slices_IndexFunc_int64_k2 )
noncomputable def F_slices_ContainsFunc_int64 (a0 : (List Int)) (a1 : Int → Option Bool) : Option Bool :=
  cal (F_slices_IndexFunc_int64 a0 a1) (fun x2 =>
    some (decide (0 ≤ x2)))
noncomputable def F_impl_goodNode_1 (a0 : Int) (y0 : Int) : Option Bool :=
  ck (y0 - 1) (fun _ =>
    cal (F_impl_inRange a0 0 (y0 - 1)) (fun x3 =>
      some (!x3)))
noncomputable def F_impl_vset_has (a0 : BitVec 32) (a1 : Int) : Option Bool :=
  grd ((0 : Int) ≤ a1) (
    some (decide (((a0 >>> (a1 : Int).toNat) &&& (1#32)) = (1#32))))
noncomputable def F_impl_goodNode (a0_0 : (List Int)) (a0_1 : (List Int)) (a0_2 : (List (List Int))) (a0_3 : (List (List Int))) (a1 : Int) (a2 : (List (BitVec 32))) (a3 : Int) : Option Bool :=
  idx a0_1 a1 (fun x19 =>
    idx a0_3 a1 (fun x31 =>
      cal (F_slices_ContainsFunc_int64 x31 (fun (z48 : Int) => F_impl_goodNode_1 z48 a1)) (fun x50 =>
        if x50 = true then
          some false
        else
          idx a0_0 a1 (fun x57 =>
            if x57 = 1 then
              if x19 = (-1) then
                idx a2 a1 (fun x71 =>
                  if x71 = (0#32) then
                    some (decide ((x31.length : Int) = 0))
                  else
                    some false)
              else
                some false
            else
              if x57 = 4 then
                if x19 = (-1) then
                  if (x31.length : Int) = 2 then
                    idx x31 0 (fun x86 =>
                      idx a2 x86 (fun x98 =>
                        idx a2 a1 (fun x109 =>
                          if x98 = x109 then
                            idx x31 1 (fun x121 =>
                              idx a2 x121 (fun x133 =>
                                idx a2 a1 (fun x144 =>
                                  some (decide (x133 = x144)))))
                          else
                            some false)))
                  else
                    some false
                else
                  some false
              else
                if x57 = 2 then
                  ck (a3 - 1) (fun _ =>
                    cal (F_impl_inRange x19 0 (a3 - 1)) (fun x172 =>
                      if x172 = true then
                        if (x31.length : Int) = 1 then
                          idx x31 0 (fun x176 =>
                            idx a2 x176 (fun x188 =>
                              cal (F_impl_vset_has x188 x19) (fun x201 =>
                                if ¬ (x201 = true) then
                                  idx a2 a1 (fun x204 =>
                                    idx x31 0 (fun x215 =>
                                      idx a2 x215 (fun x227 =>
                                        cal (F_impl_one x19) (fun x240 =>
                                          some (decide (x204 = (x227 ||| x240)))))))
                                else
                                  some false)))
                        else
                          some false
                      else
                        some false))
                else
                  if x57 = 3 then
                    ck (a3 - 1) (fun _ =>
                      cal (F_impl_inRange x19 0 (a3 - 1)) (fun x259 =>
                        if x259 = true then
                          if (x31.length : Int) = 1 then
                            idx x31 0 (fun x263 =>
                              idx a2 x263 (fun x275 =>
                                cal (F_impl_vset_has x275 x19) (fun x288 =>
                                  if x288 = true then
                                    idx a2 a1 (fun x291 =>
                                      idx x31 0 (fun x302 =>
                                        idx a2 x302 (fun x314 =>
                                          cal (F_impl_one x19) (fun x327 =>
                                            some (decide (x291 = (x314 &&& ~~~x327)))))))
                                  else
                                    some false)))
                          else
                            some false
                        else
                          some false))
                  else
                    some false))))
noncomputable def F_slices_IndexFunc_int_l1 (a0 : (List Int)) (a1 : Int → Option Bool) (i29 : Int) : Option (Int ⊕ (Unit ⊕ Int)) :=
  if i29 < (a0.length : Int) then
    idx a0 i29 (fun x68 =>
      cal (a1 x68) (fun x80 =>
        if x80 = true then
          some (.inr (.inr i29))
        else
          ck (i29 + 1) (fun _ =>
            some (.inl (i29 + 1)))))
  else
    some (.inr (.inl ()))
noncomputable def F_slices_IndexFunc_int_k2   : Option Int :=
  some (-1)
noncomputable def F_slices_IndexFunc_int (a0 : (List Int)) (a1 : Int → Option Bool) : Option Int :=
  bnd (lp (fun s => F_slices_IndexFunc_int_l1 a0 a1 s) 0) (fun j => F_slices_IndexFunc_int_k2 )
noncomputable def F_slices_ContainsFunc_int (a0 : (List Int)) (a1 : Int → Option Bool) : Option Bool :=
  cal (F_slices_IndexFunc_int a0 a1) (fun x2 =>
    some (decide (0 ≤ x2)))
noncomputable def F_impl_NiceOk_1 (a0 : Int) : Option Bool :=
  some (decide (a0 ≠ 1))
noncomputable def F_impl_netsOf_l1 (a0_0 : (List (List Int))) (l84 : (List (BitVec 32))) (i87 : Int) : Option (((List (BitVec 32)) × Int) ⊕ ((List (BitVec 32)) ⊕ (List (BitVec 32)))) :=
  if i87 < (a0_0.length : Int) then
    idx a0_0 i87 (fun x162 =>
      cal (F_impl_maskOf x162) (fun x176 =>
        app l84 ([x176]) (fun _ =>
          ck (i87 + 1) (fun _ =>
            some (.inl ((l84 ++ ([x176])), i87 + 1))))))
  else
    some (.inr (.inl l84))
noncomputable def F_impl_netsOf_k2  (l149 : (List (BitVec 32))) : Option (List (BitVec 32)) :=
  some l149
noncomputable def F_impl_netsOf (a0_0 : (List (List Int))) : Option (List (BitVec 32)) :=
  bnd (lp (fun s => F_impl_netsOf_l1 a0_0 s.1 s.2) (([] : (List (BitVec 32))), 0)) (fun j => F_impl_netsOf_k2 j)
noncomputable def F_impl_coversEdges_l2 (a1 : (List (BitVec 32))) (i124 : Int) (u299 : BitVec 32) (i300 : Int) : Option (((BitVec 32) × Int) ⊕ ((BitVec 32) ⊕ (Int ⊕ (Unit ⊕ Bool)))) :=
  if i300 < (a1.length : Int) then
    idx a1 i300 (fun x342 =>
      cal (F_impl_vset_has x342 i124) (fun x353 =>
        if x353 = true then
          ck (i300 + 1) (fun _ =>
            some (.inl (u299 ||| x342, i300 + 1)))
        else
          ck (i300 + 1) (fun _ =>
            some (.inl (u299, i300 + 1)))))
  else
    some (.inr (.inl u299))
noncomputable def F_impl_coversEdges_k3 (i124 : Int) (x258 : (BitVec 32)) (u331 : BitVec 32) : Option (Int ⊕ (Unit ⊕ Bool)) :=
  cal (F_impl_vset_has u331 i124) (fun x364 =>
    if ¬ (x364 = true) then
      some (.inr (.inr false))
    else
      if (x258 &&& ~~~u331) ≠ (0#32) then
        some (.inr (.inr false))
      else
        ck (i124 + 1) (fun _ =>
          some (.inl (i124 + 1))))
noncomputable def F_impl_coversEdges_l1 (a0 : (List (BitVec 32))) (a1 : (List (BitVec 32))) (i124 : Int) : Option (Int ⊕ (Unit ⊕ Bool)) :=
  if i124 < (a0.length : Int) then
    idx a0 i124 (fun x258 =>
      bnd (lp (fun s => F_impl_coversEdges_l2 a1 i124 s.1 s.2) (0#32, 0)) (fun j => F_impl_coversEdges_k3 i124 x258 j))
  else
    some (.inr (.inl ()))
noncomputable def F_impl_coversEdges_k4   : Option Bool :=
  some true
noncomputable def F_impl_coversEdges (a0 : (List (BitVec 32))) (a1 : (List (BitVec 32))) : Option Bool :=
  bnd (lp (fun s => F_impl_coversEdges_l1 a0 a1 s) 0) (fun j => F_impl_coversEdges_k4 )
noncomputable def F_impl_NiceOk_l1 (a0_0 : (List (List Int))) (a1_2 : (List (List Int))) (i90 : Int) : Option (Int ⊕ (Unit ⊕ Bool)) :=
  if i90 < (a1_2.length : Int) then
    idx a1_2 i90 (fun x146 =>
      if 8 < (x146.length : Int) then
        some (.inr (.inr false))
      else
        cal (F_impl_increasing x146 (a0_0.length : Int)) (fun x163 =>
          if ¬ (x163 = true) then
            some (.inr (.inr false))
          else
            ck (i90 + 1) (fun _ =>
              some (.inl (i90 + 1)))))
  else
    some (.inr (.inl ()))
noncomputable def F_impl_NiceOk_l4 (x1243 : (List Int)) (l1389 : (List Int)) (i1395 : Int) : Option (((List Int) × Int) ⊕ ((List Int) ⊕ (((List Int) × (List Int) × Int) ⊕ (((List Int) × (List Int)) ⊕ Bool)))) :=
  if i1395 < (x1243.length : Int) then
    idx x1243 i1395 (fun x1551 =>
      idx l1389 x1551 (fun x1563 =>
        ck (x1563 + 1) (fun _ =>
          idx l1389 x1551 (fun x1577 =>
            ck (i1395 + 1) (fun _ =>
              some (.inl ((l1389.set ((x1551 : Int).toNat) (x1563 + 1)), i1395 + 1)))))))
  else
    some (.inr (.inl l1389))
noncomputable def F_impl_NiceOk_k5 (a1_0 : (List Int)) (a1_1 : (List Int)) (l697 : (List Int)) (i700 : Int) (l1515 : (List Int)) : Option (((List Int) × (List Int) × Int) ⊕ (((List Int) × (List Int)) ⊕ Bool)) :=
  idx a1_0 i700 (fun x1597 =>
    if x1597 = 3 then
      idx a1_1 i700 (fun x1610 =>
        idx l697 x1610 (fun x1622 =>
          ck (x1622 + 1) (fun _ =>
            idx l697 x1610 (fun x1636 =>
              ck (i700 + 1) (fun _ =>
                some (.inl (l1515, (l697.set ((x1610 : Int).toNat) (x1622 + 1)), i700 + 1)))))))
    else
      ck (i700 + 1) (fun _ =>
        some (.inl (l1515, l697, i700 + 1))))
noncomputable def F_impl_NiceOk_l3 (a0_0 : (List (List Int))) (a1_0 : (List Int)) (a1_1 : (List Int)) (a1_2 : (List (List Int))) (a1_3 : (List (List Int))) (xqr1o2_1 : (List (BitVec 32))) (l691 : (List Int)) (l697 : (List Int)) (i700 : Int) : Option (((List Int) × (List Int) × Int) ⊕ (((List Int) × (List Int)) ⊕ Bool)) :=
  if i700 < (a1_0.length : Int) then
    cal (F_impl_goodNode a1_0 a1_1 a1_2 a1_3 i700 xqr1o2_1 (a0_0.length : Int)) (fun x1234 =>
      if ¬ (x1234 = true) then
        some (.inr (.inr false))
      else
        idx a1_3 i700 (fun x1243 =>
          bnd (lp (fun s => F_impl_NiceOk_l4 x1243 s.1 s.2) (l691, 0)) (fun j => F_impl_NiceOk_k5 a1_0 a1_1 l697 i700 j)))
  else
    some (.inr (.inl (l691, l697)))
noncomputable def F_impl_NiceOk_l7 (a1_0 : (List Int)) (l1200 : (List Int)) (i1740 : Int) : Option (Int ⊕ (Unit ⊕ Bool)) :=
  if i1740 < (l1200.length : Int) then
    idx l1200 i1740 (fun x1825 =>
      ck ((a1_0.length : Int) - 1) (fun _ =>
        if ((decide (x1825 = 1)) != (decide (i1740 < ((a1_0.length : Int) - 1)))) = true then
          some (.inr (.inr false))
        else
          if 1 < x1825 then
            some (.inr (.inr false))
          else
            ck (i1740 + 1) (fun _ =>
              some (.inl (i1740 + 1)))))
  else
    some (.inr (.inl ()))
noncomputable def F_impl_NiceOk_k8 (a0_0 : (List (List Int))) (a1_0 : (List Int)) (xqr1o2_1 : (List (BitVec 32))) (l1206 : (List Int))  : Option Bool :=
  ck ((a1_0.length : Int) - 1) (fun _ =>
    idx xqr1o2_1 ((a1_0.length : Int) - 1) (fun x1849 =>
      if x1849 = (0#32) then
        cal (F_slices_ContainsFunc_int l1206 (fun (z1864 : Int) => F_impl_NiceOk_1 z1864)) (fun x1866 =>
          if ¬ (x1866 = true) then
            cal (F_impl_netsOf a0_0) (fun x1873 =>
              cal (F_impl_coversEdges x1873 xqr1o2_1) (fun x1896 =>
                some x1896))
          else
            some false)
      else
        some false))
noncomputable def F_impl_NiceOk_k6 (a0_0 : (List (List Int))) (a1_0 : (List Int)) (xqr1o2_1 : (List (BitVec 32))) (l1200 : (List Int)) (l1206 : (List Int)) : Option Bool :=
  bnd (lp (fun s => F_impl_NiceOk_l7 a1_0 l1200 s) 0) (fun j => F_impl_NiceOk_k8 a0_0 a1_0 xqr1o2_1 l1206 )
noncomputable def F_impl_NiceOk_k2 (a0_0 : (List (List Int))) (a1_0 : (List Int)) (a1_1 : (List Int)) (a1_2 : (List (List Int))) (a1_3 : (List (List Int)))  : Option Bool :=
  cal (F_impl_bagMasks a1_2) (fun xqr1o2_1 =>
    mkS (a1_0.length : Int) (0 : Int) (fun _ =>
      mkS (a0_0.length : Int) (0 : Int) (fun _ =>
        bnd (lp (fun s => F_impl_NiceOk_l3 a0_0 a1_0 a1_1 a1_2 a1_3 xqr1o2_1 s.1 s.2.1 s.2.2) ((List.replicate ((a1_0.length : Int) : Int).toNat (0 : Int)), (List.replicate ((a0_0.length : Int) : Int).toNat (0 : Int)), 0)) (fun j => F_impl_NiceOk_k6 a0_0 a1_0 xqr1o2_1 j.1 j.2))))
noncomputable def F_impl_NiceOk (a0_0 : (List (List Int))) (a1_0 : (List Int)) (a1_1 : (List Int)) (a1_2 : (List (List Int))) (a1_3 : (List (List Int))) : Option Bool :=
  cal (F_impl_GraphOk a0_0) (fun x31 =>
    if ¬ (x31 = true) then
      some false
    else
      if (a1_0.length : Int) < 1 then
        some false
      else
        if 200 < (a1_0.length : Int) then
          some false
        else
          if (a1_1.length : Int) ≠ (a1_0.length : Int) then
            some false
          else
            if (a1_2.length : Int) ≠ (a1_0.length : Int) then
              some false
            else
              if (a1_3.length : Int) ≠ (a1_0.length : Int) then
                some false
              else
                bnd (lp (fun s => F_impl_NiceOk_l1 a0_0 a1_2 s) 0) (fun j => F_impl_NiceOk_k2 a0_0 a1_0 a1_1 a1_2 a1_3 ))



noncomputable def F_math_bits_TrailingZeros32 (a0 : BitVec 32) : Option Int :=
  if a0 = (0#32) then
    some 32
  else
    idx deBruijn32 (BitVec.toNat (((a0 &&& (-a0)) * (125613361#32)) >>> (27 : Int).toNat) : Int) (fun x2 =>
      some (BitVec.toNat x2 : Int))
noncomputable def F_impl_vset_least (a0 : BitVec 32) : Option Int :=
  cal (F_math_bits_TrailingZeros32 a0) (fun x1 =>
    some x1)
noncomputable def F_impl_vset_list_l1  (u55 : BitVec 32) (l59 : (List Int)) : Option (((BitVec 32) × (List Int)) ⊕ ((List Int) ⊕ (List Int))) :=
  if u55 ≠ (0#32) then
    cal (F_impl_vset_least u55) (fun x119 =>
      app l59 ([x119]) (fun _ =>
        some (.inl (u55 &&& (u55 - (1#32)), (l59 ++ ([x119]))))))
  else
    some (.inr (.inl l59))
noncomputable def F_impl_vset_list_k2  (l106 : (List Int)) : Option (List Int) :=
  some l106
noncomputable def F_impl_vset_list (a0 : BitVec 32) : Option (List Int) :=
  bnd (lp (fun s => F_impl_vset_list_l1 s.1 s.2) (a0, ([] : (List Int)))) (fun j => F_impl_vset_list_k2 j)
/-- colours of the vertices -/
abbrev Cl := {l : List Int // l.length = 16 ∧ ∀ x ∈ l, -128 ≤ x ∧ x ≤ 127}
def setC (s : Cl) (v c : Int) : Option Cl :=
  if h : (0 ≤ v ∧ v < 16) ∧ -128 ≤ c ∧ c ≤ 127 then some ⟨s.1.set v.toNat c, by rw [List.length_set]; exact s.2.1, fun x hx => by
    rcases List.mem_or_eq_of_mem_set hx with e | e
    · exact s.2.2 x e
    · rw [e]; exact h.2⟩ else none
def zeroC : Cl := ⟨List.replicate 16 0, List.length_replicate, fun x hx => by rw [List.eq_of_mem_replicate hx]; decide⟩
noncomputable def clHas (s : Cl) (c u : Int) : Option Bool := idx s.1 u fun x => some (decide (x = c))
noncomputable def clGo (a : List (BitVec 32)) (s : Cl) (v : Int) (m : BitVec 32) : Nat → Int → List Cl → Option (List Cl)
  | 0, _, out => some out
  | n + 1, c, out => idx a v fun av => cal (F_impl_vset_list (av &&& m)) fun l => cal (F_slices_ContainsFunc_int l (clHas s c)) fun r => if ¬ (r = true) then cal (setC s v c) fun t => clGo a s v m n (c + 1) (out ++ [t]) else clGo a s v m n (c + 1) out
noncomputable def clRu (a : List (BitVec 32)) (k : Int) : Ru Cl where
  add s v m := if 0 ≤ k ∧ k ≤ 4 then clGo a s v m k.toNat 1 [] else none
  drop s v m n := cal (setC s v 0) fun t => some (putT noT t n)
  meet s t := (s, decide (s = t))
  both := fun x y => wr (x * y)
  pick := fun x y => wr (x + y)
noncomputable def F_impl_ColoursBy (a0_0 : (List (List Int))) (a1_0 : (List Int)) (a1_1 : (List Int)) (a1_2 : (List (List Int))) (a1_3 : (List (List Int))) (a2 : Int) : Option Int :=
  cal (F_impl_NiceOk a0_0 a1_0 a1_1 a1_2 a1_3) fun ok => if ¬ (ok = true) then some (-1) else cal (F_impl_inRange a2 0 4) fun ok2 => if ¬ (ok2 = true) then some (-1) else
    cal (F_impl_netsOf a0_0) fun nets => cal (runF F_impl_maskOf (clRu nets a2) (putT noT zeroC 1) a1_0 a1_1 a1_2 a1_3) fun T => some ((T zeroC).getD 0)

noncomputable def F_laws_eqInt64S_l1 (a0 : (List Int)) (a1 : (List Int)) (i39 : Int) : Option (Int ⊕ (Unit ⊕ Bool)) :=
  if i39 < (a0.length : Int) then
    idx a0 i39 (fun x87 =>
      idx a1 i39 (fun x99 =>
        if x87 ≠ x99 then
          some (.inr (.inr false))
        else
          ck (i39 + 1) (fun _ =>
            some (.inl (i39 + 1)))))
  else
    some (.inr (.inl ()))
noncomputable def F_laws_eqInt64S_k2   : Option Bool :=
  some true
noncomputable def F_laws_eqInt64S (a0 : (List Int)) (a1 : (List Int)) : Option Bool :=
  if (a0.length : Int) ≠ (a1.length : Int) then
    some false
  else
    bnd (lp (fun s => F_laws_eqInt64S_l1 a0 a1 s) 0) (fun j => F_laws_eqInt64S_k2 )
noncomputable def F_laws_eqInt64SS_l1 (a0 : (List (List Int))) (a1 : (List (List Int))) (i47 : Int) : Option (Int ⊕ (Unit ⊕ Bool)) :=
  if i47 < (a0.length : Int) then
    idx a0 i47 (fun x103 =>
      idx a1 i47 (fun x117 =>
        cal (F_laws_eqInt64S x103 x117) (fun x133 =>
          if ¬ (x133 = true) then
            some (.inr (.inr false))
          else
            ck (i47 + 1) (fun _ =>
              some (.inl (i47 + 1))))))
  else
    some (.inr (.inl ()))
noncomputable def F_laws_eqInt64SS_k2   : Option Bool :=
  some true
noncomputable def F_laws_eqInt64SS (a0 : (List (List Int))) (a1 : (List (List Int))) : Option Bool :=
  if (a0.length : Int) ≠ (a1.length : Int) then
    some false
  else
    bnd (lp (fun s => F_laws_eqInt64SS_l1 a0 a1 s) 0) (fun j => F_laws_eqInt64SS_k2 )
noncomputable def F_laws_eqGraph (a0_0 : (List (List Int))) (a1_0 : (List (List Int))) : Option Bool :=
  cal (F_laws_eqInt64SS a0_0 a1_0) (fun x19 =>
    if ¬ (x19 = true) then
      some false
    else
      some true)
noncomputable def F_laws_eqNice (a0_0 : (List Int)) (a0_1 : (List Int)) (a0_2 : (List (List Int))) (a0_3 : (List (List Int))) (a1_0 : (List Int)) (a1_1 : (List Int)) (a1_2 : (List (List Int))) (a1_3 : (List (List Int))) : Option Bool :=
  cal (F_laws_eqInt64S a0_0 a1_0) (fun x19 =>
    if ¬ (x19 = true) then
      some false
    else
      cal (F_laws_eqInt64S a0_1 a1_1) (fun x26 =>
        if ¬ (x26 = true) then
          some false
        else
          cal (F_laws_eqInt64SS a0_2 a1_2) (fun x33 =>
            if ¬ (x33 = true) then
              some false
            else
              cal (F_laws_eqInt64SS a0_3 a1_3) (fun x40 =>
                if ¬ (x40 = true) then
                  some false
                else
                  some true))))
noncomputable def F_laws_FnExactColoursBy (a0_0 : (List (List Int))) (a1_0 : (List Int)) (a1_1 : (List Int)) (a1_2 : (List (List Int))) (a1_3 : (List (List Int))) (a2 : Int) : Option Bool :=
  cal (F_laws_szGraph a0_0 1048576) (fun x19 =>
    if x19 < 0 then
      some true
    else
      cal (F_laws_szNice a1_0 a1_1 a1_2 a1_3 x19) (fun x27 =>
        if x27 < 0 then
          some true
        else
          cal (F_laws_toGraph a0_0) (fun x38 =>
            cal (F_laws_toNice a1_0 a1_1 a1_2 a1_3) (fun x63 =>
              cal (F_spec_ColoursBy x38 x63.1 x63.2.1 x63.2.2.1 x63.2.2.2 a2) (fun x170 =>
                cal (F_laws_toGraph a0_0) (fun x176 =>
                  cal (F_laws_toNice a1_0 a1_1 a1_2 a1_3) (fun x217 =>
                    cal (F_impl_ColoursBy x176 x217.1 x217.2.1 x217.2.2.1 x217.2.2.2 a2) (fun x363 =>
                      if x363 ≠ x170 then
                        some false
                      else
                        cal (F_laws_toGraph a0_0) (fun x374 =>
                          cal (F_laws_eqGraph x176 x374) (fun x428 =>
                            if ¬ (x428 = true) then
                              some false
                            else
                              cal (F_laws_toNice a1_0 a1_1 a1_2 a1_3) (fun x437 =>
                                cal (F_laws_eqNice x217.1 x217.2.1 x217.2.2.1 x217.2.2.2 x437.1 x437.2.1 x437.2.2.1 x437.2.2.2) (fun x587 =>
                                  if ¬ (x587 = true) then
                                    some false
                                  else
                                    some true))))))))))))
end Go.Proofs.YtnebbhginakaiaaDoor
