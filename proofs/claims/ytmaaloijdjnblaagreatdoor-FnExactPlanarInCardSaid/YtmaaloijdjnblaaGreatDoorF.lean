/- Functional forms, printed by gen.py. -/
import Derived.Test.YtmaaloijdjnblaaGreatDoorPure
import Derived.Test.YtmaaloijdjnblaaGreatDoorRul
namespace Go.Proofs.YtmaaloijdjnblaaGreatDoor

noncomputable def F_laws_szInt64S (a0 : (List Int)) (a1 : Int) : Option Int :=
  ck (a1 - (a0.length : Int)) (fun _ =>
    if (a1 - (a0.length : Int)) < 0 then
      some (-1)
    else
      some (a1 - (a0.length : Int)))
noncomputable def F_laws_szInt64SS_l1 (a0 : (List (List Int))) (i37 : Int) (i39 : Int) : Option ((Int × Int) ⊕ (Int ⊕ Int)) :=
  if i39 < (a0.length : Int) then
    idx a0 i39 (fun x85 =>
      cal (F_laws_szInt64S x85 i37) (fun x99 =>
        if x99 < 0 then
          some (.inr (.inr (-1)))
        else
          ck (i39 + 1) (fun _ =>
            some (.inl (x99, i39 + 1)))))
  else
    some (.inr (.inl i37))
noncomputable def F_laws_szInt64SS_k2  (i73 : Int) : Option Int :=
  some i73
noncomputable def F_laws_szInt64SS (a0 : (List (List Int))) (a1 : Int) : Option Int :=
  ck (a1 - (a0.length : Int)) (fun _ =>
    if (a1 - (a0.length : Int)) < 0 then
      some (-1)
    else
      bnd (lp (fun s => F_laws_szInt64SS_l1 a0 s.1 s.2) (a1 - (a0.length : Int), 0)) (fun j => F_laws_szInt64SS_k2 j))
noncomputable def F_laws_szGraph (a0_0 : (List (List Int))) (a1 : Int) : Option Int :=
  cal (F_laws_szInt64SS a0_0 a1) (fun x9 =>
    if x9 < 0 then
      some (-1)
    else
      some x9)
noncomputable def F_laws_toInt64S_l1 (a0 : (List Int)) (l63 : (List Int)) (i66 : Int) : Option (((List Int) × Int) ⊕ ((List Int) ⊕ (List Int))) :=
  if i66 < (a0.length : Int) then
    idx a0 i66 (fun x128 =>
      idx l63 i66 (fun x140 =>
        ck (i66 + 1) (fun _ =>
          some (.inl ((l63.set ((i66 : Int).toNat) x128), i66 + 1)))))
  else
    some (.inr (.inl l63))
noncomputable def F_laws_toInt64S_k2  (l115 : (List Int)) : Option (List Int) :=
  some l115
noncomputable def F_laws_toInt64S (a0 : (List Int)) : Option (List Int) :=
  mkS (a0.length : Int) (0 : Int) (fun _ =>
    bnd (lp (fun s => F_laws_toInt64S_l1 a0 s.1 s.2) ((List.replicate ((a0.length : Int) : Int).toNat (0 : Int)), 0)) (fun j => F_laws_toInt64S_k2 j))
noncomputable def F_laws_toInt64SS_l1 (a0 : (List (List Int))) (l96 : (List (List Int))) (i99 : Int) : Option (((List (List Int)) × Int) ⊕ ((List (List Int)) ⊕ (List (List Int)))) :=
  if i99 < (a0.length : Int) then
    idx a0 i99 (fun x191 =>
      cal (F_laws_toInt64S x191) (fun x205 =>
        idx l96 i99 (fun x219 =>
          ck (i99 + 1) (fun _ =>
            some (.inl ((l96.set ((i99 : Int).toNat) x205), i99 + 1))))))
  else
    some (.inr (.inl l96))
noncomputable def F_laws_toInt64SS_k2  (l178 : (List (List Int))) : Option (List (List Int)) :=
  some l178
noncomputable def F_laws_toInt64SS (a0 : (List (List Int))) : Option (List (List Int)) :=
  mkS (a0.length : Int) ([] : (List Int)) (fun _ =>
    bnd (lp (fun s => F_laws_toInt64SS_l1 a0 s.1 s.2) ((List.replicate ((a0.length : Int) : Int).toNat ([] : (List Int))), 0)) (fun j => F_laws_toInt64SS_k2 j))
noncomputable def F_laws_toGraph (a0_0 : (List (List Int))) : Option (List (List Int)) :=
  cal (F_laws_toInt64SS a0_0) (fun x31 =>
    some x31)
noncomputable def F_spec_l1Size (a0_0 : (List (List Int))) : Option Int :=
  some (a0_0.length : Int)
noncomputable def F_spec_l1In (a0 : Int) (a1 : Int) (a2 : Int) : Option Bool :=
  if a1 ≤ a0 then
    some (decide (a0 ≤ a2))
  else
    some false
noncomputable def F_spec_l1Set_l1 (a0 : (List Int)) (a1 : Int) (i69 : Int) : Option (Int ⊕ (Unit ⊕ Bool)) :=
  if i69 < (a0.length : Int) then
    idx a0 i69 (fun x147 =>
      ck (a1 - 1) (fun _ =>
        cal (F_spec_l1In x147 0 (a1 - 1)) (fun x163 =>
          if ¬ (x163 = true) then
            some (.inr (.inr false))
          else
            if 0 < i69 then
              idx a0 i69 (fun x172 =>
                ck (i69 - 1) (fun _ =>
                  idx a0 (i69 - 1) (fun x186 =>
                    if x172 ≤ x186 then
                      some (.inr (.inr false))
                    else
                      ck (i69 + 1) (fun _ =>
                        some (.inl (i69 + 1))))))
            else
              ck (i69 + 1) (fun _ =>
                some (.inl (i69 + 1))))))
  else
    some (.inr (.inl ()))
noncomputable def F_spec_l1Set_k2   : Option Bool :=
  some true
noncomputable def F_spec_l1Set (a0 : (List Int)) (a1 : Int) : Option Bool :=
  if a1 < (a0.length : Int) then
    some false
  else
    bnd (lp (fun s => F_spec_l1Set_l1 a0 a1 s) 0) (fun j => F_spec_l1Set_k2 )
noncomputable def F_spec_l1Has_l1 (a0 : (List Int)) (a1 : Int) (i23 : Int) : Option (Int ⊕ (Unit ⊕ Bool)) :=
  if i23 < (a0.length : Int) then
    idx a0 i23 (fun x56 =>
      if x56 = a1 then
        some (.inr (.inr true))
      else
        ck (i23 + 1) (fun _ =>
          some (.inl (i23 + 1))))
  else
    some (.inr (.inl ()))
noncomputable def F_spec_l1Has_k2   : Option Bool :=
  some false
noncomputable def F_spec_l1Has (a0 : (List Int)) (a1 : Int) : Option Bool :=
  bnd (lp (fun s => F_spec_l1Has_l1 a0 a1 s) 0) (fun j => F_spec_l1Has_k2 )
noncomputable def F_spec_GraphOk_l1 (a0_0 : (List (List Int))) (x9 : Int) (i80 : Int) : Option (Int ⊕ (Unit ⊕ Bool)) :=
  if i80 < x9 then
    idx a0_0 i80 (fun x146 =>
      cal (F_spec_l1Set x146 x9) (fun x160 =>
        if ¬ (x160 = true) then
          some (.inr (.inr false))
        else
          idx a0_0 i80 (fun x169 =>
            cal (F_spec_l1Has x169 i80) (fun x183 =>
              if x183 = true then
                some (.inr (.inr false))
              else
                ck (i80 + 1) (fun _ =>
                  some (.inl (i80 + 1)))))))
  else
    some (.inr (.inl ()))
noncomputable def F_spec_GraphOk_l4 (a0_0 : (List (List Int))) (i436 : Int) (i762 : Int) : Option (Int ⊕ (Unit ⊕ (Int ⊕ (Unit ⊕ Bool)))) :=
  idx a0_0 i436 (fun x847 =>
    if i762 < (x847.length : Int) then
      idx a0_0 i436 (fun x862 =>
        idx x862 i762 (fun x876 =>
          idx a0_0 x876 (fun x888 =>
            cal (F_spec_l1Has x888 i436) (fun x904 =>
              if ¬ (x904 = true) then
                some (.inr (.inr (.inr (.inr false))))
              else
                ck (i762 + 1) (fun _ =>
                  some (.inl (i762 + 1)))))))
    else
      some (.inr (.inl ())))
noncomputable def F_spec_GraphOk_k5 (i436 : Int)  : Option (Int ⊕ (Unit ⊕ Bool)) :=
  ck (i436 + 1) (fun _ =>
    some (.inl (i436 + 1)))
noncomputable def F_spec_GraphOk_l3 (a0_0 : (List (List Int))) (x9 : Int) (i436 : Int) : Option (Int ⊕ (Unit ⊕ Bool)) :=
  if i436 < x9 then
    bnd (lp (fun s => F_spec_GraphOk_l4 a0_0 i436 s) 0) (fun j => F_spec_GraphOk_k5 i436 )
  else
    some (.inr (.inl ()))
noncomputable def F_spec_GraphOk_k6   : Option Bool :=
  some true
noncomputable def F_spec_GraphOk_k2 (a0_0 : (List (List Int))) (x9 : Int)  : Option Bool :=
  bnd (lp (fun s => F_spec_GraphOk_l3 a0_0 x9 s) 0) (fun j => F_spec_GraphOk_k6 )
noncomputable def F_spec_GraphOk (a0_0 : (List (List Int))) : Option Bool :=
  cal (F_spec_l1Size a0_0) (fun x9 =>
    cal (F_spec_l1In x9 1 16) (fun x16 =>
      if ¬ (x16 = true) then
        some false
      else
        bnd (lp (fun s => F_spec_GraphOk_l1 a0_0 x9 s) 0) (fun j => F_spec_GraphOk_k2 a0_0 x9 )))
noncomputable def F_spec_l26Small (a0_0 : (List (List Int))) : Option Bool :=
  cal (F_spec_GraphOk a0_0) (fun x9 =>
    if x9 = true then
      some (decide ((a0_0.length : Int) ≤ 8))
    else
      some false)
noncomputable def F_spec_l1Edges_l2 (a0_0 : (List (List Int))) (i505 : Int) (l1152 : (List (List Int))) (i1155 : Int) : Option (((List (List Int)) × Int) ⊕ ((List (List Int)) ⊕ (((List (List Int)) × Int) ⊕ ((List (List Int)) ⊕ (List (List Int)))))) :=
  idx a0_0 i505 (fun x1316 =>
    if i1155 < (x1316.length : Int) then
      idx a0_0 i505 (fun x1331 =>
        idx x1331 i1155 (fun x1345 =>
          if i505 < x1345 then
            idx a0_0 i505 (fun x1358 =>
              idx x1358 i1155 (fun x1372 =>
                app l1152 ([[i505, x1372]]) (fun _ =>
                  ck (i1155 + 1) (fun _ =>
                    some (.inl ((l1152 ++ ([[i505, x1372]])), i1155 + 1))))))
          else
            ck (i1155 + 1) (fun _ =>
              some (.inl (l1152, i1155 + 1)))))
    else
      some (.inr (.inl l1152)))
noncomputable def F_spec_l1Edges_k3 (i505 : Int) (l1302 : (List (List Int))) : Option (((List (List Int)) × Int) ⊕ ((List (List Int)) ⊕ (List (List Int)))) :=
  ck (i505 + 1) (fun _ =>
    some (.inl (l1302, i505 + 1)))
noncomputable def F_spec_l1Edges_l1 (a0_0 : (List (List Int))) (l502 : (List (List Int))) (i505 : Int) : Option (((List (List Int)) × Int) ⊕ ((List (List Int)) ⊕ (List (List Int)))) :=
  cal (F_spec_l1Size a0_0) (fun x990 =>
    if i505 < x990 then
      bnd (lp (fun s => F_spec_l1Edges_l2 a0_0 i505 s.1 s.2) (l502, 0)) (fun j => F_spec_l1Edges_k3 i505 j)
    else
      some (.inr (.inl l502)))
noncomputable def F_spec_l1Edges_k4  (l978 : (List (List Int))) : Option (List (List Int)) :=
  some l978
noncomputable def F_spec_l1Edges (a0_0 : (List (List Int))) : Option (List (List Int)) :=
  bnd (lp (fun s => F_spec_l1Edges_l1 a0_0 s.1 s.2) (([] : (List (List Int))), 0)) (fun j => F_spec_l1Edges_k4 j)
noncomputable def F_spec_l25Mask_l1 (a0 : (List Int)) (i27 : Int) (i29 : Int) : Option ((Int × Int) ⊕ (Int ⊕ Int)) :=
  if i29 < (a0.length : Int) then
    idx a0 i29 (fun x68 =>
      grd ((0 : Int) ≤ x68) (
        ck (1 * 2 ^ (x68 : Int).toNat) (fun _ =>
          ck (i29 + 1) (fun _ =>
            some (.inl (i64or i27 (1 * 2 ^ (x68 : Int).toNat), i29 + 1))))))
  else
    some (.inr (.inl i27))
noncomputable def F_spec_l25Mask_k2  (i56 : Int) : Option Int :=
  some i56
noncomputable def F_spec_l25Mask (a0 : (List Int)) : Option Int :=
  bnd (lp (fun s => F_spec_l25Mask_l1 a0 s.1 s.2) (0, 0)) (fun j => F_spec_l25Mask_k2 j)
noncomputable def F_spec_l27Low_l1 (a0 : Int) (i11 : Int) : Option (Int ⊕ (Int ⊕ Int)) :=
  grd ((0 : Int) ≤ i11) (
    if (i64and (a0 / 2 ^ (i11 : Int).toNat) 1) = 0 then
      ck (i11 + 1) (fun _ =>
        some (.inl (i11 + 1)))
    else
      some (.inr (.inl i11)))
noncomputable def F_spec_l27Low_k2  (i22 : Int) : Option Int :=
  some i22
noncomputable def F_spec_l27Low (a0 : Int) : Option Int :=
  bnd (lp (fun s => F_spec_l27Low_l1 a0 s) 0) (fun j => F_spec_l27Low_k2 j)
noncomputable def F_spec_l27Part_l2 (a0 : (List Int)) (a2 : Int) (i348 : Int) (t350 : Bool) (i351 : Int) : Option ((Int × Bool × Int) ⊕ ((Int × Bool) ⊕ ((Int × Bool) ⊕ (Int ⊕ Int)))) :=
  if i351 < (a0.length : Int) then
    grd ((0 : Int) ≤ i351) (
      if (i64and (i348 / 2 ^ (i351 : Int).toNat) 1) = 1 then
        idx a0 i351 (fun x410 =>
          if (i64andn (i64and x410 a2) i348) ≠ 0 then
            idx a0 i351 (fun x423 =>
              ck (i351 + 1) (fun _ =>
                some (.inl (i64or i348 (i64and x423 a2), true, i351 + 1))))
          else
            ck (i351 + 1) (fun _ =>
              some (.inl (i348, t350, i351 + 1))))
      else
        ck (i351 + 1) (fun _ =>
          some (.inl (i348, t350, i351 + 1))))
  else
    some (.inr (.inl (i348, t350)))
noncomputable def F_spec_l27Part_k3  (i395 : Int) (t397 : Bool) : Option ((Int × Bool) ⊕ (Int ⊕ Int)) :=
  some (.inl (i395, t397))
noncomputable def F_spec_l27Part_l1 (a0 : (List Int)) (a2 : Int) (i147 : Int) (t149 : Bool) : Option ((Int × Bool) ⊕ (Int ⊕ Int)) :=
  if t149 = true then
    bnd (lp (fun s => F_spec_l27Part_l2 a0 a2 s.1 s.2.1 s.2.2) (i147, false, 0)) (fun j => F_spec_l27Part_k3 j.1 j.2)
  else
    some (.inr (.inl i147))
noncomputable def F_spec_l27Part_k4  (i293 : Int) : Option Int :=
  some i293
noncomputable def F_spec_l27Part (a0 : (List Int)) (a1 : Int) (a2 : Int) : Option Int :=
  grd ((0 : Int) ≤ a1) (
    ck (1 * 2 ^ (a1 : Int).toNat) (fun _ =>
      bnd (lp (fun s => F_spec_l27Part_l1 a0 a2 s.1 s.2) (1 * 2 ^ (a1 : Int).toNat, true)) (fun j => F_spec_l27Part_k4 j)))
noncomputable def F_spec_l25Many_l1  (i14 : Int) (i16 : Int) : Option ((Int × Int) ⊕ (Int ⊕ Int)) :=
  if 0 < i14 then
    ck (i16 + 1) (fun _ =>
      ck (i14 - 1) (fun _ =>
        some (.inl (i64and i14 (i14 - 1), i16 + 1))))
  else
    some (.inr (.inl i16))
noncomputable def F_spec_l25Many_k2  (i30 : Int) : Option Int :=
  some i30
noncomputable def F_spec_l25Many (a0 : Int) : Option Int :=
  bnd (lp (fun s => F_spec_l25Many_l1 s.1 s.2) (a0, 0)) (fun j => F_spec_l25Many_k2 j)
noncomputable def F_spec_l22Behind_l1 (a0 : (List Int)) (a1 : Int) (i39 : Int) : Option (Int ⊕ (Unit ⊕ Int)) :=
  if i39 < (a0.length : Int) then
    idx a0 i39 (fun x88 =>
      if x88 = a1 then
        ck (i39 + 1) (fun _ =>
          grd ((0 : Int) ≤ (i39 + 1) ∧ (0 : Int) < (a0.length : Int)) (
            idx a0 ((i39 + 1) % (a0.length : Int)) (fun x105 =>
              some (.inr (.inr x105)))))
      else
        ck (i39 + 1) (fun _ =>
          some (.inl (i39 + 1))))
  else
    some (.inr (.inl ()))
noncomputable def F_spec_l22Behind_k2   : Option Int :=
  some (-1)
noncomputable def F_spec_l22Behind (a0 : (List Int)) (a1 : Int) : Option Int :=
  bnd (lp (fun s => F_spec_l22Behind_l1 a0 a1 s) 0) (fun j => F_spec_l22Behind_k2 )
noncomputable def F_spec_l22Faces_l3 (a0 : (List (List Int))) (l4902 : (List Bool)) (l4911 : (List (List Int))) (l4917 : (List Int)) (i4920 : Int) (i4922 : Int) : Option (((List Bool) × (List (List Int)) × (List Int) × Int × Int) ⊕ (((List Bool) × (List (List Int)) × (List Int)) ⊕ (((List Bool) × (List (List Int)) × Int) ⊕ (((List Bool) × (List (List Int))) ⊕ (((List Bool) × (List (List Int)) × Int) ⊕ ((List (List Int)) ⊕ (List (List Int)))))))) :=
  ck (i4920 * (a0.length : Int)) (fun _ =>
    ck ((i4920 * (a0.length : Int)) + i4922) (fun _ =>
      idx l4902 ((i4920 * (a0.length : Int)) + i4922) (fun x5094 =>
        if ¬ (x5094 = true) then
          ck (i4920 * (a0.length : Int)) (fun _ =>
            ck ((i4920 * (a0.length : Int)) + i4922) (fun _ =>
              idx l4902 ((i4920 * (a0.length : Int)) + i4922) (fun x5110 =>
                app l4917 ([i4920]) (fun _ =>
                  idx a0 i4922 (fun x5159 =>
                    cal (F_spec_l22Behind x5159 i4920) (fun x5173 =>
                      some (.inl ((l4902.set (((i4920 * (a0.length : Int)) + i4922 : Int).toNat) true), l4911, (l4917 ++ ([i4920])), i4922, x5173))))))))
        else
          some (.inr (.inl (l4902, l4911, l4917))))))
noncomputable def F_spec_l22Faces_k4 (i4132 : Int) (l5057 : (List Bool)) (l5066 : (List (List Int))) (l5072 : (List Int)) : Option (((List Bool) × (List (List Int)) × Int) ⊕ (((List Bool) × (List (List Int))) ⊕ (((List Bool) × (List (List Int)) × Int) ⊕ ((List (List Int)) ⊕ (List (List Int)))))) :=
  app l5066 ([l5072]) (fun _ =>
    ck (i4132 + 1) (fun _ =>
      some (.inl (l5057, (l5066 ++ ([l5072])), i4132 + 1))))
noncomputable def F_spec_l22Faces_l2 (a0 : (List (List Int))) (i1874 : Int) (l4120 : (List Bool)) (l4129 : (List (List Int))) (i4132 : Int) : Option (((List Bool) × (List (List Int)) × Int) ⊕ (((List Bool) × (List (List Int))) ⊕ (((List Bool) × (List (List Int)) × Int) ⊕ ((List (List Int)) ⊕ (List (List Int)))))) :=
  if i4132 < (a0.length : Int) then
    idx a0 i1874 (fun x4700 =>
      cal (F_spec_l1Has x4700 i4132) (fun x4714 =>
        if ¬ (x4714 = true) then
          ck (i4132 + 1) (fun _ =>
            some (.inl (l4120, l4129, i4132 + 1)))
        else
          ck (i1874 * (a0.length : Int)) (fun _ =>
            ck ((i1874 * (a0.length : Int)) + i4132) (fun _ =>
              idx l4120 ((i1874 * (a0.length : Int)) + i4132) (fun x4727 =>
                if x4727 = true then
                  ck (i4132 + 1) (fun _ =>
                    some (.inl (l4120, l4129, i4132 + 1)))
                else
                  bnd (lp (fun s => F_spec_l22Faces_l3 a0 s.1 s.2.1 s.2.2.1 s.2.2.2.1 s.2.2.2.2) (l4120, l4129, ([] : (List Int)), i1874, i4132)) (fun j => F_spec_l22Faces_k4 i4132 j.1 j.2.1 j.2.2))))))
  else
    some (.inr (.inl (l4120, l4129)))
noncomputable def F_spec_l22Faces_k5 (i1874 : Int) (l4676 : (List Bool)) (l4685 : (List (List Int))) : Option (((List Bool) × (List (List Int)) × Int) ⊕ ((List (List Int)) ⊕ (List (List Int)))) :=
  ck (i1874 + 1) (fun _ =>
    some (.inl (l4676, l4685, i1874 + 1)))
noncomputable def F_spec_l22Faces_l1 (a0 : (List (List Int))) (l1862 : (List Bool)) (l1871 : (List (List Int))) (i1874 : Int) : Option (((List Bool) × (List (List Int)) × Int) ⊕ ((List (List Int)) ⊕ (List (List Int)))) :=
  if i1874 < (a0.length : Int) then
    bnd (lp (fun s => F_spec_l22Faces_l2 a0 i1874 s.1 s.2.1 s.2.2) (l1862, l1871, 0)) (fun j => F_spec_l22Faces_k5 i1874 j.1 j.2)
  else
    some (.inr (.inl l1871))
noncomputable def F_spec_l22Faces_k6  (l3555 : (List (List Int))) : Option (List (List Int)) :=
  some l3555
noncomputable def F_spec_l22Faces (a0 : (List (List Int))) : Option (List (List Int)) :=
  ck ((a0.length : Int) * (a0.length : Int)) (fun _ =>
    mkS ((a0.length : Int) * (a0.length : Int)) false (fun _ =>
      bnd (lp (fun s => F_spec_l22Faces_l1 a0 s.1 s.2.1 s.2.2) ((List.replicate ((a0.length : Int) * (a0.length : Int) : Int).toNat false), ([] : (List (List Int))), 0)) (fun j => F_spec_l22Faces_k6 j)))
noncomputable def F_spec_l22Twice_l1 (a0 : (List (List Int))) (l93 : (List Int)) (i96 : Int) (i98 : Int) : Option (((List Int) × Int × Int) ⊕ (((List Int) × Int) ⊕ Int)) :=
  if i98 < (a0.length : Int) then
    idx a0 i98 (fun x194 =>
      cal (F_spec_l25Mask x194) (fun x208 =>
        app l93 ([x208]) (fun _ =>
          idx a0 i98 (fun x238 =>
            ck (i96 + (x238.length : Int)) (fun _ =>
              ck (i98 + 1) (fun _ =>
                some (.inl ((l93 ++ ([x208])), i96 + (x238.length : Int), i98 + 1))))))))
  else
    some (.inr (.inl (l93, i96)))
noncomputable def F_spec_l22Twice_l3 (l179 : (List Int)) (i317 : Int) (i319 : Int) (i321 : Int) : Option ((Int × Int × Int) ⊕ ((Int × Int) ⊕ Int)) :=
  if 0 < i321 then
    cal (F_spec_l27Low i321) (fun x386 =>
      cal (F_spec_l27Part l179 x386 i321) (fun x396 =>
        cal (F_spec_l25Many x396) (fun x403 =>
          if 1 < x403 then
            ck (i319 + 1) (fun _ =>
              cal (F_spec_l25Many x396) (fun x413 =>
                ck (i317 + x413) (fun _ =>
                  some (.inl (i317 + x413, i319 + 1, i64andn i321 x396)))))
          else
            some (.inl (i317, i319, i64andn i321 x396)))))
  else
    some (.inr (.inl (i317, i319)))
noncomputable def F_spec_l22Twice_k4 (a0 : (List (List Int))) (i182 : Int) (i372 : Int) (i374 : Int) : Option Int :=
  ck (2 * i374) (fun _ =>
    grd ((0 : Int) ≤ i182 ∧ (0 : Int) < 2) (
      ck ((2 * i374) + (i182 / 2)) (fun _ =>
        ck (((2 * i374) + (i182 / 2)) - i372) (fun _ =>
          cal (F_spec_l22Faces a0) (fun x430 =>
            ck ((((2 * i374) + (i182 / 2)) - i372) - (x430.length : Int)) (fun _ =>
              some ((((2 * i374) + (i182 / 2)) - i372) - (x430.length : Int))))))))
noncomputable def F_spec_l22Twice_k2 (a0 : (List (List Int))) (l179 : (List Int)) (i182 : Int) : Option Int :=
  grd ((0 : Int) ≤ (a0.length : Int)) (
    ck (1 * 2 ^ ((a0.length : Int) : Int).toNat) (fun _ =>
      ck ((1 * 2 ^ ((a0.length : Int) : Int).toNat) - 1) (fun _ =>
        bnd (lp (fun s => F_spec_l22Twice_l3 l179 s.1 s.2.1 s.2.2) (0, 0, (1 * 2 ^ ((a0.length : Int) : Int).toNat) - 1)) (fun j => F_spec_l22Twice_k4 a0 i182 j.1 j.2))))
noncomputable def F_spec_l22Twice (a0 : (List (List Int))) : Option Int :=
  bnd (lp (fun s => F_spec_l22Twice_l1 a0 s.1 s.2.1 s.2.2) (([] : (List Int)), 0, 0)) (fun j => F_spec_l22Twice_k2 a0 j.1 j.2)
noncomputable def F_spec_l1Copy (a0 : (List Int)) : Option (List Int) :=
  app ([] : (List Int)) a0 (fun _ =>
    some (([] : (List Int)) ++ a0))
noncomputable def F_spec_l22First_l1 (a0 : (List Int)) (i82 : Int) (i84 : Int) : Option ((Int × Int) ⊕ (Int ⊕ (List Int))) :=
  if i84 < (a0.length : Int) then
    idx a0 i84 (fun x138 =>
      idx a0 i82 (fun x150 =>
        if x138 < x150 then
          ck (i84 + 1) (fun _ =>
            some (.inl (i84, i84 + 1)))
        else
          ck (i84 + 1) (fun _ =>
            some (.inl (i82, i84 + 1)))))
  else
    some (.inr (.inl i82))
noncomputable def F_spec_l22First_k2 (a0 : (List Int)) (i126 : Int) : Option (List Int) :=
  slc a0 i126 (a0.length : Int) (fun _ =>
    slc a0 0 i126 (fun _ =>
      cal (F_spec_l1Copy ((a0.drop (i126 : Int).toNat).take (((a0.length : Int) : Int).toNat - (i126 : Int).toNat))) (fun x187 =>
        app x187 ((a0.drop (0 : Int).toNat).take ((i126 : Int).toNat - (0 : Int).toNat)) (fun _ =>
          some (x187 ++ ((a0.drop (0 : Int).toNat).take ((i126 : Int).toNat - (0 : Int).toNat)))))))
noncomputable def F_spec_l22First (a0 : (List Int)) : Option (List Int) :=
  bnd (lp (fun s => F_spec_l22First_l1 a0 s.1 s.2) (0, 0)) (fun j => F_spec_l22First_k2 a0 j)
noncomputable def F_spec_l1Same_l1 (a0 : (List Int)) (a1 : (List Int)) (i39 : Int) : Option (Int ⊕ (Unit ⊕ Bool)) :=
  if i39 < (a0.length : Int) then
    idx a0 i39 (fun x87 =>
      idx a1 i39 (fun x99 =>
        if x87 ≠ x99 then
          some (.inr (.inr false))
        else
          ck (i39 + 1) (fun _ =>
            some (.inl (i39 + 1)))))
  else
    some (.inr (.inl ()))
noncomputable def F_spec_l1Same_k2   : Option Bool :=
  some true
noncomputable def F_spec_l1Same (a0 : (List Int)) (a1 : (List Int)) : Option Bool :=
  if (a0.length : Int) ≠ (a1.length : Int) then
    some false
  else
    bnd (lp (fun s => F_spec_l1Same_l1 a0 a1 s) 0) (fun j => F_spec_l1Same_k2 )
noncomputable def F_spec_l1Less_l1 (a0 : (List Int)) (a1 : (List Int)) (i66 : Int) : Option (Int ⊕ (Unit ⊕ Bool)) :=
  if i66 < (a0.length : Int) then
    idx a0 i66 (fun x141 =>
      idx a1 i66 (fun x153 =>
        if x141 ≠ x153 then
          idx a0 i66 (fun x169 =>
            idx a1 i66 (fun x181 =>
              some (.inr (.inr (decide (x169 < x181))))))
        else
          ck (i66 + 1) (fun _ =>
            some (.inl (i66 + 1)))))
  else
    some (.inr (.inl ()))
noncomputable def F_spec_l1Less_k2   : Option Bool :=
  some false
noncomputable def F_spec_l1Less (a0 : (List Int)) (a1 : (List Int)) : Option Bool :=
  if (a0.length : Int) ≠ (a1.length : Int) then
    some (decide ((a0.length : Int) < (a1.length : Int)))
  else
    bnd (lp (fun s => F_spec_l1Less_l1 a0 a1 s) 0) (fun j => F_spec_l1Less_k2 )
noncomputable def F_spec_l22Less_l1 (a0 : (List (List Int))) (a1 : (List (List Int))) (i81 : Int) : Option (Int ⊕ (Unit ⊕ Bool)) :=
  if i81 < (a0.length : Int) then
    idx a0 i81 (fun x172 =>
      idx a1 i81 (fun x186 =>
        cal (F_spec_l1Same x172 x186) (fun x202 =>
          if ¬ (x202 = true) then
            idx a0 i81 (fun x208 =>
              idx a1 i81 (fun x222 =>
                cal (F_spec_l1Less x208 x222) (fun x238 =>
                  some (.inr (.inr x238)))))
          else
            ck (i81 + 1) (fun _ =>
              some (.inl (i81 + 1))))))
  else
    some (.inr (.inl ()))
noncomputable def F_spec_l22Less_k2   : Option Bool :=
  some false
noncomputable def F_spec_l22Less (a0 : (List (List Int))) (a1 : (List (List Int))) : Option Bool :=
  bnd (lp (fun s => F_spec_l22Less_l1 a0 a1 s) 0) (fun j => F_spec_l22Less_k2 )
noncomputable def F_spec_l22Put (a0 : (List (List Int))) (a1 : Int) (a2 : Int) (a3 : Int) : Option (List (List Int)) :=
  app ([] : (List (List Int))) a0 (fun _ =>
    idx a0 a1 (fun x36 =>
      if 0 < (x36.length : Int) then
        idx a0 a1 (fun x53 =>
          ck (a2 + 1) (fun _ =>
            slc x53 0 (a2 + 1) (fun _ =>
              idx a0 a1 (fun x78 =>
                ck (a2 + 1) (fun _ =>
                  slc x78 (a2 + 1) (x78.length : Int) (fun _ =>
                    cal (F_spec_l1Copy ((x53.drop (0 : Int).toNat).take ((a2 + 1 : Int).toNat - (0 : Int).toNat))) (fun xqr1o7_1 =>
                      app xqr1o7_1 ([a3]) (fun _ =>
                        app (xqr1o7_1 ++ ([a3])) ((x78.drop (a2 + 1 : Int).toNat).take (((x78.length : Int) : Int).toNat - (a2 + 1 : Int).toNat)) (fun _ =>
                          idx (([] : (List (List Int))) ++ a0) a1 (fun x106 =>
                            some ((([] : (List (List Int))) ++ a0).set ((a1 : Int).toNat) ((xqr1o7_1 ++ ([a3])) ++ ((x78.drop (a2 + 1 : Int).toNat).take (((x78.length : Int) : Int).toNat - (a2 + 1 : Int).toNat))))))))))))))
      else
        idx (([] : (List (List Int))) ++ a0) a1 (fun x138 =>
          some ((([] : (List (List Int))) ++ a0).set ((a1 : Int).toNat) ([a3])))))
noncomputable def F_spec_l22Search_l1 (a1 : (List (List Int))) (l167 : (List (List Int))) (i170 : Int) : Option (((List (List Int)) × Int) ⊕ ((List (List Int)) ⊕ (Int × (List (List Int))))) :=
  if i170 < (a1.length : Int) then
    idx a1 i170 (fun x302 =>
      cal (F_spec_l22First x302) (fun x317 =>
        app l167 ([x317]) (fun _ =>
          ck (i170 + 1) (fun _ =>
            some (.inl ((l167 ++ ([x317])), i170 + 1))))))
  else
    some (.inr (.inl l167))
noncomputable def F_spec_l22Search_k2 (a2_0 : Int) (a2_1 : (List (List Int))) (l283 : (List (List Int))) : Option (Int × (List (List Int))) :=
  ck (a2_0 + 1) (fun _ =>
    if (a2_1.length : Int) = 0 then
      some (a2_0 + 1, l283)
    else
      cal (F_spec_l22Less l283 a2_1) (fun x393 =>
        if x393 = true then
          some (a2_0 + 1, l283)
        else
          some (a2_0 + 1, a2_1)))
noncomputable def F_spec_l22Search_l4 (a0 : (List (List Int))) (a1 : (List (List Int))) (rc : (List (List Int)) → (List (List Int)) → Int → (List (List Int)) → Option (Int × (List (List Int)))) (x430 : Int) (x457 : Int) (i1676 : Int) (i3096 : Int) (l3100 : (List (List Int))) (i3106 : Int) : Option ((Int × (List (List Int)) × Int) ⊕ ((Int × (List (List Int))) ⊕ ((Int × (List (List Int)) × Int) ⊕ ((Int × (List (List Int))) ⊕ (Int × (List (List Int))))))) :=
  if i3106 = 0 then
    slc a0 1 (a0.length : Int) (fun _ =>
      cal (F_spec_l22Put a1 x430 i1676 x457) (fun x3329 =>
        cal (F_spec_l22Put x3329 x457 i3106 x430) (fun x3345 =>
          cal (rc ((a0.drop (1 : Int).toNat).take (((a0.length : Int) : Int).toNat - (1 : Int).toNat)) x3345 i3096 l3100) (fun x3361 =>
            ck (i3106 + 1) (fun _ =>
              some (.inl (x3361.1, x3361.2, i3106 + 1)))))))
  else
    idx a1 x457 (fun x3389 =>
      if i3106 < (x3389.length : Int) then
        slc a0 1 (a0.length : Int) (fun _ =>
          cal (F_spec_l22Put a1 x430 i1676 x457) (fun x3416 =>
            cal (F_spec_l22Put x3416 x457 i3106 x430) (fun x3432 =>
              cal (rc ((a0.drop (1 : Int).toNat).take (((a0.length : Int) : Int).toNat - (1 : Int).toNat)) x3432 i3096 l3100) (fun x3448 =>
                ck (i3106 + 1) (fun _ =>
                  some (.inl (x3448.1, x3448.2, i3106 + 1)))))))
      else
        some (.inr (.inl (i3096, l3100))))
noncomputable def F_spec_l22Search_k5 (i1676 : Int) (i3294 : Int) (l3298 : (List (List Int))) : Option ((Int × (List (List Int)) × Int) ⊕ ((Int × (List (List Int))) ⊕ (Int × (List (List Int))))) :=
  ck (i1676 + 1) (fun _ =>
    some (.inl (i3294, l3298, i1676 + 1)))
noncomputable def F_spec_l22Search_l6 (a0 : (List (List Int))) (a1 : (List (List Int))) (rc : (List (List Int)) → (List (List Int)) → Int → (List (List Int)) → Option (Int × (List (List Int)))) (x430 : Int) (x457 : Int) (i1676 : Int) (i3688 : Int) (l3692 : (List (List Int))) (i3698 : Int) : Option ((Int × (List (List Int)) × Int) ⊕ ((Int × (List (List Int))) ⊕ ((Int × (List (List Int)) × Int) ⊕ ((Int × (List (List Int))) ⊕ (Int × (List (List Int))))))) :=
  if i3698 = 0 then
    slc a0 1 (a0.length : Int) (fun _ =>
      cal (F_spec_l22Put a1 x430 i1676 x457) (fun x3921 =>
        cal (F_spec_l22Put x3921 x457 i3698 x430) (fun x3937 =>
          cal (rc ((a0.drop (1 : Int).toNat).take (((a0.length : Int) : Int).toNat - (1 : Int).toNat)) x3937 i3688 l3692) (fun x3953 =>
            ck (i3698 + 1) (fun _ =>
              some (.inl (x3953.1, x3953.2, i3698 + 1)))))))
  else
    idx a1 x457 (fun x3981 =>
      if i3698 < (x3981.length : Int) then
        slc a0 1 (a0.length : Int) (fun _ =>
          cal (F_spec_l22Put a1 x430 i1676 x457) (fun x4008 =>
            cal (F_spec_l22Put x4008 x457 i3698 x430) (fun x4024 =>
              cal (rc ((a0.drop (1 : Int).toNat).take (((a0.length : Int) : Int).toNat - (1 : Int).toNat)) x4024 i3688 l3692) (fun x4040 =>
                ck (i3698 + 1) (fun _ =>
                  some (.inl (x4040.1, x4040.2, i3698 + 1)))))))
      else
        some (.inr (.inl (i3688, l3692))))
noncomputable def F_spec_l22Search_k7 (i1676 : Int) (i3886 : Int) (l3890 : (List (List Int))) : Option ((Int × (List (List Int)) × Int) ⊕ ((Int × (List (List Int))) ⊕ (Int × (List (List Int))))) :=
  ck (i1676 + 1) (fun _ =>
    some (.inl (i3886, l3890, i1676 + 1)))
noncomputable def F_spec_l22Search_l3 (a0 : (List (List Int))) (a1 : (List (List Int))) (rc : (List (List Int)) → (List (List Int)) → Int → (List (List Int)) → Option (Int × (List (List Int)))) (x430 : Int) (x457 : Int) (i1666 : Int) (l1670 : (List (List Int))) (i1676 : Int) : Option ((Int × (List (List Int)) × Int) ⊕ ((Int × (List (List Int))) ⊕ (Int × (List (List Int))))) :=
  if i1676 = 0 then
    bnd (lp (fun s => F_spec_l22Search_l4 a0 a1 rc x430 x457 i1676 s.1 s.2.1 s.2.2) (i1666, l1670, 0)) (fun j => F_spec_l22Search_k5 i1676 j.1 j.2)
  else
    idx a1 x430 (fun x3478 =>
      if i1676 < (x3478.length : Int) then
        bnd (lp (fun s => F_spec_l22Search_l6 a0 a1 rc x430 x457 i1676 s.1 s.2.1 s.2.2) (i1666, l1670, 0)) (fun j => F_spec_l22Search_k7 i1676 j.1 j.2)
      else
        some (.inr (.inl (i1666, l1670))))
noncomputable def F_spec_l22Search_k8  (i2874 : Int) (l2878 : (List (List Int))) : Option (Int × (List (List Int))) :=
  some (i2874, l2878)
noncomputable def F_spec_l22Search_body (rc : (List (List Int)) → (List (List Int)) → Int → (List (List Int)) → Option (Int × (List (List Int)))) (a0 : (List (List Int))) (a1 : (List (List Int))) (a2_0 : Int) (a2_1 : (List (List Int))) : Option (Int × (List (List Int))) :=
  cal (F_spec_l22Twice a1) (fun x19 =>
    if x19 ≠ 0 then
      some (a2_0, a2_1)
    else
      if (a0.length : Int) = 0 then
        bnd (lp (fun s => F_spec_l22Search_l1 a1 s.1 s.2) (([] : (List (List Int))), 0)) (fun j => F_spec_l22Search_k2 a2_0 a2_1 j)
      else
        idx a0 0 (fun x415 =>
          idx x415 0 (fun x430 =>
            idx a0 0 (fun x442 =>
              idx x442 1 (fun x457 =>
                bnd (lp (fun s => F_spec_l22Search_l3 a0 a1 rc x430 x457 s.1 s.2.1 s.2.2) (a2_0, a2_1, 0)) (fun j => F_spec_l22Search_k8 j.1 j.2))))))
noncomputable def F_spec_l22Search (a0 : (List (List Int))) (a1 : (List (List Int))) (a2_0 : Int) (a2_1 : (List (List Int))) : Option (Int × (List (List Int))) := fixO (fun (rc : ((List (List Int)) × (List (List Int)) × Int × (List (List Int))) → Option (Int × (List (List Int)))) a => F_spec_l22Search_body (fun z0 z1 z2 z3 => rc (z0, z1, z2, z3)) a.1 a.2.1 a.2.2.1 a.2.2.2) (a0, a1, a2_0, a2_1)
noncomputable def F_spec_l22All (a0_0 : (List (List Int))) : Option (Int × (List (List Int))) :=
  cal (F_spec_l1Edges a0_0) (fun x19 =>
    if 3 ≤ (a0_0.length : Int) then
      ck (3 * (a0_0.length : Int)) (fun _ =>
        ck ((3 * (a0_0.length : Int)) - 6) (fun _ =>
          if ((3 * (a0_0.length : Int)) - 6) < (x19.length : Int) then
            some (0, ([] : (List (List Int))))
          else
            mkS (a0_0.length : Int) ([] : (List Int)) (fun _ =>
              cal (F_spec_l22Search x19 (List.replicate ((a0_0.length : Int) : Int).toNat ([] : (List Int))) 0 []) (fun x72 =>
                some (x72.1, x72.2)))))
    else
      mkS (a0_0.length : Int) ([] : (List Int)) (fun _ =>
        cal (F_spec_l22Search x19 (List.replicate ((a0_0.length : Int) : Int).toNat ([] : (List Int))) 0 []) (fun x113 =>
          some (x113.1, x113.2))))
noncomputable def F_spec_EmbeddingOf (a0_0 : (List (List Int))) : Option ((List (List Int)) × Bool) :=
  cal (F_spec_l26Small a0_0) (fun x19 =>
    if ¬ (x19 = true) then
      some (([] : (List (List Int))), false)
    else
      cal (F_spec_l22All a0_0) (fun x30 =>
        if x30.1 = 0 then
          some (([] : (List (List Int))), false)
        else
          some (x30.2, true)))
noncomputable def F_spec_PlanarIn (a0_0 : (List (List Int))) : Option Bool :=
  cal (F_spec_EmbeddingOf a0_0) (fun x9 =>
    some x9.2)
noncomputable def F_impl_inRange (a0 : Int) (a1 : Int) (a2 : Int) : Option Bool :=
  if a1 ≤ a0 then
    some (decide (a0 ≤ a2))
  else
    some false
noncomputable def F_impl_increasing_l1 (a0 : (List Int)) (a1 : Int) (i49 : Int) : Option (Int ⊕ (Unit ⊕ Bool)) :=
  if i49 < (a0.length : Int) then
    idx a0 i49 (fun x108 =>
      ck (a1 - 1) (fun _ =>
        cal (F_impl_inRange x108 0 (a1 - 1)) (fun x122 =>
          if ¬ (x122 = true) then
            some (.inr (.inr false))
          else
            if 0 < i49 then
              ck (i49 - 1) (fun _ =>
                idx a0 (i49 - 1) (fun x134 =>
                  if x108 ≤ x134 then
                    some (.inr (.inr false))
                  else
                    ck (i49 + 1) (fun _ =>
                      some (.inl (i49 + 1)))))
            else
              ck (i49 + 1) (fun _ =>
                some (.inl (i49 + 1))))))
  else
    some (.inr (.inl ()))
noncomputable def F_impl_increasing_k2   : Option Bool :=
  some true
noncomputable def F_impl_increasing (a0 : (List Int)) (a1 : Int) : Option Bool :=
  bnd (lp (fun s => F_impl_increasing_l1 a0 a1 s) 0) (fun j => F_impl_increasing_k2 )
noncomputable def F_slices_Index_int64_l1 (a0 : (List Int)) (a1 : Int) (i23 : Int) : Option (Int ⊕ (Unit ⊕ Int)) :=
  if i23 < (a0.length : Int) then
    idx a0 i23 (fun x56 =>
      if a1 = x56 then
        some (.inr (.inr i23))
      else
        ck (i23 + 1) (fun _ =>
          some (.inl (i23 + 1))))
  else
    some (.inr (.inl ()))
noncomputable def F_slices_Index_int64_k2   : Option Int :=
  some (-1)
noncomputable def F_slices_Index_int64 (a0 : (List Int)) (a1 : Int) : Option Int :=
  bnd (lp (fun s => F_slices_Index_int64_l1 a0 a1 s) 0) (fun j => F_slices_Index_int64_k2 )
noncomputable def F_slices_Contains_int64 (a0 : (List Int)) (a1 : Int) : Option Bool :=
  cal (F_slices_Index_int64 a0 a1) (fun x1 =>
    some (decide (0 ≤ x1)))
noncomputable def F_impl_GraphOk_l1 (a0_0 : (List (List Int))) (i56 : Int) : Option (Int ⊕ (Unit ⊕ Bool)) :=
  if i56 < (a0_0.length : Int) then
    idx a0_0 i56 (fun x108 =>
      cal (F_impl_increasing x108 (a0_0.length : Int)) (fun x122 =>
        if ¬ (x122 = true) then
          some (.inr (.inr false))
        else
          cal (F_slices_Contains_int64 x108 i56) (fun x131 =>
            if x131 = true then
              some (.inr (.inr false))
            else
              ck (i56 + 1) (fun _ =>
                some (.inl (i56 + 1))))))
  else
    some (.inr (.inl ()))
noncomputable def F_impl_GraphOk_l4 (a0_0 : (List (List Int))) (i311 : Int) (x487 : (List Int)) (i549 : Int) : Option (Int ⊕ (Unit ⊕ (Int ⊕ (Unit ⊕ Bool)))) :=
  if i549 < (x487.length : Int) then
    idx x487 i549 (fun x606 =>
      idx a0_0 x606 (fun x618 =>
        cal (F_slices_Contains_int64 x618 i311) (fun x632 =>
          if ¬ (x632 = true) then
            some (.inr (.inr (.inr (.inr false))))
          else
            ck (i549 + 1) (fun _ =>
              some (.inl (i549 + 1))))))
  else
    some (.inr (.inl ()))
noncomputable def F_impl_GraphOk_k5 (i311 : Int)  : Option (Int ⊕ (Unit ⊕ Bool)) :=
  ck (i311 + 1) (fun _ =>
    some (.inl (i311 + 1)))
noncomputable def F_impl_GraphOk_l3 (a0_0 : (List (List Int))) (i311 : Int) : Option (Int ⊕ (Unit ⊕ Bool)) :=
  if i311 < (a0_0.length : Int) then
    idx a0_0 i311 (fun x487 =>
      bnd (lp (fun s => F_impl_GraphOk_l4 a0_0 i311 x487 s) 0) (fun j => F_impl_GraphOk_k5 i311 ))
  else
    some (.inr (.inl ()))
noncomputable def F_impl_GraphOk_k6   : Option Bool :=
  some true
noncomputable def F_impl_GraphOk_k2 (a0_0 : (List (List Int)))  : Option Bool :=
  bnd (lp (fun s => F_impl_GraphOk_l3 a0_0 s) 0) (fun j => F_impl_GraphOk_k6 )
noncomputable def F_impl_GraphOk (a0_0 : (List (List Int))) : Option Bool :=
  if (a0_0.length : Int) < 1 then
    some false
  else
    if 16 < (a0_0.length : Int) then
      some false
    else
      bnd (lp (fun s => F_impl_GraphOk_l1 a0_0 s) 0) (fun j => F_impl_GraphOk_k2 a0_0 )
noncomputable def F_impl_isSmall (a0_0 : (List (List Int))) : Option Bool :=
  cal (F_impl_GraphOk a0_0) (fun x9 =>
    if x9 = true then
      some (decide ((a0_0.length : Int) ≤ 8))
    else
      some false)
noncomputable def F_impl_one (a0 : Int) : Option (BitVec 32) :=
  grd ((0 : Int) ≤ a0) (
    some ((1#32) <<< (a0 : Int).toNat))
noncomputable def F_impl_maskOf_l1 (a0 : (List Int)) (u29 : BitVec 32) (i30 : Int) : Option (((BitVec 32) × Int) ⊕ ((BitVec 32) ⊕ (BitVec 32))) :=
  if i30 < (a0.length : Int) then
    idx a0 i30 (fun x70 =>
      cal (F_impl_one x70) (fun x82 =>
        ck (i30 + 1) (fun _ =>
          some (.inl (u29 ||| x82, i30 + 1)))))
  else
    some (.inr (.inl u29))
noncomputable def F_impl_maskOf_k2  (u59 : BitVec 32) : Option (BitVec 32) :=
  some u59
noncomputable def F_impl_maskOf (a0 : (List Int)) : Option (BitVec 32) :=
  bnd (lp (fun s => F_impl_maskOf_l1 a0 s.1 s.2) (0#32, 0)) (fun j => F_impl_maskOf_k2 j)
noncomputable def F_impl_netsOf_l1 (a0_0 : (List (List Int))) (l84 : (List (BitVec 32))) (i87 : Int) : Option (((List (BitVec 32)) × Int) ⊕ ((List (BitVec 32)) ⊕ (List (BitVec 32)))) :=
  if i87 < (a0_0.length : Int) then
    idx a0_0 i87 (fun x162 =>
      cal (F_impl_maskOf x162) (fun x176 =>
        app l84 ([x176]) (fun _ =>
          ck (i87 + 1) (fun _ =>
            some (.inl ((l84 ++ ([x176])), i87 + 1))))))
  else
    some (.inr (.inl l84))
noncomputable def F_impl_netsOf_k2  (l149 : (List (BitVec 32))) : Option (List (BitVec 32)) :=
  some l149
noncomputable def F_impl_netsOf (a0_0 : (List (List Int))) : Option (List (BitVec 32)) :=
  bnd (lp (fun s => F_impl_netsOf_l1 a0_0 s.1 s.2) (([] : (List (BitVec 32))), 0)) (fun j => F_impl_netsOf_k2 j)
noncomputable def F_impl_firstOf (a0 : Int) : Option (BitVec 32) :=
  grd ((0 : Int) ≤ a0) (
    some (((1#32) <<< (a0 : Int).toNat) - (1#32)))
noncomputable def F_impl_nets_all (a0 : (List (BitVec 32))) : Option (BitVec 32) :=
  cal (F_impl_firstOf (a0.length : Int)) (fun x1 =>
    some x1)
noncomputable def F_math_bits_TrailingZeros32 (a0 : BitVec 32) : Option Int :=
  if a0 = (0#32) then
    some 32
  else
    idx deBruijn32 (BitVec.toNat (((a0 &&& (-a0)) * (125613361#32)) >>> (27 : Int).toNat) : Int) (fun x2 =>
      some (BitVec.toNat x2 : Int))
noncomputable def F_impl_vset_least (a0 : BitVec 32) : Option Int :=
  cal (F_math_bits_TrailingZeros32 a0) (fun x1 =>
    some x1)
noncomputable def F_impl_vset_list_l1  (u55 : BitVec 32) (l59 : (List Int)) : Option (((BitVec 32) × (List Int)) ⊕ ((List Int) ⊕ (List Int))) :=
  if u55 ≠ (0#32) then
    cal (F_impl_vset_least u55) (fun x119 =>
      app l59 ([x119]) (fun _ =>
        some (.inl (u55 &&& (u55 - (1#32)), (l59 ++ ([x119]))))))
  else
    some (.inr (.inl l59))
noncomputable def F_impl_vset_list_k2  (l106 : (List Int)) : Option (List Int) :=
  some l106
noncomputable def F_impl_vset_list (a0 : BitVec 32) : Option (List Int) :=
  bnd (lp (fun s => F_impl_vset_list_l1 s.1 s.2) (a0, ([] : (List Int)))) (fun j => F_impl_vset_list_k2 j)
noncomputable def F_math_bits_OnesCount32 (a0 : BitVec 32) : Option Int :=
  idx popTab (BitVec.toNat (a0 >>> (24 : Int).toNat) : Int) (fun x1 =>
    idx popTab (BitVec.toNat ((a0 >>> (16 : Int).toNat) &&& (255#32)) : Int) (fun x4 =>
      idx popTab (BitVec.toNat ((a0 >>> (8 : Int).toNat) &&& (255#32)) : Int) (fun x7 =>
        idx popTab (BitVec.toNat (a0 &&& (255#32)) : Int) (fun x10 =>
          some (BitVec.toNat (((x1 + x4) + x7) + x10) : Int)))))
noncomputable def F_impl_vset_size (a0 : BitVec 32) : Option Int :=
  cal (F_math_bits_OnesCount32 a0) (fun x1 =>
    some x1)
noncomputable def F_impl_growthOf_l2 (a0 : (List (BitVec 32))) (u460 : BitVec 32) (x929 : (List Int)) (i1007 : Int) (i1009 : Int) (i1014 : Int) : Option ((Int × Int × Int) ⊕ (Int ⊕ (((List (Int × Int)) × (BitVec 32)) ⊕ ((List (Int × Int)) ⊕ (List (Int × Int)))))) :=
  if i1014 < (x929.length : Int) then
    idx x929 i1014 (fun x1086 =>
      idx a0 x1086 (fun x1098 =>
        cal (F_impl_vset_size (x1098 &&& u460)) (fun x1109 =>
          if i1009 < x1109 then
            ck (i1014 + 1) (fun _ =>
              some (.inl (x1086, x1109, i1014 + 1)))
          else
            ck (i1014 + 1) (fun _ =>
              some (.inl (i1007, i1009, i1014 + 1))))))
  else
    some (.inr (.inl i1007))
noncomputable def F_impl_growthOf_l4 (i1074 : Int) (x1132 : (List Int)) (l1215 : (List (Int × Int))) (i1221 : Int) : Option (((List (Int × Int)) × Int) ⊕ ((List (Int × Int)) ⊕ (((List (Int × Int)) × (BitVec 32)) ⊕ ((List (Int × Int)) ⊕ (List (Int × Int)))))) :=
  if i1221 < (x1132.length : Int) then
    idx x1132 i1221 (fun x1299 =>
      app l1215 ([(x1299, i1074)]) (fun _ =>
        ck (i1221 + 1) (fun _ =>
          some (.inl ((l1215 ++ ([(x1299, i1074)])), i1221 + 1)))))
  else
    some (.inr (.inl l1215))
noncomputable def F_impl_growthOf_k5 (u460 : BitVec 32) (i1074 : Int) (l1286 : (List (Int × Int))) : Option (((List (Int × Int)) × (BitVec 32)) ⊕ ((List (Int × Int)) ⊕ (List (Int × Int)))) :=
  cal (F_impl_one i1074) (fun x1340 =>
    some (.inl (l1286, u460 ||| x1340)))
noncomputable def F_impl_growthOf_k3 (a0 : (List (BitVec 32))) (l457 : (List (Int × Int))) (u460 : BitVec 32) (i1074 : Int) : Option (((List (Int × Int)) × (BitVec 32)) ⊕ ((List (Int × Int)) ⊕ (List (Int × Int)))) :=
  idx a0 i1074 (fun x1121 =>
    cal (F_impl_vset_list (x1121 &&& u460)) (fun x1132 =>
      bnd (lp (fun s => F_impl_growthOf_l4 i1074 x1132 s.1 s.2) (l457, 0)) (fun j => F_impl_growthOf_k5 u460 i1074 j)))
noncomputable def F_impl_growthOf_l1 (a0 : (List (BitVec 32))) (l457 : (List (Int × Int))) (u460 : BitVec 32) : Option (((List (Int × Int)) × (BitVec 32)) ⊕ ((List (Int × Int)) ⊕ (List (Int × Int)))) :=
  cal (F_impl_nets_all a0) (fun x916 =>
    if u460 ≠ x916 then
      cal (F_impl_nets_all a0) (fun x923 =>
        cal (F_impl_vset_list (x923 &&& ~~~u460)) (fun x929 =>
          bnd (lp (fun s => F_impl_growthOf_l2 a0 u460 x929 s.1 s.2.1 s.2.2) ((-1), (-1), 0)) (fun j => F_impl_growthOf_k3 a0 l457 u460 j)))
    else
      some (.inr (.inl l457)))
noncomputable def F_impl_growthOf_k6  (l904 : (List (Int × Int))) : Option (List (Int × Int)) :=
  some l904
noncomputable def F_impl_growthOf (a0 : (List (BitVec 32))) : Option (List (Int × Int)) :=
  bnd (lp (fun s => F_impl_growthOf_l1 a0 s.1 s.2) (([] : (List (Int × Int))), 0#32)) (fun j => F_impl_growthOf_k6 j)
noncomputable def F_slices_Values_int (a0 : (List Int)) : Option (List Int) := some a0
noncomputable def F_slices_Collect_int (a0 : (List Int)) : Option (List Int) := if a0.length ≤ 1099511627776 then some a0 else none
noncomputable def F_slices_Sort_int (a0 : (List Int)) : Option (List Int) := if a0.length ≤ 1099511627776 then some (a0.mergeSort fun x y => decide (x ≤ y)) else none
noncomputable def F_slices_Sorted_int (a0 : (List Int)) : Option (List Int) :=
  cal (F_slices_Collect_int a0) (fun x1 =>
    cal (F_slices_Sort_int x1) (fun x12 =>
      some x12))
noncomputable def F_slices_Index_int_l1 (a0 : (List Int)) (a1 : Int) (i23 : Int) : Option (Int ⊕ (Unit ⊕ Int)) :=
  if i23 < (a0.length : Int) then
    idx a0 i23 (fun x56 =>
      if a1 = x56 then
        some (.inr (.inr i23))
      else
        ck (i23 + 1) (fun _ =>
          some (.inl (i23 + 1))))
  else
    some (.inr (.inl ()))
noncomputable def F_slices_Index_int_k2   : Option Int :=
  some (-1)
noncomputable def F_slices_Index_int (a0 : (List Int)) (a1 : Int) : Option Int :=
  bnd (lp (fun s => F_slices_Index_int_l1 a0 a1 s) 0) (fun j => F_slices_Index_int_k2 )
noncomputable def F_impl_turns_after (a0 : (List (List Int))) (a1 : Int) (a2 : Int) : Option Int :=
  idx a0 a1 (fun x1 =>
    cal (F_slices_Index_int x1 a2) (fun x15 =>
      idx a0 a1 (fun x22 =>
        ck (x15 + 1) (fun _ =>
          idx a0 a1 (fun x38 =>
            grd ((0 : Int) ≤ (x15 + 1) ∧ (0 : Int) < (x38.length : Int)) (
              idx x22 ((x15 + 1) % (x38.length : Int)) (fun x54 =>
                some x54)))))))
noncomputable def F_impl_turns_faces_l3 (a0 : (List (List Int))) (l5367 : (List (List Int))) (T5372 : Tf (Int × Int)) (l5376 : (List Int)) (i5382 : Int) (i5384 : Int) : Option (((List (List Int)) × (Tf (Int × Int)) × (List Int) × Int × Int) ⊕ (((List (List Int)) × (Tf (Int × Int)) × (List Int)) ⊕ (((List (List Int)) × (Tf (Int × Int)) × Int) ⊕ (((List (List Int)) × (Tf (Int × Int))) ⊕ (((List (List Int)) × (Tf (Int × Int)) × Int) ⊕ (((List (List Int)) × (Tf (Int × Int))) ⊕ ((List (List Int)) × (Tf (Int × Int))))))))) :=
  if (T5372 (i5382, i5384)).isSome = true then
    some (.inr (.inl (l5367, T5372, l5376)))
  else
    app l5376 ([i5382]) (fun _ =>
      cal (F_impl_turns_after a0 i5384 i5382) (fun x5653 =>
        some (.inl (l5367, (putT T5372 (i5382, i5384) (l5367.length : Int)), (l5376 ++ ([i5382])), i5384, x5653))))
noncomputable def F_impl_turns_faces_k4 (i4511 : Int) (l5549 : (List (List Int))) (T5554 : Tf (Int × Int)) (l5558 : (List Int)) : Option (((List (List Int)) × (Tf (Int × Int)) × Int) ⊕ (((List (List Int)) × (Tf (Int × Int))) ⊕ (((List (List Int)) × (Tf (Int × Int)) × Int) ⊕ (((List (List Int)) × (Tf (Int × Int))) ⊕ ((List (List Int)) × (Tf (Int × Int))))))) :=
  app l5549 ([l5558]) (fun _ =>
    ck (i4511 + 1) (fun _ =>
      some (.inl ((l5549 ++ ([l5558])), T5554, i4511 + 1))))
noncomputable def F_impl_turns_faces_l2 (a0 : (List (List Int))) (i1928 : Int) (x3862 : (List Int)) (l4502 : (List (List Int))) (T4507 : Tf (Int × Int)) (i4511 : Int) : Option (((List (List Int)) × (Tf (Int × Int)) × Int) ⊕ (((List (List Int)) × (Tf (Int × Int))) ⊕ (((List (List Int)) × (Tf (Int × Int)) × Int) ⊕ (((List (List Int)) × (Tf (Int × Int))) ⊕ ((List (List Int)) × (Tf (Int × Int))))))) :=
  if i4511 < (x3862.length : Int) then
    idx x3862 i4511 (fun x5137 =>
      if (T4507 (i1928, x5137)).isSome = true then
        ck (i4511 + 1) (fun _ =>
          some (.inl (l4502, T4507, i4511 + 1)))
      else
        bnd (lp (fun s => F_impl_turns_faces_l3 a0 s.1 s.2.1 s.2.2.1 s.2.2.2.1 s.2.2.2.2) (l4502, T4507, ([] : (List Int)), i1928, x5137)) (fun j => F_impl_turns_faces_k4 i4511 j.1 j.2.1 j.2.2))
  else
    some (.inr (.inl (l4502, T4507)))
noncomputable def F_impl_turns_faces_k5 (i1928 : Int) (l5119 : (List (List Int))) (T5124 : Tf (Int × Int)) : Option (((List (List Int)) × (Tf (Int × Int)) × Int) ⊕ (((List (List Int)) × (Tf (Int × Int))) ⊕ ((List (List Int)) × (Tf (Int × Int))))) :=
  ck (i1928 + 1) (fun _ =>
    some (.inl (l5119, T5124, i1928 + 1)))
noncomputable def F_impl_turns_faces_l1 (a0 : (List (List Int))) (l1922 : (List (List Int))) (T1927 : Tf (Int × Int)) (i1928 : Int) : Option (((List (List Int)) × (Tf (Int × Int)) × Int) ⊕ (((List (List Int)) × (Tf (Int × Int))) ⊕ ((List (List Int)) × (Tf (Int × Int))))) :=
  if i1928 < (a0.length : Int) then
    idx a0 i1928 (fun x3841 =>
      cal (F_slices_Values_int x3841) (fun x3855 =>
        cal (F_slices_Sorted_int x3855) (fun x3862 =>
          bnd (lp (fun s => F_impl_turns_faces_l2 a0 i1928 x3862 s.1 s.2.1 s.2.2) (l1922, T1927, 0)) (fun j => F_impl_turns_faces_k5 i1928 j.1 j.2))))
  else
    some (.inr (.inl (l1922, T1927)))
noncomputable def F_impl_turns_faces_k6  (l3823 : (List (List Int))) (T3828 : Tf (Int × Int)) : Option ((List (List Int)) × (Tf (Int × Int))) :=
  some (l3823, T3828)
noncomputable def F_impl_turns_faces (a0 : (List (List Int))) : Option ((List (List Int)) × (Tf (Int × Int))) :=
  bnd (lp (fun s => F_impl_turns_faces_l1 a0 s.1 s.2.1 s.2.2) (([] : (List (List Int))), (noT : Tf (Int × Int)), 0)) (fun j => F_impl_turns_faces_k6 j.1 j.2)
noncomputable def F_slices_Clone_int (a0 : (List Int)) : Option (List Int) :=
  app ([] : (List Int)) a0 (fun _ =>
    some (([] : (List Int)) ++ a0))
noncomputable def F_slices_Insert_int (a0 : (List Int)) (a1 a2 : Int) : Option (List Int) := if 0 ≤ a1 ∧ a1 ≤ a0.length ∧ a0.length ≤ 1099511627776 then some (a0.take a1.toNat ++ a2 :: a0.drop a1.toNat) else none
noncomputable def F_impl_wide_l1 (a0 : (List Int)) (l67 : (List Int)) (i70 : Int) : Option (((List Int) × Int) ⊕ ((List Int) ⊕ (List Int))) :=
  if i70 < (a0.length : Int) then
    idx a0 i70 (fun x137 =>
      app l67 ([x137]) (fun _ =>
        ck (i70 + 1) (fun _ =>
          some (.inl ((l67 ++ ([x137])), i70 + 1)))))
  else
    some (.inr (.inl l67))
noncomputable def F_impl_wide_k2  (l124 : (List Int)) : Option (List Int) :=
  some l124
noncomputable def F_impl_wide (a0 : (List Int)) : Option (List Int) :=
  grd ((0 : Int) ≤ (a0.length : Int) ∧ (a0.length : Int) ≤ lim) (
    bnd (lp (fun s => F_impl_wide_l1 a0 s.1 s.2) (([] : (List Int)), 0)) (fun j => F_impl_wide_k2 j))
noncomputable def F_slices_Min_int64_l1 (a0 : (List Int)) (i38 : Int) (i40 : Int) : Option ((Int × Int) ⊕ (Int ⊕ Int)) :=
  if i40 < (a0.length : Int) then
    idx a0 i40 (fun x76 =>
      ck (i40 + 1) (fun _ =>
        some (.inl (min i38 x76, i40 + 1))))
  else
    some (.inr (.inl i38))
noncomputable def F_slices_Min_int64_k2  (i64 : Int) : Option Int :=
  some i64
noncomputable def F_slices_Min_int64 (a0 : (List Int)) : Option Int :=
  if (a0.length : Int) < 1 then
    none
  else
    idx a0 0 (fun x3 =>
      bnd (lp (fun s => F_slices_Min_int64_l1 a0 s.1 s.2) (x3, 1)) (fun j => F_slices_Min_int64_k2 j))
noncomputable def F_slices_Grow_int64 (a0 : (List Int)) (a1 : Int) : Option (List Int) := if 0 ≤ a1 ∧ a1 ≤ 1099511627776 then some a0 else none
noncomputable def F_slices_Concat_int64_l1 (a0 : (List (List Int))) (i29 : Int) (i31 : Int) : Option ((Int × Int) ⊕ (Int ⊕ (List Int))) :=
  if i31 < (a0.length : Int) then
    idx a0 i31 (fun x72 =>
      ck (i29 + (x72.length : Int)) (fun _ =>
        if (i29 + (x72.length : Int)) < 0 then
          none
        else
          ck (i31 + 1) (fun _ =>
            some (.inl (i29 + (x72.length : Int), i31 + 1)))))
  else
    some (.inr (.inl i29))
noncomputable def F_slices_Concat_int64_l3 (a0 : (List (List Int))) (l148 : (List Int)) (i151 : Int) : Option (((List Int) × Int) ⊕ ((List Int) ⊕ (List Int))) :=
  if i151 < (a0.length : Int) then
    idx a0 i151 (fun x208 =>
      app l148 x208 (fun _ =>
        ck (i151 + 1) (fun _ =>
          some (.inl ((l148 ++ x208), i151 + 1)))))
  else
    some (.inr (.inl l148))
noncomputable def F_slices_Concat_int64_k4  (l195 : (List Int)) : Option (List Int) :=
  some l195
noncomputable def F_slices_Concat_int64_k2 (a0 : (List (List Int))) (i60 : Int) : Option (List Int) :=
  cal (F_slices_Grow_int64 [] i60) (fun x91 =>
    bnd (lp (fun s => F_slices_Concat_int64_l3 a0 s.1 s.2) (x91, 0)) (fun j => F_slices_Concat_int64_k4 j))
noncomputable def F_slices_Concat_int64 (a0 : (List (List Int))) : Option (List Int) :=
  bnd (lp (fun s => F_slices_Concat_int64_l1 a0 s.1 s.2) (0, 0)) (fun j => F_slices_Concat_int64_k2 a0 j)
noncomputable def F_impl_aroundOf_l1 (a0 : (List (List Int))) (l278 : (List (List Int))) (i281 : Int) : Option (((List (List Int)) × Int) ⊕ ((List (List Int)) ⊕ (List (List Int)))) :=
  if i281 < (a0.length : Int) then
    idx a0 i281 (fun x555 =>
      cal (F_impl_wide x555) (fun x569 =>
        if 0 < (x569.length : Int) then
          cal (F_slices_Min_int64 x569) (fun x591 =>
            cal (F_slices_Index_int64 x569 x591) (fun x601 =>
              slc x569 x601 (x569.length : Int) (fun _ =>
                slc x569 0 x601 (fun _ =>
                  cal (F_slices_Concat_int64 ([((x569.drop (x601 : Int).toNat).take (((x569.length : Int) : Int).toNat - (x601 : Int).toNat)), ((x569.drop (0 : Int).toNat).take ((x601 : Int).toNat - (0 : Int).toNat))])) (fun x650 =>
                    app l278 ([x650]) (fun _ =>
                      ck (i281 + 1) (fun _ =>
                        some (.inl ((l278 ++ ([x650])), i281 + 1)))))))))
        else
          app l278 ([x569]) (fun _ =>
            ck (i281 + 1) (fun _ =>
              some (.inl ((l278 ++ ([x569])), i281 + 1))))))
  else
    some (.inr (.inl l278))
noncomputable def F_impl_aroundOf_k2  (l527 : (List (List Int))) : Option (List (List Int)) :=
  some l527
noncomputable def F_impl_aroundOf (a0 : (List (List Int))) : Option (List (List Int)) :=
  bnd (lp (fun s => F_impl_aroundOf_l1 a0 s.1 s.2) (([] : (List (List Int))), 0)) (fun j => F_impl_aroundOf_k2 j)
noncomputable def F_slices_CompareFunc_Sint64_l1 (a0 : (List (List Int))) (a1 : (List (List Int))) (a2 : (List Int) → (List Int) → Option Int) (i47 : Int) : Option (Int ⊕ (Unit ⊕ Int)) :=
  if i47 < (a0.length : Int) then
    idx a0 i47 (fun x104 =>
      if (a1.length : Int) ≤ i47 then
        some (.inr (.inr 1))
      else
        idx a1 i47 (fun x121 =>
          cal (a2 x104 x121) (fun x135 =>
            if x135 ≠ 0 then
              some (.inr (.inr x135))
            else
              ck (i47 + 1) (fun _ =>
                some (.inl (i47 + 1))))))
  else
    some (.inr (.inl ()))
noncomputable def F_slices_CompareFunc_Sint64_k2 (a0 : (List (List Int))) (a1 : (List (List Int)))  : Option Int :=
  if (a0.length : Int) < (a1.length : Int) then
    some (-1)
  else
    some 0
noncomputable def F_slices_CompareFunc_Sint64 (a0 : (List (List Int))) (a1 : (List (List Int))) (a2 : (List Int) → (List Int) → Option Int) : Option Int :=
  bnd (lp (fun s => F_slices_CompareFunc_Sint64_l1 a0 a1 a2 s) 0) (fun j => F_slices_CompareFunc_Sint64_k2 a0 a1 )
noncomputable def F_cmp_isNaN_int64 (a0 : Int) : Option Bool :=
  some (decide (a0 ≠ a0))
noncomputable def F_cmp_Compare_int64 (a0 : Int) (a1 : Int) : Option Int :=
  cal (F_cmp_isNaN_int64 a0) (fun x1 =>
    cal (F_cmp_isNaN_int64 a1) (fun x7 =>
      if x1 = true then
        if x7 = true then
          some 0
        else
          some (-1)
      else
        if x7 = true then
          some 1
        else
          if a0 < a1 then
            some (-1)
          else
            if a1 < a0 then
              some 1
            else
              some 0))
noncomputable def F_slices_Compare_int64_l1 (a0 : (List Int)) (a1 : (List Int)) (i43 : Int) : Option (Int ⊕ (Unit ⊕ Int)) :=
  if i43 < (a0.length : Int) then
    idx a0 i43 (fun x96 =>
      if (a1.length : Int) ≤ i43 then
        some (.inr (.inr 1))
      else
        idx a1 i43 (fun x111 =>
          cal (F_cmp_Compare_int64 x96 x111) (fun x123 =>
            if x123 ≠ 0 then
              some (.inr (.inr x123))
            else
              ck (i43 + 1) (fun _ =>
                some (.inl (i43 + 1))))))
  else
    some (.inr (.inl ()))
noncomputable def F_slices_Compare_int64_k2 (a0 : (List Int)) (a1 : (List Int))  : Option Int :=
  if (a0.length : Int) < (a1.length : Int) then
    some (-1)
  else
    some 0
noncomputable def F_slices_Compare_int64 (a0 : (List Int)) (a1 : (List Int)) : Option Int :=
  bnd (lp (fun s => F_slices_Compare_int64_l1 a0 a1 s) 0) (fun j => F_slices_Compare_int64_k2 a0 a1 )
noncomputable def F_impl_embedding_put (t : List (List Int)) (v u i : Int) : Option (List (List Int)) :=
  idx t v (fun x1 => ck (i + 1) (fun _ => idx t v (fun x2 => cal (F_slices_Clone_int x1) (fun c => cal (F_slices_Insert_int c (min (i + 1) (x2.length : Int)) u) (fun r => some (t.set v.toNat r))))))
noncomputable def F_emb_corner (T : Tf (Int × Int)) (old other : List Int) (u v i m : Int) : Option Bool :=
  if 0 < (old.length : Int) then
    if 0 < (other.length : Int) then
      idx old i (fun x => idx other m (fun y => some (decide ((T (x, u)).getD 0 ≠ (T (y, v)).getD 0))))
    else
      some false
  else
    some false
abbrev EmA := Bool × List (List Int)
noncomputable def F_emb_l2 (T : Tf (Int × Int)) (old other : List Int) (u v : Int) (t : List (List Int)) (k : Int) (rc : List (List Int) → Int → EmA → Option EmA) (i : Int) (s : EmA) (m : Int) : Option ((EmA × Int) ⊕ (EmA ⊕ ((EmA × Int) ⊕ (EmA ⊕ EmA)))) :=
  if m < max (other.length : Int) 1 then
    cal (F_emb_corner T old other u v i m) (fun c =>
      if c = true then
        ck (m + 1) (fun _ => some (.inl (s, m + 1)))
      else
        cal (F_impl_embedding_put t u v i) (fun t1 => cal (F_impl_embedding_put t1 v u m) (fun t2 => ck (k + 1) (fun _ => cal (rc t2 (k + 1) s) (fun s' => ck (m + 1) (fun _ => some (.inl (s', m + 1))))))))
  else
    some (.inr (.inl s))
noncomputable def F_emb_k3 (i : Int) (s : EmA) : Option ((EmA × Int) ⊕ (EmA ⊕ EmA)) := ck (i + 1) (fun _ => some (.inl (s, i + 1)))
noncomputable def F_emb_l1 (T : Tf (Int × Int)) (old other : List Int) (u v : Int) (t : List (List Int)) (k : Int) (rc : List (List Int) → Int → EmA → Option EmA) (s : EmA) (i : Int) : Option ((EmA × Int) ⊕ (EmA ⊕ EmA)) :=
  if i < max (old.length : Int) 1 then
    bnd (lp (fun q => F_emb_l2 T old other u v t k rc i q.1 q.2) (s, 0)) (fun j => F_emb_k3 i j)
  else
    some (.inr (.inl s))
noncomputable def F_emb_k4 (s : EmA) : Option EmA := some s
noncomputable def F_emb_each (t : List (List Int)) (s : EmA) : Option EmA :=
  cal (F_impl_aroundOf t) (fun x =>
    if s.1 = true then
      cal (F_slices_CompareFunc_Sint64 x s.2 (fun z0 z1 => F_slices_Compare_int64 z0 z1)) (fun c => if c < 0 then some (true, x) else some s)
    else
      some (true, x))
noncomputable def F_impl_embedding_grow_body (es : List (Int × Int)) (rc : List (List Int) → Int → EmA → Option EmA) (t : List (List Int)) (k : Int) (s : EmA) : Option EmA :=
  if k = (es.length : Int) then
    F_emb_each t s
  else
    idx es k (fun e => idx es k (fun e' => cal (F_impl_turns_faces t) (fun x => idx t e.1 (fun old => idx t e'.2 (fun other =>
      bnd (lp (fun q => F_emb_l1 x.2 old other e.1 e'.2 t k rc q.1 q.2) (s, 0)) (fun j => F_emb_k4 j))))))
noncomputable def F_impl_embedding_grow_B (es : List (Int × Int)) (rc : (List (List Int) × Int × EmA) → Option EmA) (a : List (List Int) × Int × EmA) : Option EmA :=
  F_impl_embedding_grow_body es (fun z0 z1 z2 => rc (z0, z1, z2)) a.1 a.2.1 a.2.2
noncomputable def F_impl_embedding_grow (es : List (Int × Int)) (t : List (List Int)) (k : Int) (s : EmA) : Option EmA := fixO (F_impl_embedding_grow_B es) (t, k, s)
noncomputable def F_impl_embeddings (a : List (BitVec 32)) (s : EmA) : Option EmA :=
  cal (F_impl_growthOf a) (fun es => mkS (a.length : Int) ([] : List Int) (fun _ => F_impl_embedding_grow es (List.replicate (a.length : Int).toNat ([] : List Int)) 0 s))
noncomputable def F_impl_EmbeddingOf (g : List (List Int)) : Option Bool :=
  cal (F_impl_isSmall g) (fun x => if ¬ (x = true) then some false else cal (F_impl_netsOf g) (fun a => cal (F_impl_embeddings a (false, [])) (fun s => some s.1)))
noncomputable def F_impl_PlanarIn (g : List (List Int)) : Option Bool := F_impl_EmbeddingOf g

noncomputable def F_laws_eqInt64S_l1 (a0 : (List Int)) (a1 : (List Int)) (i39 : Int) : Option (Int ⊕ (Unit ⊕ Bool)) :=
  if i39 < (a0.length : Int) then
    idx a0 i39 (fun x87 =>
      idx a1 i39 (fun x99 =>
        if x87 ≠ x99 then
          some (.inr (.inr false))
        else
          ck (i39 + 1) (fun _ =>
            some (.inl (i39 + 1)))))
  else
    some (.inr (.inl ()))
noncomputable def F_laws_eqInt64S_k2   : Option Bool :=
  some true
noncomputable def F_laws_eqInt64S (a0 : (List Int)) (a1 : (List Int)) : Option Bool :=
  if (a0.length : Int) ≠ (a1.length : Int) then
    some false
  else
    bnd (lp (fun s => F_laws_eqInt64S_l1 a0 a1 s) 0) (fun j => F_laws_eqInt64S_k2 )
noncomputable def F_laws_eqInt64SS_l1 (a0 : (List (List Int))) (a1 : (List (List Int))) (i47 : Int) : Option (Int ⊕ (Unit ⊕ Bool)) :=
  if i47 < (a0.length : Int) then
    idx a0 i47 (fun x103 =>
      idx a1 i47 (fun x117 =>
        cal (F_laws_eqInt64S x103 x117) (fun x133 =>
          if ¬ (x133 = true) then
            some (.inr (.inr false))
          else
            ck (i47 + 1) (fun _ =>
              some (.inl (i47 + 1))))))
  else
    some (.inr (.inl ()))
noncomputable def F_laws_eqInt64SS_k2   : Option Bool :=
  some true
noncomputable def F_laws_eqInt64SS (a0 : (List (List Int))) (a1 : (List (List Int))) : Option Bool :=
  if (a0.length : Int) ≠ (a1.length : Int) then
    some false
  else
    bnd (lp (fun s => F_laws_eqInt64SS_l1 a0 a1 s) 0) (fun j => F_laws_eqInt64SS_k2 )
noncomputable def F_laws_eqGraph (a0_0 : (List (List Int))) (a1_0 : (List (List Int))) : Option Bool :=
  cal (F_laws_eqInt64SS a0_0 a1_0) (fun x19 =>
    if ¬ (x19 = true) then
      some false
    else
      some true)
noncomputable def F_laws_FnExactPlanarIn (a0_0 : (List (List Int))) : Option Bool :=
  cal (F_laws_szGraph a0_0 1048576) (fun x9 =>
    if x9 < 0 then
      some true
    else
      cal (F_laws_toGraph a0_0) (fun x17 =>
        cal (F_spec_PlanarIn x17) (fun x39 =>
          cal (F_laws_toGraph a0_0) (fun x45 =>
            cal (F_impl_PlanarIn x45) (fun x84 =>
              if (x84 != x39) = true then
                some false
              else
                cal (F_laws_toGraph a0_0) (fun x94 =>
                  cal (F_laws_eqGraph x45 x94) (fun x128 =>
                    if ¬ (x128 = true) then
                      some false
                    else
                      some true)))))))
end Go.Proofs.YtmaaloijdjnblaaGreatDoor
