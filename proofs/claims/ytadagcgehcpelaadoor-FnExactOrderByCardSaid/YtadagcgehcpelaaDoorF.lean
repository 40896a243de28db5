/- Functional forms, printed by gen.py. -/
import Derived.Test.YtadagcgehcpelaaDoorPure
namespace Go.Proofs.YtadagcgehcpelaaDoor

noncomputable def F_laws_szInt64S (a0 : (List Int)) (a1 : Int) : Option Int :=
  ck (a1 - (a0.length : Int)) (fun _ =>
    if (a1 - (a0.length : Int)) < 0 then
      some (-1)
    else
      some (a1 - (a0.length : Int)))
noncomputable def F_laws_szInt64SS_l1 (a0 : (List (List Int))) (i37 : Int) (i39 : Int) : Option ((Int × Int) ⊕ (Int ⊕ Int)) :=
  if i39 < (a0.length : Int) then
    idx a0 i39 (fun x85 =>
      cal (F_laws_szInt64S x85 i37) (fun x99 =>
        if x99 < 0 then
          some (.inr (.inr (-1)))
        else
          ck (i39 + 1) (fun _ =>
            some (.inl (x99, i39 + 1)))))
  else
    some (.inr (.inl i37))
noncomputable def F_laws_szInt64SS_k2  (i73 : Int) : Option Int :=
  some i73
noncomputable def F_laws_szInt64SS (a0 : (List (List Int))) (a1 : Int) : Option Int :=
  ck (a1 - (a0.length : Int)) (fun _ =>
    if (a1 - (a0.length : Int)) < 0 then
      some (-1)
    else
      bnd (lp (fun s => F_laws_szInt64SS_l1 a0 s.1 s.2) (a1 - (a0.length : Int), 0)) (fun j => F_laws_szInt64SS_k2 j))
noncomputable def F_laws_szGraph (a0_0 : (List (List Int))) (a1 : Int) : Option Int :=
  cal (F_laws_szInt64SS a0_0 a1) (fun x9 =>
    if x9 < 0 then
      some (-1)
    else
      some x9)
noncomputable def F_laws_szDecomp (a0_0 : (List (List Int))) (a0_1 : (List (List Int))) (a1 : Int) : Option Int :=
  cal (F_laws_szInt64SS a0_0 a1) (fun x9 =>
    if x9 < 0 then
      some (-1)
    else
      cal (F_laws_szInt64SS a0_1 x9) (fun x17 =>
        if x17 < 0 then
          some (-1)
        else
          some x17))
noncomputable def F_laws_toInt64S_l1 (a0 : (List Int)) (l63 : (List Int)) (i66 : Int) : Option (((List Int) × Int) ⊕ ((List Int) ⊕ (List Int))) :=
  if i66 < (a0.length : Int) then
    idx a0 i66 (fun x128 =>
      idx l63 i66 (fun x140 =>
        ck (i66 + 1) (fun _ =>
          some (.inl ((l63.set ((i66 : Int).toNat) x128), i66 + 1)))))
  else
    some (.inr (.inl l63))
noncomputable def F_laws_toInt64S_k2  (l115 : (List Int)) : Option (List Int) :=
  some l115
noncomputable def F_laws_toInt64S (a0 : (List Int)) : Option (List Int) :=
  mkS (a0.length : Int) (0 : Int) (fun _ =>
    bnd (lp (fun s => F_laws_toInt64S_l1 a0 s.1 s.2) ((List.replicate ((a0.length : Int) : Int).toNat (0 : Int)), 0)) (fun j => F_laws_toInt64S_k2 j))
noncomputable def F_laws_toInt64SS_l1 (a0 : (List (List Int))) (l96 : (List (List Int))) (i99 : Int) : Option (((List (List Int)) × Int) ⊕ ((List (List Int)) ⊕ (List (List Int)))) :=
  if i99 < (a0.length : Int) then
    idx a0 i99 (fun x191 =>
      cal (F_laws_toInt64S x191) (fun x205 =>
        idx l96 i99 (fun x219 =>
          ck (i99 + 1) (fun _ =>
            some (.inl ((l96.set ((i99 : Int).toNat) x205), i99 + 1))))))
  else
    some (.inr (.inl l96))
noncomputable def F_laws_toInt64SS_k2  (l178 : (List (List Int))) : Option (List (List Int)) :=
  some l178
noncomputable def F_laws_toInt64SS (a0 : (List (List Int))) : Option (List (List Int)) :=
  mkS (a0.length : Int) ([] : (List Int)) (fun _ =>
    bnd (lp (fun s => F_laws_toInt64SS_l1 a0 s.1 s.2) ((List.replicate ((a0.length : Int) : Int).toNat ([] : (List Int))), 0)) (fun j => F_laws_toInt64SS_k2 j))
noncomputable def F_laws_toGraph (a0_0 : (List (List Int))) : Option (List (List Int)) :=
  cal (F_laws_toInt64SS a0_0) (fun x31 =>
    some x31)
noncomputable def F_laws_toDecomp (a0_0 : (List (List Int))) (a0_1 : (List (List Int))) : Option ((List (List Int)) × (List (List Int))) :=
  cal (F_laws_toInt64SS a0_0) (fun x31 =>
    cal (F_laws_toInt64SS a0_1) (fun x59 =>
      some (x31, x59)))
noncomputable def F_spec_l1Size (a0_0 : (List (List Int))) : Option Int :=
  some (a0_0.length : Int)
noncomputable def F_spec_l1In (a0 : Int) (a1 : Int) (a2 : Int) : Option Bool :=
  if a1 ≤ a0 then
    some (decide (a0 ≤ a2))
  else
    some false
noncomputable def F_spec_l1Set_l1 (a0 : (List Int)) (a1 : Int) (i69 : Int) : Option (Int ⊕ (Unit ⊕ Bool)) :=
  if i69 < (a0.length : Int) then
    idx a0 i69 (fun x147 =>
      ck (a1 - 1) (fun _ =>
        cal (F_spec_l1In x147 0 (a1 - 1)) (fun x163 =>
          if ¬ (x163 = true) then
            some (.inr (.inr false))
          else
            if 0 < i69 then
              idx a0 i69 (fun x172 =>
                ck (i69 - 1) (fun _ =>
                  idx a0 (i69 - 1) (fun x186 =>
                    if x172 ≤ x186 then
                      some (.inr (.inr false))
                    else
                      ck (i69 + 1) (fun _ =>
                        some (.inl (i69 + 1))))))
            else
              ck (i69 + 1) (fun _ =>
                some (.inl (i69 + 1))))))
  else
    some (.inr (.inl ()))
noncomputable def F_spec_l1Set_k2   : Option Bool :=
  some true
noncomputable def F_spec_l1Set (a0 : (List Int)) (a1 : Int) : Option Bool :=
  if a1 < (a0.length : Int) then
    some false
  else
    bnd (lp (fun s => F_spec_l1Set_l1 a0 a1 s) 0) (fun j => F_spec_l1Set_k2 )
noncomputable def F_spec_l1Has_l1 (a0 : (List Int)) (a1 : Int) (i23 : Int) : Option (Int ⊕ (Unit ⊕ Bool)) :=
  if i23 < (a0.length : Int) then
    idx a0 i23 (fun x56 =>
      if x56 = a1 then
        some (.inr (.inr true))
      else
        ck (i23 + 1) (fun _ =>
          some (.inl (i23 + 1))))
  else
    some (.inr (.inl ()))
noncomputable def F_spec_l1Has_k2   : Option Bool :=
  some false
noncomputable def F_spec_l1Has (a0 : (List Int)) (a1 : Int) : Option Bool :=
  bnd (lp (fun s => F_spec_l1Has_l1 a0 a1 s) 0) (fun j => F_spec_l1Has_k2 )
noncomputable def F_spec_GraphOk_l1 (a0_0 : (List (List Int))) (x9 : Int) (i80 : Int) : Option (Int ⊕ (Unit ⊕ Bool)) :=
  if i80 < x9 then
    idx a0_0 i80 (fun x146 =>
      cal (F_spec_l1Set x146 x9) (fun x160 =>
        if ¬ (x160 = true) then
          some (.inr (.inr false))
        else
          idx a0_0 i80 (fun x169 =>
            cal (F_spec_l1Has x169 i80) (fun x183 =>
              if x183 = true then
                some (.inr (.inr false))
              else
                ck (i80 + 1) (fun _ =>
                  some (.inl (i80 + 1)))))))
  else
    some (.inr (.inl ()))
noncomputable def F_spec_GraphOk_l4 (a0_0 : (List (List Int))) (i436 : Int) (i762 : Int) : Option (Int ⊕ (Unit ⊕ (Int ⊕ (Unit ⊕ Bool)))) :=
  idx a0_0 i436 (fun x847 =>
    if i762 < (x847.length : Int) then
      idx a0_0 i436 (fun x862 =>
        idx x862 i762 (fun x876 =>
          idx a0_0 x876 (fun x888 =>
            cal (F_spec_l1Has x888 i436) (fun x904 =>
              if ¬ (x904 = true) then
                some (.inr (.inr (.inr (.inr false))))
              else
                ck (i762 + 1) (fun _ =>
                  some (.inl (i762 + 1)))))))
    else
      some (.inr (.inl ())))
noncomputable def F_spec_GraphOk_k5 (i436 : Int)  : Option (Int ⊕ (Unit ⊕ Bool)) :=
  ck (i436 + 1) (fun _ =>
    some (.inl (i436 + 1)))
noncomputable def F_spec_GraphOk_l3 (a0_0 : (List (List Int))) (x9 : Int) (i436 : Int) : Option (Int ⊕ (Unit ⊕ Bool)) :=
  if i436 < x9 then
    bnd (lp (fun s => F_spec_GraphOk_l4 a0_0 i436 s) 0) (fun j => F_spec_GraphOk_k5 i436 )
  else
    some (.inr (.inl ()))
noncomputable def F_spec_GraphOk_k6   : Option Bool :=
  some true
noncomputable def F_spec_GraphOk_k2 (a0_0 : (List (List Int))) (x9 : Int)  : Option Bool :=
  bnd (lp (fun s => F_spec_GraphOk_l3 a0_0 x9 s) 0) (fun j => F_spec_GraphOk_k6 )
noncomputable def F_spec_GraphOk (a0_0 : (List (List Int))) : Option Bool :=
  cal (F_spec_l1Size a0_0) (fun x9 =>
    cal (F_spec_l1In x9 1 16) (fun x16 =>
      if ¬ (x16 = true) then
        some false
      else
        bnd (lp (fun s => F_spec_GraphOk_l1 a0_0 x9 s) 0) (fun j => F_spec_GraphOk_k2 a0_0 x9 )))
noncomputable def F_spec_l9Form_l1 (a0_0 : (List (List Int))) (a0_1 : (List (List Int))) (i76 : Int) : Option (Int ⊕ (Unit ⊕ Bool)) :=
  if i76 < (a0_1.length : Int) then
    idx a0_1 i76 (fun x134 =>
      if (x134.length : Int) ≠ 2 then
        some (.inr (.inr false))
      else
        idx a0_1 i76 (fun x151 =>
          cal (F_spec_l1Set x151 (a0_0.length : Int)) (fun x165 =>
            if ¬ (x165 = true) then
              some (.inr (.inr false))
            else
              ck (i76 + 1) (fun _ =>
                some (.inl (i76 + 1))))))
  else
    some (.inr (.inl ()))
noncomputable def F_spec_l9Form_k2   : Option Bool :=
  some true
noncomputable def F_spec_l9Form (a0_0 : (List (List Int))) (a0_1 : (List (List Int))) : Option Bool :=
  cal (F_spec_l1In (a0_0.length : Int) 1 16) (fun x17 =>
    if ¬ (x17 = true) then
      some false
    else
      if 16 < (a0_1.length : Int) then
        some false
      else
        bnd (lp (fun s => F_spec_l9Form_l1 a0_0 a0_1 s) 0) (fun j => F_spec_l9Form_k2 ))
noncomputable def F_spec_l1All_l1 (a0 : Int) (l54 : (List Int)) (i57 : Int) : Option (((List Int) × Int) ⊕ ((List Int) ⊕ (List Int))) :=
  if i57 < a0 then
    app l54 ([i57]) (fun _ =>
      ck (i57 + 1) (fun _ =>
        some (.inl ((l54 ++ ([i57])), i57 + 1))))
  else
    some (.inr (.inl l54))
noncomputable def F_spec_l1All_k2  (l99 : (List Int)) : Option (List Int) :=
  some l99
noncomputable def F_spec_l1All (a0 : Int) : Option (List Int) :=
  bnd (lp (fun s => F_spec_l1All_l1 a0 s.1 s.2) (([] : (List Int)), 0)) (fun j => F_spec_l1All_k2 j)
noncomputable def F_spec_l1Copy (a0 : (List Int)) : Option (List Int) :=
  app ([] : (List Int)) a0 (fun _ =>
    some (([] : (List Int)) ++ a0))
noncomputable def F_spec_l1Into_l1 (a0 : (List Int)) (a1 : Int) (i23 : Int) : Option (Int ⊕ (Int ⊕ (List Int))) :=
  if i23 < (a0.length : Int) then
    idx a0 i23 (fun x58 =>
      if x58 < a1 then
        ck (i23 + 1) (fun _ =>
          some (.inl (i23 + 1)))
      else
        some (.inr (.inl i23)))
  else
    some (.inr (.inl i23))
noncomputable def F_spec_l1Into_k2 (a0 : (List Int)) (a1 : Int) (i46 : Int) : Option (List Int) :=
  if i46 < (a0.length : Int) then
    idx a0 i46 (fun x74 =>
      if x74 = a1 then
        some a0
      else
        slc a0 0 i46 (fun _ =>
          cal (F_spec_l1Copy ((a0.drop (0 : Int).toNat).take ((i46 : Int).toNat - (0 : Int).toNat))) (fun x95 =>
            app x95 ([a1]) (fun _ =>
              slc a0 i46 (a0.length : Int) (fun _ =>
                app (x95 ++ ([a1])) ((a0.drop (i46 : Int).toNat).take (((a0.length : Int) : Int).toNat - (i46 : Int).toNat)) (fun _ =>
                  some ((x95 ++ ([a1])) ++ ((a0.drop (i46 : Int).toNat).take (((a0.length : Int) : Int).toNat - (i46 : Int).toNat)))))))))
  else
    slc a0 0 i46 (fun _ =>
      cal (F_spec_l1Copy ((a0.drop (0 : Int).toNat).take ((i46 : Int).toNat - (0 : Int).toNat))) (fun x159 =>
        app x159 ([a1]) (fun _ =>
          slc a0 i46 (a0.length : Int) (fun _ =>
            app (x159 ++ ([a1])) ((a0.drop (i46 : Int).toNat).take (((a0.length : Int) : Int).toNat - (i46 : Int).toNat)) (fun _ =>
              some ((x159 ++ ([a1])) ++ ((a0.drop (i46 : Int).toNat).take (((a0.length : Int) : Int).toNat - (i46 : Int).toNat))))))))
noncomputable def F_spec_l1Into (a0 : (List Int)) (a1 : Int) : Option (List Int) :=
  bnd (lp (fun s => F_spec_l1Into_l1 a0 a1 s) 0) (fun j => F_spec_l1Into_k2 a0 a1 j)
noncomputable def F_spec_l9Near_k2 (a0_1 : (List (List Int))) (a1 : Int) (i281 : Int) (l614 : (List Int)) : Option (((List Int) × Int) ⊕ ((List Int) ⊕ (List Int))) :=
  idx a0_1 i281 (fun x687 =>
    idx x687 1 (fun x702 =>
      if x702 = a1 then
        idx a0_1 i281 (fun x715 =>
          idx x715 0 (fun x730 =>
            cal (F_spec_l1Into l614 x730) (fun x742 =>
              ck (i281 + 1) (fun _ =>
                some (.inl (x742, i281 + 1))))))
      else
        ck (i281 + 1) (fun _ =>
          some (.inl (l614, i281 + 1)))))
noncomputable def F_spec_l9Near_l1 (a0_1 : (List (List Int))) (a1 : Int) (l277 : (List Int)) (i281 : Int) : Option (((List Int) × Int) ⊕ ((List Int) ⊕ (List Int))) :=
  if i281 < (a0_1.length : Int) then
    bnd (
      idx a0_1 i281 (fun x620 =>
        idx x620 0 (fun x635 =>
          if x635 = a1 then
            idx a0_1 i281 (fun x648 =>
              idx x648 1 (fun x663 =>
                cal (F_spec_l1Into l277 x663) (fun x675 =>
                  some (.inl x675))))
          else
            some (.inl l277)))) (fun j => F_spec_l9Near_k2 a0_1 a1 i281 j)
  else
    some (.inr (.inl l277))
noncomputable def F_spec_l9Near_k3  (l520 : (List Int)) : Option (List Int) :=
  some l520
noncomputable def F_spec_l9Near (a0_0 : (List (List Int))) (a0_1 : (List (List Int))) (a1 : Int) : Option (List Int) :=
  bnd (lp (fun s => F_spec_l9Near_l1 a0_1 a1 s.1 s.2) (([] : (List Int)), 0)) (fun j => F_spec_l9Near_k3 j)
noncomputable def F_spec_l9Reached_l2 (a1 : (List Int)) (x884 : (List Int)) (l1024 : (List Int)) (i1029 : Int) : Option (((List Int) × Int) ⊕ ((List Int) ⊕ (((List Int) × Int) ⊕ ((List Int) ⊕ Int)))) :=
  if i1029 < (x884.length : Int) then
    idx x884 i1029 (fun x1163 =>
      cal (F_spec_l1Has a1 x1163) (fun x1175 =>
        if x1175 = true then
          idx x884 i1029 (fun x1182 =>
            cal (F_spec_l1Has l1024 x1182) (fun x1197 =>
              if ¬ (x1197 = true) then
                idx x884 i1029 (fun x1204 =>
                  app l1024 ([x1204]) (fun _ =>
                    ck (i1029 + 1) (fun _ =>
                      some (.inl ((l1024 ++ ([x1204])), i1029 + 1)))))
              else
                ck (i1029 + 1) (fun _ =>
                  some (.inl (l1024, i1029 + 1)))))
        else
          ck (i1029 + 1) (fun _ =>
            some (.inl (l1024, i1029 + 1)))))
  else
    some (.inr (.inl l1024))
noncomputable def F_spec_l9Reached_k3 (i449 : Int) (l1148 : (List Int)) : Option (((List Int) × Int) ⊕ ((List Int) ⊕ Int)) :=
  ck (i449 + 1) (fun _ =>
    some (.inl (l1148, i449 + 1)))
noncomputable def F_spec_l9Reached_l1 (a0_0 : (List (List Int))) (a0_1 : (List (List Int))) (a1 : (List Int)) (l446 : (List Int)) (i449 : Int) : Option (((List Int) × Int) ⊕ ((List Int) ⊕ Int)) :=
  if i449 < (l446.length : Int) then
    idx l446 i449 (fun x869 =>
      cal (F_spec_l9Near a0_0 a0_1 x869) (fun x884 =>
        bnd (lp (fun s => F_spec_l9Reached_l2 a1 x884 s.1 s.2) (l446, 0)) (fun j => F_spec_l9Reached_k3 i449 j)))
  else
    some (.inr (.inl l446))
noncomputable def F_spec_l9Reached_k4  (l856 : (List Int)) : Option Int :=
  some (l856.length : Int)
noncomputable def F_spec_l9Reached (a0_0 : (List (List Int))) (a0_1 : (List (List Int))) (a1 : (List Int)) : Option Int :=
  if (a1.length : Int) = 0 then
    some 0
  else
    idx a1 0 (fun x10 =>
      bnd (lp (fun s => F_spec_l9Reached_l1 a0_0 a0_1 a1 s.1 s.2) ([x10], 0)) (fun j => F_spec_l9Reached_k4 j))
noncomputable def F_spec_l9Tree (a0_0 : (List (List Int))) (a0_1 : (List (List Int))) : Option Bool :=
  cal (F_spec_l9Form a0_0 a0_1) (fun x11 =>
    if x11 = true then
      ck ((a0_0.length : Int) - 1) (fun _ =>
        if (a0_1.length : Int) = ((a0_0.length : Int) - 1) then
          cal (F_spec_l1All (a0_0.length : Int)) (fun x20 =>
            cal (F_spec_l9Reached a0_0 a0_1 x20) (fun x38 =>
              some (decide (x38 = (a0_0.length : Int)))))
        else
          some false)
    else
      some false)
noncomputable def F_spec_l1Edges_l2 (a0_0 : (List (List Int))) (i505 : Int) (l1152 : (List (List Int))) (i1155 : Int) : Option (((List (List Int)) × Int) ⊕ ((List (List Int)) ⊕ (((List (List Int)) × Int) ⊕ ((List (List Int)) ⊕ (List (List Int)))))) :=
  idx a0_0 i505 (fun x1316 =>
    if i1155 < (x1316.length : Int) then
      idx a0_0 i505 (fun x1331 =>
        idx x1331 i1155 (fun x1345 =>
          if i505 < x1345 then
            idx a0_0 i505 (fun x1358 =>
              idx x1358 i1155 (fun x1372 =>
                app l1152 ([[i505, x1372]]) (fun _ =>
                  ck (i1155 + 1) (fun _ =>
                    some (.inl ((l1152 ++ ([[i505, x1372]])), i1155 + 1))))))
          else
            ck (i1155 + 1) (fun _ =>
              some (.inl (l1152, i1155 + 1)))))
    else
      some (.inr (.inl l1152)))
noncomputable def F_spec_l1Edges_k3 (i505 : Int) (l1302 : (List (List Int))) : Option (((List (List Int)) × Int) ⊕ ((List (List Int)) ⊕ (List (List Int)))) :=
  ck (i505 + 1) (fun _ =>
    some (.inl (l1302, i505 + 1)))
noncomputable def F_spec_l1Edges_l1 (a0_0 : (List (List Int))) (l502 : (List (List Int))) (i505 : Int) : Option (((List (List Int)) × Int) ⊕ ((List (List Int)) ⊕ (List (List Int)))) :=
  cal (F_spec_l1Size a0_0) (fun x990 =>
    if i505 < x990 then
      bnd (lp (fun s => F_spec_l1Edges_l2 a0_0 i505 s.1 s.2) (l502, 0)) (fun j => F_spec_l1Edges_k3 i505 j)
    else
      some (.inr (.inl l502)))
noncomputable def F_spec_l1Edges_k4  (l978 : (List (List Int))) : Option (List (List Int)) :=
  some l978
noncomputable def F_spec_l1Edges (a0_0 : (List (List Int))) : Option (List (List Int)) :=
  bnd (lp (fun s => F_spec_l1Edges_l1 a0_0 s.1 s.2) (([] : (List (List Int))), 0)) (fun j => F_spec_l1Edges_k4 j)
noncomputable def F_spec_l8Meet_l1 (a0 : (List Int)) (a1 : (List Int)) (l87 : (List Int)) (i90 : Int) : Option (((List Int) × Int) ⊕ ((List Int) ⊕ (List Int))) :=
  if i90 < (a0.length : Int) then
    idx a0 i90 (fun x178 =>
      cal (F_spec_l1Has a1 x178) (fun x190 =>
        if x190 = true then
          idx a0 i90 (fun x197 =>
            app l87 ([x197]) (fun _ =>
              ck (i90 + 1) (fun _ =>
                some (.inl ((l87 ++ ([x197])), i90 + 1)))))
        else
          ck (i90 + 1) (fun _ =>
            some (.inl (l87, i90 + 1)))))
  else
    some (.inr (.inl l87))
noncomputable def F_spec_l8Meet_k2  (l165 : (List Int)) : Option (List Int) :=
  some l165
noncomputable def F_spec_l8Meet (a0 : (List Int)) (a1 : (List Int)) : Option (List Int) :=
  bnd (lp (fun s => F_spec_l8Meet_l1 a0 a1 s.1 s.2) (([] : (List Int)), 0)) (fun j => F_spec_l8Meet_k2 j)
noncomputable def F_spec_l9Part (a0 : (List Int)) (a1 : (List Int)) : Option Bool :=
  cal (F_spec_l8Meet a0 a1) (fun x1 =>
    some (decide ((x1.length : Int) = (a0.length : Int))))
noncomputable def F_spec_l9In_l1 (a0_0 : (List (List Int))) (a1 : (List Int)) (i45 : Int) : Option (Int ⊕ (Unit ⊕ Bool)) :=
  if i45 < (a0_0.length : Int) then
    idx a0_0 i45 (fun x88 =>
      cal (F_spec_l9Part a1 x88) (fun x102 =>
        if x102 = true then
          some (.inr (.inr true))
        else
          ck (i45 + 1) (fun _ =>
            some (.inl (i45 + 1)))))
  else
    some (.inr (.inl ()))
noncomputable def F_spec_l9In_k2   : Option Bool :=
  some false
noncomputable def F_spec_l9In (a0_0 : (List (List Int))) (a0_1 : (List (List Int))) (a1 : (List Int)) : Option Bool :=
  bnd (lp (fun s => F_spec_l9In_l1 a0_0 a1 s) 0) (fun j => F_spec_l9In_k2 )
noncomputable def F_spec_l9With_l1 (a0_0 : (List (List Int))) (a1 : Int) (l101 : (List Int)) (i104 : Int) : Option (((List Int) × Int) ⊕ ((List Int) ⊕ (List Int))) :=
  if i104 < (a0_0.length : Int) then
    idx a0_0 i104 (fun x192 =>
      cal (F_spec_l1Has x192 a1) (fun x206 =>
        if x206 = true then
          app l101 ([i104]) (fun _ =>
            ck (i104 + 1) (fun _ =>
              some (.inl ((l101 ++ ([i104])), i104 + 1))))
        else
          ck (i104 + 1) (fun _ =>
            some (.inl (l101, i104 + 1)))))
  else
    some (.inr (.inl l101))
noncomputable def F_spec_l9With_k2  (l179 : (List Int)) : Option (List Int) :=
  some l179
noncomputable def F_spec_l9With (a0_0 : (List (List Int))) (a0_1 : (List (List Int))) (a1 : Int) : Option (List Int) :=
  bnd (lp (fun s => F_spec_l9With_l1 a0_0 a1 s.1 s.2) (([] : (List Int)), 0)) (fun j => F_spec_l9With_k2 j)
noncomputable def F_spec_DecompOk_l1 (a0_0 : (List (List Int))) (a1_0 : (List (List Int))) (i99 : Int) : Option (Int ⊕ (Unit ⊕ Bool)) :=
  if i99 < (a1_0.length : Int) then
    idx a1_0 i99 (fun x160 =>
      cal (F_spec_l1Size a0_0) (fun x176 =>
        cal (F_spec_l1Set x160 x176) (fun x181 =>
          if ¬ (x181 = true) then
            some (.inr (.inr false))
          else
            ck (i99 + 1) (fun _ =>
              some (.inl (i99 + 1))))))
  else
    some (.inr (.inl ()))
noncomputable def F_spec_DecompOk_l3 (a1_0 : (List (List Int))) (a1_1 : (List (List Int))) (l295 : (List (List Int))) (i298 : Int) : Option (((List (List Int)) × Int) ⊕ (Unit ⊕ Bool)) :=
  if i298 < (l295.length : Int) then
    idx l295 i298 (fun x378 =>
      cal (F_spec_l9In a1_0 a1_1 x378) (fun x397 =>
        if ¬ (x397 = true) then
          some (.inr (.inr false))
        else
          ck (i298 + 1) (fun _ =>
            some (.inl (l295, i298 + 1)))))
  else
    some (.inr (.inl ()))
noncomputable def F_spec_DecompOk_l5 (a0_0 : (List (List Int))) (a1_0 : (List (List Int))) (a1_1 : (List (List Int))) (i466 : Int) : Option (Int ⊕ (Unit ⊕ Bool)) :=
  cal (F_spec_l1Size a0_0) (fun x527 =>
    if i466 < x527 then
      cal (F_spec_l9With a1_0 a1_1 i466) (fun x535 =>
        if (x535.length : Int) = 0 then
          some (.inr (.inr false))
        else
          cal (F_spec_l9Reached a1_0 a1_1 x535) (fun x556 =>
            if x556 ≠ (x535.length : Int) then
              some (.inr (.inr false))
            else
              ck (i466 + 1) (fun _ =>
                some (.inl (i466 + 1)))))
    else
      some (.inr (.inl ())))
noncomputable def F_spec_DecompOk_k6   : Option Bool :=
  some true
noncomputable def F_spec_DecompOk_k4 (a0_0 : (List (List Int))) (a1_0 : (List (List Int))) (a1_1 : (List (List Int)))  : Option Bool :=
  bnd (lp (fun s => F_spec_DecompOk_l5 a0_0 a1_0 a1_1 s) 0) (fun j => F_spec_DecompOk_k6 )
noncomputable def F_spec_DecompOk_k2 (a0_0 : (List (List Int))) (a1_0 : (List (List Int))) (a1_1 : (List (List Int)))  : Option Bool :=
  cal (F_spec_l1Edges a0_0) (fun x191 =>
    bnd (lp (fun s => F_spec_DecompOk_l3 a1_0 a1_1 s.1 s.2) (x191, 0)) (fun j => F_spec_DecompOk_k4 a0_0 a1_0 a1_1 ))
noncomputable def F_spec_DecompOk (a0_0 : (List (List Int))) (a1_0 : (List (List Int))) (a1_1 : (List (List Int))) : Option Bool :=
  cal (F_spec_GraphOk a0_0) (fun x33 =>
    if ¬ (x33 = true) then
      some false
    else
      cal (F_spec_l9Tree a1_0 a1_1) (fun x40 =>
        if ¬ (x40 = true) then
          some false
        else
          bnd (lp (fun s => F_spec_DecompOk_l1 a0_0 a1_0 s) 0) (fun j => F_spec_DecompOk_k2 a0_0 a1_0 a1_1 )))
noncomputable def F_spec_l1CopyGraph_l1 (a0_0 : (List (List Int))) (l198 : (List (List Int))) (i201 : Int) : Option (((List (List Int)) × Int) ⊕ ((List (List Int)) ⊕ (List (List Int)))) :=
  if i201 < (a0_0.length : Int) then
    idx a0_0 i201 (fun x385 =>
      cal (F_spec_l1Copy x385) (fun x402 =>
        app l198 ([x402]) (fun _ =>
          ck (i201 + 1) (fun _ =>
            some (.inl ((l198 ++ ([x402])), i201 + 1))))))
  else
    some (.inr (.inl l198))
noncomputable def F_spec_l1CopyGraph_k2  (l355 : (List (List Int))) : Option (List (List Int)) :=
  some l355
noncomputable def F_spec_l1CopyGraph (a0_0 : (List (List Int))) : Option (List (List Int)) :=
  bnd (lp (fun s => F_spec_l1CopyGraph_l1 a0_0 s.1 s.2) (([] : (List (List Int))), 0)) (fun j => F_spec_l1CopyGraph_k2 j)
noncomputable def F_spec_l7Left_l1 (a0_0 : (List (List Int))) (a1 : Int) (a2 : (List Bool)) (l158 : (List Int)) (i161 : Int) : Option (((List Int) × Int) ⊕ ((List Int) ⊕ (List Int))) :=
  idx a0_0 a1 (fun x305 =>
    if i161 < (x305.length : Int) then
      idx a0_0 a1 (fun x320 =>
        idx x320 i161 (fun x334 =>
          idx a2 x334 (fun x346 =>
            if ¬ (x346 = true) then
              idx a0_0 a1 (fun x358 =>
                idx x358 i161 (fun x372 =>
                  app l158 ([x372]) (fun _ =>
                    ck (i161 + 1) (fun _ =>
                      some (.inl ((l158 ++ ([x372])), i161 + 1))))))
            else
              ck (i161 + 1) (fun _ =>
                some (.inl (l158, i161 + 1))))))
    else
      some (.inr (.inl l158)))
noncomputable def F_spec_l7Left_k2  (l293 : (List Int)) : Option (List Int) :=
  some l293
noncomputable def F_spec_l7Left (a0_0 : (List (List Int))) (a1 : Int) (a2 : (List Bool)) : Option (List Int) :=
  bnd (lp (fun s => F_spec_l7Left_l1 a0_0 a1 a2 s.1 s.2) (([] : (List Int)), 0)) (fun j => F_spec_l7Left_k2 j)
noncomputable def F_spec_l1Link (a0_0 : (List (List Int))) (a1 : Int) (a2 : Int) : Option (List (List Int)) :=
  idx a0_0 a1 (fun x23 =>
    cal (F_spec_l1Into x23 a2) (fun x44 =>
      idx a0_0 a1 (fun x58 =>
        idx (a0_0.set ((a1 : Int).toNat) x44) a2 (fun x91 =>
          cal (F_spec_l1Into x91 a1) (fun x112 =>
            idx (a0_0.set ((a1 : Int).toNat) x44) a2 (fun x126 =>
              some ((a0_0.set ((a1 : Int).toNat) x44).set ((a2 : Int).toNat) x112)))))))

noncomputable def F_spec_l7Clique_l2 (a1 : (List Int)) (i379 : Int) (l847 : (List (List Int))) (i852 : Int) : Option (((List (List Int)) × Int) ⊕ ((List (List Int)) ⊕ (((List (List Int)) × Int) ⊕ ((List (List Int)) ⊕ (List (List Int)))))) :=
  if i852 < i379 then
    idx a1 i852 (fun x976 =>
      idx a1 i379 (fun x988 =>
        cal (F_spec_l1Link l847 x976 x988) (fun x1003 =>
          ck (i852 + 1) (fun _ =>
            some (.inl (x1003, i852 + 1))))))
  else
    some (.inr (.inl l847))
noncomputable def F_spec_l7Clique_k3 (i379 : Int) (l952 : (List (List Int))) : Option (((List (List Int)) × Int) ⊕ ((List (List Int)) ⊕ (List (List Int)))) :=
  ck (i379 + 1) (fun _ =>
    some (.inl (l952, i379 + 1)))
noncomputable def F_spec_l7Clique_l1 (a1 : (List Int)) (l374 : (List (List Int))) (i379 : Int) : Option (((List (List Int)) × Int) ⊕ ((List (List Int)) ⊕ (List (List Int)))) :=
  if i379 < (a1.length : Int) then
    bnd (lp (fun s => F_spec_l7Clique_l2 a1 i379 s.1 s.2) (l374, 0)) (fun j => F_spec_l7Clique_k3 i379 j)
  else
    some (.inr (.inl l374))
noncomputable def F_spec_l7Clique_k4  (l717 : (List (List Int))) : Option (List (List Int)) :=
  some l717
noncomputable def F_spec_l7Clique (a0_0 : (List (List Int))) (a1 : (List Int)) : Option (List (List Int)) :=
  bnd (lp (fun s => F_spec_l7Clique_l1 a1 s.1 s.2) (a0_0, 0)) (fun j => F_spec_l7Clique_k4 j)
noncomputable def F_spec_OrderBy_l2 (a1_0 : (List (List Int))) (a1_1 : (List (List Int))) (l935 : (List Bool)) (l1911 : (List (List Int))) (i1917 : Int) : Option (((List (List Int)) × Int) ⊕ (((List (List Int)) × Int) ⊕ (((List Int) × (List (List Int)) × (List Bool)) ⊕ ((List Int) ⊕ (List Int))))) :=
  idx l935 i1917 (fun x2149 =>
    if x2149 = true then
      ck (i1917 + 1) (fun _ =>
        some (.inl (l1911, i1917 + 1)))
    else
      cal (F_spec_l7Left l1911 i1917 l935) (fun x2175 =>
        cal (F_spec_l1Into x2175 i1917) (fun x2205 =>
          cal (F_spec_l9In a1_0 a1_1 x2205) (fun x2223 =>
            if ¬ (x2223 = true) then
              ck (i1917 + 1) (fun _ =>
                some (.inl (l1911, i1917 + 1)))
            else
              some (.inr (.inl (l1911, i1917)))))))
noncomputable def F_spec_OrderBy_k3 (l918 : (List Int)) (l935 : (List Bool)) (l2102 : (List (List Int))) (i2108 : Int) : Option (((List Int) × (List (List Int)) × (List Bool)) ⊕ ((List Int) ⊕ (List Int))) :=
  idx l935 i2108 (fun x2231 =>
    cal (F_spec_l7Left l2102 i2108 (l935.set ((i2108 : Int).toNat) true)) (fun x2257 =>
      cal (F_spec_l7Clique l2102 x2257) (fun x2287 =>
        app l918 ([i2108]) (fun _ =>
          some (.inl ((l918 ++ ([i2108])), x2287, (l935.set ((i2108 : Int).toNat) true)))))))
noncomputable def F_spec_OrderBy_l1 (a0_0 : (List (List Int))) (a1_0 : (List (List Int))) (a1_1 : (List (List Int))) (l918 : (List Int)) (l929 : (List (List Int))) (l935 : (List Bool)) : Option (((List Int) × (List (List Int)) × (List Bool)) ⊕ ((List Int) ⊕ (List Int))) :=
  cal (F_spec_l1Size a0_0) (fun x1701 =>
    if (l918.length : Int) < x1701 then
      bnd (lp (fun s => F_spec_OrderBy_l2 a1_0 a1_1 l935 s.1 s.2) (l929, 0)) (fun j => F_spec_OrderBy_k3 l918 l935 j.1 j.2)
    else
      some (.inr (.inl l918)))
noncomputable def F_spec_OrderBy_k4  (l1689 : (List Int)) : Option (List Int) :=
  some l1689
noncomputable def F_spec_OrderBy (a0_0 : (List (List Int))) (a1_0 : (List (List Int))) (a1_1 : (List (List Int))) : Option (List Int) :=
  cal (F_spec_DecompOk a0_0 a1_0 a1_1) (fun x32 =>
    if ¬ (x32 = true) then
      some ([] : (List Int))
    else
      cal (F_spec_l1CopyGraph a0_0) (fun x39 =>
        cal (F_spec_l1Size a0_0) (fun x85 =>
          mkS x85 false (fun _ =>
            bnd (lp (fun s => F_spec_OrderBy_l1 a0_0 a1_0 a1_1 s.1 s.2.1 s.2.2) (([] : (List Int)), x39, (List.replicate (x85 : Int).toNat false))) (fun j => F_spec_OrderBy_k4 j)))))
noncomputable def F_impl_inRange (a0 : Int) (a1 : Int) (a2 : Int) : Option Bool :=
  if a1 ≤ a0 then
    some (decide (a0 ≤ a2))
  else
    some false
noncomputable def F_impl_increasing_l1 (a0 : (List Int)) (a1 : Int) (i49 : Int) : Option (Int ⊕ (Unit ⊕ Bool)) :=
  if i49 < (a0.length : Int) then
    idx a0 i49 (fun x108 =>
      ck (a1 - 1) (fun _ =>
        cal (F_impl_inRange x108 0 (a1 - 1)) (fun x122 =>
          if ¬ (x122 = true) then
            some (.inr (.inr false))
          else
            if 0 < i49 then
              ck (i49 - 1) (fun _ =>
                idx a0 (i49 - 1) (fun x134 =>
                  if x108 ≤ x134 then
                    some (.inr (.inr false))
                  else
                    ck (i49 + 1) (fun _ =>
                      some (.inl (i49 + 1)))))
            else
              ck (i49 + 1) (fun _ =>
                some (.inl (i49 + 1))))))
  else
    some (.inr (.inl ()))
noncomputable def F_impl_increasing_k2   : Option Bool :=
  some true
noncomputable def F_impl_increasing (a0 : (List Int)) (a1 : Int) : Option Bool :=
  bnd (lp (fun s => F_impl_increasing_l1 a0 a1 s) 0) (fun j => F_impl_increasing_k2 )
noncomputable def F_slices_Index_int64_l1 (a0 : (List Int)) (a1 : Int) (i23 : Int) : Option (Int ⊕ (Unit ⊕ Int)) :=
  if i23 < (a0.length : Int) then
    idx a0 i23 (fun x56 =>
      if a1 = x56 then
        some (.inr (.inr i23))
      else
        ck (i23 + 1) (fun _ =>
          some (.inl (i23 + 1))))
  else
    some (.inr (.inl ()))
noncomputable def F_slices_Index_int64_k2   : Option Int :=
  some (-1)
noncomputable def F_slices_Index_int64 (a0 : (List Int)) (a1 : Int) : Option Int :=
  bnd (lp (fun s => F_slices_Index_int64_l1 a0 a1 s) 0) (fun j => F_slices_Index_int64_k2 )
noncomputable def F_slices_Contains_int64 (a0 : (List Int)) (a1 : Int) : Option Bool :=
  cal (F_slices_Index_int64 a0 a1) (fun x1 =>
    some (decide (0 ≤ x1)))
noncomputable def F_impl_GraphOk_l1 (a0_0 : (List (List Int))) (i56 : Int) : Option (Int ⊕ (Unit ⊕ Bool)) :=
  if i56 < (a0_0.length : Int) then
    idx a0_0 i56 (fun x108 =>
      cal (F_impl_increasing x108 (a0_0.length : Int)) (fun x122 =>
        if ¬ (x122 = true) then
          some (.inr (.inr false))
        else
          cal (F_slices_Contains_int64 x108 i56) (fun x131 =>
            if x131 = true then
              some (.inr (.inr false))
            else
              ck (i56 + 1) (fun _ =>
                some (.inl (i56 + 1))))))
  else
    some (.inr (.inl ()))
noncomputable def F_impl_GraphOk_l4 (a0_0 : (List (List Int))) (i311 : Int) (x487 : (List Int)) (i549 : Int) : Option (Int ⊕ (Unit ⊕ (Int ⊕ (Unit ⊕ Bool)))) :=
  if i549 < (x487.length : Int) then
    idx x487 i549 (fun x606 =>
      idx a0_0 x606 (fun x618 =>
        cal (F_slices_Contains_int64 x618 i311) (fun x632 =>
          if ¬ (x632 = true) then
            some (.inr (.inr (.inr (.inr false))))
          else
            ck (i549 + 1) (fun _ =>
              some (.inl (i549 + 1))))))
  else
    some (.inr (.inl ()))
noncomputable def F_impl_GraphOk_k5 (i311 : Int)  : Option (Int ⊕ (Unit ⊕ Bool)) :=
  ck (i311 + 1) (fun _ =>
    some (.inl (i311 + 1)))
noncomputable def F_impl_GraphOk_l3 (a0_0 : (List (List Int))) (i311 : Int) : Option (Int ⊕ (Unit ⊕ Bool)) :=
  if i311 < (a0_0.length : Int) then
    idx a0_0 i311 (fun x487 =>
      bnd (lp (fun s => F_impl_GraphOk_l4 a0_0 i311 x487 s) 0) (fun j => F_impl_GraphOk_k5 i311 ))
  else
    some (.inr (.inl ()))
noncomputable def F_impl_GraphOk_k6   : Option Bool :=
  some true
noncomputable def F_impl_GraphOk_k2 (a0_0 : (List (List Int)))  : Option Bool :=
  bnd (lp (fun s => F_impl_GraphOk_l3 a0_0 s) 0) (fun j => F_impl_GraphOk_k6 )
noncomputable def F_impl_GraphOk (a0_0 : (List (List Int))) : Option Bool :=
  if (a0_0.length : Int) < 1 then
    some false
  else
    if 16 < (a0_0.length : Int) then
      some false
    else
      bnd (lp (fun s => F_impl_GraphOk_l1 a0_0 s) 0) (fun j => F_impl_GraphOk_k2 a0_0 )
noncomputable def F_slices_IndexFunc_Sint64_l1 (a0 : (List (List Int))) (a1 : (List Int) → Option Bool) (i31 : Int) : Option (Int ⊕ (Unit ⊕ Int)) :=
  if i31 < (a0.length : Int) then
    idx a0 i31 (fun x72 =>
      cal (a1 x72) (fun x86 =>
        if x86 = true then
          some (.inr (.inr i31))
        else
          ck (i31 + 1) (fun _ =>
            some (.inl (i31 + 1)))))
  else
    some (.inr (.inl ()))
noncomputable def F_slices_IndexFunc_Sint64_k2   : Option Int :=
  some (-1)
noncomputable def F_slices_IndexFunc_Sint64 (a0 : (List (List Int))) (a1 : (List Int) → Option Bool) : Option Int :=
  bnd (lp (fun s => F_slices_IndexFunc_Sint64_l1 a0 a1 s) 0) (fun j => F_slices_IndexFunc_Sint64_k2 )
noncomputable def F_slices_ContainsFunc_Sint64 (a0 : (List (List Int))) (a1 : (List Int) → Option Bool) : Option Bool :=
  cal (F_slices_IndexFunc_Sint64 a0 a1) (fun x2 =>
    some (decide (0 ≤ x2)))
noncomputable def F_impl_goodLinks_1 (a0 : (List Int)) (y0 : Int) : Option Bool :=
  if (a0.length : Int) ≠ 2 then
    some true
  else
    cal (F_impl_increasing a0 y0) (fun x2 =>
      some (!x2))
noncomputable def F_impl_goodLinks (a0 : (List (List Int))) (a1 : Int) : Option Bool :=
  cal (F_slices_ContainsFunc_Sint64 a0 (fun (z9 : (List Int)) => F_impl_goodLinks_1 z9 a1)) (fun x11 =>
    some (!x11))
noncomputable def F_impl_one (a0 : Int) : Option (BitVec 32) :=
  grd ((0 : Int) ≤ a0) (
    some ((1#32) <<< (a0 : Int).toNat))
noncomputable def F_impl_nets_join (a0 : (List (BitVec 32))) (a1 : Int) (a2 : Int) : Option (List (BitVec 32)) :=
  idx a0 a1 (fun x1 =>
    cal (F_impl_one a2) (fun x14 =>
      idx a0 a1 (fun x16 =>
        idx (a0.set ((a1 : Int).toNat) (x1 ||| x14)) a2 (fun x39 =>
          cal (F_impl_one a1) (fun x52 =>
            idx (a0.set ((a1 : Int).toNat) (x1 ||| x14)) a2 (fun x54 =>
              some ((a0.set ((a1 : Int).toNat) (x1 ||| x14)).set ((a2 : Int).toNat) (x39 ||| x52))))))))
noncomputable def F_impl_linkNets_l1 (a0_1 : (List (List Int))) (l94 : (List (BitVec 32))) (i97 : Int) : Option (((List (BitVec 32)) × Int) ⊕ ((List (BitVec 32)) ⊕ (List (BitVec 32)))) :=
  if i97 < (a0_1.length : Int) then
    idx a0_1 i97 (fun x180 =>
      idx x180 0 (fun x194 =>
        idx x180 1 (fun x206 =>
          cal (F_impl_nets_join l94 x194 x206) (fun x221 =>
            ck (i97 + 1) (fun _ =>
              some (.inl (x221, i97 + 1)))))))
  else
    some (.inr (.inl l94))
noncomputable def F_impl_linkNets_k2  (l167 : (List (BitVec 32))) : Option (List (BitVec 32)) :=
  some l167
noncomputable def F_impl_linkNets (a0_0 : (List (List Int))) (a0_1 : (List (List Int))) : Option (List (BitVec 32)) :=
  mkS (a0_0.length : Int) (0 : BitVec 32) (fun _ =>
    bnd (lp (fun s => F_impl_linkNets_l1 a0_1 s.1 s.2) ((List.replicate ((a0_0.length : Int) : Int).toNat (0 : BitVec 32)), 0)) (fun j => F_impl_linkNets_k2 j))
noncomputable def F_impl_maskOf_l1 (a0 : (List Int)) (u29 : BitVec 32) (i30 : Int) : Option (((BitVec 32) × Int) ⊕ ((BitVec 32) ⊕ (BitVec 32))) :=
  if i30 < (a0.length : Int) then
    idx a0 i30 (fun x70 =>
      cal (F_impl_one x70) (fun x82 =>
        ck (i30 + 1) (fun _ =>
          some (.inl (u29 ||| x82, i30 + 1)))))
  else
    some (.inr (.inl u29))
noncomputable def F_impl_maskOf_k2  (u59 : BitVec 32) : Option (BitVec 32) :=
  some u59
noncomputable def F_impl_maskOf (a0 : (List Int)) : Option (BitVec 32) :=
  bnd (lp (fun s => F_impl_maskOf_l1 a0 s.1 s.2) (0#32, 0)) (fun j => F_impl_maskOf_k2 j)
noncomputable def F_impl_bagMasks_l1 (a0 : (List (List Int))) (l74 : (List (BitVec 32))) (i77 : Int) : Option (((List (BitVec 32)) × Int) ⊕ ((List (BitVec 32)) ⊕ (List (BitVec 32)))) :=
  if i77 < (a0.length : Int) then
    idx a0 i77 (fun x152 =>
      cal (F_impl_maskOf x152) (fun x166 =>
        app l74 ([x166]) (fun _ =>
          ck (i77 + 1) (fun _ =>
            some (.inl ((l74 ++ ([x166])), i77 + 1))))))
  else
    some (.inr (.inl l74))
noncomputable def F_impl_bagMasks_k2  (l139 : (List (BitVec 32))) : Option (List (BitVec 32)) :=
  some l139
noncomputable def F_impl_bagMasks (a0 : (List (List Int))) : Option (List (BitVec 32)) :=
  bnd (lp (fun s => F_impl_bagMasks_l1 a0 s.1 s.2) (([] : (List (BitVec 32))), 0)) (fun j => F_impl_bagMasks_k2 j)
noncomputable def F_impl_firstOf (a0 : Int) : Option (BitVec 32) :=
  grd ((0 : Int) ≤ a0) (
    some (((1#32) <<< (a0 : Int).toNat) - (1#32)))
noncomputable def F_impl_nets_all (a0 : (List (BitVec 32))) : Option (BitVec 32) :=
  cal (F_impl_firstOf (a0.length : Int)) (fun x1 =>
    some x1)
noncomputable def F_math_bits_TrailingZeros32 (a0 : BitVec 32) : Option Int :=
  if a0 = (0#32) then
    some 32
  else
    idx deBruijn32 (BitVec.toNat (((a0 &&& (-a0)) * (125613361#32)) >>> (27 : Int).toNat) : Int) (fun x2 =>
      some (BitVec.toNat x2 : Int))
noncomputable def F_impl_vset_least (a0 : BitVec 32) : Option Int :=
  cal (F_math_bits_TrailingZeros32 a0) (fun x1 =>
    some x1)
noncomputable def F_impl_vset_list_l1  (u55 : BitVec 32) (l59 : (List Int)) : Option (((BitVec 32) × (List Int)) ⊕ ((List Int) ⊕ (List Int))) :=
  if u55 ≠ (0#32) then
    cal (F_impl_vset_least u55) (fun x119 =>
      app l59 ([x119]) (fun _ =>
        some (.inl (u55 &&& (u55 - (1#32)), (l59 ++ ([x119]))))))
  else
    some (.inr (.inl l59))
noncomputable def F_impl_vset_list_k2  (l106 : (List Int)) : Option (List Int) :=
  some l106
noncomputable def F_impl_vset_list (a0 : BitVec 32) : Option (List Int) :=
  bnd (lp (fun s => F_impl_vset_list_l1 s.1 s.2) (a0, ([] : (List Int)))) (fun j => F_impl_vset_list_k2 j)
noncomputable def F_impl_reach_l2 (a0 : (List (BitVec 32))) (a2 : BitVec 32) (x282 : (List Int)) (u332 : BitVec 32) (i336 : Int) : Option (((BitVec 32) × Int) ⊕ ((BitVec 32) ⊕ ((BitVec 32) ⊕ (Unit ⊕ (BitVec 32))))) :=
  if i336 < (x282.length : Int) then
    idx x282 i336 (fun x384 =>
      idx a0 x384 (fun x396 =>
        ck (i336 + 1) (fun _ =>
          some (.inl (u332 ||| (x396 &&& a2), i336 + 1)))))
  else
    some (.inr (.inl u332))
noncomputable def F_impl_reach_k3 (u140 : BitVec 32) (u373 : BitVec 32) : Option ((BitVec 32) ⊕ (Unit ⊕ (BitVec 32))) :=
  if u373 = u140 then
    some (.inr (.inr u140))
  else
    some (.inl u373)
noncomputable def F_impl_reach_l1 (a0 : (List (BitVec 32))) (a2 : BitVec 32) (u140 : BitVec 32) : Option ((BitVec 32) ⊕ (Unit ⊕ (BitVec 32))) :=
  cal (F_impl_vset_list u140) (fun x282 =>
    bnd (lp (fun s => F_impl_reach_l2 a0 a2 x282 s.1 s.2) (u140, 0)) (fun j => F_impl_reach_k3 u140 j))
noncomputable def F_impl_reach (a0 : (List (BitVec 32))) (a1 : Int) (a2 : BitVec 32) : Option (BitVec 32) :=
  cal (F_impl_one a1) (fun x1 =>
    bnd (lp (fun s => F_impl_reach_l1 a0 a2 s) x1) (fun _ => none))
noncomputable def F_impl_connected (a0 : (List (BitVec 32))) (a1 : BitVec 32) : Option Bool :=
  if a1 ≠ (0#32) then
    cal (F_impl_vset_least a1) (fun x2 =>
      cal (F_impl_reach a0 x2 a1) (fun x9 =>
        some (decide (x9 = a1))))
  else
    some false
noncomputable def F_impl_netsOf_l1 (a0_0 : (List (List Int))) (l84 : (List (BitVec 32))) (i87 : Int) : Option (((List (BitVec 32)) × Int) ⊕ ((List (BitVec 32)) ⊕ (List (BitVec 32)))) :=
  if i87 < (a0_0.length : Int) then
    idx a0_0 i87 (fun x162 =>
      cal (F_impl_maskOf x162) (fun x176 =>
        app l84 ([x176]) (fun _ =>
          ck (i87 + 1) (fun _ =>
            some (.inl ((l84 ++ ([x176])), i87 + 1))))))
  else
    some (.inr (.inl l84))
noncomputable def F_impl_netsOf_k2  (l149 : (List (BitVec 32))) : Option (List (BitVec 32)) :=
  some l149
noncomputable def F_impl_netsOf (a0_0 : (List (List Int))) : Option (List (BitVec 32)) :=
  bnd (lp (fun s => F_impl_netsOf_l1 a0_0 s.1 s.2) (([] : (List (BitVec 32))), 0)) (fun j => F_impl_netsOf_k2 j)
noncomputable def F_impl_vset_has (a0 : BitVec 32) (a1 : Int) : Option Bool :=
  grd ((0 : Int) ≤ a1) (
    some (decide (((a0 >>> (a1 : Int).toNat) &&& (1#32)) = (1#32))))
noncomputable def F_impl_coversEdges_l2 (a1 : (List (BitVec 32))) (i124 : Int) (u299 : BitVec 32) (i300 : Int) : Option (((BitVec 32) × Int) ⊕ ((BitVec 32) ⊕ (Int ⊕ (Unit ⊕ Bool)))) :=
  if i300 < (a1.length : Int) then
    idx a1 i300 (fun x342 =>
      cal (F_impl_vset_has x342 i124) (fun x353 =>
        if x353 = true then
          ck (i300 + 1) (fun _ =>
            some (.inl (u299 ||| x342, i300 + 1)))
        else
          ck (i300 + 1) (fun _ =>
            some (.inl (u299, i300 + 1)))))
  else
    some (.inr (.inl u299))
noncomputable def F_impl_coversEdges_k3 (i124 : Int) (x258 : (BitVec 32)) (u331 : BitVec 32) : Option (Int ⊕ (Unit ⊕ Bool)) :=
  cal (F_impl_vset_has u331 i124) (fun x364 =>
    if ¬ (x364 = true) then
      some (.inr (.inr false))
    else
      if (x258 &&& ~~~u331) ≠ (0#32) then
        some (.inr (.inr false))
      else
        ck (i124 + 1) (fun _ =>
          some (.inl (i124 + 1))))
noncomputable def F_impl_coversEdges_l1 (a0 : (List (BitVec 32))) (a1 : (List (BitVec 32))) (i124 : Int) : Option (Int ⊕ (Unit ⊕ Bool)) :=
  if i124 < (a0.length : Int) then
    idx a0 i124 (fun x258 =>
      bnd (lp (fun s => F_impl_coversEdges_l2 a1 i124 s.1 s.2) (0#32, 0)) (fun j => F_impl_coversEdges_k3 i124 x258 j))
  else
    some (.inr (.inl ()))
noncomputable def F_impl_coversEdges_k4   : Option Bool :=
  some true
noncomputable def F_impl_coversEdges (a0 : (List (BitVec 32))) (a1 : (List (BitVec 32))) : Option Bool :=
  bnd (lp (fun s => F_impl_coversEdges_l1 a0 a1 s) 0) (fun j => F_impl_coversEdges_k4 )
noncomputable def F_impl_DecompOk_l1 (a0_0 : (List (List Int))) (a1_0 : (List (List Int))) (i103 : Int) : Option (Int ⊕ (Unit ⊕ Bool)) :=
  if i103 < (a1_0.length : Int) then
    idx a1_0 i103 (fun x158 =>
      cal (F_impl_increasing x158 (a0_0.length : Int)) (fun x172 =>
        if ¬ (x172 = true) then
          some (.inr (.inr false))
        else
          ck (i103 + 1) (fun _ =>
            some (.inl (i103 + 1)))))
  else
    some (.inr (.inl ()))
noncomputable def F_impl_DecompOk_l4 (x204 : (List (BitVec 32))) (i516 : Int) (u767 : BitVec 32) (i768 : Int) : Option (((BitVec 32) × Int) ⊕ ((BitVec 32) ⊕ (Int ⊕ (Unit ⊕ Bool)))) :=
  if i768 < (x204.length : Int) then
    idx x204 i768 (fun x834 =>
      cal (F_impl_vset_has x834 i516) (fun x845 =>
        if x845 = true then
          cal (F_impl_one i768) (fun x852 =>
            ck (i768 + 1) (fun _ =>
              some (.inl (u767 ||| x852, i768 + 1))))
        else
          ck (i768 + 1) (fun _ =>
            some (.inl (u767, i768 + 1)))))
  else
    some (.inr (.inl u767))
noncomputable def F_impl_DecompOk_k5 (x186 : (List (BitVec 32))) (i516 : Int) (u821 : BitVec 32) : Option (Int ⊕ (Unit ⊕ Bool)) :=
  cal (F_impl_connected x186 u821) (fun x865 =>
    if ¬ (x865 = true) then
      some (.inr (.inr false))
    else
      ck (i516 + 1) (fun _ =>
        some (.inl (i516 + 1))))
noncomputable def F_impl_DecompOk_l3 (a0_0 : (List (List Int))) (x186 : (List (BitVec 32))) (x204 : (List (BitVec 32))) (i516 : Int) : Option (Int ⊕ (Unit ⊕ Bool)) :=
  if i516 < (a0_0.length : Int) then
    bnd (lp (fun s => F_impl_DecompOk_l4 x204 i516 s.1 s.2) (0#32, 0)) (fun j => F_impl_DecompOk_k5 x186 i516 j)
  else
    some (.inr (.inl ()))
noncomputable def F_impl_DecompOk_k6   : Option Bool :=
  some true
noncomputable def F_impl_DecompOk_k2 (a0_0 : (List (List Int))) (a1_0 : (List (List Int))) (a1_1 : (List (List Int)))  : Option Bool :=
  cal (F_impl_linkNets a1_0 a1_1) (fun x186 =>
    cal (F_impl_bagMasks a1_0) (fun x204 =>
      cal (F_impl_nets_all x186) (fun x276 =>
        cal (F_impl_connected x186 x276) (fun x285 =>
          if ¬ (x285 = true) then
            some false
          else
            cal (F_impl_netsOf a0_0) (fun x292 =>
              cal (F_impl_coversEdges x292 x204) (fun x315 =>
                if ¬ (x315 = true) then
                  some false
                else
                  bnd (lp (fun s => F_impl_DecompOk_l3 a0_0 x186 x204 s) 0) (fun j => F_impl_DecompOk_k6 )))))))
noncomputable def F_impl_DecompOk (a0_0 : (List (List Int))) (a1_0 : (List (List Int))) (a1_1 : (List (List Int))) : Option Bool :=
  cal (F_impl_GraphOk a0_0) (fun x38 =>
    if ¬ (x38 = true) then
      some false
    else
      if (a1_0.length : Int) < 1 then
        some false
      else
        if 16 < (a1_0.length : Int) then
          some false
        else
          ck ((a1_0.length : Int) - 1) (fun _ =>
            if (a1_1.length : Int) ≠ ((a1_0.length : Int) - 1) then
              some false
            else
              cal (F_impl_goodLinks a1_1 (a1_0.length : Int)) (fun x50 =>
                if ¬ (x50 = true) then
                  some false
                else
                  bnd (lp (fun s => F_impl_DecompOk_l1 a0_0 a1_0 s) 0) (fun j => F_impl_DecompOk_k2 a0_0 a1_0 a1_1 ))))
noncomputable def F_slices_IndexFunc_implvset_l1 (a0 : (List (BitVec 32))) (a1 : (BitVec 32) → Option Bool) (i28 : Int) : Option (Int ⊕ (Unit ⊕ Int)) :=
  if i28 < (a0.length : Int) then
    idx a0 i28 (fun x66 =>
      cal (a1 x66) (fun x77 =>
        if x77 = true then
          some (.inr (.inr i28))
        else
          ck (i28 + 1) (fun _ =>
            some (.inl (i28 + 1)))))
  else
    some (.inr (.inl ()))
noncomputable def F_slices_IndexFunc_implvset_k2   : Option Int :=
  some (-1)
noncomputable def F_slices_IndexFunc_implvset (a0 : (List (BitVec 32))) (a1 : (BitVec 32) → Option Bool) : Option Int :=
  bnd (lp (fun s => F_slices_IndexFunc_implvset_l1 a0 a1 s) 0) (fun j => F_slices_IndexFunc_implvset_k2 )
noncomputable def F_slices_ContainsFunc_implvset (a0 : (List (BitVec 32))) (a1 : (BitVec 32) → Option Bool) : Option Bool :=
  cal (F_slices_IndexFunc_implvset a0 a1) (fun x2 =>
    some (decide (0 ≤ x2)))
noncomputable def F_impl_OrderBy_1 (a0 : BitVec 32) (y0 : BitVec 32) : Option Bool :=
  some (decide ((y0 &&& ~~~a0) = (0#32)))
noncomputable def F_impl_eliminate_l1 (a1 : BitVec 32) (x1 : (BitVec 32)) (x14 : (BitVec 32)) (x19 : (List Int)) (l107 : (List (BitVec 32))) (i113 : Int) : Option (((List (BitVec 32)) × Int) ⊕ ((List (BitVec 32)) ⊕ (List (BitVec 32)))) :=
  if i113 < (x19.length : Int) then
    idx x19 i113 (fun x198 =>
      idx l107 x198 (fun x210 =>
        cal (F_impl_one x198) (fun x223 =>
          idx l107 x198 (fun x225 =>
            ck (i113 + 1) (fun _ =>
              some (.inl ((l107.set ((x198 : Int).toNat) (x210 ||| (((x1 &&& a1) &&& ~~~x14) &&& ~~~x223))), i113 + 1)))))))
  else
    some (.inr (.inl l107))
noncomputable def F_impl_eliminate_k2  (l185 : (List (BitVec 32))) : Option (List (BitVec 32)) :=
  some l185
noncomputable def F_impl_eliminate (a0 : (List (BitVec 32))) (a1 : BitVec 32) (a2 : Int) : Option (List (BitVec 32)) :=
  idx a0 a2 (fun x1 =>
    cal (F_impl_one a2) (fun x14 =>
      cal (F_impl_vset_list ((x1 &&& a1) &&& ~~~x14)) (fun x19 =>
        bnd (lp (fun s => F_impl_eliminate_l1 a1 x1 x14 x19 s.1 s.2) (a0, 0)) (fun j => F_impl_eliminate_k2 j))))
noncomputable def F_impl_wide_l1 (a0 : (List Int)) (l67 : (List Int)) (i70 : Int) : Option (((List Int) × Int) ⊕ ((List Int) ⊕ (List Int))) :=
  if i70 < (a0.length : Int) then
    idx a0 i70 (fun x137 =>
      app l67 ([x137]) (fun _ =>
        ck (i70 + 1) (fun _ =>
          some (.inl ((l67 ++ ([x137])), i70 + 1)))))
  else
    some (.inr (.inl l67))
noncomputable def F_impl_wide_k2  (l124 : (List Int)) : Option (List Int) :=
  some l124
noncomputable def F_impl_wide (a0 : (List Int)) : Option (List Int) :=
  grd ((0 : Int) ≤ (a0.length : Int) ∧ (a0.length : Int) ≤ lim) (
    bnd (lp (fun s => F_impl_wide_l1 a0 s.1 s.2) (([] : (List Int)), 0)) (fun j => F_impl_wide_k2 j))
noncomputable def F_impl_OrderBy_l2 (xqr1o4_1 : (List (BitVec 32))) (l493 : (List (BitVec 32))) (u505 : BitVec 32) (x964 : (List Int)) (i1118 : Int) : Option (Int ⊕ (Int ⊕ (((List (BitVec 32)) × (List Int) × (BitVec 32)) ⊕ ((List Int) ⊕ (List Int))))) :=
  if i1118 < (x964.length : Int) then
    idx x964 i1118 (fun x1259 =>
      idx l493 x1259 (fun x1271 =>
        cal (F_impl_one x1259) (fun x1284 =>
          cal (F_slices_ContainsFunc_implvset xqr1o4_1 (fun (z1318 : BitVec 32) => F_impl_OrderBy_1 z1318 ((x1271 &&& u505) ||| x1284))) (fun x1320 =>
            if x1320 = true then
              some (.inr (.inl x1259))
            else
              ck (i1118 + 1) (fun _ =>
                some (.inl (i1118 + 1)))))))
  else
    some (.inr (.inl (-1)))
noncomputable def F_impl_OrderBy_k3 (l493 : (List (BitVec 32))) (l502 : (List Int)) (u505 : BitVec 32) (i1241 : Int) : Option (((List (BitVec 32)) × (List Int) × (BitVec 32)) ⊕ ((List Int) ⊕ (List Int))) :=
  if i1241 < 0 then
    some (.inr (.inr ([] : (List Int))))
  else
    cal (F_impl_eliminate l493 u505 i1241) (fun x1332 =>
      cal (F_impl_one i1241) (fun x1339 =>
        app l502 ([i1241]) (fun _ =>
          some (.inl (x1332, (l502 ++ ([i1241])), u505 &&& ~~~x1339)))))
noncomputable def F_impl_OrderBy_l1 (xqr1o4_1 : (List (BitVec 32))) (l493 : (List (BitVec 32))) (l502 : (List Int)) (u505 : BitVec 32) : Option (((List (BitVec 32)) × (List Int) × (BitVec 32)) ⊕ ((List Int) ⊕ (List Int))) :=
  if u505 ≠ (0#32) then
    cal (F_impl_vset_list u505) (fun x964 =>
      bnd (lp (fun s => F_impl_OrderBy_l2 xqr1o4_1 l493 u505 x964 s) 0) (fun j => F_impl_OrderBy_k3 l493 l502 u505 j))
  else
    some (.inr (.inl l502))
noncomputable def F_impl_OrderBy_k4  (l951 : (List Int)) : Option (List Int) :=
  cal (F_impl_wide l951) (fun x1379 =>
    some x1379)
noncomputable def F_impl_OrderBy (a0_0 : (List (List Int))) (a1_0 : (List (List Int))) (a1_1 : (List (List Int))) : Option (List Int) :=
  cal (F_impl_DecompOk a0_0 a1_0 a1_1) (fun x19 =>
    if ¬ (x19 = true) then
      some ([] : (List Int))
    else
      cal (F_impl_netsOf a0_0) (fun xqr1o1_1 =>
        cal (F_impl_bagMasks a1_0) (fun xqr1o4_1 =>
          cal (F_impl_nets_all xqr1o1_1) (fun x32 =>
            bnd (lp (fun s => F_impl_OrderBy_l1 xqr1o4_1 s.1 s.2.1 s.2.2) (xqr1o1_1, ([] : (List Int)), x32)) (fun j => F_impl_OrderBy_k4 j)))))
noncomputable def F_laws_eqInt64S_l1 (a0 : (List Int)) (a1 : (List Int)) (i39 : Int) : Option (Int ⊕ (Unit ⊕ Bool)) :=
  if i39 < (a0.length : Int) then
    idx a0 i39 (fun x87 =>
      idx a1 i39 (fun x99 =>
        if x87 ≠ x99 then
          some (.inr (.inr false))
        else
          ck (i39 + 1) (fun _ =>
            some (.inl (i39 + 1)))))
  else
    some (.inr (.inl ()))
noncomputable def F_laws_eqInt64S_k2   : Option Bool :=
  some true
noncomputable def F_laws_eqInt64S (a0 : (List Int)) (a1 : (List Int)) : Option Bool :=
  if (a0.length : Int) ≠ (a1.length : Int) then
    some false
  else
    bnd (lp (fun s => F_laws_eqInt64S_l1 a0 a1 s) 0) (fun j => F_laws_eqInt64S_k2 )
noncomputable def F_laws_eqInt64SS_l1 (a0 : (List (List Int))) (a1 : (List (List Int))) (i47 : Int) : Option (Int ⊕ (Unit ⊕ Bool)) :=
  if i47 < (a0.length : Int) then
    idx a0 i47 (fun x103 =>
      idx a1 i47 (fun x117 =>
        cal (F_laws_eqInt64S x103 x117) (fun x133 =>
          if ¬ (x133 = true) then
            some (.inr (.inr false))
          else
            ck (i47 + 1) (fun _ =>
              some (.inl (i47 + 1))))))
  else
    some (.inr (.inl ()))
noncomputable def F_laws_eqInt64SS_k2   : Option Bool :=
  some true
noncomputable def F_laws_eqInt64SS (a0 : (List (List Int))) (a1 : (List (List Int))) : Option Bool :=
  if (a0.length : Int) ≠ (a1.length : Int) then
    some false
  else
    bnd (lp (fun s => F_laws_eqInt64SS_l1 a0 a1 s) 0) (fun j => F_laws_eqInt64SS_k2 )
noncomputable def F_laws_eqGraph (a0_0 : (List (List Int))) (a1_0 : (List (List Int))) : Option Bool :=
  cal (F_laws_eqInt64SS a0_0 a1_0) (fun x19 =>
    if ¬ (x19 = true) then
      some false
    else
      some true)
noncomputable def F_laws_eqDecomp (a0_0 : (List (List Int))) (a0_1 : (List (List Int))) (a1_0 : (List (List Int))) (a1_1 : (List (List Int))) : Option Bool :=
  cal (F_laws_eqInt64SS a0_0 a1_0) (fun x19 =>
    if ¬ (x19 = true) then
      some false
    else
      cal (F_laws_eqInt64SS a0_1 a1_1) (fun x26 =>
        if ¬ (x26 = true) then
          some false
        else
          some true))
noncomputable def F_laws_markInt64S_l1  (l38 : (List Int)) (i41 : Int) (i43 : Int) : Option (((List Int) × Int × Int) ⊕ ((Int × (List Int)) ⊕ (Int × (List Int)))) :=
  if i43 < (l38.length : Int) then
    idx l38 i43 (fun x95 =>
      ck (i41 + 1) (fun _ =>
        ck (i43 + 1) (fun _ =>
          some (.inl ((l38.set ((i43 : Int).toNat) i41), i41 + 1, i43 + 1)))))
  else
    some (.inr (.inl (i41, l38)))
noncomputable def F_laws_markInt64S_k2  (i79 : Int) (l82 : (List Int)) : Option (Int × (List Int)) :=
  some (i79, l82)
noncomputable def F_laws_markInt64S (a0 : (List Int)) (a1 : Int) : Option (Int × (List Int)) :=
  bnd (lp (fun s => F_laws_markInt64S_l1 s.1 s.2.1 s.2.2) (a0, a1, 0)) (fun j => F_laws_markInt64S_k2 j.1 j.2)
noncomputable def F_laws_markInt64SS_l1  (l46 : (List (List Int))) (i49 : Int) (i51 : Int) : Option (((List (List Int)) × Int × Int) ⊕ ((Int × (List (List Int))) ⊕ (Int × (List (List Int))))) :=
  if i51 < (l46.length : Int) then
    idx l46 i51 (fun x111 =>
      cal (F_laws_markInt64S x111 i49) (fun x130 =>
        ck (i51 + 1) (fun _ =>
          some (.inl ((l46.set ((i51 : Int).toNat) x130.2), x130.1, i51 + 1)))))
  else
    some (.inr (.inl (i49, l46)))
noncomputable def F_laws_markInt64SS_k2  (i95 : Int) (l98 : (List (List Int))) : Option (Int × (List (List Int))) :=
  some (i95, l98)
noncomputable def F_laws_markInt64SS (a0 : (List (List Int))) (a1 : Int) : Option (Int × (List (List Int))) :=
  bnd (lp (fun s => F_laws_markInt64SS_l1 s.1 s.2.1 s.2.2) (a0, a1, 0)) (fun j => F_laws_markInt64SS_k2 j.1 j.2)
noncomputable def F_laws_markGraph (a0_0 : (List (List Int))) (a1 : Int) : Option (Int × (List (List Int))) :=
  cal (F_laws_markInt64SS a0_0 a1) (fun x12 =>
    some (x12.1, x12.2))
noncomputable def F_laws_markDecomp (a0_0 : (List (List Int))) (a0_1 : (List (List Int))) (a1 : Int) : Option (Int × ((List (List Int)) × (List (List Int)))) :=
  cal (F_laws_markInt64SS a0_0 a1) (fun x15 =>
    cal (F_laws_markInt64SS a0_1 x15.1) (fun x23 =>
      some (x23.1, x15.2, x23.2)))
noncomputable def F_laws_heldInt64S_l1 (a0 : (List Int)) (i27 : Int) (i29 : Int) : Option ((Int × Int) ⊕ (Int ⊕ Int)) :=
  if i29 < (a0.length : Int) then
    idx a0 i29 (fun x68 =>
      if x68 ≠ i27 then
        some (.inr (.inr (-1)))
      else
        ck (i27 + 1) (fun _ =>
          ck (i29 + 1) (fun _ =>
            some (.inl (i27 + 1, i29 + 1)))))
  else
    some (.inr (.inl i27))
noncomputable def F_laws_heldInt64S_k2  (i56 : Int) : Option Int :=
  some i56
noncomputable def F_laws_heldInt64S (a0 : (List Int)) (a1 : Int) : Option Int :=
  bnd (lp (fun s => F_laws_heldInt64S_l1 a0 s.1 s.2) (a1, 0)) (fun j => F_laws_heldInt64S_k2 j)
noncomputable def F_laws_FnExactOrderBy (a0_0 : (List (List Int))) (a1_0 : (List (List Int))) (a1_1 : (List (List Int))) : Option Bool :=
  cal (F_laws_szGraph a0_0 1048576) (fun x19 =>
    if x19 < 0 then
      some true
    else
      cal (F_laws_szDecomp a1_0 a1_1 x19) (fun x27 =>
        if x27 < 0 then
          some true
        else
          cal (F_laws_toGraph a0_0) (fun x38 =>
            cal (F_laws_toDecomp a1_0 a1_1) (fun x63 =>
              cal (F_spec_OrderBy x38 x63.1 x63.2) (fun x125 =>
                cal (F_laws_toGraph a0_0) (fun x152 =>
                  cal (F_laws_toDecomp a1_0 a1_1) (fun x198 =>
                    cal (F_impl_OrderBy x152 x198.1 x198.2) (fun x298 =>
                      cal (F_laws_eqInt64S x298 x125) (fun x334 =>
                        if ¬ (x334 = true) then
                          some false
                        else
                          cal (F_laws_toGraph a0_0) (fun x344 =>
                            cal (F_laws_eqGraph x152 x344) (fun x398 =>
                              if ¬ (x398 = true) then
                                some false
                              else
                                cal (F_laws_toDecomp a1_0 a1_1) (fun x407 =>
                                  cal (F_laws_eqDecomp x198.1 x198.2 x407.1 x407.2) (fun x511 =>
                                    if ¬ (x511 = true) then
                                      some false
                                    else
                                      cal (F_laws_markGraph x152 1) (fun x517 =>
                                        cal (F_laws_markDecomp x198.1 x198.2 x517.1) (fun x525 =>
                                          if x525.1 < 0 then
                                            some false
                                          else
                                            cal (F_laws_eqInt64S x298 x125) (fun x555 =>
                                              if ¬ (x555 = true) then
                                                some false
                                              else
                                                cal (F_laws_markInt64S x298 1) (fun x562 =>
                                                  cal (F_laws_heldInt64S x562.2 1) (fun x573 =>
                                                    if x573 < 0 then
                                                      some false
                                                    else
                                                      if x573 ≠ x562.1 then
                                                        some false
                                                      else
                                                        cal (F_laws_toGraph a0_0) (fun x585 =>
                                                          cal (F_laws_toDecomp a1_0 a1_1) (fun x616 =>
                                                            cal (F_impl_OrderBy x585 x616.1 x616.2) (fun x690 =>
                                                              cal (F_laws_eqInt64S x690 x125) (fun x727 =>
                                                                if ¬ (x727 = true) then
                                                                  some false
                                                                else
                                                                  cal (F_laws_heldInt64S x562.2 1) (fun x737 =>
                                                                    if x737 < 0 then
                                                                      some false
                                                                    else
                                                                      if x737 ≠ x562.1 then
                                                                        some false
                                                                      else
                                                                        some true)))))))))))))))))))))))
end Go.Proofs.YtadagcgehcpelaaDoor
