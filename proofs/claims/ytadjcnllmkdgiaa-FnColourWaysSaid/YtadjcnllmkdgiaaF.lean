/- Functional forms, printed by gen.py. -/
import Derived.Test.YtadjcnllmkdgiaaPure
namespace Go.Proofs.Ytadjcnllmkdgiaa

noncomputable def F_laws_big (a0 : (List (BitVec 8))) : Option Bool :=
  some (decide (4096 < (a0.length : Int)))
noncomputable def F_laws_roll_l1 (a0 : (List (BitVec 8))) (i48 : Int) (i50 : Int) : Option ((Int × Int) ⊕ (Int ⊕ ((List (BitVec 8)) × Int × Int))) :=
  if i50 < (a0.length : Int) then
    idx a0 i50 (fun x99 =>
      ck (i50 + 1) (fun _ =>
        some (.inl ((((((i48 * 1099511628211) % 18446744073709551616) + (BitVec.toNat x99 : Int)) % 18446744073709551616) + 3) % 18446744073709551616, i50 + 1))))
  else
    some (.inr (.inl i48))
noncomputable def F_laws_roll_k2 (a0 : (List (BitVec 8))) (i87 : Int) : Option ((List (BitVec 8)) × Int × Int) :=
  some (a0, 0, i87)
noncomputable def F_laws_roll (a0 : (List (BitVec 8))) (a1 : Int) : Option ((List (BitVec 8)) × Int × Int) :=
  grd ((0 : Int) ≤ (a0.length : Int)) (
    bnd (lp (fun s => F_laws_roll_l1 a0 s.1 s.2) ((((a1 * 7919) % 18446744073709551616) + (a0.length : Int)) % 18446744073709551616, 0)) (fun j => F_laws_roll_k2 a0 j))
noncomputable def F_laws_dice_below (a0 : ((List (BitVec 8)) × Int × Int)) (a1 : Int) : Option (Int × ((List (BitVec 8)) × Int × Int)) :=
  ck (((BitVec.ofInt 64 (((((a0.2.2 * 6364136223846793005) % 18446744073709551616) + 1442695040888963407) % 18446744073709551616) / 2 ^ (33 : Int).toNat) &&& BitVec.ofInt 64 16777215).toNat : Int)) (fun _ =>
    if a0.2.1 < (a0.1.length : Int) then
      idx a0.1 a0.2.1 (fun x11 =>
        ck (((BitVec.ofInt 64 (((((a0.2.2 * 6364136223846793005) % 18446744073709551616) + 1442695040888963407) % 18446744073709551616) / 2 ^ (33 : Int).toNat) &&& BitVec.ofInt 64 16777215).toNat : Int) + (BitVec.toNat x11 : Int)) (fun _ =>
          ck (a0.2.1 + 1) (fun _ =>
            grd ((0 : Int) ≤ (((BitVec.ofInt 64 (((((a0.2.2 * 6364136223846793005) % 18446744073709551616) + 1442695040888963407) % 18446744073709551616) / 2 ^ (33 : Int).toNat) &&& BitVec.ofInt 64 16777215).toNat : Int) + (BitVec.toNat x11 : Int)) ∧ (0 : Int) < a1) (
              some ((((BitVec.ofInt 64 (((((a0.2.2 * 6364136223846793005) % 18446744073709551616) + 1442695040888963407) % 18446744073709551616) / 2 ^ (33 : Int).toNat) &&& BitVec.ofInt 64 16777215).toNat : Int) + (BitVec.toNat x11 : Int)) % a1, (a0.1, a0.2.1 + 1, (((a0.2.2 * 6364136223846793005) % 18446744073709551616) + 1442695040888963407) % 18446744073709551616))))))
    else
      grd ((0 : Int) ≤ ((BitVec.ofInt 64 (((((a0.2.2 * 6364136223846793005) % 18446744073709551616) + 1442695040888963407) % 18446744073709551616) / 2 ^ (33 : Int).toNat) &&& BitVec.ofInt 64 16777215).toNat : Int) ∧ (0 : Int) < a1) (
        some (((BitVec.ofInt 64 (((((a0.2.2 * 6364136223846793005) % 18446744073709551616) + 1442695040888963407) % 18446744073709551616) / 2 ^ (33 : Int).toNat) &&& BitVec.ofInt 64 16777215).toNat : Int) % a1, (a0.1, a0.2.1, (((a0.2.2 * 6364136223846793005) % 18446744073709551616) + 1442695040888963407) % 18446744073709551616))))
noncomputable def F_spec_l1In (a0 : Int) (a1 : Int) (a2 : Int) : Option Bool :=
  if a1 ≤ a0 then
    some (decide (a0 ≤ a2))
  else
    some false
noncomputable def F_spec_l1Empty_l1 (a0 : Int) (l128 : (List (List Int))) (i131 : Int) : Option (((List (List Int)) × Int) ⊕ ((List (List Int)) ⊕ (List (List Int)))) :=
  if i131 < a0 then
    app l128 ([([] : (List Int))]) (fun _ =>
      ck (i131 + 1) (fun _ =>
        some (.inl ((l128 ++ ([([] : (List Int))])), i131 + 1))))
  else
    some (.inr (.inl l128))
noncomputable def F_spec_l1Empty_k2  (l231 : (List (List Int))) : Option (List (List Int)) :=
  some l231
noncomputable def F_spec_l1Empty (a0 : Int) : Option (List (List Int)) :=
  bnd (lp (fun s => F_spec_l1Empty_l1 a0 s.1 s.2) (([] : (List (List Int))), 0)) (fun j => F_spec_l1Empty_k2 j)
noncomputable def F_spec_l1Set_l1 (a0 : (List Int)) (a1 : Int) (i69 : Int) : Option (Int ⊕ (Unit ⊕ Bool)) :=
  if i69 < (a0.length : Int) then
    idx a0 i69 (fun x147 =>
      ck (a1 - 1) (fun _ =>
        cal (F_spec_l1In x147 0 (a1 - 1)) (fun x163 =>
          if ¬ (x163 = true) then
            some (.inr (.inr false))
          else
            if 0 < i69 then
              idx a0 i69 (fun x172 =>
                ck (i69 - 1) (fun _ =>
                  idx a0 (i69 - 1) (fun x186 =>
                    if x172 ≤ x186 then
                      some (.inr (.inr false))
                    else
                      ck (i69 + 1) (fun _ =>
                        some (.inl (i69 + 1))))))
            else
              ck (i69 + 1) (fun _ =>
                some (.inl (i69 + 1))))))
  else
    some (.inr (.inl ()))
noncomputable def F_spec_l1Set_k2   : Option Bool :=
  some true
noncomputable def F_spec_l1Set (a0 : (List Int)) (a1 : Int) : Option Bool :=
  if a1 < (a0.length : Int) then
    some false
  else
    bnd (lp (fun s => F_spec_l1Set_l1 a0 a1 s) 0) (fun j => F_spec_l1Set_k2 )
noncomputable def F_spec_l1Copy (a0 : (List Int)) : Option (List Int) :=
  app ([] : (List Int)) a0 (fun _ =>
    some (([] : (List Int)) ++ a0))
noncomputable def F_spec_l1Into_l1 (a0 : (List Int)) (a1 : Int) (i23 : Int) : Option (Int ⊕ (Int ⊕ (List Int))) :=
  if i23 < (a0.length : Int) then
    idx a0 i23 (fun x58 =>
      if x58 < a1 then
        ck (i23 + 1) (fun _ =>
          some (.inl (i23 + 1)))
      else
        some (.inr (.inl i23)))
  else
    some (.inr (.inl i23))
noncomputable def F_spec_l1Into_k2 (a0 : (List Int)) (a1 : Int) (i46 : Int) : Option (List Int) :=
  if i46 < (a0.length : Int) then
    idx a0 i46 (fun x74 =>
      if x74 = a1 then
        some a0
      else
        slc a0 0 i46 (fun _ =>
          cal (F_spec_l1Copy ((a0.drop (0 : Int).toNat).take ((i46 : Int).toNat - (0 : Int).toNat))) (fun x95 =>
            app x95 ([a1]) (fun _ =>
              slc a0 i46 (a0.length : Int) (fun _ =>
                app (x95 ++ ([a1])) ((a0.drop (i46 : Int).toNat).take (((a0.length : Int) : Int).toNat - (i46 : Int).toNat)) (fun _ =>
                  some ((x95 ++ ([a1])) ++ ((a0.drop (i46 : Int).toNat).take (((a0.length : Int) : Int).toNat - (i46 : Int).toNat)))))))))
  else
    slc a0 0 i46 (fun _ =>
      cal (F_spec_l1Copy ((a0.drop (0 : Int).toNat).take ((i46 : Int).toNat - (0 : Int).toNat))) (fun x159 =>
        app x159 ([a1]) (fun _ =>
          slc a0 i46 (a0.length : Int) (fun _ =>
            app (x159 ++ ([a1])) ((a0.drop (i46 : Int).toNat).take (((a0.length : Int) : Int).toNat - (i46 : Int).toNat)) (fun _ =>
              some ((x159 ++ ([a1])) ++ ((a0.drop (i46 : Int).toNat).take (((a0.length : Int) : Int).toNat - (i46 : Int).toNat))))))))
noncomputable def F_spec_l1Into (a0 : (List Int)) (a1 : Int) : Option (List Int) :=
  bnd (lp (fun s => F_spec_l1Into_l1 a0 a1 s) 0) (fun j => F_spec_l1Into_k2 a0 a1 j)
noncomputable def F_spec_l1Link (a0_0 : (List (List Int))) (a1 : Int) (a2 : Int) : Option (List (List Int)) :=
  idx a0_0 a1 (fun x23 =>
    cal (F_spec_l1Into x23 a2) (fun x44 =>
      idx a0_0 a1 (fun x58 =>
        idx (a0_0.set ((a1 : Int).toNat) x44) a2 (fun x91 =>
          cal (F_spec_l1Into x91 a1) (fun x112 =>
            idx (a0_0.set ((a1 : Int).toNat) x44) a2 (fun x126 =>
              some ((a0_0.set ((a1 : Int).toNat) x44).set ((a2 : Int).toNat) x112)))))))
noncomputable def F_spec_GraphOf_l1 (a0 : Int) (a1 : (List (List Int))) (l302 : (List (List Int))) (i305 : Int) : Option (((List (List Int)) × Int) ⊕ ((List (List Int)) ⊕ ((List (List Int)) × Bool))) :=
  if i305 < (a1.length : Int) then
    idx a1 i305 (fun x587 =>
      if (x587.length : Int) ≠ 2 then
        some (.inr (.inr (([] : (List (List Int))), false)))
      else
        idx a1 i305 (fun x609 =>
          cal (F_spec_l1Set x609 a0) (fun x624 =>
            if ¬ (x624 = true) then
              some (.inr (.inr (([] : (List (List Int))), false)))
            else
              idx a1 i305 (fun x637 =>
                idx x637 0 (fun x652 =>
                  idx a1 i305 (fun x664 =>
                    idx x664 1 (fun x679 =>
                      cal (F_spec_l1Link l302 x652 x679) (fun x694 =>
                        ck (i305 + 1) (fun _ =>
                          some (.inl (x694, i305 + 1)))))))))))
  else
    some (.inr (.inl l302))
noncomputable def F_spec_GraphOf_k2  (l522 : (List (List Int))) : Option ((List (List Int)) × Bool) :=
  some (l522, true)
noncomputable def F_spec_GraphOf (a0 : Int) (a1 : (List (List Int))) : Option ((List (List Int)) × Bool) :=
  cal (F_spec_l1In a0 1 16) (fun x25 =>
    if ¬ (x25 = true) then
      some (([] : (List (List Int))), false)
    else
      if 120 < (a1.length : Int) then
        some (([] : (List (List Int))), false)
      else
        cal (F_spec_l1Empty a0) (fun x41 =>
          bnd (lp (fun s => F_spec_GraphOf_l1 a0 a1 s.1 s.2) (x41, 0)) (fun j => F_spec_GraphOf_k2 j)))
noncomputable def F_laws_w6Graph_l2 (x21 : (Int × ((List (BitVec 8)) × Int × Int))) (i423 : Int) (l919 : ((List (BitVec 8)) × Int × Int)) (l930 : (List (List Int))) (i933 : Int) : Option ((((List (BitVec 8)) × Int × Int) × (List (List Int)) × Int) ⊕ ((((List (BitVec 8)) × Int × Int) × (List (List Int))) ⊕ ((((List (BitVec 8)) × Int × Int) × (List (List Int)) × Int) ⊕ (((List (List Int)) × ((List (BitVec 8)) × Int × Int)) ⊕ ((List (List Int)) × ((List (BitVec 8)) × Int × Int)))))) :=
  if i933 < i423 then
    cal (F_laws_dice_below l919 4) (fun x1064 =>
      if x1064.1 < (1 + x21.1) then
        app l930 ([[i933, i423]]) (fun _ =>
          ck (i933 + 1) (fun _ =>
            some (.inl (x1064.2, (l930 ++ ([[i933, i423]])), i933 + 1))))
      else
        ck (i933 + 1) (fun _ =>
          some (.inl (x1064.2, l930, i933 + 1))))
  else
    some (.inr (.inl (l919, l930)))
noncomputable def F_laws_w6Graph_k3 (i423 : Int) (l1034 : ((List (BitVec 8)) × Int × Int)) (l1045 : (List (List Int))) : Option ((((List (BitVec 8)) × Int × Int) × (List (List Int)) × Int) ⊕ (((List (List Int)) × ((List (BitVec 8)) × Int × Int)) ⊕ ((List (List Int)) × ((List (BitVec 8)) × Int × Int)))) :=
  ck (i423 + 1) (fun _ =>
    some (.inl (l1034, l1045, i423 + 1)))
noncomputable def F_laws_w6Graph_l1 (x11 : (Int × ((List (BitVec 8)) × Int × Int))) (x21 : (Int × ((List (BitVec 8)) × Int × Int))) (l409 : ((List (BitVec 8)) × Int × Int)) (l420 : (List (List Int))) (i423 : Int) : Option ((((List (BitVec 8)) × Int × Int) × (List (List Int)) × Int) ⊕ (((List (List Int)) × ((List (BitVec 8)) × Int × Int)) ⊕ ((List (List Int)) × ((List (BitVec 8)) × Int × Int)))) :=
  if i423 < (1 + x11.1) then
    bnd (lp (fun s => F_laws_w6Graph_l2 x21 i423 s.1 s.2.1 s.2.2) (l409, l420, 0)) (fun j => F_laws_w6Graph_k3 i423 j.1 j.2)
  else
    some (.inr (.inl (l420, l409)))
noncomputable def F_laws_w6Graph_k4 (x11 : (Int × ((List (BitVec 8)) × Int × Int))) (l787 : (List (List Int))) (l791 : ((List (BitVec 8)) × Int × Int)) : Option ((List (List Int)) × ((List (BitVec 8)) × Int × Int)) :=
  cal (F_spec_GraphOf (1 + x11.1) l787) (fun x1134 =>
    some (x1134.1, l791))
noncomputable def F_laws_w6Graph (a0 : ((List (BitVec 8)) × Int × Int)) (a1 : Int) : Option ((List (List Int)) × ((List (BitVec 8)) × Int × Int)) :=
  cal (F_laws_dice_below a0 a1) (fun x11 =>
    ck (1 + x11.1) (fun _ =>
      cal (F_laws_dice_below x11.2 3) (fun x21 =>
        ck (1 + x21.1) (fun _ =>
          bnd (lp (fun s => F_laws_w6Graph_l1 x11 x21 s.1 s.2.1 s.2.2) (x21.2, ([] : (List (List Int))), 1)) (fun j => F_laws_w6Graph_k4 x11 j.1 j.2)))))
noncomputable def F_impl_inRange (a0 : Int) (a1 : Int) (a2 : Int) : Option Bool :=
  if a1 ≤ a0 then
    some (decide (a0 ≤ a2))
  else
    some false
noncomputable def F_impl_increasing_l1 (a0 : (List Int)) (a1 : Int) (i49 : Int) : Option (Int ⊕ (Unit ⊕ Bool)) :=
  if i49 < (a0.length : Int) then
    idx a0 i49 (fun x108 =>
      ck (a1 - 1) (fun _ =>
        cal (F_impl_inRange x108 0 (a1 - 1)) (fun x122 =>
          if ¬ (x122 = true) then
            some (.inr (.inr false))
          else
            if 0 < i49 then
              ck (i49 - 1) (fun _ =>
                idx a0 (i49 - 1) (fun x134 =>
                  if x108 ≤ x134 then
                    some (.inr (.inr false))
                  else
                    ck (i49 + 1) (fun _ =>
                      some (.inl (i49 + 1)))))
            else
              ck (i49 + 1) (fun _ =>
                some (.inl (i49 + 1))))))
  else
    some (.inr (.inl ()))
noncomputable def F_impl_increasing_k2   : Option Bool :=
  some true
noncomputable def F_impl_increasing (a0 : (List Int)) (a1 : Int) : Option Bool :=
  bnd (lp (fun s => F_impl_increasing_l1 a0 a1 s) 0) (fun j => F_impl_increasing_k2 )
noncomputable def F_slices_Index_int64_l1 (a0 : (List Int)) (a1 : Int) (i23 : Int) : Option (Int ⊕ (Unit ⊕ Int)) :=
  if i23 < (a0.length : Int) then
    idx a0 i23 (fun x56 =>
      if a1 = x56 then
        some (.inr (.inr i23))
      else
        ck (i23 + 1) (fun _ =>
          some (.inl (i23 + 1))))
  else
    some (.inr (.inl ()))
noncomputable def F_slices_Index_int64_k2   : Option Int :=
  some (-1)
noncomputable def F_slices_Index_int64 (a0 : (List Int)) (a1 : Int) : Option Int :=
  bnd (lp (fun s => F_slices_Index_int64_l1 a0 a1 s) 0) (fun j => F_slices_Index_int64_k2 )
noncomputable def F_slices_Contains_int64 (a0 : (List Int)) (a1 : Int) : Option Bool :=
  cal (F_slices_Index_int64 a0 a1) (fun x1 =>
    some (decide (0 ≤ x1)))
noncomputable def F_impl_GraphOk_l1 (a0_0 : (List (List Int))) (i56 : Int) : Option (Int ⊕ (Unit ⊕ Bool)) :=
  if i56 < (a0_0.length : Int) then
    idx a0_0 i56 (fun x108 =>
      cal (F_impl_increasing x108 (a0_0.length : Int)) (fun x122 =>
        if ¬ (x122 = true) then
          some (.inr (.inr false))
        else
          cal (F_slices_Contains_int64 x108 i56) (fun x131 =>
            if x131 = true then
              some (.inr (.inr false))
            else
              ck (i56 + 1) (fun _ =>
                some (.inl (i56 + 1))))))
  else
    some (.inr (.inl ()))
noncomputable def F_impl_GraphOk_l4 (a0_0 : (List (List Int))) (i311 : Int) (x487 : (List Int)) (i549 : Int) : Option (Int ⊕ (Unit ⊕ (Int ⊕ (Unit ⊕ Bool)))) :=
  if i549 < (x487.length : Int) then
    idx x487 i549 (fun x606 =>
      idx a0_0 x606 (fun x618 =>
        cal (F_slices_Contains_int64 x618 i311) (fun x632 =>
          if ¬ (x632 = true) then
            some (.inr (.inr (.inr (.inr false))))
          else
            ck (i549 + 1) (fun _ =>
              some (.inl (i549 + 1))))))
  else
    some (.inr (.inl ()))
noncomputable def F_impl_GraphOk_k5 (i311 : Int)  : Option (Int ⊕ (Unit ⊕ Bool)) :=
  ck (i311 + 1) (fun _ =>
    some (.inl (i311 + 1)))
noncomputable def F_impl_GraphOk_l3 (a0_0 : (List (List Int))) (i311 : Int) : Option (Int ⊕ (Unit ⊕ Bool)) :=
  if i311 < (a0_0.length : Int) then
    idx a0_0 i311 (fun x487 =>
      bnd (lp (fun s => F_impl_GraphOk_l4 a0_0 i311 x487 s) 0) (fun j => F_impl_GraphOk_k5 i311 ))
  else
    some (.inr (.inl ()))
noncomputable def F_impl_GraphOk_k6   : Option Bool :=
  some true
noncomputable def F_impl_GraphOk_k2 (a0_0 : (List (List Int)))  : Option Bool :=
  bnd (lp (fun s => F_impl_GraphOk_l3 a0_0 s) 0) (fun j => F_impl_GraphOk_k6 )
noncomputable def F_impl_GraphOk (a0_0 : (List (List Int))) : Option Bool :=
  if (a0_0.length : Int) < 1 then
    some false
  else
    if 16 < (a0_0.length : Int) then
      some false
    else
      bnd (lp (fun s => F_impl_GraphOk_l1 a0_0 s) 0) (fun j => F_impl_GraphOk_k2 a0_0 )
noncomputable def F_impl_isSmall (a0_0 : (List (List Int))) : Option Bool :=
  cal (F_impl_GraphOk a0_0) (fun x9 =>
    if x9 = true then
      some (decide ((a0_0.length : Int) ≤ 8))
    else
      some false)
noncomputable def F_impl_one (a0 : Int) : Option (BitVec 32) :=
  grd ((0 : Int) ≤ a0) (
    some ((1#32) <<< (a0 : Int).toNat))
noncomputable def F_impl_maskOf_l1 (a0 : (List Int)) (u29 : BitVec 32) (i30 : Int) : Option (((BitVec 32) × Int) ⊕ ((BitVec 32) ⊕ (BitVec 32))) :=
  if i30 < (a0.length : Int) then
    idx a0 i30 (fun x70 =>
      cal (F_impl_one x70) (fun x82 =>
        ck (i30 + 1) (fun _ =>
          some (.inl (u29 ||| x82, i30 + 1)))))
  else
    some (.inr (.inl u29))
noncomputable def F_impl_maskOf_k2  (u59 : BitVec 32) : Option (BitVec 32) :=
  some u59
noncomputable def F_impl_maskOf (a0 : (List Int)) : Option (BitVec 32) :=
  bnd (lp (fun s => F_impl_maskOf_l1 a0 s.1 s.2) (0#32, 0)) (fun j => F_impl_maskOf_k2 j)
noncomputable def F_impl_netsOf_l1 (a0_0 : (List (List Int))) (l84 : (List (BitVec 32))) (i87 : Int) : Option (((List (BitVec 32)) × Int) ⊕ ((List (BitVec 32)) ⊕ (List (BitVec 32)))) :=
  if i87 < (a0_0.length : Int) then
    idx a0_0 i87 (fun x162 =>
      cal (F_impl_maskOf x162) (fun x176 =>
        app l84 ([x176]) (fun _ =>
          ck (i87 + 1) (fun _ =>
            some (.inl ((l84 ++ ([x176])), i87 + 1))))))
  else
    some (.inr (.inl l84))
noncomputable def F_impl_netsOf_k2  (l149 : (List (BitVec 32))) : Option (List (BitVec 32)) :=
  some l149
noncomputable def F_impl_netsOf (a0_0 : (List (List Int))) : Option (List (BitVec 32)) :=
  bnd (lp (fun s => F_impl_netsOf_l1 a0_0 s.1 s.2) (([] : (List (BitVec 32))), 0)) (fun j => F_impl_netsOf_k2 j)
noncomputable def F_slices_Clone_implvset (a0 : (List (BitVec 32))) : Option (List (BitVec 32)) :=
  app ([] : (List (BitVec 32))) a0 (fun _ =>
    some (([] : (List (BitVec 32))) ++ a0))
noncomputable def F_impl_countPartitions_l1 (a0 : (List (BitVec 32))) (a1 : Int) (a2 : (List (BitVec 32))) (rc : (List (BitVec 32)) → Int → (List (BitVec 32)) → (List Int) → Option ((List (BitVec 32)) × (List Int))) (l182 : (List (BitVec 32))) (l186 : (List Int)) (i189 : Int) : Option (((List (BitVec 32)) × (List Int) × Int) ⊕ (((List (BitVec 32)) × (List Int)) ⊕ ((List (BitVec 32)) × (List Int)))) :=
  if i189 < (a2.length : Int) then
    idx l182 i189 (fun x355 =>
      idx a0 a1 (fun x366 =>
        if (x355 &&& x366) = (0#32) then
          idx l182 i189 (fun x381 =>
            cal (F_impl_one a1) (fun x394 =>
              idx l182 i189 (fun x396 =>
                ck (a1 + 1) (fun _ =>
                  cal (rc a0 (a1 + 1) (l182.set ((i189 : Int).toNat) (x381 ||| x394)) l186) (fun x421 =>
                    idx x421.1 i189 (fun x429 =>
                      cal (F_impl_one a1) (fun x442 =>
                        idx x421.1 i189 (fun x444 =>
                          ck (i189 + 1) (fun _ =>
                            some (.inl ((x421.1.set ((i189 : Int).toNat) (x429 &&& ~~~x442)), x421.2, i189 + 1)))))))))))
        else
          ck (i189 + 1) (fun _ =>
            some (.inl (l182, l186, i189 + 1)))))
  else
    some (.inr (.inl (l182, l186)))
noncomputable def F_impl_countPartitions_k2 (a0 : (List (BitVec 32))) (a1 : Int) (rc : (List (BitVec 32)) → Int → (List (BitVec 32)) → (List Int) → Option ((List (BitVec 32)) × (List Int))) (l334 : (List (BitVec 32))) (l338 : (List Int)) : Option ((List (BitVec 32)) × (List Int)) :=
  ck (a1 + 1) (fun _ =>
    cal (F_slices_Clone_implvset l334) (fun x476 =>
      cal (F_impl_one a1) (fun x492 =>
        app x476 ([x492]) (fun _ =>
          cal (rc a0 (a1 + 1) (x476 ++ ([x492])) l338) (fun x531 =>
            some (l334, x531.2))))))
noncomputable def F_impl_countPartitions_body (rc : (List (BitVec 32)) → Int → (List (BitVec 32)) → (List Int) → Option ((List (BitVec 32)) × (List Int))) (a0 : (List (BitVec 32))) (a1 : Int) (a2 : (List (BitVec 32))) (a3 : (List Int)) : Option ((List (BitVec 32)) × (List Int)) :=
  if a1 = (a0.length : Int) then
    idx a3 (a2.length : Int) (fun x2 =>
      ck (x2 + 1) (fun _ =>
        idx a3 (a2.length : Int) (fun x16 =>
          some (a2, (a3.set (((a2.length : Int) : Int).toNat) (x2 + 1))))))
  else
    bnd (lp (fun s => F_impl_countPartitions_l1 a0 a1 a2 rc s.1 s.2.1 s.2.2) (a2, a3, 0)) (fun j => F_impl_countPartitions_k2 a0 a1 rc j.1 j.2)
noncomputable def F_impl_countPartitions (a0 : (List (BitVec 32))) (a1 : Int) (a2 : (List (BitVec 32))) (a3 : (List Int)) : Option ((List (BitVec 32)) × (List Int)) := fixO (fun (rc : ((List (BitVec 32)) × Int × (List (BitVec 32)) × (List Int)) → Option ((List (BitVec 32)) × (List Int))) a => F_impl_countPartitions_body (fun z0 z1 z2 z3 => rc (z0, z1, z2, z3)) a.1 a.2.1 a.2.2.1 a.2.2.2) (a0, a1, a2, a3)
noncomputable def F_impl_PartitionsBy (a0_0 : (List (List Int))) : Option (List Int) :=
  cal (F_impl_isSmall a0_0) (fun x9 =>
    if ¬ (x9 = true) then
      some ([] : (List Int))
    else
      ck ((a0_0.length : Int) + 1) (fun _ =>
        mkS ((a0_0.length : Int) + 1) (0 : Int) (fun _ =>
          cal (F_impl_netsOf a0_0) (fun x31 =>
            cal (F_impl_countPartitions x31 0 ([] : (List (BitVec 32))) (List.replicate ((a0_0.length : Int) + 1 : Int).toNat (0 : Int))) (fun x60 =>
              some x60.2)))))
noncomputable def F_impl_ColourWays_l1 (a1 : Int) (x37 : (List Int)) (i89 : Int) (i91 : Int) (i96 : Int) : Option ((Int × Int × Int) ⊕ (Int ⊕ Int)) :=
  if i96 < (x37.length : Int) then
    idx x37 i96 (fun x145 =>
      ck (x145 * i91) (fun _ =>
        ck (i89 + (x145 * i91)) (fun _ =>
          ck (a1 - i96) (fun _ =>
            ck (i91 * (max 0 (a1 - i96))) (fun _ =>
              ck (i96 + 1) (fun _ =>
                some (.inl (i89 + (x145 * i91), i91 * (max 0 (a1 - i96)), i96 + 1))))))))
  else
    some (.inr (.inl i89))
noncomputable def F_impl_ColourWays_k2  (i133 : Int) : Option Int :=
  some i133
noncomputable def F_impl_ColourWays (a0_0 : (List (List Int))) (a1 : Int) : Option Int :=
  cal (F_impl_isSmall a0_0) (fun x23 =>
    if ¬ (x23 = true) then
      some (-1)
    else
      cal (F_impl_inRange a1 0 16) (fun x30 =>
        if ¬ (x30 = true) then
          some (-1)
        else
          cal (F_impl_PartitionsBy a0_0) (fun x37 =>
            bnd (lp (fun s => F_impl_ColourWays_l1 a1 x37 s.1 s.2.1 s.2.2) (0, 1, 0)) (fun j => F_impl_ColourWays_k2 j))))
noncomputable def F_spec_l1Size (a0_0 : (List (List Int))) : Option Int :=
  some (a0_0.length : Int)
noncomputable def F_spec_l1Has_l1 (a0 : (List Int)) (a1 : Int) (i23 : Int) : Option (Int ⊕ (Unit ⊕ Bool)) :=
  if i23 < (a0.length : Int) then
    idx a0 i23 (fun x56 =>
      if x56 = a1 then
        some (.inr (.inr true))
      else
        ck (i23 + 1) (fun _ =>
          some (.inl (i23 + 1))))
  else
    some (.inr (.inl ()))
noncomputable def F_spec_l1Has_k2   : Option Bool :=
  some false
noncomputable def F_spec_l1Has (a0 : (List Int)) (a1 : Int) : Option Bool :=
  bnd (lp (fun s => F_spec_l1Has_l1 a0 a1 s) 0) (fun j => F_spec_l1Has_k2 )
noncomputable def F_spec_GraphOk_l1 (a0_0 : (List (List Int))) (x9 : Int) (i80 : Int) : Option (Int ⊕ (Unit ⊕ Bool)) :=
  if i80 < x9 then
    idx a0_0 i80 (fun x146 =>
      cal (F_spec_l1Set x146 x9) (fun x160 =>
        if ¬ (x160 = true) then
          some (.inr (.inr false))
        else
          idx a0_0 i80 (fun x169 =>
            cal (F_spec_l1Has x169 i80) (fun x183 =>
              if x183 = true then
                some (.inr (.inr false))
              else
                ck (i80 + 1) (fun _ =>
                  some (.inl (i80 + 1)))))))
  else
    some (.inr (.inl ()))
noncomputable def F_spec_GraphOk_l4 (a0_0 : (List (List Int))) (i436 : Int) (i762 : Int) : Option (Int ⊕ (Unit ⊕ (Int ⊕ (Unit ⊕ Bool)))) :=
  idx a0_0 i436 (fun x847 =>
    if i762 < (x847.length : Int) then
      idx a0_0 i436 (fun x862 =>
        idx x862 i762 (fun x876 =>
          idx a0_0 x876 (fun x888 =>
            cal (F_spec_l1Has x888 i436) (fun x904 =>
              if ¬ (x904 = true) then
                some (.inr (.inr (.inr (.inr false))))
              else
                ck (i762 + 1) (fun _ =>
                  some (.inl (i762 + 1)))))))
    else
      some (.inr (.inl ())))
noncomputable def F_spec_GraphOk_k5 (i436 : Int)  : Option (Int ⊕ (Unit ⊕ Bool)) :=
  ck (i436 + 1) (fun _ =>
    some (.inl (i436 + 1)))
noncomputable def F_spec_GraphOk_l3 (a0_0 : (List (List Int))) (x9 : Int) (i436 : Int) : Option (Int ⊕ (Unit ⊕ Bool)) :=
  if i436 < x9 then
    bnd (lp (fun s => F_spec_GraphOk_l4 a0_0 i436 s) 0) (fun j => F_spec_GraphOk_k5 i436 )
  else
    some (.inr (.inl ()))
noncomputable def F_spec_GraphOk_k6   : Option Bool :=
  some true
noncomputable def F_spec_GraphOk_k2 (a0_0 : (List (List Int))) (x9 : Int)  : Option Bool :=
  bnd (lp (fun s => F_spec_GraphOk_l3 a0_0 x9 s) 0) (fun j => F_spec_GraphOk_k6 )
noncomputable def F_spec_GraphOk (a0_0 : (List (List Int))) : Option Bool :=
  cal (F_spec_l1Size a0_0) (fun x9 =>
    cal (F_spec_l1In x9 1 16) (fun x16 =>
      if ¬ (x16 = true) then
        some false
      else
        bnd (lp (fun s => F_spec_GraphOk_l1 a0_0 x9 s) 0) (fun j => F_spec_GraphOk_k2 a0_0 x9 )))
noncomputable def F_spec_l26None_l1 (a0 : Int) (l54 : (List Int)) (i57 : Int) : Option (((List Int) × Int) ⊕ ((List Int) ⊕ (List Int))) :=
  if i57 < a0 then
    app l54 ([(-1)]) (fun _ =>
      ck (i57 + 1) (fun _ =>
        some (.inl ((l54 ++ ([(-1)])), i57 + 1))))
  else
    some (.inr (.inl l54))
noncomputable def F_spec_l26None_k2  (l99 : (List Int)) : Option (List Int) :=
  some l99
noncomputable def F_spec_l26None (a0 : Int) : Option (List Int) :=
  bnd (lp (fun s => F_spec_l26None_l1 a0 s.1 s.2) (([] : (List Int)), 0)) (fun j => F_spec_l26None_k2 j)
noncomputable def F_spec_l26Try_l2 (a0_0 : (List (List Int))) (a1 : (List Int)) (a2 : Int) (i313 : Int) (t694 : Bool) (i695 : Int) : Option ((Bool × Int) ⊕ (Bool ⊕ (Int ⊕ (Unit ⊕ ((List Int) × Bool))))) :=
  idx a0_0 a2 (fun x777 =>
    if i695 < (x777.length : Int) then
      if t694 = true then
        idx a0_0 a2 (fun x794 =>
          idx x794 i695 (fun x809 =>
            idx a1 x809 (fun x821 =>
              ck (i695 + 1) (fun _ =>
                some (.inl (decide (x821 ≠ i313), i695 + 1))))))
      else
        ck (i695 + 1) (fun _ =>
          some (.inl (false, i695 + 1)))
    else
      some (.inr (.inl t694)))
noncomputable def F_spec_l26Try_k4 (a0_0 : (List (List Int))) (a2 : Int) (a4 : Int) (rc : (List (List Int)) → (List Int) → Int → Int → Int → Option ((List Int) × Bool)) (i313 : Int) (x840 : (List Int)) (i883 : Int) : Option (Int ⊕ (Unit ⊕ ((List Int) × Bool))) :=
  ck (a2 + 1) (fun _ =>
    cal (rc a0_0 (x840.set ((a2 : Int).toNat) i313) (a2 + 1) i883 a4) (fun x896 =>
      if x896.2 = true then
        some (.inr (.inr (x896.1, true)))
      else
        ck (i313 + 1) (fun _ =>
          some (.inl (i313 + 1)))))
noncomputable def F_spec_l26Try_k3 (a0_0 : (List (List Int))) (a1 : (List Int)) (a2 : Int) (a3 : Int) (a4 : Int) (rc : (List (List Int)) → (List Int) → Int → Int → Int → Option ((List Int) × Bool)) (i313 : Int) (t767 : Bool) : Option (Int ⊕ (Unit ⊕ ((List Int) × Bool))) :=
  if ¬ (t767 = true) then
    ck (i313 + 1) (fun _ =>
      some (.inl (i313 + 1)))
  else
    cal (F_spec_l1Copy a1) (fun x840 =>
      idx x840 a2 (fun x853 =>
        bnd (
          if i313 = a3 then
            ck (a3 + 1) (fun _ =>
              some (.inl (a3 + 1)))
          else
            some (.inl a3)) (fun j => F_spec_l26Try_k4 a0_0 a2 a4 rc i313 x840 j)))
noncomputable def F_spec_l26Try_l1 (a0_0 : (List (List Int))) (a1 : (List Int)) (a2 : Int) (a3 : Int) (a4 : Int) (rc : (List (List Int)) → (List Int) → Int → Int → Int → Option ((List Int) × Bool)) (i313 : Int) : Option (Int ⊕ (Unit ⊕ ((List Int) × Bool))) :=
  if i313 < a4 then
    if i313 ≤ a3 then
      bnd (lp (fun s => F_spec_l26Try_l2 a0_0 a1 a2 i313 s.1 s.2) (true, 0)) (fun j => F_spec_l26Try_k3 a0_0 a1 a2 a3 a4 rc i313 j)
    else
      some (.inr (.inl ()))
  else
    some (.inr (.inl ()))
noncomputable def F_spec_l26Try_k5 (a1 : (List Int))  : Option ((List Int) × Bool) :=
  some (a1, false)
noncomputable def F_spec_l26Try_body (rc : (List (List Int)) → (List Int) → Int → Int → Int → Option ((List Int) × Bool)) (a0_0 : (List (List Int))) (a1 : (List Int)) (a2 : Int) (a3 : Int) (a4 : Int) : Option ((List Int) × Bool) :=
  if a2 = (a0_0.length : Int) then
    some (a1, true)
  else
    bnd (lp (fun s => F_spec_l26Try_l1 a0_0 a1 a2 a3 a4 rc s) 0) (fun j => F_spec_l26Try_k5 a1 )
noncomputable def F_spec_l26Try (a0_0 : (List (List Int))) (a1 : (List Int)) (a2 : Int) (a3 : Int) (a4 : Int) : Option ((List Int) × Bool) := fixO (fun (rc : ((List (List Int)) × (List Int) × Int × Int × Int) → Option ((List Int) × Bool)) a => F_spec_l26Try_body (fun z0 z1 z2 z3 z4 => rc (z0, z1, z2, z3, z4)) a.1 a.2.1 a.2.2.1 a.2.2.2.1 a.2.2.2.2) (a0_0, a1, a2, a3, a4)
noncomputable def F_spec_l26Best_l1 (a0_0 : (List (List Int))) (i63 : Int) : Option (Int ⊕ (Unit ⊕ ((List Int) × Int))) :=
  cal (F_spec_l26None (a0_0.length : Int)) (fun x126 =>
    cal (F_spec_l26Try a0_0 x126 0 0 i63) (fun x145 =>
      if x145.2 = true then
        some (.inr (.inr (x145.1, i63)))
      else
        ck (i63 + 1) (fun _ =>
          some (.inl (i63 + 1)))))
noncomputable def F_spec_l26Best (a0_0 : (List (List Int))) : Option ((List Int) × Int) :=
  bnd (lp (fun s => F_spec_l26Best_l1 a0_0 s) 0) (fun _ => none)
noncomputable def F_spec_ChromaticOf (a0_0 : (List (List Int))) : Option Int :=
  cal (F_spec_GraphOk a0_0) (fun x9 =>
    if ¬ (x9 = true) then
      some (-1)
    else
      cal (F_spec_l26Best a0_0) (fun x16 =>
        some x16.2))
noncomputable def F_spec_l1Edges_l2 (a0_0 : (List (List Int))) (i505 : Int) (l1152 : (List (List Int))) (i1155 : Int) : Option (((List (List Int)) × Int) ⊕ ((List (List Int)) ⊕ (((List (List Int)) × Int) ⊕ ((List (List Int)) ⊕ (List (List Int)))))) :=
  idx a0_0 i505 (fun x1316 =>
    if i1155 < (x1316.length : Int) then
      idx a0_0 i505 (fun x1331 =>
        idx x1331 i1155 (fun x1345 =>
          if i505 < x1345 then
            idx a0_0 i505 (fun x1358 =>
              idx x1358 i1155 (fun x1372 =>
                app l1152 ([[i505, x1372]]) (fun _ =>
                  ck (i1155 + 1) (fun _ =>
                    some (.inl ((l1152 ++ ([[i505, x1372]])), i1155 + 1))))))
          else
            ck (i1155 + 1) (fun _ =>
              some (.inl (l1152, i1155 + 1)))))
    else
      some (.inr (.inl l1152)))
noncomputable def F_spec_l1Edges_k3 (i505 : Int) (l1302 : (List (List Int))) : Option (((List (List Int)) × Int) ⊕ ((List (List Int)) ⊕ (List (List Int)))) :=
  ck (i505 + 1) (fun _ =>
    some (.inl (l1302, i505 + 1)))
noncomputable def F_spec_l1Edges_l1 (a0_0 : (List (List Int))) (l502 : (List (List Int))) (i505 : Int) : Option (((List (List Int)) × Int) ⊕ ((List (List Int)) ⊕ (List (List Int)))) :=
  cal (F_spec_l1Size a0_0) (fun x990 =>
    if i505 < x990 then
      bnd (lp (fun s => F_spec_l1Edges_l2 a0_0 i505 s.1 s.2) (l502, 0)) (fun j => F_spec_l1Edges_k3 i505 j)
    else
      some (.inr (.inl l502)))
noncomputable def F_spec_l1Edges_k4  (l978 : (List (List Int))) : Option (List (List Int)) :=
  some l978
noncomputable def F_spec_l1Edges (a0_0 : (List (List Int))) : Option (List (List Int)) :=
  bnd (lp (fun s => F_spec_l1Edges_l1 a0_0 s.1 s.2) (([] : (List (List Int))), 0)) (fun j => F_spec_l1Edges_k4 j)
noncomputable def F_spec_EdgesOf (a0_0 : (List (List Int))) : Option (List (List Int)) :=
  cal (F_spec_GraphOk a0_0) (fun x9 =>
    if ¬ (x9 = true) then
      some ([] : (List (List Int)))
    else
      cal (F_spec_l1Edges a0_0) (fun x27 =>
        some x27))
noncomputable def F_spec_l1There (a0_0 : (List (List Int))) (a1 : Int) : Option Bool :=
  cal (F_spec_l1Size a0_0) (fun x9 =>
    ck (x9 - 1) (fun _ =>
      cal (F_spec_l1In a1 0 (x9 - 1)) (fun x18 =>
        some x18)))
noncomputable def F_spec_l2Pair (a0_0 : (List (List Int))) (a1 : Int) (a2 : Int) : Option Bool :=
  cal (F_spec_GraphOk a0_0) (fun x9 =>
    if x9 = true then
      cal (F_spec_l1There a0_0 a1) (fun x16 =>
        if x16 = true then
          cal (F_spec_l1There a0_0 a2) (fun x23 =>
            if x23 = true then
              some (decide (a1 ≠ a2))
            else
              some false)
        else
          some false)
    else
      some false)
noncomputable def F_spec_l1Edge (a0_0 : (List (List Int))) (a1 : Int) (a2 : Int) : Option Bool :=
  idx a0_0 a1 (fun x9 =>
    cal (F_spec_l1Has x9 a2) (fun x23 =>
      some x23))
noncomputable def F_spec_l1CopyGraph_l1 (a0_0 : (List (List Int))) (l198 : (List (List Int))) (i201 : Int) : Option (((List (List Int)) × Int) ⊕ ((List (List Int)) ⊕ (List (List Int)))) :=
  if i201 < (a0_0.length : Int) then
    idx a0_0 i201 (fun x385 =>
      cal (F_spec_l1Copy x385) (fun x402 =>
        app l198 ([x402]) (fun _ =>
          ck (i201 + 1) (fun _ =>
            some (.inl ((l198 ++ ([x402])), i201 + 1))))))
  else
    some (.inr (.inl l198))
noncomputable def F_spec_l1CopyGraph_k2  (l355 : (List (List Int))) : Option (List (List Int)) :=
  some l355
noncomputable def F_spec_l1CopyGraph (a0_0 : (List (List Int))) : Option (List (List Int)) :=
  bnd (lp (fun s => F_spec_l1CopyGraph_l1 a0_0 s.1 s.2) (([] : (List (List Int))), 0)) (fun j => F_spec_l1CopyGraph_k2 j)
noncomputable def F_spec_l2Without_l1 (a0 : (List Int)) (a1 : Int) (l81 : (List Int)) (i84 : Int) : Option (((List Int) × Int) ⊕ ((List Int) ⊕ (List Int))) :=
  if i84 < (a0.length : Int) then
    idx a0 i84 (fun x166 =>
      if x166 ≠ a1 then
        idx a0 i84 (fun x179 =>
          app l81 ([x179]) (fun _ =>
            ck (i84 + 1) (fun _ =>
              some (.inl ((l81 ++ ([x179])), i84 + 1)))))
      else
        ck (i84 + 1) (fun _ =>
          some (.inl (l81, i84 + 1))))
  else
    some (.inr (.inl l81))
noncomputable def F_spec_l2Without_k2  (l153 : (List Int)) : Option (List Int) :=
  some l153
noncomputable def F_spec_l2Without (a0 : (List Int)) (a1 : Int) : Option (List Int) :=
  bnd (lp (fun s => F_spec_l2Without_l1 a0 a1 s.1 s.2) (([] : (List Int)), 0)) (fun j => F_spec_l2Without_k2 j)
noncomputable def F_spec_CutEdge (a0_0 : (List (List Int))) (a1 : Int) (a2 : Int) : Option ((List (List Int)) × Bool) :=
  cal (F_spec_l2Pair a0_0 a1 a2) (fun x41 =>
    if ¬ (x41 = true) then
      some (([] : (List (List Int))), false)
    else
      cal (F_spec_l1Edge a0_0 a1 a2) (fun x52 =>
        if ¬ (x52 = true) then
          some (([] : (List (List Int))), false)
        else
          cal (F_spec_l1CopyGraph a0_0) (fun x63 =>
            idx x63 a1 (fun x103 =>
              cal (F_spec_l2Without x103 a2) (fun x123 =>
                idx x63 a1 (fun x142 =>
                  idx (x63.set ((a1 : Int).toNat) x123) a2 (fun x178 =>
                    cal (F_spec_l2Without x178 a1) (fun x198 =>
                      idx (x63.set ((a1 : Int).toNat) x123) a2 (fun x217 =>
                        some (((x63.set ((a1 : Int).toNat) x123).set ((a2 : Int).toNat) x198), true))))))))))
noncomputable def F_spec_EdgeIn (a0_0 : (List (List Int))) (a1 : Int) (a2 : Int) : Option Bool :=
  cal (F_spec_GraphOk a0_0) (fun x9 =>
    if x9 = true then
      cal (F_spec_l1There a0_0 a1) (fun x16 =>
        if x16 = true then
          cal (F_spec_l1There a0_0 a2) (fun x23 =>
            if x23 = true then
              cal (F_spec_l1Edge a0_0 a1 a2) (fun x30 =>
                some x30)
            else
              some false)
        else
          some false)
    else
      some false)
noncomputable def F_spec_l1Min (a0 : Int) (a1 : Int) : Option Int :=
  if a0 < a1 then
    some a0
  else
    some a1
noncomputable def F_spec_l1Max (a0 : Int) (a1 : Int) : Option Int :=
  if a1 < a0 then
    some a0
  else
    some a1
noncomputable def F_spec_l1All_l1 (a0 : Int) (l54 : (List Int)) (i57 : Int) : Option (((List Int) × Int) ⊕ ((List Int) ⊕ (List Int))) :=
  if i57 < a0 then
    app l54 ([i57]) (fun _ =>
      ck (i57 + 1) (fun _ =>
        some (.inl ((l54 ++ ([i57])), i57 + 1))))
  else
    some (.inr (.inl l54))
noncomputable def F_spec_l1All_k2  (l99 : (List Int)) : Option (List Int) :=
  some l99
noncomputable def F_spec_l1All (a0 : Int) : Option (List Int) :=
  bnd (lp (fun s => F_spec_l1All_l1 a0 s.1 s.2) (([] : (List Int)), 0)) (fun j => F_spec_l1All_k2 j)
noncomputable def F_spec_l2Of_l2 (a0_0 : (List (List Int))) (a1 : (List Int)) (i453 : Int) (l974 : (List (List Int))) (i977 : Int) : Option (((List (List Int)) × Int) ⊕ ((List (List Int)) ⊕ (((List (List Int)) × Int) ⊕ ((List (List Int)) ⊕ (List (List Int)))))) :=
  if i977 < i453 then
    idx a1 i453 (fun x1115 =>
      idx a1 i977 (fun x1127 =>
        cal (F_spec_l1Edge a0_0 x1115 x1127) (fun x1141 =>
          if x1141 = true then
            cal (F_spec_l1Link l974 i977 i453) (fun x1147 =>
              ck (i977 + 1) (fun _ =>
                some (.inl (x1147, i977 + 1))))
          else
            ck (i977 + 1) (fun _ =>
              some (.inl (l974, i977 + 1))))))
  else
    some (.inr (.inl l974))
noncomputable def F_spec_l2Of_k3 (i453 : Int) (l1090 : (List (List Int))) : Option (((List (List Int)) × Int) ⊕ ((List (List Int)) ⊕ (List (List Int)))) :=
  ck (i453 + 1) (fun _ =>
    some (.inl (l1090, i453 + 1)))
noncomputable def F_spec_l2Of_l1 (a0_0 : (List (List Int))) (a1 : (List Int)) (l450 : (List (List Int))) (i453 : Int) : Option (((List (List Int)) × Int) ⊕ ((List (List Int)) ⊕ (List (List Int)))) :=
  if i453 < (a1.length : Int) then
    bnd (lp (fun s => F_spec_l2Of_l2 a0_0 a1 i453 s.1 s.2) (l450, 0)) (fun j => F_spec_l2Of_k3 i453 j)
  else
    some (.inr (.inl l450))
noncomputable def F_spec_l2Of_k4  (l831 : (List (List Int))) : Option (List (List Int)) :=
  some l831
noncomputable def F_spec_l2Of (a0_0 : (List (List Int))) (a1 : (List Int)) : Option (List (List Int)) :=
  cal (F_spec_l1Empty (a1.length : Int)) (fun x19 =>
    bnd (lp (fun s => F_spec_l2Of_l1 a0_0 a1 s.1 s.2) (x19, 0)) (fun j => F_spec_l2Of_k4 j))
noncomputable def F_spec_Contracted_l1 (a0_0 : (List (List Int))) (x30 : Int) (x37 : Int) (l255 : (List (List Int))) (i258 : Int) : Option (((List (List Int)) × Int) ⊕ ((List (List Int)) ⊕ ((List (List Int)) × Bool))) :=
  idx a0_0 x37 (fun x442 =>
    if i258 < (x442.length : Int) then
      idx a0_0 x37 (fun x458 =>
        idx x458 i258 (fun x473 =>
          if x473 ≠ x30 then
            idx a0_0 x37 (fun x486 =>
              idx x486 i258 (fun x501 =>
                cal (F_spec_l1Link l255 x30 x501) (fun x516 =>
                  ck (i258 + 1) (fun _ =>
                    some (.inl (x516, i258 + 1))))))
          else
            ck (i258 + 1) (fun _ =>
              some (.inl (l255, i258 + 1)))))
    else
      some (.inr (.inl l255)))
noncomputable def F_spec_Contracted_k2 (a0_0 : (List (List Int))) (x37 : Int) (l418 : (List (List Int))) : Option ((List (List Int)) × Bool) :=
  cal (F_spec_l1Size a0_0) (fun x546 =>
    cal (F_spec_l1All x546) (fun x552 =>
      cal (F_spec_l2Without x552 x37) (fun x578 =>
        cal (F_spec_l2Of l418 x578) (fun x609 =>
          some (x609, true)))))
noncomputable def F_spec_Contracted (a0_0 : (List (List Int))) (a1 : Int) (a2 : Int) : Option ((List (List Int)) × Bool) :=
  cal (F_spec_EdgeIn a0_0 a1 a2) (fun x19 =>
    if ¬ (x19 = true) then
      some (([] : (List (List Int))), false)
    else
      cal (F_spec_l1Min a1 a2) (fun x30 =>
        cal (F_spec_l1Max a1 a2) (fun x37 =>
          cal (F_spec_l1CopyGraph a0_0) (fun x44 =>
            bnd (lp (fun s => F_spec_Contracted_l1 a0_0 x30 x37 s.1 s.2) (x44, 0)) (fun j => F_spec_Contracted_k2 a0_0 x37 j)))))
noncomputable def F_laws_FnColourWays_l1 (x21 : ((List (List Int)) × ((List (BitVec 8)) × Int × Int))) (x49 : (Int × ((List (BitVec 8)) × Int × Int))) (i122 : Int) (i124 : Int) : Option ((Int × Int) ⊕ (Int ⊕ Bool)) :=
  if i124 < (x21.1.length : Int) then
    ck (i122 * x49.1) (fun _ =>
      ck (i124 + 1) (fun _ =>
        some (.inl (i122 * x49.1, i124 + 1))))
  else
    some (.inr (.inl i122))
noncomputable def F_laws_FnColourWays_k2 (x57 : Int) (i144 : Int) : Option Bool :=
  some (decide (x57 = i144))
noncomputable def F_laws_FnColourWays (a0 : (List (BitVec 8))) : Option Bool :=
  cal (F_laws_big a0) (fun x1 =>
    if x1 = true then
      some true
    else
      cal (F_laws_roll a0 805) (fun x8 =>
        cal (F_laws_w6Graph x8 7) (fun x21 =>
          cal (F_laws_dice_below x21.2 5) (fun x49 =>
            cal (F_impl_ColourWays x21.1 x49.1) (fun x57 =>
              cal (F_spec_ChromaticOf x21.1) (fun x64 =>
                if ((decide (0 < x57)) != (decide (x64 ≤ x49.1))) = true then
                  some false
                else
                  cal (F_spec_EdgesOf x21.1) (fun x72 =>
                    if (x72.length : Int) = 0 then
                      bnd (lp (fun s => F_laws_FnColourWays_l1 x21 x49 s.1 s.2) (1, 0)) (fun j => F_laws_FnColourWays_k2 x57 j)
                    else
                      cal (F_laws_dice_below x49.2 (x72.length : Int)) (fun x160 =>
                        idx x72 x160.1 (fun x168 =>
                          idx x168 0 (fun x186 =>
                            idx x168 1 (fun x198 =>
                              cal (F_spec_CutEdge x21.1 x186 x198) (fun xqr1o7_1 =>
                                idx x168 0 (fun x214 =>
                                  idx x168 1 (fun x226 =>
                                    cal (F_spec_Contracted x21.1 x214 x226) (fun xqr2o7_1 =>
                                      cal (F_impl_ColourWays xqr1o7_1.1 x49.1) (fun x246 =>
                                        cal (F_impl_ColourWays xqr2o7_1.1 x49.1) (fun x251 =>
                                          ck (x246 - x251) (fun _ =>
                                            some (decide (x57 = (x246 - x251)))))))))))))))))))))
end Go.Proofs.Ytadjcnllmkdgiaa
