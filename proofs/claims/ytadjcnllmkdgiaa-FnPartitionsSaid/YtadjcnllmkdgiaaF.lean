/- Functional forms, printed by gen.py. -/
import Derived.Test.YtadjcnllmkdgiaaPure
namespace Go.Proofs.Ytadjcnllmkdgiaa

noncomputable def F_laws_big (a0 : (List (BitVec 8))) : Option Bool :=
  some (decide (4096 < (a0.length : Int)))
noncomputable def F_laws_roll_l1 (a0 : (List (BitVec 8))) (i48 : Int) (i50 : Int) : Option ((Int × Int) ⊕ (Int ⊕ ((List (BitVec 8)) × Int × Int))) :=
  if i50 < (a0.length : Int) then
    idx a0 i50 (fun x99 =>
      ck (i50 + 1) (fun _ =>
        some (.inl ((((((i48 * 1099511628211) % 18446744073709551616) + (BitVec.toNat x99 : Int)) % 18446744073709551616) + 3) % 18446744073709551616, i50 + 1))))
  else
    some (.inr (.inl i48))
noncomputable def F_laws_roll_k2 (a0 : (List (BitVec 8))) (i87 : Int) : Option ((List (BitVec 8)) × Int × Int) :=
  some (a0, 0, i87)
noncomputable def F_laws_roll (a0 : (List (BitVec 8))) (a1 : Int) : Option ((List (BitVec 8)) × Int × Int) :=
  grd ((0 : Int) ≤ (a0.length : Int)) (
    bnd (lp (fun s => F_laws_roll_l1 a0 s.1 s.2) ((((a1 * 7919) % 18446744073709551616) + (a0.length : Int)) % 18446744073709551616, 0)) (fun j => F_laws_roll_k2 a0 j))
noncomputable def F_laws_dice_below (a0 : ((List (BitVec 8)) × Int × Int)) (a1 : Int) : Option (Int × ((List (BitVec 8)) × Int × Int)) :=
  ck (((BitVec.ofInt 64 (((((a0.2.2 * 6364136223846793005) % 18446744073709551616) + 1442695040888963407) % 18446744073709551616) / 2 ^ (33 : Int).toNat) &&& BitVec.ofInt 64 16777215).toNat : Int)) (fun _ =>
    if a0.2.1 < (a0.1.length : Int) then
      idx a0.1 a0.2.1 (fun x11 =>
        ck (((BitVec.ofInt 64 (((((a0.2.2 * 6364136223846793005) % 18446744073709551616) + 1442695040888963407) % 18446744073709551616) / 2 ^ (33 : Int).toNat) &&& BitVec.ofInt 64 16777215).toNat : Int) + (BitVec.toNat x11 : Int)) (fun _ =>
          ck (a0.2.1 + 1) (fun _ =>
            grd ((0 : Int) ≤ (((BitVec.ofInt 64 (((((a0.2.2 * 6364136223846793005) % 18446744073709551616) + 1442695040888963407) % 18446744073709551616) / 2 ^ (33 : Int).toNat) &&& BitVec.ofInt 64 16777215).toNat : Int) + (BitVec.toNat x11 : Int)) ∧ (0 : Int) < a1) (
              some ((((BitVec.ofInt 64 (((((a0.2.2 * 6364136223846793005) % 18446744073709551616) + 1442695040888963407) % 18446744073709551616) / 2 ^ (33 : Int).toNat) &&& BitVec.ofInt 64 16777215).toNat : Int) + (BitVec.toNat x11 : Int)) % a1, (a0.1, a0.2.1 + 1, (((a0.2.2 * 6364136223846793005) % 18446744073709551616) + 1442695040888963407) % 18446744073709551616))))))
    else
      grd ((0 : Int) ≤ ((BitVec.ofInt 64 (((((a0.2.2 * 6364136223846793005) % 18446744073709551616) + 1442695040888963407) % 18446744073709551616) / 2 ^ (33 : Int).toNat) &&& BitVec.ofInt 64 16777215).toNat : Int) ∧ (0 : Int) < a1) (
        some (((BitVec.ofInt 64 (((((a0.2.2 * 6364136223846793005) % 18446744073709551616) + 1442695040888963407) % 18446744073709551616) / 2 ^ (33 : Int).toNat) &&& BitVec.ofInt 64 16777215).toNat : Int) % a1, (a0.1, a0.2.1, (((a0.2.2 * 6364136223846793005) % 18446744073709551616) + 1442695040888963407) % 18446744073709551616))))
noncomputable def F_spec_l1In (a0 : Int) (a1 : Int) (a2 : Int) : Option Bool :=
  if a1 ≤ a0 then
    some (decide (a0 ≤ a2))
  else
    some false
noncomputable def F_spec_l1Empty_l1 (a0 : Int) (l128 : (List (List Int))) (i131 : Int) : Option (((List (List Int)) × Int) ⊕ ((List (List Int)) ⊕ (List (List Int)))) :=
  if i131 < a0 then
    app l128 ([([] : (List Int))]) (fun _ =>
      ck (i131 + 1) (fun _ =>
        some (.inl ((l128 ++ ([([] : (List Int))])), i131 + 1))))
  else
    some (.inr (.inl l128))
noncomputable def F_spec_l1Empty_k2  (l231 : (List (List Int))) : Option (List (List Int)) :=
  some l231
noncomputable def F_spec_l1Empty (a0 : Int) : Option (List (List Int)) :=
  bnd (lp (fun s => F_spec_l1Empty_l1 a0 s.1 s.2) (([] : (List (List Int))), 0)) (fun j => F_spec_l1Empty_k2 j)
noncomputable def F_spec_l1Set_l1 (a0 : (List Int)) (a1 : Int) (i69 : Int) : Option (Int ⊕ (Unit ⊕ Bool)) :=
  if i69 < (a0.length : Int) then
    idx a0 i69 (fun x147 =>
      ck (a1 - 1) (fun _ =>
        cal (F_spec_l1In x147 0 (a1 - 1)) (fun x163 =>
          if ¬ (x163 = true) then
            some (.inr (.inr false))
          else
            if 0 < i69 then
              idx a0 i69 (fun x172 =>
                ck (i69 - 1) (fun _ =>
                  idx a0 (i69 - 1) (fun x186 =>
                    if x172 ≤ x186 then
                      some (.inr (.inr false))
                    else
                      ck (i69 + 1) (fun _ =>
                        some (.inl (i69 + 1))))))
            else
              ck (i69 + 1) (fun _ =>
                some (.inl (i69 + 1))))))
  else
    some (.inr (.inl ()))
noncomputable def F_spec_l1Set_k2   : Option Bool :=
  some true
noncomputable def F_spec_l1Set (a0 : (List Int)) (a1 : Int) : Option Bool :=
  if a1 < (a0.length : Int) then
    some false
  else
    bnd (lp (fun s => F_spec_l1Set_l1 a0 a1 s) 0) (fun j => F_spec_l1Set_k2 )
noncomputable def F_spec_l1Copy (a0 : (List Int)) : Option (List Int) :=
  app ([] : (List Int)) a0 (fun _ =>
    some (([] : (List Int)) ++ a0))
noncomputable def F_spec_l1Into_l1 (a0 : (List Int)) (a1 : Int) (i23 : Int) : Option (Int ⊕ (Int ⊕ (List Int))) :=
  if i23 < (a0.length : Int) then
    idx a0 i23 (fun x58 =>
      if x58 < a1 then
        ck (i23 + 1) (fun _ =>
          some (.inl (i23 + 1)))
      else
        some (.inr (.inl i23)))
  else
    some (.inr (.inl i23))
noncomputable def F_spec_l1Into_k2 (a0 : (List Int)) (a1 : Int) (i46 : Int) : Option (List Int) :=
  if i46 < (a0.length : Int) then
    idx a0 i46 (fun x74 =>
      if x74 = a1 then
        some a0
      else
        slc a0 0 i46 (fun _ =>
          cal (F_spec_l1Copy ((a0.drop (0 : Int).toNat).take ((i46 : Int).toNat - (0 : Int).toNat))) (fun x95 =>
            app x95 ([a1]) (fun _ =>
              slc a0 i46 (a0.length : Int) (fun _ =>
                app (x95 ++ ([a1])) ((a0.drop (i46 : Int).toNat).take (((a0.length : Int) : Int).toNat - (i46 : Int).toNat)) (fun _ =>
                  some ((x95 ++ ([a1])) ++ ((a0.drop (i46 : Int).toNat).take (((a0.length : Int) : Int).toNat - (i46 : Int).toNat)))))))))
  else
    slc a0 0 i46 (fun _ =>
      cal (F_spec_l1Copy ((a0.drop (0 : Int).toNat).take ((i46 : Int).toNat - (0 : Int).toNat))) (fun x159 =>
        app x159 ([a1]) (fun _ =>
          slc a0 i46 (a0.length : Int) (fun _ =>
            app (x159 ++ ([a1])) ((a0.drop (i46 : Int).toNat).take (((a0.length : Int) : Int).toNat - (i46 : Int).toNat)) (fun _ =>
              some ((x159 ++ ([a1])) ++ ((a0.drop (i46 : Int).toNat).take (((a0.length : Int) : Int).toNat - (i46 : Int).toNat))))))))
noncomputable def F_spec_l1Into (a0 : (List Int)) (a1 : Int) : Option (List Int) :=
  bnd (lp (fun s => F_spec_l1Into_l1 a0 a1 s) 0) (fun j => F_spec_l1Into_k2 a0 a1 j)
noncomputable def F_spec_l1Link (a0_0 : (List (List Int))) (a1 : Int) (a2 : Int) : Option (List (List Int)) :=
  idx a0_0 a1 (fun x23 =>
    cal (F_spec_l1Into x23 a2) (fun x44 =>
      idx a0_0 a1 (fun x58 =>
        idx (a0_0.set ((a1 : Int).toNat) x44) a2 (fun x91 =>
          cal (F_spec_l1Into x91 a1) (fun x112 =>
            idx (a0_0.set ((a1 : Int).toNat) x44) a2 (fun x126 =>
              some ((a0_0.set ((a1 : Int).toNat) x44).set ((a2 : Int).toNat) x112)))))))
noncomputable def F_spec_GraphOf_l1 (a0 : Int) (a1 : (List (List Int))) (l302 : (List (List Int))) (i305 : Int) : Option (((List (List Int)) × Int) ⊕ ((List (List Int)) ⊕ ((List (List Int)) × Bool))) :=
  if i305 < (a1.length : Int) then
    idx a1 i305 (fun x587 =>
      if (x587.length : Int) ≠ 2 then
        some (.inr (.inr (([] : (List (List Int))), false)))
      else
        idx a1 i305 (fun x609 =>
          cal (F_spec_l1Set x609 a0) (fun x624 =>
            if ¬ (x624 = true) then
              some (.inr (.inr (([] : (List (List Int))), false)))
            else
              idx a1 i305 (fun x637 =>
                idx x637 0 (fun x652 =>
                  idx a1 i305 (fun x664 =>
                    idx x664 1 (fun x679 =>
                      cal (F_spec_l1Link l302 x652 x679) (fun x694 =>
                        ck (i305 + 1) (fun _ =>
                          some (.inl (x694, i305 + 1)))))))))))
  else
    some (.inr (.inl l302))
noncomputable def F_spec_GraphOf_k2  (l522 : (List (List Int))) : Option ((List (List Int)) × Bool) :=
  some (l522, true)
noncomputable def F_spec_GraphOf (a0 : Int) (a1 : (List (List Int))) : Option ((List (List Int)) × Bool) :=
  cal (F_spec_l1In a0 1 16) (fun x25 =>
    if ¬ (x25 = true) then
      some (([] : (List (List Int))), false)
    else
      if 120 < (a1.length : Int) then
        some (([] : (List (List Int))), false)
      else
        cal (F_spec_l1Empty a0) (fun x41 =>
          bnd (lp (fun s => F_spec_GraphOf_l1 a0 a1 s.1 s.2) (x41, 0)) (fun j => F_spec_GraphOf_k2 j)))
noncomputable def F_laws_w6Graph_l2 (x21 : (Int × ((List (BitVec 8)) × Int × Int))) (i423 : Int) (l919 : ((List (BitVec 8)) × Int × Int)) (l930 : (List (List Int))) (i933 : Int) : Option ((((List (BitVec 8)) × Int × Int) × (List (List Int)) × Int) ⊕ ((((List (BitVec 8)) × Int × Int) × (List (List Int))) ⊕ ((((List (BitVec 8)) × Int × Int) × (List (List Int)) × Int) ⊕ (((List (List Int)) × ((List (BitVec 8)) × Int × Int)) ⊕ ((List (List Int)) × ((List (BitVec 8)) × Int × Int)))))) :=
  if i933 < i423 then
    cal (F_laws_dice_below l919 4) (fun x1064 =>
      if x1064.1 < (1 + x21.1) then
        app l930 ([[i933, i423]]) (fun _ =>
          ck (i933 + 1) (fun _ =>
            some (.inl (x1064.2, (l930 ++ ([[i933, i423]])), i933 + 1))))
      else
        ck (i933 + 1) (fun _ =>
          some (.inl (x1064.2, l930, i933 + 1))))
  else
    some (.inr (.inl (l919, l930)))
noncomputable def F_laws_w6Graph_k3 (i423 : Int) (l1034 : ((List (BitVec 8)) × Int × Int)) (l1045 : (List (List Int))) : Option ((((List (BitVec 8)) × Int × Int) × (List (List Int)) × Int) ⊕ (((List (List Int)) × ((List (BitVec 8)) × Int × Int)) ⊕ ((List (List Int)) × ((List (BitVec 8)) × Int × Int)))) :=
  ck (i423 + 1) (fun _ =>
    some (.inl (l1034, l1045, i423 + 1)))
noncomputable def F_laws_w6Graph_l1 (x11 : (Int × ((List (BitVec 8)) × Int × Int))) (x21 : (Int × ((List (BitVec 8)) × Int × Int))) (l409 : ((List (BitVec 8)) × Int × Int)) (l420 : (List (List Int))) (i423 : Int) : Option ((((List (BitVec 8)) × Int × Int) × (List (List Int)) × Int) ⊕ (((List (List Int)) × ((List (BitVec 8)) × Int × Int)) ⊕ ((List (List Int)) × ((List (BitVec 8)) × Int × Int)))) :=
  if i423 < (1 + x11.1) then
    bnd (lp (fun s => F_laws_w6Graph_l2 x21 i423 s.1 s.2.1 s.2.2) (l409, l420, 0)) (fun j => F_laws_w6Graph_k3 i423 j.1 j.2)
  else
    some (.inr (.inl (l420, l409)))
noncomputable def F_laws_w6Graph_k4 (x11 : (Int × ((List (BitVec 8)) × Int × Int))) (l787 : (List (List Int))) (l791 : ((List (BitVec 8)) × Int × Int)) : Option ((List (List Int)) × ((List (BitVec 8)) × Int × Int)) :=
  cal (F_spec_GraphOf (1 + x11.1) l787) (fun x1134 =>
    some (x1134.1, l791))
noncomputable def F_laws_w6Graph (a0 : ((List (BitVec 8)) × Int × Int)) (a1 : Int) : Option ((List (List Int)) × ((List (BitVec 8)) × Int × Int)) :=
  cal (F_laws_dice_below a0 a1) (fun x11 =>
    ck (1 + x11.1) (fun _ =>
      cal (F_laws_dice_below x11.2 3) (fun x21 =>
        ck (1 + x21.1) (fun _ =>
          bnd (lp (fun s => F_laws_w6Graph_l1 x11 x21 s.1 s.2.1 s.2.2) (x21.2, ([] : (List (List Int))), 1)) (fun j => F_laws_w6Graph_k4 x11 j.1 j.2)))))
noncomputable def F_impl_inRange (a0 : Int) (a1 : Int) (a2 : Int) : Option Bool :=
  if a1 ≤ a0 then
    some (decide (a0 ≤ a2))
  else
    some false
noncomputable def F_impl_increasing_l1 (a0 : (List Int)) (a1 : Int) (i49 : Int) : Option (Int ⊕ (Unit ⊕ Bool)) :=
  if i49 < (a0.length : Int) then
    idx a0 i49 (fun x108 =>
      ck (a1 - 1) (fun _ =>
        cal (F_impl_inRange x108 0 (a1 - 1)) (fun x122 =>
          if ¬ (x122 = true) then
            some (.inr (.inr false))
          else
            if 0 < i49 then
              ck (i49 - 1) (fun _ =>
                idx a0 (i49 - 1) (fun x134 =>
                  if x108 ≤ x134 then
                    some (.inr (.inr false))
                  else
                    ck (i49 + 1) (fun _ =>
                      some (.inl (i49 + 1)))))
            else
              ck (i49 + 1) (fun _ =>
                some (.inl (i49 + 1))))))
  else
    some (.inr (.inl ()))
noncomputable def F_impl_increasing_k2   : Option Bool :=
  some true
noncomputable def F_impl_increasing (a0 : (List Int)) (a1 : Int) : Option Bool :=
  bnd (lp (fun s => F_impl_increasing_l1 a0 a1 s) 0) (fun j => F_impl_increasing_k2 )
noncomputable def F_slices_Index_int64_l1 (a0 : (List Int)) (a1 : Int) (i23 : Int) : Option (Int ⊕ (Unit ⊕ Int)) :=
  if i23 < (a0.length : Int) then
    idx a0 i23 (fun x56 =>
      if a1 = x56 then
        some (.inr (.inr i23))
      else
        ck (i23 + 1) (fun _ =>
          some (.inl (i23 + 1))))
  else
    some (.inr (.inl ()))
noncomputable def F_slices_Index_int64_k2   : Option Int :=
  some (-1)
noncomputable def F_slices_Index_int64 (a0 : (List Int)) (a1 : Int) : Option Int :=
  bnd (lp (fun s => F_slices_Index_int64_l1 a0 a1 s) 0) (fun j => F_slices_Index_int64_k2 )
noncomputable def F_slices_Contains_int64 (a0 : (List Int)) (a1 : Int) : Option Bool :=
  cal (F_slices_Index_int64 a0 a1) (fun x1 =>
    some (decide (0 ≤ x1)))
noncomputable def F_impl_GraphOk_l1 (a0_0 : (List (List Int))) (i56 : Int) : Option (Int ⊕ (Unit ⊕ Bool)) :=
  if i56 < (a0_0.length : Int) then
    idx a0_0 i56 (fun x108 =>
      cal (F_impl_increasing x108 (a0_0.length : Int)) (fun x122 =>
        if ¬ (x122 = true) then
          some (.inr (.inr false))
        else
          cal (F_slices_Contains_int64 x108 i56) (fun x131 =>
            if x131 = true then
              some (.inr (.inr false))
            else
              ck (i56 + 1) (fun _ =>
                some (.inl (i56 + 1))))))
  else
    some (.inr (.inl ()))
noncomputable def F_impl_GraphOk_l4 (a0_0 : (List (List Int))) (i311 : Int) (x487 : (List Int)) (i549 : Int) : Option (Int ⊕ (Unit ⊕ (Int ⊕ (Unit ⊕ Bool)))) :=
  if i549 < (x487.length : Int) then
    idx x487 i549 (fun x606 =>
      idx a0_0 x606 (fun x618 =>
        cal (F_slices_Contains_int64 x618 i311) (fun x632 =>
          if ¬ (x632 = true) then
            some (.inr (.inr (.inr (.inr false))))
          else
            ck (i549 + 1) (fun _ =>
              some (.inl (i549 + 1))))))
  else
    some (.inr (.inl ()))
noncomputable def F_impl_GraphOk_k5 (i311 : Int)  : Option (Int ⊕ (Unit ⊕ Bool)) :=
  ck (i311 + 1) (fun _ =>
    some (.inl (i311 + 1)))
noncomputable def F_impl_GraphOk_l3 (a0_0 : (List (List Int))) (i311 : Int) : Option (Int ⊕ (Unit ⊕ Bool)) :=
  if i311 < (a0_0.length : Int) then
    idx a0_0 i311 (fun x487 =>
      bnd (lp (fun s => F_impl_GraphOk_l4 a0_0 i311 x487 s) 0) (fun j => F_impl_GraphOk_k5 i311 ))
  else
    some (.inr (.inl ()))
noncomputable def F_impl_GraphOk_k6   : Option Bool :=
  some true
noncomputable def F_impl_GraphOk_k2 (a0_0 : (List (List Int)))  : Option Bool :=
  bnd (lp (fun s => F_impl_GraphOk_l3 a0_0 s) 0) (fun j => F_impl_GraphOk_k6 )
noncomputable def F_impl_GraphOk (a0_0 : (List (List Int))) : Option Bool :=
  if (a0_0.length : Int) < 1 then
    some false
  else
    if 16 < (a0_0.length : Int) then
      some false
    else
      bnd (lp (fun s => F_impl_GraphOk_l1 a0_0 s) 0) (fun j => F_impl_GraphOk_k2 a0_0 )
noncomputable def F_impl_isSmall (a0_0 : (List (List Int))) : Option Bool :=
  cal (F_impl_GraphOk a0_0) (fun x9 =>
    if x9 = true then
      some (decide ((a0_0.length : Int) ≤ 8))
    else
      some false)
noncomputable def F_impl_one (a0 : Int) : Option (BitVec 32) :=
  grd ((0 : Int) ≤ a0) (
    some ((1#32) <<< (a0 : Int).toNat))
noncomputable def F_impl_maskOf_l1 (a0 : (List Int)) (u29 : BitVec 32) (i30 : Int) : Option (((BitVec 32) × Int) ⊕ ((BitVec 32) ⊕ (BitVec 32))) :=
  if i30 < (a0.length : Int) then
    idx a0 i30 (fun x70 =>
      cal (F_impl_one x70) (fun x82 =>
        ck (i30 + 1) (fun _ =>
          some (.inl (u29 ||| x82, i30 + 1)))))
  else
    some (.inr (.inl u29))
noncomputable def F_impl_maskOf_k2  (u59 : BitVec 32) : Option (BitVec 32) :=
  some u59
noncomputable def F_impl_maskOf (a0 : (List Int)) : Option (BitVec 32) :=
  bnd (lp (fun s => F_impl_maskOf_l1 a0 s.1 s.2) (0#32, 0)) (fun j => F_impl_maskOf_k2 j)
noncomputable def F_impl_netsOf_l1 (a0_0 : (List (List Int))) (l84 : (List (BitVec 32))) (i87 : Int) : Option (((List (BitVec 32)) × Int) ⊕ ((List (BitVec 32)) ⊕ (List (BitVec 32)))) :=
  if i87 < (a0_0.length : Int) then
    idx a0_0 i87 (fun x162 =>
      cal (F_impl_maskOf x162) (fun x176 =>
        app l84 ([x176]) (fun _ =>
          ck (i87 + 1) (fun _ =>
            some (.inl ((l84 ++ ([x176])), i87 + 1))))))
  else
    some (.inr (.inl l84))
noncomputable def F_impl_netsOf_k2  (l149 : (List (BitVec 32))) : Option (List (BitVec 32)) :=
  some l149
noncomputable def F_impl_netsOf (a0_0 : (List (List Int))) : Option (List (BitVec 32)) :=
  bnd (lp (fun s => F_impl_netsOf_l1 a0_0 s.1 s.2) (([] : (List (BitVec 32))), 0)) (fun j => F_impl_netsOf_k2 j)
noncomputable def F_slices_Clone_implvset (a0 : (List (BitVec 32))) : Option (List (BitVec 32)) :=
  app ([] : (List (BitVec 32))) a0 (fun _ =>
    some (([] : (List (BitVec 32))) ++ a0))
noncomputable def F_impl_countPartitions_l1 (a0 : (List (BitVec 32))) (a1 : Int) (a2 : (List (BitVec 32))) (rc : (List (BitVec 32)) → Int → (List (BitVec 32)) → (List Int) → Option ((List (BitVec 32)) × (List Int))) (l182 : (List (BitVec 32))) (l186 : (List Int)) (i189 : Int) : Option (((List (BitVec 32)) × (List Int) × Int) ⊕ (((List (BitVec 32)) × (List Int)) ⊕ ((List (BitVec 32)) × (List Int)))) :=
  if i189 < (a2.length : Int) then
    idx l182 i189 (fun x355 =>
      idx a0 a1 (fun x366 =>
        if (x355 &&& x366) = (0#32) then
          idx l182 i189 (fun x381 =>
            cal (F_impl_one a1) (fun x394 =>
              idx l182 i189 (fun x396 =>
                ck (a1 + 1) (fun _ =>
                  cal (rc a0 (a1 + 1) (l182.set ((i189 : Int).toNat) (x381 ||| x394)) l186) (fun x421 =>
                    idx x421.1 i189 (fun x429 =>
                      cal (F_impl_one a1) (fun x442 =>
                        idx x421.1 i189 (fun x444 =>
                          ck (i189 + 1) (fun _ =>
                            some (.inl ((x421.1.set ((i189 : Int).toNat) (x429 &&& ~~~x442)), x421.2, i189 + 1)))))))))))
        else
          ck (i189 + 1) (fun _ =>
            some (.inl (l182, l186, i189 + 1)))))
  else
    some (.inr (.inl (l182, l186)))
noncomputable def F_impl_countPartitions_k2 (a0 : (List (BitVec 32))) (a1 : Int) (rc : (List (BitVec 32)) → Int → (List (BitVec 32)) → (List Int) → Option ((List (BitVec 32)) × (List Int))) (l334 : (List (BitVec 32))) (l338 : (List Int)) : Option ((List (BitVec 32)) × (List Int)) :=
  ck (a1 + 1) (fun _ =>
    cal (F_slices_Clone_implvset l334) (fun x476 =>
      cal (F_impl_one a1) (fun x492 =>
        app x476 ([x492]) (fun _ =>
          cal (rc a0 (a1 + 1) (x476 ++ ([x492])) l338) (fun x531 =>
            some (l334, x531.2))))))
noncomputable def F_impl_countPartitions_body (rc : (List (BitVec 32)) → Int → (List (BitVec 32)) → (List Int) → Option ((List (BitVec 32)) × (List Int))) (a0 : (List (BitVec 32))) (a1 : Int) (a2 : (List (BitVec 32))) (a3 : (List Int)) : Option ((List (BitVec 32)) × (List Int)) :=
  if a1 = (a0.length : Int) then
    idx a3 (a2.length : Int) (fun x2 =>
      ck (x2 + 1) (fun _ =>
        idx a3 (a2.length : Int) (fun x16 =>
          some (a2, (a3.set (((a2.length : Int) : Int).toNat) (x2 + 1))))))
  else
    bnd (lp (fun s => F_impl_countPartitions_l1 a0 a1 a2 rc s.1 s.2.1 s.2.2) (a2, a3, 0)) (fun j => F_impl_countPartitions_k2 a0 a1 rc j.1 j.2)
noncomputable def F_impl_countPartitions (a0 : (List (BitVec 32))) (a1 : Int) (a2 : (List (BitVec 32))) (a3 : (List Int)) : Option ((List (BitVec 32)) × (List Int)) := fixO (fun (rc : ((List (BitVec 32)) × Int × (List (BitVec 32)) × (List Int)) → Option ((List (BitVec 32)) × (List Int))) a => F_impl_countPartitions_body (fun z0 z1 z2 z3 => rc (z0, z1, z2, z3)) a.1 a.2.1 a.2.2.1 a.2.2.2) (a0, a1, a2, a3)
noncomputable def F_impl_PartitionsBy (a0_0 : (List (List Int))) : Option (List Int) :=
  cal (F_impl_isSmall a0_0) (fun x9 =>
    if ¬ (x9 = true) then
      some ([] : (List Int))
    else
      ck ((a0_0.length : Int) + 1) (fun _ =>
        mkS ((a0_0.length : Int) + 1) (0 : Int) (fun _ =>
          cal (F_impl_netsOf a0_0) (fun x31 =>
            cal (F_impl_countPartitions x31 0 ([] : (List (BitVec 32))) (List.replicate ((a0_0.length : Int) + 1 : Int).toNat (0 : Int))) (fun x60 =>
              some x60.2)))))
noncomputable def F_spec_l1Size (a0_0 : (List (List Int))) : Option Int :=
  some (a0_0.length : Int)
noncomputable def F_spec_l1Has_l1 (a0 : (List Int)) (a1 : Int) (i23 : Int) : Option (Int ⊕ (Unit ⊕ Bool)) :=
  if i23 < (a0.length : Int) then
    idx a0 i23 (fun x56 =>
      if x56 = a1 then
        some (.inr (.inr true))
      else
        ck (i23 + 1) (fun _ =>
          some (.inl (i23 + 1))))
  else
    some (.inr (.inl ()))
noncomputable def F_spec_l1Has_k2   : Option Bool :=
  some false
noncomputable def F_spec_l1Has (a0 : (List Int)) (a1 : Int) : Option Bool :=
  bnd (lp (fun s => F_spec_l1Has_l1 a0 a1 s) 0) (fun j => F_spec_l1Has_k2 )
noncomputable def F_spec_GraphOk_l1 (a0_0 : (List (List Int))) (x9 : Int) (i80 : Int) : Option (Int ⊕ (Unit ⊕ Bool)) :=
  if i80 < x9 then
    idx a0_0 i80 (fun x146 =>
      cal (F_spec_l1Set x146 x9) (fun x160 =>
        if ¬ (x160 = true) then
          some (.inr (.inr false))
        else
          idx a0_0 i80 (fun x169 =>
            cal (F_spec_l1Has x169 i80) (fun x183 =>
              if x183 = true then
                some (.inr (.inr false))
              else
                ck (i80 + 1) (fun _ =>
                  some (.inl (i80 + 1)))))))
  else
    some (.inr (.inl ()))
noncomputable def F_spec_GraphOk_l4 (a0_0 : (List (List Int))) (i436 : Int) (i762 : Int) : Option (Int ⊕ (Unit ⊕ (Int ⊕ (Unit ⊕ Bool)))) :=
  idx a0_0 i436 (fun x847 =>
    if i762 < (x847.length : Int) then
      idx a0_0 i436 (fun x862 =>
        idx x862 i762 (fun x876 =>
          idx a0_0 x876 (fun x888 =>
            cal (F_spec_l1Has x888 i436) (fun x904 =>
              if ¬ (x904 = true) then
                some (.inr (.inr (.inr (.inr false))))
              else
                ck (i762 + 1) (fun _ =>
                  some (.inl (i762 + 1)))))))
    else
      some (.inr (.inl ())))
noncomputable def F_spec_GraphOk_k5 (i436 : Int)  : Option (Int ⊕ (Unit ⊕ Bool)) :=
  ck (i436 + 1) (fun _ =>
    some (.inl (i436 + 1)))
noncomputable def F_spec_GraphOk_l3 (a0_0 : (List (List Int))) (x9 : Int) (i436 : Int) : Option (Int ⊕ (Unit ⊕ Bool)) :=
  if i436 < x9 then
    bnd (lp (fun s => F_spec_GraphOk_l4 a0_0 i436 s) 0) (fun j => F_spec_GraphOk_k5 i436 )
  else
    some (.inr (.inl ()))
noncomputable def F_spec_GraphOk_k6   : Option Bool :=
  some true
noncomputable def F_spec_GraphOk_k2 (a0_0 : (List (List Int))) (x9 : Int)  : Option Bool :=
  bnd (lp (fun s => F_spec_GraphOk_l3 a0_0 x9 s) 0) (fun j => F_spec_GraphOk_k6 )
noncomputable def F_spec_GraphOk (a0_0 : (List (List Int))) : Option Bool :=
  cal (F_spec_l1Size a0_0) (fun x9 =>
    cal (F_spec_l1In x9 1 16) (fun x16 =>
      if ¬ (x16 = true) then
        some false
      else
        bnd (lp (fun s => F_spec_GraphOk_l1 a0_0 x9 s) 0) (fun j => F_spec_GraphOk_k2 a0_0 x9 )))
noncomputable def F_spec_l26Small (a0_0 : (List (List Int))) : Option Bool :=
  cal (F_spec_GraphOk a0_0) (fun x9 =>
    if x9 = true then
      some (decide ((a0_0.length : Int) ≤ 8))
    else
      some false)
noncomputable def F_spec_l25Bits_l2 (a0_0 : (List (List Int))) (i284 : Int) (i625 : Int) (i627 : Int) : Option ((Int × Int) ⊕ (Int ⊕ (((List Int) × Int) ⊕ ((List Int) ⊕ (List Int))))) :=
  idx a0_0 i284 (fun x709 =>
    if i627 < (x709.length : Int) then
      idx a0_0 i284 (fun x724 =>
        idx x724 i627 (fun x738 =>
          grd ((0 : Int) ≤ x738) (
            ck (1 * 2 ^ (x738 : Int).toNat) (fun _ =>
              ck (i627 + 1) (fun _ =>
                some (.inl (i64or i625 (1 * 2 ^ (x738 : Int).toNat), i627 + 1)))))))
    else
      some (.inr (.inl i625)))
noncomputable def F_spec_l25Bits_k3 (l281 : (List Int)) (i284 : Int) (i696 : Int) : Option (((List Int) × Int) ⊕ ((List Int) ⊕ (List Int))) :=
  app l281 ([i696]) (fun _ =>
    ck (i284 + 1) (fun _ =>
      some (.inl ((l281 ++ ([i696])), i284 + 1))))
noncomputable def F_spec_l25Bits_l1 (a0_0 : (List (List Int))) (l281 : (List Int)) (i284 : Int) : Option (((List Int) × Int) ⊕ ((List Int) ⊕ (List Int))) :=
  if i284 < (a0_0.length : Int) then
    bnd (lp (fun s => F_spec_l25Bits_l2 a0_0 i284 s.1 s.2) (0, 0)) (fun j => F_spec_l25Bits_k3 l281 i284 j)
  else
    some (.inr (.inl l281))
noncomputable def F_spec_l25Bits_k4  (l539 : (List Int)) : Option (List Int) :=
  some l539
noncomputable def F_spec_l25Bits (a0_0 : (List (List Int))) : Option (List Int) :=
  bnd (lp (fun s => F_spec_l25Bits_l1 a0_0 s.1 s.2) (([] : (List Int)), 0)) (fun j => F_spec_l25Bits_k4 j)
noncomputable def F_spec_l26Ways_l1 (a0 : (List Int)) (a1 : Int) (a2 : (List Int)) (rc : (List Int) → Int → (List Int) → (List Int) → Option (List Int)) (l155 : (List Int)) (i158 : Int) : Option (((List Int) × Int) ⊕ ((List Int) ⊕ (List Int))) :=
  if i158 < (a2.length : Int) then
    idx a2 i158 (fun x290 =>
      idx a0 a1 (fun x302 =>
        if (i64and x290 x302) = 0 then
          cal (F_spec_l1Copy a2) (fun x318 =>
            idx x318 i158 (fun x333 =>
              grd ((0 : Int) ≤ a1) (
                ck (1 * 2 ^ (a1 : Int).toNat) (fun _ =>
                  idx x318 i158 (fun x348 =>
                    ck (a1 + 1) (fun _ =>
                      cal (rc a0 (a1 + 1) (x318.set ((i158 : Int).toNat) (i64or x333 (1 * 2 ^ (a1 : Int).toNat))) l155) (fun x371 =>
                        ck (i158 + 1) (fun _ =>
                          some (.inl (x371, i158 + 1))))))))))
        else
          ck (i158 + 1) (fun _ =>
            some (.inl (l155, i158 + 1)))))
  else
    some (.inr (.inl l155))
noncomputable def F_spec_l26Ways_k2 (a0 : (List Int)) (a1 : Int) (a2 : (List Int)) (rc : (List Int) → Int → (List Int) → (List Int) → Option (List Int)) (l275 : (List Int)) : Option (List Int) :=
  ck (a1 + 1) (fun _ =>
    cal (F_spec_l1Copy a2) (fun x384 =>
      grd ((0 : Int) ≤ a1) (
        ck (1 * 2 ^ (a1 : Int).toNat) (fun _ =>
          app x384 ([1 * 2 ^ (a1 : Int).toNat]) (fun _ =>
            cal (rc a0 (a1 + 1) (x384 ++ ([1 * 2 ^ (a1 : Int).toNat])) l275) (fun x436 =>
              some x436))))))
noncomputable def F_spec_l26Ways_body (rc : (List Int) → Int → (List Int) → (List Int) → Option (List Int)) (a0 : (List Int)) (a1 : Int) (a2 : (List Int)) (a3 : (List Int)) : Option (List Int) :=
  if a1 = (a0.length : Int) then
    idx a3 (a2.length : Int) (fun x2 =>
      ck (x2 + 1) (fun _ =>
        idx a3 (a2.length : Int) (fun x16 =>
          some (a3.set (((a2.length : Int) : Int).toNat) (x2 + 1)))))
  else
    bnd (lp (fun s => F_spec_l26Ways_l1 a0 a1 a2 rc s.1 s.2) (a3, 0)) (fun j => F_spec_l26Ways_k2 a0 a1 a2 rc j)
noncomputable def F_spec_l26Ways (a0 : (List Int)) (a1 : Int) (a2 : (List Int)) (a3 : (List Int)) : Option (List Int) := fixO (fun (rc : ((List Int) × Int × (List Int) × (List Int)) → Option (List Int)) a => F_spec_l26Ways_body (fun z0 z1 z2 z3 => rc (z0, z1, z2, z3)) a.1 a.2.1 a.2.2.1 a.2.2.2) (a0, a1, a2, a3)
noncomputable def F_spec_PartitionsBy (a0_0 : (List (List Int))) : Option (List Int) :=
  cal (F_spec_l26Small a0_0) (fun x9 =>
    if ¬ (x9 = true) then
      some ([] : (List Int))
    else
      ck ((a0_0.length : Int) + 1) (fun _ =>
        cal (F_spec_l25Bits a0_0) (fun xqr1o1_1 =>
          mkS ((a0_0.length : Int) + 1) (0 : Int) (fun _ =>
            cal (F_spec_l26Ways xqr1o1_1 0 ([] : (List Int)) (List.replicate ((a0_0.length : Int) + 1 : Int).toNat (0 : Int))) (fun xqr1o8_1 =>
              some xqr1o8_1)))))
noncomputable def F_laws_likeInts_l1 (a0 : (List Int)) (a1 : (List Int)) (i39 : Int) : Option (Int ⊕ (Unit ⊕ Bool)) :=
  if i39 < (a0.length : Int) then
    idx a0 i39 (fun x87 =>
      idx a1 i39 (fun x99 =>
        if x87 ≠ x99 then
          some (.inr (.inr false))
        else
          ck (i39 + 1) (fun _ =>
            some (.inl (i39 + 1)))))
  else
    some (.inr (.inl ()))
noncomputable def F_laws_likeInts_k2   : Option Bool :=
  some true
noncomputable def F_laws_likeInts (a0 : (List Int)) (a1 : (List Int)) : Option Bool :=
  if (a0.length : Int) ≠ (a1.length : Int) then
    some false
  else
    bnd (lp (fun s => F_laws_likeInts_l1 a0 a1 s) 0) (fun j => F_laws_likeInts_k2 )
noncomputable def F_spec_l26None_l1 (a0 : Int) (l54 : (List Int)) (i57 : Int) : Option (((List Int) × Int) ⊕ ((List Int) ⊕ (List Int))) :=
  if i57 < a0 then
    app l54 ([(-1)]) (fun _ =>
      ck (i57 + 1) (fun _ =>
        some (.inl ((l54 ++ ([(-1)])), i57 + 1))))
  else
    some (.inr (.inl l54))
noncomputable def F_spec_l26None_k2  (l99 : (List Int)) : Option (List Int) :=
  some l99
noncomputable def F_spec_l26None (a0 : Int) : Option (List Int) :=
  bnd (lp (fun s => F_spec_l26None_l1 a0 s.1 s.2) (([] : (List Int)), 0)) (fun j => F_spec_l26None_k2 j)
noncomputable def F_spec_l26Try_l2 (a0_0 : (List (List Int))) (a1 : (List Int)) (a2 : Int) (i313 : Int) (t694 : Bool) (i695 : Int) : Option ((Bool × Int) ⊕ (Bool ⊕ (Int ⊕ (Unit ⊕ ((List Int) × Bool))))) :=
  idx a0_0 a2 (fun x777 =>
    if i695 < (x777.length : Int) then
      if t694 = true then
        idx a0_0 a2 (fun x794 =>
          idx x794 i695 (fun x809 =>
            idx a1 x809 (fun x821 =>
              ck (i695 + 1) (fun _ =>
                some (.inl (decide (x821 ≠ i313), i695 + 1))))))
      else
        ck (i695 + 1) (fun _ =>
          some (.inl (false, i695 + 1)))
    else
      some (.inr (.inl t694)))
noncomputable def F_spec_l26Try_k4 (a0_0 : (List (List Int))) (a2 : Int) (a4 : Int) (rc : (List (List Int)) → (List Int) → Int → Int → Int → Option ((List Int) × Bool)) (i313 : Int) (x840 : (List Int)) (i883 : Int) : Option (Int ⊕ (Unit ⊕ ((List Int) × Bool))) :=
  ck (a2 + 1) (fun _ =>
    cal (rc a0_0 (x840.set ((a2 : Int).toNat) i313) (a2 + 1) i883 a4) (fun x896 =>
      if x896.2 = true then
        some (.inr (.inr (x896.1, true)))
      else
        ck (i313 + 1) (fun _ =>
          some (.inl (i313 + 1)))))
noncomputable def F_spec_l26Try_k3 (a0_0 : (List (List Int))) (a1 : (List Int)) (a2 : Int) (a3 : Int) (a4 : Int) (rc : (List (List Int)) → (List Int) → Int → Int → Int → Option ((List Int) × Bool)) (i313 : Int) (t767 : Bool) : Option (Int ⊕ (Unit ⊕ ((List Int) × Bool))) :=
  if ¬ (t767 = true) then
    ck (i313 + 1) (fun _ =>
      some (.inl (i313 + 1)))
  else
    cal (F_spec_l1Copy a1) (fun x840 =>
      idx x840 a2 (fun x853 =>
        bnd (
          if i313 = a3 then
            ck (a3 + 1) (fun _ =>
              some (.inl (a3 + 1)))
          else
            some (.inl a3)) (fun j => F_spec_l26Try_k4 a0_0 a2 a4 rc i313 x840 j)))
noncomputable def F_spec_l26Try_l1 (a0_0 : (List (List Int))) (a1 : (List Int)) (a2 : Int) (a3 : Int) (a4 : Int) (rc : (List (List Int)) → (List Int) → Int → Int → Int → Option ((List Int) × Bool)) (i313 : Int) : Option (Int ⊕ (Unit ⊕ ((List Int) × Bool))) :=
  if i313 < a4 then
    if i313 ≤ a3 then
      bnd (lp (fun s => F_spec_l26Try_l2 a0_0 a1 a2 i313 s.1 s.2) (true, 0)) (fun j => F_spec_l26Try_k3 a0_0 a1 a2 a3 a4 rc i313 j)
    else
      some (.inr (.inl ()))
  else
    some (.inr (.inl ()))
noncomputable def F_spec_l26Try_k5 (a1 : (List Int))  : Option ((List Int) × Bool) :=
  some (a1, false)
noncomputable def F_spec_l26Try_body (rc : (List (List Int)) → (List Int) → Int → Int → Int → Option ((List Int) × Bool)) (a0_0 : (List (List Int))) (a1 : (List Int)) (a2 : Int) (a3 : Int) (a4 : Int) : Option ((List Int) × Bool) :=
  if a2 = (a0_0.length : Int) then
    some (a1, true)
  else
    bnd (lp (fun s => F_spec_l26Try_l1 a0_0 a1 a2 a3 a4 rc s) 0) (fun j => F_spec_l26Try_k5 a1 )
noncomputable def F_spec_l26Try (a0_0 : (List (List Int))) (a1 : (List Int)) (a2 : Int) (a3 : Int) (a4 : Int) : Option ((List Int) × Bool) := fixO (fun (rc : ((List (List Int)) × (List Int) × Int × Int × Int) → Option ((List Int) × Bool)) a => F_spec_l26Try_body (fun z0 z1 z2 z3 z4 => rc (z0, z1, z2, z3, z4)) a.1 a.2.1 a.2.2.1 a.2.2.2.1 a.2.2.2.2) (a0_0, a1, a2, a3, a4)
noncomputable def F_spec_l26Best_l1 (a0_0 : (List (List Int))) (i63 : Int) : Option (Int ⊕ (Unit ⊕ ((List Int) × Int))) :=
  cal (F_spec_l26None (a0_0.length : Int)) (fun x126 =>
    cal (F_spec_l26Try a0_0 x126 0 0 i63) (fun x145 =>
      if x145.2 = true then
        some (.inr (.inr (x145.1, i63)))
      else
        ck (i63 + 1) (fun _ =>
          some (.inl (i63 + 1)))))
noncomputable def F_spec_l26Best (a0_0 : (List (List Int))) : Option ((List Int) × Int) :=
  bnd (lp (fun s => F_spec_l26Best_l1 a0_0 s) 0) (fun _ => none)
noncomputable def F_spec_ChromaticOf (a0_0 : (List (List Int))) : Option Int :=
  cal (F_spec_GraphOk a0_0) (fun x9 =>
    if ¬ (x9 = true) then
      some (-1)
    else
      cal (F_spec_l26Best a0_0) (fun x16 =>
        some x16.2))
noncomputable def F_impl_LeastNames_l1 (a0 : (List Int)) (l181 : (List Int)) (l187 : (List Int)) (i190 : Int) : Option (((List Int) × (List Int) × Int) ⊕ ((List Int) ⊕ (List Int))) :=
  if i190 < (a0.length : Int) then
    idx a0 i190 (fun x357 =>
      cal (F_slices_Contains_int64 l181 x357) (fun x372 =>
        if ¬ (x372 = true) then
          app l181 ([x357]) (fun _ =>
            cal (F_slices_Index_int64 (l181 ++ ([x357])) x357) (fun x409 =>
              app l187 ([x409]) (fun _ =>
                ck (i190 + 1) (fun _ =>
                  some (.inl ((l181 ++ ([x357])), (l187 ++ ([x409])), i190 + 1))))))
        else
          cal (F_slices_Index_int64 l181 x357) (fun x448 =>
            app l187 ([x448]) (fun _ =>
              ck (i190 + 1) (fun _ =>
                some (.inl (l181, (l187 ++ ([x448])), i190 + 1)))))))
  else
    some (.inr (.inl l187))
noncomputable def F_impl_LeastNames_k2  (l344 : (List Int)) : Option (List Int) :=
  some l344
noncomputable def F_impl_LeastNames (a0 : (List Int)) : Option (List Int) :=
  if 16 < (a0.length : Int) then
    some ([] : (List Int))
  else
    bnd (lp (fun s => F_impl_LeastNames_l1 a0 s.1 s.2.1 s.2.2) (([] : (List Int)), ([] : (List Int)), 0)) (fun j => F_impl_LeastNames_k2 j)
noncomputable def F_slices_Values_int64 (a0 : (List Int)) : Option (List Int) := some a0
noncomputable def F_slices_Collect_int64 (a0 : (List Int)) : Option (List Int) := if a0.length ≤ 1099511627776 then some a0 else none
noncomputable def F_slices_Sort_int64 (a0 : (List Int)) : Option (List Int) := if a0.length ≤ 1099511627776 then some (a0.mergeSort fun x y => decide (x ≤ y)) else none
noncomputable def F_slices_Sorted_int64 (a0 : (List Int)) : Option (List Int) :=
  cal (F_slices_Collect_int64 a0) (fun x1 =>
    cal (F_slices_Sort_int64 x1) (fun x12 =>
      some x12))
def cpt (zs : List Int) : List Int := ((List.range zs.length).filter fun j => decide (j = 0 ∨ zs.getD j 0 ≠ zs.getD (j - 1) 0)).map fun j => zs.getD j 0
noncomputable def F_slices_Compact_int64 (a0 : (List Int)) : Option ((List Int) × (List Int)) := if a0.length ≤ 1099511627776 then some (cpt a0, cpt a0 ++ List.replicate (a0.length - (cpt a0).length) 0) else none
noncomputable def F_impl_ColoursMany (a0 : (List Int)) : Option Int :=
  if 16 < (a0.length : Int) then
    some (-1)
  else
    cal (F_slices_Values_int64 a0) (fun x2 =>
      cal (F_slices_Sorted_int64 x2) (fun x9 =>
        cal (F_slices_Compact_int64 x9) (fun x20 =>
          some (x20.1.length : Int))))
noncomputable def F_laws_FnPartitions_l1 (x21 : ((List (List Int)) × ((List (BitVec 8)) × Int × Int))) (x49 : (List Int)) (i237 : Int) : Option (Int ⊕ (Unit ⊕ Bool)) :=
  if i237 ≤ (x21.1.length : Int) then
    idx x49 i237 (fun x309 =>
      cal (F_spec_ChromaticOf x21.1) (fun x323 =>
        if ((decide (0 < x309)) != (decide (x323 ≤ i237))) = true then
          some (.inr (.inr false))
        else
          ck (i237 + 1) (fun _ =>
            some (.inl (i237 + 1)))))
  else
    some (.inr (.inl ()))
noncomputable def F_laws_FnPartitions_l3 (x21 : ((List (List Int)) × ((List (BitVec 8)) × Int × Int))) (l418 : ((List (BitVec 8)) × Int × Int)) (l424 : (List Int)) (i427 : Int) : Option ((((List (BitVec 8)) × Int × Int) × (List Int) × Int) ⊕ ((List Int) ⊕ Bool)) :=
  if i427 < (x21.1.length : Int) then
    cal (F_laws_dice_below l418 5) (fun x508 =>
      ck (x508.1 * 7) (fun _ =>
        ck ((x508.1 * 7) - 9) (fun _ =>
          app l424 ([(x508.1 * 7) - 9]) (fun _ =>
            ck (i427 + 1) (fun _ =>
              some (.inl (x508.2, (l424 ++ ([(x508.1 * 7) - 9])), i427 + 1)))))))
  else
    some (.inr (.inl l424))
noncomputable def F_laws_FnPartitions_l6 (x21 : ((List (List Int)) × ((List (BitVec 8)) × Int × Int))) (l495 : (List Int)) (x552 : (List Int)) (i867 : Int) (i1210 : Int) : Option (Int ⊕ (Unit ⊕ (Int ⊕ (Unit ⊕ Bool)))) :=
  if i1210 < (x21.1.length : Int) then
    idx x552 i867 (fun x1300 =>
      idx x552 i1210 (fun x1312 =>
        idx l495 i867 (fun x1324 =>
          idx l495 i1210 (fun x1336 =>
            if ((decide (x1300 = x1312)) != (decide (x1324 = x1336))) = true then
              some (.inr (.inr (.inr (.inr false))))
            else
              ck (i1210 + 1) (fun _ =>
                some (.inl (i1210 + 1)))))))
  else
    some (.inr (.inl ()))
noncomputable def F_laws_FnPartitions_k7 (i867 : Int)  : Option (Int ⊕ (Unit ⊕ Bool)) :=
  ck (i867 + 1) (fun _ =>
    some (.inl (i867 + 1)))
noncomputable def F_laws_FnPartitions_l5 (x21 : ((List (List Int)) × ((List (BitVec 8)) × Int × Int))) (l495 : (List Int)) (x552 : (List Int)) (i867 : Int) : Option (Int ⊕ (Unit ⊕ Bool)) :=
  if i867 < (x21.1.length : Int) then
    bnd (lp (fun s => F_laws_FnPartitions_l6 x21 l495 x552 i867 s) 0) (fun j => F_laws_FnPartitions_k7 i867 )
  else
    some (.inr (.inl ()))
noncomputable def F_laws_FnPartitions_k8 (x552 : (List Int))  : Option Bool :=
  idx x552 0 (fun x1360 =>
    some (decide (x1360 = 0)))
noncomputable def F_laws_FnPartitions_k4 (x21 : ((List (List Int)) × ((List (BitVec 8)) × Int × Int))) (l495 : (List Int)) : Option Bool :=
  cal (F_impl_LeastNames l495) (fun x552 =>
    if (x552.length : Int) ≠ (x21.1.length : Int) then
      some false
    else
      cal (F_impl_ColoursMany x552) (fun x591 =>
        cal (F_impl_ColoursMany l495) (fun x601 =>
          if x591 ≠ x601 then
            some false
          else
            bnd (lp (fun s => F_laws_FnPartitions_l5 x21 l495 x552 s) 0) (fun j => F_laws_FnPartitions_k8 x552 ))))
noncomputable def F_laws_FnPartitions_k2 (x21 : ((List (List Int)) × ((List (BitVec 8)) × Int × Int)))  : Option Bool :=
  bnd (lp (fun s => F_laws_FnPartitions_l3 x21 s.1 s.2.1 s.2.2) (x21.2, ([] : (List Int)), 0)) (fun j => F_laws_FnPartitions_k4 x21 j)
noncomputable def F_laws_FnPartitions (a0 : (List (BitVec 8))) : Option Bool :=
  cal (F_laws_big a0) (fun x1 =>
    if x1 = true then
      some true
    else
      cal (F_laws_roll a0 806) (fun x8 =>
        cal (F_laws_w6Graph x8 8) (fun x21 =>
          cal (F_impl_PartitionsBy x21.1) (fun x49 =>
            ck ((x21.1.length : Int) + 1) (fun _ =>
              if (x49.length : Int) ≠ ((x21.1.length : Int) + 1) then
                some false
              else
                cal (F_spec_PartitionsBy x21.1) (fun x115 =>
                  cal (F_laws_likeInts x49 x115) (fun x139 =>
                    if ¬ (x139 = true) then
                      some false
                    else
                      idx x49 (x21.1.length : Int) (fun x146 =>
                        if x146 ≠ 1 then
                          some false
                        else
                          bnd (lp (fun s => F_laws_FnPartitions_l1 x21 x49 s) 0) (fun j => F_laws_FnPartitions_k2 x21 )))))))))
end Go.Proofs.Ytadjcnllmkdgiaa
