/- Functional forms, printed by gen.py. -/
import Derived.Test.YtadjcnllmkdgiaaDoorPure
namespace Go.Proofs.YtadjcnllmkdgiaaDoor

noncomputable def F_laws_big (a0 : (List (BitVec 8))) : Option Bool :=
  some (decide (4096 < (a0.length : Int)))
noncomputable def F_laws_roll_l1 (a0 : (List (BitVec 8))) (i48 : Int) (i50 : Int) : Option ((Int × Int) ⊕ (Int ⊕ ((List (BitVec 8)) × Int × Int))) :=
  if i50 < (a0.length : Int) then
    idx a0 i50 (fun x99 =>
      ck (i50 + 1) (fun _ =>
        some (.inl ((((((i48 * 1099511628211) % 18446744073709551616) + (BitVec.toNat x99 : Int)) % 18446744073709551616) + 3) % 18446744073709551616, i50 + 1))))
  else
    some (.inr (.inl i48))
noncomputable def F_laws_roll_k2 (a0 : (List (BitVec 8))) (i87 : Int) : Option ((List (BitVec 8)) × Int × Int) :=
  some (a0, 0, i87)
noncomputable def F_laws_roll (a0 : (List (BitVec 8))) (a1 : Int) : Option ((List (BitVec 8)) × Int × Int) :=
  grd ((0 : Int) ≤ (a0.length : Int)) (
    bnd (lp (fun s => F_laws_roll_l1 a0 s.1 s.2) ((((a1 * 7919) % 18446744073709551616) + (a0.length : Int)) % 18446744073709551616, 0)) (fun j => F_laws_roll_k2 a0 j))
noncomputable def F_laws_dice_below (a0 : ((List (BitVec 8)) × Int × Int)) (a1 : Int) : Option (Int × ((List (BitVec 8)) × Int × Int)) :=
  ck (((BitVec.ofInt 64 (((((a0.2.2 * 6364136223846793005) % 18446744073709551616) + 1442695040888963407) % 18446744073709551616) / 2 ^ (33 : Int).toNat) &&& BitVec.ofInt 64 16777215).toNat : Int)) (fun _ =>
    if a0.2.1 < (a0.1.length : Int) then
      idx a0.1 a0.2.1 (fun x11 =>
        ck (((BitVec.ofInt 64 (((((a0.2.2 * 6364136223846793005) % 18446744073709551616) + 1442695040888963407) % 18446744073709551616) / 2 ^ (33 : Int).toNat) &&& BitVec.ofInt 64 16777215).toNat : Int) + (BitVec.toNat x11 : Int)) (fun _ =>
          ck (a0.2.1 + 1) (fun _ =>
            grd ((0 : Int) ≤ (((BitVec.ofInt 64 (((((a0.2.2 * 6364136223846793005) % 18446744073709551616) + 1442695040888963407) % 18446744073709551616) / 2 ^ (33 : Int).toNat) &&& BitVec.ofInt 64 16777215).toNat : Int) + (BitVec.toNat x11 : Int)) ∧ (0 : Int) < a1) (
              some ((((BitVec.ofInt 64 (((((a0.2.2 * 6364136223846793005) % 18446744073709551616) + 1442695040888963407) % 18446744073709551616) / 2 ^ (33 : Int).toNat) &&& BitVec.ofInt 64 16777215).toNat : Int) + (BitVec.toNat x11 : Int)) % a1, (a0.1, a0.2.1 + 1, (((a0.2.2 * 6364136223846793005) % 18446744073709551616) + 1442695040888963407) % 18446744073709551616))))))
    else
      grd ((0 : Int) ≤ ((BitVec.ofInt 64 (((((a0.2.2 * 6364136223846793005) % 18446744073709551616) + 1442695040888963407) % 18446744073709551616) / 2 ^ (33 : Int).toNat) &&& BitVec.ofInt 64 16777215).toNat : Int) ∧ (0 : Int) < a1) (
        some (((BitVec.ofInt 64 (((((a0.2.2 * 6364136223846793005) % 18446744073709551616) + 1442695040888963407) % 18446744073709551616) / 2 ^ (33 : Int).toNat) &&& BitVec.ofInt 64 16777215).toNat : Int) % a1, (a0.1, a0.2.1, (((a0.2.2 * 6364136223846793005) % 18446744073709551616) + 1442695040888963407) % 18446744073709551616))))
noncomputable def F_spec_l1In (a0 : Int) (a1 : Int) (a2 : Int) : Option Bool :=
  if a1 ≤ a0 then
    some (decide (a0 ≤ a2))
  else
    some false
noncomputable def F_spec_l1Empty_l1 (a0 : Int) (l128 : (List (List Int))) (i131 : Int) : Option (((List (List Int)) × Int) ⊕ ((List (List Int)) ⊕ (List (List Int)))) :=
  if i131 < a0 then
    app l128 ([([] : (List Int))]) (fun _ =>
      ck (i131 + 1) (fun _ =>
        some (.inl ((l128 ++ ([([] : (List Int))])), i131 + 1))))
  else
    some (.inr (.inl l128))
noncomputable def F_spec_l1Empty_k2  (l231 : (List (List Int))) : Option (List (List Int)) :=
  some l231
noncomputable def F_spec_l1Empty (a0 : Int) : Option (List (List Int)) :=
  bnd (lp (fun s => F_spec_l1Empty_l1 a0 s.1 s.2) (([] : (List (List Int))), 0)) (fun j => F_spec_l1Empty_k2 j)
noncomputable def F_spec_l1Set_l1 (a0 : (List Int)) (a1 : Int) (i69 : Int) : Option (Int ⊕ (Unit ⊕ Bool)) :=
  if i69 < (a0.length : Int) then
    idx a0 i69 (fun x147 =>
      ck (a1 - 1) (fun _ =>
        cal (F_spec_l1In x147 0 (a1 - 1)) (fun x163 =>
          if ¬ (x163 = true) then
            some (.inr (.inr false))
          else
            if 0 < i69 then
              idx a0 i69 (fun x172 =>
                ck (i69 - 1) (fun _ =>
                  idx a0 (i69 - 1) (fun x186 =>
                    if x172 ≤ x186 then
                      some (.inr (.inr false))
                    else
                      ck (i69 + 1) (fun _ =>
                        some (.inl (i69 + 1))))))
            else
              ck (i69 + 1) (fun _ =>
                some (.inl (i69 + 1))))))
  else
    some (.inr (.inl ()))
noncomputable def F_spec_l1Set_k2   : Option Bool :=
  some true
noncomputable def F_spec_l1Set (a0 : (List Int)) (a1 : Int) : Option Bool :=
  if a1 < (a0.length : Int) then
    some false
  else
    bnd (lp (fun s => F_spec_l1Set_l1 a0 a1 s) 0) (fun j => F_spec_l1Set_k2 )
noncomputable def F_spec_l1Copy (a0 : (List Int)) : Option (List Int) :=
  app ([] : (List Int)) a0 (fun _ =>
    some (([] : (List Int)) ++ a0))
noncomputable def F_spec_l1Into_l1 (a0 : (List Int)) (a1 : Int) (i23 : Int) : Option (Int ⊕ (Int ⊕ (List Int))) :=
  if i23 < (a0.length : Int) then
    idx a0 i23 (fun x58 =>
      if x58 < a1 then
        ck (i23 + 1) (fun _ =>
          some (.inl (i23 + 1)))
      else
        some (.inr (.inl i23)))
  else
    some (.inr (.inl i23))
noncomputable def F_spec_l1Into_k2 (a0 : (List Int)) (a1 : Int) (i46 : Int) : Option (List Int) :=
  if i46 < (a0.length : Int) then
    idx a0 i46 (fun x74 =>
      if x74 = a1 then
        some a0
      else
        slc a0 0 i46 (fun _ =>
          cal (F_spec_l1Copy ((a0.drop (0 : Int).toNat).take ((i46 : Int).toNat - (0 : Int).toNat))) (fun x95 =>
            app x95 ([a1]) (fun _ =>
              slc a0 i46 (a0.length : Int) (fun _ =>
                app (x95 ++ ([a1])) ((a0.drop (i46 : Int).toNat).take (((a0.length : Int) : Int).toNat - (i46 : Int).toNat)) (fun _ =>
                  some ((x95 ++ ([a1])) ++ ((a0.drop (i46 : Int).toNat).take (((a0.length : Int) : Int).toNat - (i46 : Int).toNat)))))))))
  else
    slc a0 0 i46 (fun _ =>
      cal (F_spec_l1Copy ((a0.drop (0 : Int).toNat).take ((i46 : Int).toNat - (0 : Int).toNat))) (fun x159 =>
        app x159 ([a1]) (fun _ =>
          slc a0 i46 (a0.length : Int) (fun _ =>
            app (x159 ++ ([a1])) ((a0.drop (i46 : Int).toNat).take (((a0.length : Int) : Int).toNat - (i46 : Int).toNat)) (fun _ =>
              some ((x159 ++ ([a1])) ++ ((a0.drop (i46 : Int).toNat).take (((a0.length : Int) : Int).toNat - (i46 : Int).toNat))))))))
noncomputable def F_spec_l1Into (a0 : (List Int)) (a1 : Int) : Option (List Int) :=
  bnd (lp (fun s => F_spec_l1Into_l1 a0 a1 s) 0) (fun j => F_spec_l1Into_k2 a0 a1 j)
noncomputable def F_spec_l1Link (a0_0 : (List (List Int))) (a1 : Int) (a2 : Int) : Option (List (List Int)) :=
  idx a0_0 a1 (fun x23 =>
    cal (F_spec_l1Into x23 a2) (fun x44 =>
      idx a0_0 a1 (fun x58 =>
        idx (a0_0.set ((a1 : Int).toNat) x44) a2 (fun x91 =>
          cal (F_spec_l1Into x91 a1) (fun x112 =>
            idx (a0_0.set ((a1 : Int).toNat) x44) a2 (fun x126 =>
              some ((a0_0.set ((a1 : Int).toNat) x44).set ((a2 : Int).toNat) x112)))))))
noncomputable def F_spec_GraphOf_l1 (a0 : Int) (a1 : (List (List Int))) (l302 : (List (List Int))) (i305 : Int) : Option (((List (List Int)) × Int) ⊕ ((List (List Int)) ⊕ ((List (List Int)) × Bool))) :=
  if i305 < (a1.length : Int) then
    idx a1 i305 (fun x587 =>
      if (x587.length : Int) ≠ 2 then
        some (.inr (.inr (([] : (List (List Int))), false)))
      else
        idx a1 i305 (fun x609 =>
          cal (F_spec_l1Set x609 a0) (fun x624 =>
            if ¬ (x624 = true) then
              some (.inr (.inr (([] : (List (List Int))), false)))
            else
              idx a1 i305 (fun x637 =>
                idx x637 0 (fun x652 =>
                  idx a1 i305 (fun x664 =>
                    idx x664 1 (fun x679 =>
                      cal (F_spec_l1Link l302 x652 x679) (fun x694 =>
                        ck (i305 + 1) (fun _ =>
                          some (.inl (x694, i305 + 1)))))))))))
  else
    some (.inr (.inl l302))
noncomputable def F_spec_GraphOf_k2  (l522 : (List (List Int))) : Option ((List (List Int)) × Bool) :=
  some (l522, true)
noncomputable def F_spec_GraphOf (a0 : Int) (a1 : (List (List Int))) : Option ((List (List Int)) × Bool) :=
  cal (F_spec_l1In a0 1 16) (fun x25 =>
    if ¬ (x25 = true) then
      some (([] : (List (List Int))), false)
    else
      if 120 < (a1.length : Int) then
        some (([] : (List (List Int))), false)
      else
        cal (F_spec_l1Empty a0) (fun x41 =>
          bnd (lp (fun s => F_spec_GraphOf_l1 a0 a1 s.1 s.2) (x41, 0)) (fun j => F_spec_GraphOf_k2 j)))
noncomputable def F_laws_w6Graph_l2 (x21 : (Int × ((List (BitVec 8)) × Int × Int))) (i423 : Int) (l919 : ((List (BitVec 8)) × Int × Int)) (l930 : (List (List Int))) (i933 : Int) : Option ((((List (BitVec 8)) × Int × Int) × (List (List Int)) × Int) ⊕ ((((List (BitVec 8)) × Int × Int) × (List (List Int))) ⊕ ((((List (BitVec 8)) × Int × Int) × (List (List Int)) × Int) ⊕ (((List (List Int)) × ((List (BitVec 8)) × Int × Int)) ⊕ ((List (List Int)) × ((List (BitVec 8)) × Int × Int)))))) :=
  if i933 < i423 then
    cal (F_laws_dice_below l919 4) (fun x1064 =>
      if x1064.1 < (1 + x21.1) then
        app l930 ([[i933, i423]]) (fun _ =>
          ck (i933 + 1) (fun _ =>
            some (.inl (x1064.2, (l930 ++ ([[i933, i423]])), i933 + 1))))
      else
        ck (i933 + 1) (fun _ =>
          some (.inl (x1064.2, l930, i933 + 1))))
  else
    some (.inr (.inl (l919, l930)))
noncomputable def F_laws_w6Graph_k3 (i423 : Int) (l1034 : ((List (BitVec 8)) × Int × Int)) (l1045 : (List (List Int))) : Option ((((List (BitVec 8)) × Int × Int) × (List (List Int)) × Int) ⊕ (((List (List Int)) × ((List (BitVec 8)) × Int × Int)) ⊕ ((List (List Int)) × ((List (BitVec 8)) × Int × Int)))) :=
  ck (i423 + 1) (fun _ =>
    some (.inl (l1034, l1045, i423 + 1)))
noncomputable def F_laws_w6Graph_l1 (x11 : (Int × ((List (BitVec 8)) × Int × Int))) (x21 : (Int × ((List (BitVec 8)) × Int × Int))) (l409 : ((List (BitVec 8)) × Int × Int)) (l420 : (List (List Int))) (i423 : Int) : Option ((((List (BitVec 8)) × Int × Int) × (List (List Int)) × Int) ⊕ (((List (List Int)) × ((List (BitVec 8)) × Int × Int)) ⊕ ((List (List Int)) × ((List (BitVec 8)) × Int × Int)))) :=
  if i423 < (1 + x11.1) then
    bnd (lp (fun s => F_laws_w6Graph_l2 x21 i423 s.1 s.2.1 s.2.2) (l409, l420, 0)) (fun j => F_laws_w6Graph_k3 i423 j.1 j.2)
  else
    some (.inr (.inl (l420, l409)))
noncomputable def F_laws_w6Graph_k4 (x11 : (Int × ((List (BitVec 8)) × Int × Int))) (l787 : (List (List Int))) (l791 : ((List (BitVec 8)) × Int × Int)) : Option ((List (List Int)) × ((List (BitVec 8)) × Int × Int)) :=
  cal (F_spec_GraphOf (1 + x11.1) l787) (fun x1134 =>
    some (x1134.1, l791))
noncomputable def F_laws_w6Graph (a0 : ((List (BitVec 8)) × Int × Int)) (a1 : Int) : Option ((List (List Int)) × ((List (BitVec 8)) × Int × Int)) :=
  cal (F_laws_dice_below a0 a1) (fun x11 =>
    ck (1 + x11.1) (fun _ =>
      cal (F_laws_dice_below x11.2 3) (fun x21 =>
        ck (1 + x21.1) (fun _ =>
          bnd (lp (fun s => F_laws_w6Graph_l1 x11 x21 s.1 s.2.1 s.2.2) (x21.2, ([] : (List (List Int))), 1)) (fun j => F_laws_w6Graph_k4 x11 j.1 j.2)))))
noncomputable def F_impl_inRange (a0 : Int) (a1 : Int) (a2 : Int) : Option Bool :=
  if a1 ≤ a0 then
    some (decide (a0 ≤ a2))
  else
    some false
noncomputable def F_impl_increasing_l1 (a0 : (List Int)) (a1 : Int) (i49 : Int) : Option (Int ⊕ (Unit ⊕ Bool)) :=
  if i49 < (a0.length : Int) then
    idx a0 i49 (fun x108 =>
      ck (a1 - 1) (fun _ =>
        cal (F_impl_inRange x108 0 (a1 - 1)) (fun x122 =>
          if ¬ (x122 = true) then
            some (.inr (.inr false))
          else
            if 0 < i49 then
              ck (i49 - 1) (fun _ =>
                idx a0 (i49 - 1) (fun x134 =>
                  if x108 ≤ x134 then
                    some (.inr (.inr false))
                  else
                    ck (i49 + 1) (fun _ =>
                      some (.inl (i49 + 1)))))
            else
              ck (i49 + 1) (fun _ =>
                some (.inl (i49 + 1))))))
  else
    some (.inr (.inl ()))
noncomputable def F_impl_increasing_k2   : Option Bool :=
  some true
noncomputable def F_impl_increasing (a0 : (List Int)) (a1 : Int) : Option Bool :=
  bnd (lp (fun s => F_impl_increasing_l1 a0 a1 s) 0) (fun j => F_impl_increasing_k2 )
noncomputable def F_slices_Index_int64_l1 (a0 : (List Int)) (a1 : Int) (i23 : Int) : Option (Int ⊕ (Unit ⊕ Int)) :=
  if i23 < (a0.length : Int) then
    idx a0 i23 (fun x56 =>
      if a1 = x56 then
        some (.inr (.inr i23))
      else
        ck (i23 + 1) (fun _ =>
          some (.inl (i23 + 1))))
  else
    some (.inr (.inl ()))
noncomputable def F_slices_Index_int64_k2   : Option Int :=
  some (-1)
noncomputable def F_slices_Index_int64 (a0 : (List Int)) (a1 : Int) : Option Int :=
  bnd (lp (fun s => F_slices_Index_int64_l1 a0 a1 s) 0) (fun j => F_slices_Index_int64_k2 )
noncomputable def F_slices_Contains_int64 (a0 : (List Int)) (a1 : Int) : Option Bool :=
  cal (F_slices_Index_int64 a0 a1) (fun x1 =>
    some (decide (0 ≤ x1)))
noncomputable def F_impl_GraphOk_l1 (a0_0 : (List (List Int))) (i56 : Int) : Option (Int ⊕ (Unit ⊕ Bool)) :=
  if i56 < (a0_0.length : Int) then
    idx a0_0 i56 (fun x108 =>
      cal (F_impl_increasing x108 (a0_0.length : Int)) (fun x122 =>
        if ¬ (x122 = true) then
          some (.inr (.inr false))
        else
          cal (F_slices_Contains_int64 x108 i56) (fun x131 =>
            if x131 = true then
              some (.inr (.inr false))
            else
              ck (i56 + 1) (fun _ =>
                some (.inl (i56 + 1))))))
  else
    some (.inr (.inl ()))
noncomputable def F_impl_GraphOk_l4 (a0_0 : (List (List Int))) (i311 : Int) (x487 : (List Int)) (i549 : Int) : Option (Int ⊕ (Unit ⊕ (Int ⊕ (Unit ⊕ Bool)))) :=
  if i549 < (x487.length : Int) then
    idx x487 i549 (fun x606 =>
      idx a0_0 x606 (fun x618 =>
        cal (F_slices_Contains_int64 x618 i311) (fun x632 =>
          if ¬ (x632 = true) then
            some (.inr (.inr (.inr (.inr false))))
          else
            ck (i549 + 1) (fun _ =>
              some (.inl (i549 + 1))))))
  else
    some (.inr (.inl ()))
noncomputable def F_impl_GraphOk_k5 (i311 : Int)  : Option (Int ⊕ (Unit ⊕ Bool)) :=
  ck (i311 + 1) (fun _ =>
    some (.inl (i311 + 1)))
noncomputable def F_impl_GraphOk_l3 (a0_0 : (List (List Int))) (i311 : Int) : Option (Int ⊕ (Unit ⊕ Bool)) :=
  if i311 < (a0_0.length : Int) then
    idx a0_0 i311 (fun x487 =>
      bnd (lp (fun s => F_impl_GraphOk_l4 a0_0 i311 x487 s) 0) (fun j => F_impl_GraphOk_k5 i311 ))
  else
    some (.inr (.inl ()))
noncomputable def F_impl_GraphOk_k6   : Option Bool :=
  some true
noncomputable def F_impl_GraphOk_k2 (a0_0 : (List (List Int)))  : Option Bool :=
  bnd (lp (fun s => F_impl_GraphOk_l3 a0_0 s) 0) (fun j => F_impl_GraphOk_k6 )
noncomputable def F_impl_GraphOk (a0_0 : (List (List Int))) : Option Bool :=
  if (a0_0.length : Int) < 1 then
    some false
  else
    if 16 < (a0_0.length : Int) then
      some false
    else
      bnd (lp (fun s => F_impl_GraphOk_l1 a0_0 s) 0) (fun j => F_impl_GraphOk_k2 a0_0 )
noncomputable def F_impl_one (a0 : Int) : Option (BitVec 32) :=
  grd ((0 : Int) ≤ a0) (
    some ((1#32) <<< (a0 : Int).toNat))
noncomputable def F_impl_maskOf_l1 (a0 : (List Int)) (u29 : BitVec 32) (i30 : Int) : Option (((BitVec 32) × Int) ⊕ ((BitVec 32) ⊕ (BitVec 32))) :=
  if i30 < (a0.length : Int) then
    idx a0 i30 (fun x70 =>
      cal (F_impl_one x70) (fun x82 =>
        ck (i30 + 1) (fun _ =>
          some (.inl (u29 ||| x82, i30 + 1)))))
  else
    some (.inr (.inl u29))
noncomputable def F_impl_maskOf_k2  (u59 : BitVec 32) : Option (BitVec 32) :=
  some u59
noncomputable def F_impl_maskOf (a0 : (List Int)) : Option (BitVec 32) :=
  bnd (lp (fun s => F_impl_maskOf_l1 a0 s.1 s.2) (0#32, 0)) (fun j => F_impl_maskOf_k2 j)
noncomputable def F_impl_netsOf_l1 (a0_0 : (List (List Int))) (l84 : (List (BitVec 32))) (i87 : Int) : Option (((List (BitVec 32)) × Int) ⊕ ((List (BitVec 32)) ⊕ (List (BitVec 32)))) :=
  if i87 < (a0_0.length : Int) then
    idx a0_0 i87 (fun x162 =>
      cal (F_impl_maskOf x162) (fun x176 =>
        app l84 ([x176]) (fun _ =>
          ck (i87 + 1) (fun _ =>
            some (.inl ((l84 ++ ([x176])), i87 + 1))))))
  else
    some (.inr (.inl l84))
noncomputable def F_impl_netsOf_k2  (l149 : (List (BitVec 32))) : Option (List (BitVec 32)) :=
  some l149
noncomputable def F_impl_netsOf (a0_0 : (List (List Int))) : Option (List (BitVec 32)) :=
  bnd (lp (fun s => F_impl_netsOf_l1 a0_0 s.1 s.2) (([] : (List (BitVec 32))), 0)) (fun j => F_impl_netsOf_k2 j)
noncomputable def F_impl_colourOn_l1 (a0 : (List (BitVec 32))) (a1 : Int) (a2 : (List (BitVec 32))) (a3 : Int) (rc : (List (BitVec 32)) → Int → (List (BitVec 32)) → Int → Option (Bool × (List (BitVec 32)))) (l143 : (List (BitVec 32))) (i146 : Int) : Option (((List (BitVec 32)) × Int) ⊕ ((List (BitVec 32)) ⊕ (Bool × (List (BitVec 32))))) :=
  if i146 < (min (a3 + 1) (a2.length : Int)) then
    idx l143 i146 (fun x294 =>
      idx a0 a1 (fun x305 =>
        if (x294 &&& x305) ≠ (0#32) then
          ck (i146 + 1) (fun _ =>
            some (.inl (l143, i146 + 1)))
        else
          idx l143 i146 (fun x322 =>
            cal (F_impl_one a1) (fun x335 =>
              idx l143 i146 (fun x337 =>
                ck (a1 + 1) (fun _ =>
                  ck (i146 + 1) (fun _ =>
                    cal (rc a0 (a1 + 1) (l143.set ((i146 : Int).toNat) (x322 ||| x335)) (max a3 (i146 + 1))) (fun x364 =>
                      if x364.1 = true then
                        some (.inr (.inr (true, x364.2)))
                      else
                        idx x364.2 i146 (fun x374 =>
                          cal (F_impl_one a1) (fun x387 =>
                            idx x364.2 i146 (fun x389 =>
                              ck (i146 + 1) (fun _ =>
                                some (.inl ((x364.2.set ((i146 : Int).toNat) (x374 &&& ~~~x387)), i146 + 1))))))))))))))
  else
    some (.inr (.inl l143))
noncomputable def F_impl_colourOn_k2  (l281 : (List (BitVec 32))) : Option (Bool × (List (BitVec 32))) :=
  some (false, l281)
noncomputable def F_impl_colourOn_body (rc : (List (BitVec 32)) → Int → (List (BitVec 32)) → Int → Option (Bool × (List (BitVec 32)))) (a0 : (List (BitVec 32))) (a1 : Int) (a2 : (List (BitVec 32))) (a3 : Int) : Option (Bool × (List (BitVec 32))) :=
  if a1 = (a0.length : Int) then
    some (true, a2)
  else
    ck (a3 + 1) (fun _ =>
      bnd (lp (fun s => F_impl_colourOn_l1 a0 a1 a2 a3 rc s.1 s.2) (a2, 0)) (fun j => F_impl_colourOn_k2 j))
noncomputable def F_impl_colourOn (a0 : (List (BitVec 32))) (a1 : Int) (a2 : (List (BitVec 32))) (a3 : Int) : Option (Bool × (List (BitVec 32))) := fixO (fun (rc : ((List (BitVec 32)) × Int × (List (BitVec 32)) × Int) → Option (Bool × (List (BitVec 32)))) a => F_impl_colourOn_body (fun z0 z1 z2 z3 => rc (z0, z1, z2, z3)) a.1 a.2.1 a.2.2.1 a.2.2.2) (a0, a1, a2, a3)
noncomputable def F_impl_bestClasses_l1 (a0 : (List (BitVec 32))) (i28 : Int) : Option (Int ⊕ (Unit ⊕ (List (BitVec 32)))) :=
  mkS i28 (0 : BitVec 32) (fun _ =>
    cal (F_impl_colourOn a0 0 (List.replicate (i28 : Int).toNat (0 : BitVec 32)) 0) (fun x76 =>
      if x76.1 = true then
        some (.inr (.inr x76.2))
      else
        ck (i28 + 1) (fun _ =>
          some (.inl (i28 + 1)))))
noncomputable def F_impl_bestClasses (a0 : (List (BitVec 32))) : Option (List (BitVec 32)) :=
  bnd (lp (fun s => F_impl_bestClasses_l1 a0 s) 1) (fun _ => none)
noncomputable def F_math_bits_TrailingZeros32 (a0 : BitVec 32) : Option Int :=
  if a0 = (0#32) then
    some 32
  else
    idx deBruijn32 (BitVec.toNat (((a0 &&& (-a0)) * (125613361#32)) >>> (27 : Int).toNat) : Int) (fun x2 =>
      some (BitVec.toNat x2 : Int))
noncomputable def F_impl_vset_least (a0 : BitVec 32) : Option Int :=
  cal (F_math_bits_TrailingZeros32 a0) (fun x1 =>
    some x1)
noncomputable def F_impl_vset_list_l1  (u55 : BitVec 32) (l59 : (List Int)) : Option (((BitVec 32) × (List Int)) ⊕ ((List Int) ⊕ (List Int))) :=
  if u55 ≠ (0#32) then
    cal (F_impl_vset_least u55) (fun x119 =>
      app l59 ([x119]) (fun _ =>
        some (.inl (u55 &&& (u55 - (1#32)), (l59 ++ ([x119]))))))
  else
    some (.inr (.inl l59))
noncomputable def F_impl_vset_list_k2  (l106 : (List Int)) : Option (List Int) :=
  some l106
noncomputable def F_impl_vset_list (a0 : BitVec 32) : Option (List Int) :=
  bnd (lp (fun s => F_impl_vset_list_l1 s.1 s.2) (a0, ([] : (List Int)))) (fun j => F_impl_vset_list_k2 j)
noncomputable def F_impl_BestColours_l2 (i328 : Int) (x605 : (List Int)) (l695 : (List Int)) (i704 : Int) : Option (((List Int) × Int) ⊕ ((List Int) ⊕ (((List Int) × Int) ⊕ ((List Int) ⊕ (List Int))))) :=
  if i704 < (x605.length : Int) then
    idx x605 i704 (fun x789 =>
      idx l695 x789 (fun x801 =>
        ck (i704 + 1) (fun _ =>
          some (.inl ((l695.set ((x789 : Int).toNat) i328), i704 + 1)))))
  else
    some (.inr (.inl l695))
noncomputable def F_impl_BestColours_k3 (i328 : Int) (l771 : (List Int)) : Option (((List Int) × Int) ⊕ ((List Int) ⊕ (List Int))) :=
  ck (i328 + 1) (fun _ =>
    some (.inl (l771, i328 + 1)))
noncomputable def F_impl_BestColours_l1 (x47 : (List (BitVec 32))) (l322 : (List Int)) (i328 : Int) : Option (((List Int) × Int) ⊕ ((List Int) ⊕ (List Int))) :=
  if i328 < (x47.length : Int) then
    idx x47 i328 (fun x594 =>
      cal (F_impl_vset_list x594) (fun x605 =>
        bnd (lp (fun s => F_impl_BestColours_l2 i328 x605 s.1 s.2) (l322, 0)) (fun j => F_impl_BestColours_k3 i328 j)))
  else
    some (.inr (.inl l322))
noncomputable def F_impl_BestColours_k4  (l581 : (List Int)) : Option (List Int) :=
  some l581
noncomputable def F_impl_BestColours (a0_0 : (List (List Int))) : Option (List Int) :=
  cal (F_impl_GraphOk a0_0) (fun x9 =>
    if ¬ (x9 = true) then
      some ([] : (List Int))
    else
      mkS (a0_0.length : Int) (0 : Int) (fun _ =>
        cal (F_impl_netsOf a0_0) (fun x29 =>
          cal (F_impl_bestClasses x29) (fun x47 =>
            bnd (lp (fun s => F_impl_BestColours_l1 x47 s.1 s.2) ((List.replicate ((a0_0.length : Int) : Int).toNat (0 : Int)), 0)) (fun j => F_impl_BestColours_k4 j)))))
noncomputable def F_impl_ChromaticOf (a0_0 : (List (List Int))) : Option Int :=
  cal (F_impl_GraphOk a0_0) (fun x9 =>
    if ¬ (x9 = true) then
      some (-1)
    else
      cal (F_impl_netsOf a0_0) (fun x16 =>
        cal (F_impl_bestClasses x16) (fun x32 =>
          some (x32.length : Int))))
noncomputable def F_spec_l1Size (a0_0 : (List (List Int))) : Option Int :=
  some (a0_0.length : Int)
noncomputable def F_spec_l1Has_l1 (a0 : (List Int)) (a1 : Int) (i23 : Int) : Option (Int ⊕ (Unit ⊕ Bool)) :=
  if i23 < (a0.length : Int) then
    idx a0 i23 (fun x56 =>
      if x56 = a1 then
        some (.inr (.inr true))
      else
        ck (i23 + 1) (fun _ =>
          some (.inl (i23 + 1))))
  else
    some (.inr (.inl ()))
noncomputable def F_spec_l1Has_k2   : Option Bool :=
  some false
noncomputable def F_spec_l1Has (a0 : (List Int)) (a1 : Int) : Option Bool :=
  bnd (lp (fun s => F_spec_l1Has_l1 a0 a1 s) 0) (fun j => F_spec_l1Has_k2 )
noncomputable def F_spec_GraphOk_l1 (a0_0 : (List (List Int))) (x9 : Int) (i80 : Int) : Option (Int ⊕ (Unit ⊕ Bool)) :=
  if i80 < x9 then
    idx a0_0 i80 (fun x146 =>
      cal (F_spec_l1Set x146 x9) (fun x160 =>
        if ¬ (x160 = true) then
          some (.inr (.inr false))
        else
          idx a0_0 i80 (fun x169 =>
            cal (F_spec_l1Has x169 i80) (fun x183 =>
              if x183 = true then
                some (.inr (.inr false))
              else
                ck (i80 + 1) (fun _ =>
                  some (.inl (i80 + 1)))))))
  else
    some (.inr (.inl ()))
noncomputable def F_spec_GraphOk_l4 (a0_0 : (List (List Int))) (i436 : Int) (i762 : Int) : Option (Int ⊕ (Unit ⊕ (Int ⊕ (Unit ⊕ Bool)))) :=
  idx a0_0 i436 (fun x847 =>
    if i762 < (x847.length : Int) then
      idx a0_0 i436 (fun x862 =>
        idx x862 i762 (fun x876 =>
          idx a0_0 x876 (fun x888 =>
            cal (F_spec_l1Has x888 i436) (fun x904 =>
              if ¬ (x904 = true) then
                some (.inr (.inr (.inr (.inr false))))
              else
                ck (i762 + 1) (fun _ =>
                  some (.inl (i762 + 1)))))))
    else
      some (.inr (.inl ())))
noncomputable def F_spec_GraphOk_k5 (i436 : Int)  : Option (Int ⊕ (Unit ⊕ Bool)) :=
  ck (i436 + 1) (fun _ =>
    some (.inl (i436 + 1)))
noncomputable def F_spec_GraphOk_l3 (a0_0 : (List (List Int))) (x9 : Int) (i436 : Int) : Option (Int ⊕ (Unit ⊕ Bool)) :=
  if i436 < x9 then
    bnd (lp (fun s => F_spec_GraphOk_l4 a0_0 i436 s) 0) (fun j => F_spec_GraphOk_k5 i436 )
  else
    some (.inr (.inl ()))
noncomputable def F_spec_GraphOk_k6   : Option Bool :=
  some true
noncomputable def F_spec_GraphOk_k2 (a0_0 : (List (List Int))) (x9 : Int)  : Option Bool :=
  bnd (lp (fun s => F_spec_GraphOk_l3 a0_0 x9 s) 0) (fun j => F_spec_GraphOk_k6 )
noncomputable def F_spec_GraphOk (a0_0 : (List (List Int))) : Option Bool :=
  cal (F_spec_l1Size a0_0) (fun x9 =>
    cal (F_spec_l1In x9 1 16) (fun x16 =>
      if ¬ (x16 = true) then
        some false
      else
        bnd (lp (fun s => F_spec_GraphOk_l1 a0_0 x9 s) 0) (fun j => F_spec_GraphOk_k2 a0_0 x9 )))
noncomputable def F_spec_ColoursOk_l2 (a0_0 : (List (List Int))) (a1 : (List Int)) (i306 : Int) (i700 : Int) : Option (Int ⊕ (Unit ⊕ (Int ⊕ (Unit ⊕ Bool)))) :=
  idx a0_0 i306 (fun x791 =>
    if i700 < (x791.length : Int) then
      idx a0_0 i306 (fun x806 =>
        idx x806 i700 (fun x820 =>
          idx a1 x820 (fun x832 =>
            idx a1 i306 (fun x844 =>
              if x832 = x844 then
                some (.inr (.inr (.inr (.inr false))))
              else
                ck (i700 + 1) (fun _ =>
                  some (.inl (i700 + 1)))))))
    else
      some (.inr (.inl ())))
noncomputable def F_spec_ColoursOk_k3 (i306 : Int)  : Option (Int ⊕ (Unit ⊕ Bool)) :=
  ck (i306 + 1) (fun _ =>
    some (.inl (i306 + 1)))
noncomputable def F_spec_ColoursOk_l1 (a0_0 : (List (List Int))) (a1 : (List Int)) (i306 : Int) : Option (Int ⊕ (Unit ⊕ Bool)) :=
  if i306 < (a1.length : Int) then
    idx a1 i306 (fun x594 =>
      ck ((a1.length : Int) - 1) (fun _ =>
        cal (F_spec_l1In x594 0 ((a1.length : Int) - 1)) (fun x608 =>
          if ¬ (x608 = true) then
            some (.inr (.inr false))
          else
            bnd (lp (fun s => F_spec_ColoursOk_l2 a0_0 a1 i306 s) 0) (fun j => F_spec_ColoursOk_k3 i306 ))))
  else
    some (.inr (.inl ()))
noncomputable def F_spec_ColoursOk_k4   : Option Bool :=
  some true
noncomputable def F_spec_ColoursOk (a0_0 : (List (List Int))) (a1 : (List Int)) : Option Bool :=
  cal (F_spec_GraphOk a0_0) (fun x17 =>
    if ¬ (x17 = true) then
      some false
    else
      if (a1.length : Int) ≠ (a0_0.length : Int) then
        some false
      else
        bnd (lp (fun s => F_spec_ColoursOk_l1 a0_0 a1 s) 0) (fun j => F_spec_ColoursOk_k4 ))
noncomputable def F_slices_IndexFunc_int64_l1 (a0 : (List Int)) (a1 : Int → Option Bool) (i29 : Int) : Option (Int ⊕ (Unit ⊕ Int)) :=
  if i29 < (a0.length : Int) then
    idx a0 i29 (fun x68 =>
      cal (a1 x68) (fun x80 =>
        if x80 = true then
          some (.inr (.inr i29))
        else
          ck (i29 + 1) (fun _ =>
            some (.inl (i29 + 1)))))
  else
    some (.inr (.inl ()))
noncomputable def F_slices_IndexFunc_int64_k2   : Option Int :=
  some (-1)
noncomputable def F_slices_IndexFunc_int64 (a0 : (List Int)) (a1 : Int → Option Bool) : Option Int :=
  bnd (lp (fun s => F_slices_IndexFunc_int64_l1 a0 a1 s) 0) (fun j => F_slices_IndexFunc_int64_k2 )
noncomputable def F_slices_ContainsFunc_int64 (a0 : (List Int)) (a1 : Int → Option Bool) : Option Bool :=
  cal (F_slices_IndexFunc_int64 a0 a1) (fun x2 =>
    some (decide (0 ≤ x2)))
noncomputable def F_impl_ColoursOk_1 (a0 : Int) (y0 : (List Int)) (y1 : Int) : Option Bool :=
  idx y0 a0 (fun x1 =>
    some (decide (x1 = y1)))
noncomputable def F_impl_ColoursOk_l1 (a0_0 : (List (List Int))) (a1 : (List Int)) (i120 : Int) : Option (Int ⊕ (Unit ⊕ Bool)) :=
  if i120 < (a1.length : Int) then
    idx a1 i120 (fun x208 =>
      ck ((a1.length : Int) - 1) (fun _ =>
        cal (F_impl_inRange x208 0 ((a1.length : Int) - 1)) (fun x238 =>
          if ¬ (x238 = true) then
            some (.inr (.inr false))
          else
            idx a0_0 i120 (fun x247 =>
              cal (F_slices_ContainsFunc_int64 x247 (fun (z261 : Int) => F_impl_ColoursOk_1 z261 a1 x208)) (fun x263 =>
                if x263 = true then
                  some (.inr (.inr false))
                else
                  ck (i120 + 1) (fun _ =>
                    some (.inl (i120 + 1))))))))
  else
    some (.inr (.inl ()))
noncomputable def F_impl_ColoursOk_k2   : Option Bool :=
  some true
noncomputable def F_impl_ColoursOk (a0_0 : (List (List Int))) (a1 : (List Int)) : Option Bool :=
  cal (F_impl_GraphOk a0_0) (fun x27 =>
    if ¬ (x27 = true) then
      some false
    else
      if (a1.length : Int) ≠ (a0_0.length : Int) then
        some false
      else
        bnd (lp (fun s => F_impl_ColoursOk_l1 a0_0 a1 s) 0) (fun j => F_impl_ColoursOk_k2 ))
noncomputable def F_slices_Values_int64 (a0 : (List Int)) : Option (List Int) := some a0
noncomputable def F_slices_Collect_int64 (a0 : (List Int)) : Option (List Int) := if a0.length ≤ 1099511627776 then some a0 else none
noncomputable def F_slices_Sort_int64 (a0 : (List Int)) : Option (List Int) := if a0.length ≤ 1099511627776 then some (a0.mergeSort fun x y => decide (x ≤ y)) else none
noncomputable def F_slices_Sorted_int64 (a0 : (List Int)) : Option (List Int) :=
  cal (F_slices_Collect_int64 a0) (fun x1 =>
    cal (F_slices_Sort_int64 x1) (fun x12 =>
      some x12))
def cpt (zs : List Int) : List Int := ((List.range zs.length).filter fun j => decide (j = 0 ∨ zs.getD j 0 ≠ zs.getD (j - 1) 0)).map fun j => zs.getD j 0
noncomputable def F_slices_Compact_int64 (a0 : (List Int)) : Option ((List Int) × (List Int)) := if a0.length ≤ 1099511627776 then some (cpt a0, cpt a0 ++ List.replicate (a0.length - (cpt a0).length) 0) else none
noncomputable def F_impl_ColoursMany (a0 : (List Int)) : Option Int :=
  if 16 < (a0.length : Int) then
    some (-1)
  else
    cal (F_slices_Values_int64 a0) (fun x2 =>
      cal (F_slices_Sorted_int64 x2) (fun x9 =>
        cal (F_slices_Compact_int64 x9) (fun x20 =>
          some (x20.1.length : Int))))
noncomputable def F_spec_l25Bits_l2 (a0_0 : (List (List Int))) (i284 : Int) (i625 : Int) (i627 : Int) : Option ((Int × Int) ⊕ (Int ⊕ (((List Int) × Int) ⊕ ((List Int) ⊕ (List Int))))) :=
  idx a0_0 i284 (fun x709 =>
    if i627 < (x709.length : Int) then
      idx a0_0 i284 (fun x724 =>
        idx x724 i627 (fun x738 =>
          grd ((0 : Int) ≤ x738) (
            ck (1 * 2 ^ (x738 : Int).toNat) (fun _ =>
              ck (i627 + 1) (fun _ =>
                some (.inl (i64or i625 (1 * 2 ^ (x738 : Int).toNat), i627 + 1)))))))
    else
      some (.inr (.inl i625)))
noncomputable def F_spec_l25Bits_k3 (l281 : (List Int)) (i284 : Int) (i696 : Int) : Option (((List Int) × Int) ⊕ ((List Int) ⊕ (List Int))) :=
  app l281 ([i696]) (fun _ =>
    ck (i284 + 1) (fun _ =>
      some (.inl ((l281 ++ ([i696])), i284 + 1))))
noncomputable def F_spec_l25Bits_l1 (a0_0 : (List (List Int))) (l281 : (List Int)) (i284 : Int) : Option (((List Int) × Int) ⊕ ((List Int) ⊕ (List Int))) :=
  if i284 < (a0_0.length : Int) then
    bnd (lp (fun s => F_spec_l25Bits_l2 a0_0 i284 s.1 s.2) (0, 0)) (fun j => F_spec_l25Bits_k3 l281 i284 j)
  else
    some (.inr (.inl l281))
noncomputable def F_spec_l25Bits_k4  (l539 : (List Int)) : Option (List Int) :=
  some l539
noncomputable def F_spec_l25Bits (a0_0 : (List (List Int))) : Option (List Int) :=
  bnd (lp (fun s => F_spec_l25Bits_l1 a0_0 s.1 s.2) (([] : (List Int)), 0)) (fun j => F_spec_l25Bits_k4 j)
noncomputable def F_spec_l25All (a0_0 : (List (List Int))) : Option Int :=
  grd ((0 : Int) ≤ (a0_0.length : Int)) (
    ck (1 * 2 ^ ((a0_0.length : Int) : Int).toNat) (fun _ =>
      ck ((1 * 2 ^ ((a0_0.length : Int) : Int).toNat) - 1) (fun _ =>
        some ((1 * 2 ^ ((a0_0.length : Int) : Int).toNat) - 1))))
noncomputable def F_spec_l25Many_l1  (i14 : Int) (i16 : Int) : Option ((Int × Int) ⊕ (Int ⊕ Int)) :=
  if 0 < i14 then
    ck (i16 + 1) (fun _ =>
      ck (i14 - 1) (fun _ =>
        some (.inl (i64and i14 (i14 - 1), i16 + 1))))
  else
    some (.inr (.inl i16))
noncomputable def F_spec_l25Many_k2  (i30 : Int) : Option Int :=
  some i30
noncomputable def F_spec_l25Many (a0 : Int) : Option Int :=
  bnd (lp (fun s => F_spec_l25Many_l1 s.1 s.2) (a0, 0)) (fun j => F_spec_l25Many_k2 j)
noncomputable def F_spec_l25Less (a0 : Int) (a1 : Int) : Option Bool :=
  ck (0 - (i64xor a0 a1)) (fun _ =>
    some (decide ((i64and a0 (i64and (i64xor a0 a1) (0 - (i64xor a0 a1)))) ≠ 0)))
noncomputable def F_spec_l25Clique_l1 (a0 : (List Int)) (a1 : Int) (i30 : Int) : Option (Int ⊕ (Unit ⊕ Bool)) :=
  if i30 < (a0.length : Int) then
    grd ((0 : Int) ≤ i30) (
      if (i64and (a1 / 2 ^ (i30 : Int).toNat) 1) = 1 then
        idx a0 i30 (fun x72 =>
          grd ((0 : Int) ≤ i30) (
            ck (1 * 2 ^ (i30 : Int).toNat) (fun _ =>
              if (i64andn a1 x72) ≠ (1 * 2 ^ (i30 : Int).toNat) then
                some (.inr (.inr false))
              else
                ck (i30 + 1) (fun _ =>
                  some (.inl (i30 + 1))))))
      else
        ck (i30 + 1) (fun _ =>
          some (.inl (i30 + 1))))
  else
    some (.inr (.inl ()))
noncomputable def F_spec_l25Clique_k2   : Option Bool :=
  some true
noncomputable def F_spec_l25Clique (a0 : (List Int)) (a1 : Int) : Option Bool :=
  bnd (lp (fun s => F_spec_l25Clique_l1 a0 a1 s) 0) (fun j => F_spec_l25Clique_k2 )
noncomputable def F_spec_l25Stable_l1 (a0 : (List Int)) (a1 : Int) (i27 : Int) : Option (Int ⊕ (Unit ⊕ Bool)) :=
  if i27 < (a0.length : Int) then
    grd ((0 : Int) ≤ i27) (
      if (i64and (a1 / 2 ^ (i27 : Int).toNat) 1) = 1 then
        idx a0 i27 (fun x66 =>
          if (i64and x66 a1) ≠ 0 then
            some (.inr (.inr false))
          else
            ck (i27 + 1) (fun _ =>
              some (.inl (i27 + 1))))
      else
        ck (i27 + 1) (fun _ =>
          some (.inl (i27 + 1))))
  else
    some (.inr (.inl ()))
noncomputable def F_spec_l25Stable_k2   : Option Bool :=
  some true
noncomputable def F_spec_l25Stable (a0 : (List Int)) (a1 : Int) : Option Bool :=
  bnd (lp (fun s => F_spec_l25Stable_l1 a0 a1 s) 0) (fun j => F_spec_l25Stable_k2 )
noncomputable def F_spec_l25Best_l1 (a0_0 : (List (List Int))) (x9 : (List Int)) (t254 : Bool) (i260 : Int) (i262 : Int) : Option ((Bool × Int × Int) ⊕ (Int ⊕ Int)) :=
  cal (F_spec_l25All a0_0) (fun x385 =>
    if i262 ≤ x385 then
      cal (F_spec_l25Many i262) (fun x393 =>
        cal (F_spec_l25Many i260) (fun x400 =>
          if x393 < x400 then
            ck (i262 + 1) (fun _ =>
              some (.inl (t254, i260, i262 + 1)))
          else
            if x393 = x400 then
              cal (F_spec_l25Less i262 i260) (fun x411 =>
                if ¬ (x411 = true) then
                  ck (i262 + 1) (fun _ =>
                    some (.inl (t254, i260, i262 + 1)))
                else
                  if t254 = true then
                    cal (F_spec_l25Clique x9 i262) (fun x424 =>
                      if x424 = true then
                        ck (i262 + 1) (fun _ =>
                          some (.inl (true, i262, i262 + 1)))
                      else
                        ck (i262 + 1) (fun _ =>
                          some (.inl (true, i260, i262 + 1))))
                  else
                    cal (F_spec_l25Stable x9 i262) (fun x438 =>
                      if x438 = true then
                        ck (i262 + 1) (fun _ =>
                          some (.inl (false, i262, i262 + 1)))
                      else
                        ck (i262 + 1) (fun _ =>
                          some (.inl (false, i260, i262 + 1)))))
            else
              if t254 = true then
                cal (F_spec_l25Clique x9 i262) (fun x453 =>
                  if x453 = true then
                    ck (i262 + 1) (fun _ =>
                      some (.inl (true, i262, i262 + 1)))
                  else
                    ck (i262 + 1) (fun _ =>
                      some (.inl (true, i260, i262 + 1))))
              else
                cal (F_spec_l25Stable x9 i262) (fun x467 =>
                  if x467 = true then
                    ck (i262 + 1) (fun _ =>
                      some (.inl (false, i262, i262 + 1)))
                  else
                    ck (i262 + 1) (fun _ =>
                      some (.inl (false, i260, i262 + 1))))))
    else
      some (.inr (.inl i260)))
noncomputable def F_spec_l25Best_k2  (i374 : Int) : Option Int :=
  some i374
noncomputable def F_spec_l25Best (a0_0 : (List (List Int))) (a1 : Bool) : Option Int :=
  cal (F_spec_l25Bits a0_0) (fun x9 =>
    bnd (lp (fun s => F_spec_l25Best_l1 a0_0 x9 s.1 s.2.1 s.2.2) (a1, 0, 0)) (fun j => F_spec_l25Best_k2 j))
noncomputable def F_spec_l25Set_l1 (a0 : Int) (l59 : (List Int)) (i62 : Int) : Option (((List Int) × Int) ⊕ ((List Int) ⊕ (List Int))) :=
  grd ((0 : Int) ≤ i62) (
    if 0 < (a0 / 2 ^ (i62 : Int).toNat) then
      grd ((0 : Int) ≤ i62) (
        if (i64and (a0 / 2 ^ (i62 : Int).toNat) 1) = 1 then
          app l59 ([i62]) (fun _ =>
            ck (i62 + 1) (fun _ =>
              some (.inl ((l59 ++ ([i62])), i62 + 1))))
        else
          ck (i62 + 1) (fun _ =>
            some (.inl (l59, i62 + 1))))
    else
      some (.inr (.inl l59)))
noncomputable def F_spec_l25Set_k2  (l109 : (List Int)) : Option (List Int) :=
  some l109
noncomputable def F_spec_l25Set (a0 : Int) : Option (List Int) :=
  bnd (lp (fun s => F_spec_l25Set_l1 a0 s.1 s.2) (([] : (List Int)), 0)) (fun j => F_spec_l25Set_k2 j)
noncomputable def F_spec_BestClique (a0_0 : (List (List Int))) : Option (List Int) :=
  cal (F_spec_GraphOk a0_0) (fun x9 =>
    if ¬ (x9 = true) then
      some ([] : (List Int))
    else
      cal (F_spec_l25Best a0_0 true) (fun x27 =>
        cal (F_spec_l25Set x27) (fun x34 =>
          some x34)))
noncomputable def F_laws_w6Order_l1 (a1_0 : (List (List Int))) (l203 : ((List (BitVec 8)) × Int × Int)) (l213 : (List Int)) (i216 : Int) : Option ((((List (BitVec 8)) × Int × Int) × (List Int) × Int) ⊕ (((List Int) × ((List (BitVec 8)) × Int × Int)) ⊕ ((List Int) × ((List (BitVec 8)) × Int × Int)))) :=
  if i216 < (a1_0.length : Int) then
    ck (i216 + 1) (fun _ =>
      cal (F_laws_dice_below l203 (i216 + 1)) (fun x409 =>
        slc l213 0 x409.1 (fun _ =>
          app ([] : (List Int)) ((l213.drop (0 : Int).toNat).take ((x409.1 : Int).toNat - (0 : Int).toNat)) (fun _ =>
            app (([] : (List Int)) ++ ((l213.drop (0 : Int).toNat).take ((x409.1 : Int).toNat - (0 : Int).toNat))) ([i216]) (fun _ =>
              slc l213 x409.1 (l213.length : Int) (fun _ =>
                app ((([] : (List Int)) ++ ((l213.drop (0 : Int).toNat).take ((x409.1 : Int).toNat - (0 : Int).toNat))) ++ ([i216])) ((l213.drop (x409.1 : Int).toNat).take (((l213.length : Int) : Int).toNat - (x409.1 : Int).toNat)) (fun _ =>
                  ck (i216 + 1) (fun _ =>
                    some (.inl (x409.2, (((([] : (List Int)) ++ ((l213.drop (0 : Int).toNat).take ((x409.1 : Int).toNat - (0 : Int).toNat))) ++ ([i216])) ++ ((l213.drop (x409.1 : Int).toNat).take (((l213.length : Int) : Int).toNat - (x409.1 : Int).toNat))), i216 + 1))))))))))
  else
    some (.inr (.inl (l213, l203)))
noncomputable def F_laws_w6Order_k2  (l388 : (List Int)) (l392 : ((List (BitVec 8)) × Int × Int)) : Option ((List Int) × ((List (BitVec 8)) × Int × Int)) :=
  some (l388, l392)
noncomputable def F_laws_w6Order (a0 : ((List (BitVec 8)) × Int × Int)) (a1_0 : (List (List Int))) : Option ((List Int) × ((List (BitVec 8)) × Int × Int)) :=
  bnd (lp (fun s => F_laws_w6Order_l1 a1_0 s.1 s.2.1 s.2.2) (a0, ([] : (List Int)), 0)) (fun j => F_laws_w6Order_k2 j.1 j.2)
noncomputable def F_impl_OrderOk (a0_0 : (List (List Int))) (a1 : (List Int)) : Option Bool :=
  cal (F_impl_GraphOk a0_0) (fun x9 =>
    if ¬ (x9 = true) then
      some false
    else
      if (a1.length : Int) ≠ (a0_0.length : Int) then
        some false
      else
        cal (F_slices_Values_int64 a1) (fun x17 =>
          cal (F_slices_Sorted_int64 x17) (fun x24 =>
            cal (F_impl_increasing x24 (a0_0.length : Int)) (fun x40 =>
              some x40))))
noncomputable def F_slices_IndexFunc_implvset_l1 (a0 : (List (BitVec 32))) (a1 : (BitVec 32) → Option Bool) (i28 : Int) : Option (Int ⊕ (Unit ⊕ Int)) :=
  if i28 < (a0.length : Int) then
    idx a0 i28 (fun x66 =>
      cal (a1 x66) (fun x77 =>
        if x77 = true then
          some (.inr (.inr i28))
        else
          ck (i28 + 1) (fun _ =>
            some (.inl (i28 + 1)))))
  else
    some (.inr (.inl ()))
noncomputable def F_slices_IndexFunc_implvset_k2   : Option Int :=
  some (-1)
noncomputable def F_slices_IndexFunc_implvset (a0 : (List (BitVec 32))) (a1 : (BitVec 32) → Option Bool) : Option Int :=
  bnd (lp (fun s => F_slices_IndexFunc_implvset_l1 a0 a1 s) 0) (fun j => F_slices_IndexFunc_implvset_k2 )
noncomputable def F_impl_InTurn_1 (a0 : BitVec 32) (y0 : (List (BitVec 32))) (y1 : Int) : Option Bool :=
  idx y0 y1 (fun x1 =>
    some (decide ((a0 &&& x1) = (0#32))))
noncomputable def F_impl_InTurn_l2 (a1 : (List Int)) (l30 : (List (BitVec 32))) (l234 : (List (BitVec 32))) (l240 : (List Int)) (i243 : Int) : Option (((List (BitVec 32)) × (List Int) × Int) ⊕ ((List Int) ⊕ (List Int))) :=
  if i243 < (a1.length : Int) then
    idx a1 i243 (fun x413 =>
      cal (F_slices_IndexFunc_implvset l234 (fun (z448 : BitVec 32) => F_impl_InTurn_1 z448 l30 x413)) (fun x453 =>
        idx l234 x453 (fun x460 =>
          cal (F_impl_one x413) (fun x473 =>
            idx l234 x453 (fun x475 =>
              idx l240 x413 (fun x498 =>
                ck (i243 + 1) (fun _ =>
                  some (.inl ((l234.set ((x453 : Int).toNat) (x460 ||| x473)), (l240.set ((x413 : Int).toNat) x453), i243 + 1)))))))))
  else
    some (.inr (.inl l240))
noncomputable def F_impl_InTurn_k3  (l400 : (List Int)) : Option (List Int) :=
  some l400
noncomputable def F_impl_InTurn_k1 (a1 : (List Int)) (l30 : (List (BitVec 32))) (l36 : (List (BitVec 32))) (l42 : (List Int)) : Option (List Int) :=
  bnd (lp (fun s => F_impl_InTurn_l2 a1 l30 s.1 s.2.1 s.2.2) (l36, l42, 0)) (fun j => F_impl_InTurn_k3 j)
noncomputable def F_impl_InTurn (a0_0 : (List (List Int))) (a1 : (List Int)) : Option (List Int) :=
  cal (F_impl_OrderOk a0_0 a1) (fun x9 =>
    if ¬ (x9 = true) then
      some ([] : (List Int))
    else
      bnd (
        cal (F_impl_netsOf a0_0) (fun xqr2o1_1 =>
          mkS (a1.length : Int) (0 : BitVec 32) (fun _ =>
            mkS (a1.length : Int) (0 : Int) (fun _ =>
              some (.inl (xqr2o1_1, (List.replicate ((a1.length : Int) : Int).toNat (0 : BitVec 32)), (List.replicate ((a1.length : Int) : Int).toNat (0 : Int)))))))) (fun j => F_impl_InTurn_k1 a1 j.1 j.2.1 j.2.2))
noncomputable def F_spec_ColoursMany_l1 (a0 : (List Int)) (l91 : (List Int)) (i94 : Int) : Option (((List Int) × Int) ⊕ ((List Int) ⊕ Int)) :=
  if i94 < (a0.length : Int) then
    idx a0 i94 (fun x185 =>
      cal (F_spec_l1Has l91 x185) (fun x200 =>
        if ¬ (x200 = true) then
          idx a0 i94 (fun x207 =>
            app l91 ([x207]) (fun _ =>
              ck (i94 + 1) (fun _ =>
                some (.inl ((l91 ++ ([x207])), i94 + 1)))))
        else
          ck (i94 + 1) (fun _ =>
            some (.inl (l91, i94 + 1)))))
  else
    some (.inr (.inl l91))
noncomputable def F_spec_ColoursMany_k2  (l172 : (List Int)) : Option Int :=
  some (l172.length : Int)
noncomputable def F_spec_ColoursMany (a0 : (List Int)) : Option Int :=
  if 16 < (a0.length : Int) then
    some (-1)
  else
    bnd (lp (fun s => F_spec_ColoursMany_l1 a0 s.1 s.2) (([] : (List Int)), 0)) (fun j => F_spec_ColoursMany_k2 j)
noncomputable def F_laws_FnColours_l2 (x49 : (List Int)) (i618 : Int) (l1187 : (List Int)) (i1190 : Int) : Option (((List Int) × Int) ⊕ ((List Int) ⊕ (((List Int) × Int) ⊕ ((List Int) ⊕ Bool)))) :=
  if i1190 < (x49.length : Int) then
    idx x49 i1190 (fun x1342 =>
      if x1342 = i618 then
        app l1187 ([i1190]) (fun _ =>
          ck (i1190 + 1) (fun _ =>
            some (.inl ((l1187 ++ ([i1190])), i1190 + 1))))
      else
        ck (i1190 + 1) (fun _ =>
          some (.inl (l1187, i1190 + 1))))
  else
    some (.inr (.inl l1187))
noncomputable def F_laws_FnColours_k3 (i618 : Int) (l1313 : (List Int)) : Option (((List Int) × Int) ⊕ ((List Int) ⊕ Bool)) :=
  ck (i618 + 1) (fun _ =>
    some (.inl (l1313, i618 + 1)))
noncomputable def F_laws_FnColours_l1 (x49 : (List Int)) (x65 : Int) (l615 : (List Int)) (i618 : Int) : Option (((List Int) × Int) ⊕ ((List Int) ⊕ Bool)) :=
  if i618 < x65 then
    bnd (lp (fun s => F_laws_FnColours_l2 x49 i618 s.1 s.2) (l615, 0)) (fun j => F_laws_FnColours_k3 i618 j)
  else
    some (.inr (.inl l615))
noncomputable def F_laws_FnColours_l5 (x21 : ((List (List Int)) × ((List (BitVec 8)) × Int × Int))) (xqr1o4_1 : (List Int)) (i1577 : Int) : Option (Int ⊕ (Unit ⊕ Bool)) :=
  if i1577 < (xqr1o4_1.length : Int) then
    idx xqr1o4_1 i1577 (fun x1644 =>
      idx x21.1 i1577 (fun x1656 =>
        if (x1656.length : Int) < x1644 then
          some (.inr (.inr false))
        else
          ck (i1577 + 1) (fun _ =>
            some (.inl (i1577 + 1)))))
  else
    some (.inr (.inl ()))
noncomputable def F_laws_FnColours_k6   : Option Bool :=
  some true
noncomputable def F_laws_FnColours_k4 (x21 : ((List (List Int)) × ((List (BitVec 8)) × Int × Int))) (x65 : Int) (l1030 : (List Int)) : Option Bool :=
  cal (F_laws_w6Order x21.2 x21.1) (fun xqr1o3_1 =>
    cal (F_impl_InTurn x21.1 xqr1o3_1.1) (fun xqr1o4_1 =>
      cal (F_impl_InTurn x21.1 l1030) (fun x1405 =>
        cal (F_spec_ColoursOk x21.1 xqr1o4_1) (fun x1468 =>
          if ¬ (x1468 = true) then
            some false
          else
            cal (F_spec_ColoursOk x21.1 x1405) (fun x1478 =>
              if ¬ (x1478 = true) then
                some false
              else
                cal (F_spec_ColoursMany x1405) (fun x1488 =>
                  if x1488 ≠ x65 then
                    some false
                  else
                    cal (F_spec_ColoursMany xqr1o4_1) (fun x1499 =>
                      if x1499 < x65 then
                        some false
                      else
                        bnd (lp (fun s => F_laws_FnColours_l5 x21 xqr1o4_1 s) 0) (fun j => F_laws_FnColours_k6 ))))))))
noncomputable def F_laws_FnColours (a0 : (List (BitVec 8))) : Option Bool :=
  cal (F_laws_big a0) (fun x1 =>
    if x1 = true then
      some true
    else
      cal (F_laws_roll a0 804) (fun x8 =>
        cal (F_laws_w6Graph x8 8) (fun x21 =>
          cal (F_impl_BestColours x21.1) (fun x49 =>
            cal (F_impl_ChromaticOf x21.1) (fun x65 =>
              cal (F_spec_ColoursOk x21.1 x49) (fun x125 =>
                if ¬ (x125 = true) then
                  some false
                else
                  cal (F_impl_ColoursOk x21.1 x49) (fun x135 =>
                    if ¬ (x135 = true) then
                      some false
                    else
                      cal (F_impl_ColoursMany x49) (fun x145 =>
                        if x145 ≠ x65 then
                          some false
                        else
                          cal (F_spec_BestClique x21.1) (fun x153 =>
                            if x65 < (x153.length : Int) then
                              some false
                            else
                              bnd (lp (fun s => F_laws_FnColours_l1 x49 x65 s.1 s.2) (([] : (List Int)), 0)) (fun j => F_laws_FnColours_k4 x21 x65 j))))))))))
end Go.Proofs.YtadjcnllmkdgiaaDoor
