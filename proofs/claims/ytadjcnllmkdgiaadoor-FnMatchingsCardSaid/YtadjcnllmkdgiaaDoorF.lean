/- Functional forms, printed by gen.py. -/
import Derived.Test.YtadjcnllmkdgiaaDoorPure
namespace Go.Proofs.YtadjcnllmkdgiaaDoor

noncomputable def F_laws_big (a0 : (List (BitVec 8))) : Option Bool :=
  some (decide (4096 < (a0.length : Int)))
noncomputable def F_laws_roll_l1 (a0 : (List (BitVec 8))) (i48 : Int) (i50 : Int) : Option ((Int × Int) ⊕ (Int ⊕ ((List (BitVec 8)) × Int × Int))) :=
  if i50 < (a0.length : Int) then
    idx a0 i50 (fun x99 =>
      ck (i50 + 1) (fun _ =>
        some (.inl ((((((i48 * 1099511628211) % 18446744073709551616) + (BitVec.toNat x99 : Int)) % 18446744073709551616) + 3) % 18446744073709551616, i50 + 1))))
  else
    some (.inr (.inl i48))
noncomputable def F_laws_roll_k2 (a0 : (List (BitVec 8))) (i87 : Int) : Option ((List (BitVec 8)) × Int × Int) :=
  some (a0, 0, i87)
noncomputable def F_laws_roll (a0 : (List (BitVec 8))) (a1 : Int) : Option ((List (BitVec 8)) × Int × Int) :=
  grd ((0 : Int) ≤ (a0.length : Int)) (
    bnd (lp (fun s => F_laws_roll_l1 a0 s.1 s.2) ((((a1 * 7919) % 18446744073709551616) + (a0.length : Int)) % 18446744073709551616, 0)) (fun j => F_laws_roll_k2 a0 j))
noncomputable def F_laws_dice_below (a0 : ((List (BitVec 8)) × Int × Int)) (a1 : Int) : Option (Int × ((List (BitVec 8)) × Int × Int)) :=
  ck (((BitVec.ofInt 64 (((((a0.2.2 * 6364136223846793005) % 18446744073709551616) + 1442695040888963407) % 18446744073709551616) / 2 ^ (33 : Int).toNat) &&& BitVec.ofInt 64 16777215).toNat : Int)) (fun _ =>
    if a0.2.1 < (a0.1.length : Int) then
      idx a0.1 a0.2.1 (fun x11 =>
        ck (((BitVec.ofInt 64 (((((a0.2.2 * 6364136223846793005) % 18446744073709551616) + 1442695040888963407) % 18446744073709551616) / 2 ^ (33 : Int).toNat) &&& BitVec.ofInt 64 16777215).toNat : Int) + (BitVec.toNat x11 : Int)) (fun _ =>
          ck (a0.2.1 + 1) (fun _ =>
            grd ((0 : Int) ≤ (((BitVec.ofInt 64 (((((a0.2.2 * 6364136223846793005) % 18446744073709551616) + 1442695040888963407) % 18446744073709551616) / 2 ^ (33 : Int).toNat) &&& BitVec.ofInt 64 16777215).toNat : Int) + (BitVec.toNat x11 : Int)) ∧ (0 : Int) < a1) (
              some ((((BitVec.ofInt 64 (((((a0.2.2 * 6364136223846793005) % 18446744073709551616) + 1442695040888963407) % 18446744073709551616) / 2 ^ (33 : Int).toNat) &&& BitVec.ofInt 64 16777215).toNat : Int) + (BitVec.toNat x11 : Int)) % a1, (a0.1, a0.2.1 + 1, (((a0.2.2 * 6364136223846793005) % 18446744073709551616) + 1442695040888963407) % 18446744073709551616))))))
    else
      grd ((0 : Int) ≤ ((BitVec.ofInt 64 (((((a0.2.2 * 6364136223846793005) % 18446744073709551616) + 1442695040888963407) % 18446744073709551616) / 2 ^ (33 : Int).toNat) &&& BitVec.ofInt 64 16777215).toNat : Int) ∧ (0 : Int) < a1) (
        some (((BitVec.ofInt 64 (((((a0.2.2 * 6364136223846793005) % 18446744073709551616) + 1442695040888963407) % 18446744073709551616) / 2 ^ (33 : Int).toNat) &&& BitVec.ofInt 64 16777215).toNat : Int) % a1, (a0.1, a0.2.1, (((a0.2.2 * 6364136223846793005) % 18446744073709551616) + 1442695040888963407) % 18446744073709551616))))
noncomputable def F_spec_l1In (a0 : Int) (a1 : Int) (a2 : Int) : Option Bool :=
  if a1 ≤ a0 then
    some (decide (a0 ≤ a2))
  else
    some false
noncomputable def F_spec_l1Empty_l1 (a0 : Int) (l128 : (List (List Int))) (i131 : Int) : Option (((List (List Int)) × Int) ⊕ ((List (List Int)) ⊕ (List (List Int)))) :=
  if i131 < a0 then
    app l128 ([([] : (List Int))]) (fun _ =>
      ck (i131 + 1) (fun _ =>
        some (.inl ((l128 ++ ([([] : (List Int))])), i131 + 1))))
  else
    some (.inr (.inl l128))
noncomputable def F_spec_l1Empty_k2  (l231 : (List (List Int))) : Option (List (List Int)) :=
  some l231
noncomputable def F_spec_l1Empty (a0 : Int) : Option (List (List Int)) :=
  bnd (lp (fun s => F_spec_l1Empty_l1 a0 s.1 s.2) (([] : (List (List Int))), 0)) (fun j => F_spec_l1Empty_k2 j)
noncomputable def F_spec_l1Set_l1 (a0 : (List Int)) (a1 : Int) (i69 : Int) : Option (Int ⊕ (Unit ⊕ Bool)) :=
  if i69 < (a0.length : Int) then
    idx a0 i69 (fun x147 =>
      ck (a1 - 1) (fun _ =>
        cal (F_spec_l1In x147 0 (a1 - 1)) (fun x163 =>
          if ¬ (x163 = true) then
            some (.inr (.inr false))
          else
            if 0 < i69 then
              idx a0 i69 (fun x172 =>
                ck (i69 - 1) (fun _ =>
                  idx a0 (i69 - 1) (fun x186 =>
                    if x172 ≤ x186 then
                      some (.inr (.inr false))
                    else
                      ck (i69 + 1) (fun _ =>
                        some (.inl (i69 + 1))))))
            else
              ck (i69 + 1) (fun _ =>
                some (.inl (i69 + 1))))))
  else
    some (.inr (.inl ()))
noncomputable def F_spec_l1Set_k2   : Option Bool :=
  some true
noncomputable def F_spec_l1Set (a0 : (List Int)) (a1 : Int) : Option Bool :=
  if a1 < (a0.length : Int) then
    some false
  else
    bnd (lp (fun s => F_spec_l1Set_l1 a0 a1 s) 0) (fun j => F_spec_l1Set_k2 )
noncomputable def F_spec_l1Copy (a0 : (List Int)) : Option (List Int) :=
  app ([] : (List Int)) a0 (fun _ =>
    some (([] : (List Int)) ++ a0))
noncomputable def F_spec_l1Into_l1 (a0 : (List Int)) (a1 : Int) (i23 : Int) : Option (Int ⊕ (Int ⊕ (List Int))) :=
  if i23 < (a0.length : Int) then
    idx a0 i23 (fun x58 =>
      if x58 < a1 then
        ck (i23 + 1) (fun _ =>
          some (.inl (i23 + 1)))
      else
        some (.inr (.inl i23)))
  else
    some (.inr (.inl i23))
noncomputable def F_spec_l1Into_k2 (a0 : (List Int)) (a1 : Int) (i46 : Int) : Option (List Int) :=
  if i46 < (a0.length : Int) then
    idx a0 i46 (fun x74 =>
      if x74 = a1 then
        some a0
      else
        slc a0 0 i46 (fun _ =>
          cal (F_spec_l1Copy ((a0.drop (0 : Int).toNat).take ((i46 : Int).toNat - (0 : Int).toNat))) (fun x95 =>
            app x95 ([a1]) (fun _ =>
              slc a0 i46 (a0.length : Int) (fun _ =>
                app (x95 ++ ([a1])) ((a0.drop (i46 : Int).toNat).take (((a0.length : Int) : Int).toNat - (i46 : Int).toNat)) (fun _ =>
                  some ((x95 ++ ([a1])) ++ ((a0.drop (i46 : Int).toNat).take (((a0.length : Int) : Int).toNat - (i46 : Int).toNat)))))))))
  else
    slc a0 0 i46 (fun _ =>
      cal (F_spec_l1Copy ((a0.drop (0 : Int).toNat).take ((i46 : Int).toNat - (0 : Int).toNat))) (fun x159 =>
        app x159 ([a1]) (fun _ =>
          slc a0 i46 (a0.length : Int) (fun _ =>
            app (x159 ++ ([a1])) ((a0.drop (i46 : Int).toNat).take (((a0.length : Int) : Int).toNat - (i46 : Int).toNat)) (fun _ =>
              some ((x159 ++ ([a1])) ++ ((a0.drop (i46 : Int).toNat).take (((a0.length : Int) : Int).toNat - (i46 : Int).toNat))))))))
noncomputable def F_spec_l1Into (a0 : (List Int)) (a1 : Int) : Option (List Int) :=
  bnd (lp (fun s => F_spec_l1Into_l1 a0 a1 s) 0) (fun j => F_spec_l1Into_k2 a0 a1 j)
noncomputable def F_spec_l1Link (a0_0 : (List (List Int))) (a1 : Int) (a2 : Int) : Option (List (List Int)) :=
  idx a0_0 a1 (fun x23 =>
    cal (F_spec_l1Into x23 a2) (fun x44 =>
      idx a0_0 a1 (fun x58 =>
        idx (a0_0.set ((a1 : Int).toNat) x44) a2 (fun x91 =>
          cal (F_spec_l1Into x91 a1) (fun x112 =>
            idx (a0_0.set ((a1 : Int).toNat) x44) a2 (fun x126 =>
              some ((a0_0.set ((a1 : Int).toNat) x44).set ((a2 : Int).toNat) x112)))))))
noncomputable def F_spec_GraphOf_l1 (a0 : Int) (a1 : (List (List Int))) (l302 : (List (List Int))) (i305 : Int) : Option (((List (List Int)) × Int) ⊕ ((List (List Int)) ⊕ ((List (List Int)) × Bool))) :=
  if i305 < (a1.length : Int) then
    idx a1 i305 (fun x587 =>
      if (x587.length : Int) ≠ 2 then
        some (.inr (.inr (([] : (List (List Int))), false)))
      else
        idx a1 i305 (fun x609 =>
          cal (F_spec_l1Set x609 a0) (fun x624 =>
            if ¬ (x624 = true) then
              some (.inr (.inr (([] : (List (List Int))), false)))
            else
              idx a1 i305 (fun x637 =>
                idx x637 0 (fun x652 =>
                  idx a1 i305 (fun x664 =>
                    idx x664 1 (fun x679 =>
                      cal (F_spec_l1Link l302 x652 x679) (fun x694 =>
                        ck (i305 + 1) (fun _ =>
                          some (.inl (x694, i305 + 1)))))))))))
  else
    some (.inr (.inl l302))
noncomputable def F_spec_GraphOf_k2  (l522 : (List (List Int))) : Option ((List (List Int)) × Bool) :=
  some (l522, true)
noncomputable def F_spec_GraphOf (a0 : Int) (a1 : (List (List Int))) : Option ((List (List Int)) × Bool) :=
  cal (F_spec_l1In a0 1 16) (fun x25 =>
    if ¬ (x25 = true) then
      some (([] : (List (List Int))), false)
    else
      if 120 < (a1.length : Int) then
        some (([] : (List (List Int))), false)
      else
        cal (F_spec_l1Empty a0) (fun x41 =>
          bnd (lp (fun s => F_spec_GraphOf_l1 a0 a1 s.1 s.2) (x41, 0)) (fun j => F_spec_GraphOf_k2 j)))
noncomputable def F_laws_w6Graph_l2 (x21 : (Int × ((List (BitVec 8)) × Int × Int))) (i423 : Int) (l919 : ((List (BitVec 8)) × Int × Int)) (l930 : (List (List Int))) (i933 : Int) : Option ((((List (BitVec 8)) × Int × Int) × (List (List Int)) × Int) ⊕ ((((List (BitVec 8)) × Int × Int) × (List (List Int))) ⊕ ((((List (BitVec 8)) × Int × Int) × (List (List Int)) × Int) ⊕ (((List (List Int)) × ((List (BitVec 8)) × Int × Int)) ⊕ ((List (List Int)) × ((List (BitVec 8)) × Int × Int)))))) :=
  if i933 < i423 then
    cal (F_laws_dice_below l919 4) (fun x1064 =>
      if x1064.1 < (1 + x21.1) then
        app l930 ([[i933, i423]]) (fun _ =>
          ck (i933 + 1) (fun _ =>
            some (.inl (x1064.2, (l930 ++ ([[i933, i423]])), i933 + 1))))
      else
        ck (i933 + 1) (fun _ =>
          some (.inl (x1064.2, l930, i933 + 1))))
  else
    some (.inr (.inl (l919, l930)))
noncomputable def F_laws_w6Graph_k3 (i423 : Int) (l1034 : ((List (BitVec 8)) × Int × Int)) (l1045 : (List (List Int))) : Option ((((List (BitVec 8)) × Int × Int) × (List (List Int)) × Int) ⊕ (((List (List Int)) × ((List (BitVec 8)) × Int × Int)) ⊕ ((List (List Int)) × ((List (BitVec 8)) × Int × Int)))) :=
  ck (i423 + 1) (fun _ =>
    some (.inl (l1034, l1045, i423 + 1)))
noncomputable def F_laws_w6Graph_l1 (x11 : (Int × ((List (BitVec 8)) × Int × Int))) (x21 : (Int × ((List (BitVec 8)) × Int × Int))) (l409 : ((List (BitVec 8)) × Int × Int)) (l420 : (List (List Int))) (i423 : Int) : Option ((((List (BitVec 8)) × Int × Int) × (List (List Int)) × Int) ⊕ (((List (List Int)) × ((List (BitVec 8)) × Int × Int)) ⊕ ((List (List Int)) × ((List (BitVec 8)) × Int × Int)))) :=
  if i423 < (1 + x11.1) then
    bnd (lp (fun s => F_laws_w6Graph_l2 x21 i423 s.1 s.2.1 s.2.2) (l409, l420, 0)) (fun j => F_laws_w6Graph_k3 i423 j.1 j.2)
  else
    some (.inr (.inl (l420, l409)))
noncomputable def F_laws_w6Graph_k4 (x11 : (Int × ((List (BitVec 8)) × Int × Int))) (l787 : (List (List Int))) (l791 : ((List (BitVec 8)) × Int × Int)) : Option ((List (List Int)) × ((List (BitVec 8)) × Int × Int)) :=
  cal (F_spec_GraphOf (1 + x11.1) l787) (fun x1134 =>
    some (x1134.1, l791))
noncomputable def F_laws_w6Graph (a0 : ((List (BitVec 8)) × Int × Int)) (a1 : Int) : Option ((List (List Int)) × ((List (BitVec 8)) × Int × Int)) :=
  cal (F_laws_dice_below a0 a1) (fun x11 =>
    ck (1 + x11.1) (fun _ =>
      cal (F_laws_dice_below x11.2 3) (fun x21 =>
        ck (1 + x21.1) (fun _ =>
          bnd (lp (fun s => F_laws_w6Graph_l1 x11 x21 s.1 s.2.1 s.2.2) (x21.2, ([] : (List (List Int))), 1)) (fun j => F_laws_w6Graph_k4 x11 j.1 j.2)))))
noncomputable def F_impl_inRange (a0 : Int) (a1 : Int) (a2 : Int) : Option Bool :=
  if a1 ≤ a0 then
    some (decide (a0 ≤ a2))
  else
    some false
noncomputable def F_impl_increasing_l1 (a0 : (List Int)) (a1 : Int) (i49 : Int) : Option (Int ⊕ (Unit ⊕ Bool)) :=
  if i49 < (a0.length : Int) then
    idx a0 i49 (fun x108 =>
      ck (a1 - 1) (fun _ =>
        cal (F_impl_inRange x108 0 (a1 - 1)) (fun x122 =>
          if ¬ (x122 = true) then
            some (.inr (.inr false))
          else
            if 0 < i49 then
              ck (i49 - 1) (fun _ =>
                idx a0 (i49 - 1) (fun x134 =>
                  if x108 ≤ x134 then
                    some (.inr (.inr false))
                  else
                    ck (i49 + 1) (fun _ =>
                      some (.inl (i49 + 1)))))
            else
              ck (i49 + 1) (fun _ =>
                some (.inl (i49 + 1))))))
  else
    some (.inr (.inl ()))
noncomputable def F_impl_increasing_k2   : Option Bool :=
  some true
noncomputable def F_impl_increasing (a0 : (List Int)) (a1 : Int) : Option Bool :=
  bnd (lp (fun s => F_impl_increasing_l1 a0 a1 s) 0) (fun j => F_impl_increasing_k2 )
noncomputable def F_slices_Index_int64_l1 (a0 : (List Int)) (a1 : Int) (i23 : Int) : Option (Int ⊕ (Unit ⊕ Int)) :=
  if i23 < (a0.length : Int) then
    idx a0 i23 (fun x56 =>
      if a1 = x56 then
        some (.inr (.inr i23))
      else
        ck (i23 + 1) (fun _ =>
          some (.inl (i23 + 1))))
  else
    some (.inr (.inl ()))
noncomputable def F_slices_Index_int64_k2   : Option Int :=
  some (-1)
noncomputable def F_slices_Index_int64 (a0 : (List Int)) (a1 : Int) : Option Int :=
  bnd (lp (fun s => F_slices_Index_int64_l1 a0 a1 s) 0) (fun j => F_slices_Index_int64_k2 )
noncomputable def F_slices_Contains_int64 (a0 : (List Int)) (a1 : Int) : Option Bool :=
  cal (F_slices_Index_int64 a0 a1) (fun x1 =>
    some (decide (0 ≤ x1)))
noncomputable def F_impl_GraphOk_l1 (a0_0 : (List (List Int))) (i56 : Int) : Option (Int ⊕ (Unit ⊕ Bool)) :=
  if i56 < (a0_0.length : Int) then
    idx a0_0 i56 (fun x108 =>
      cal (F_impl_increasing x108 (a0_0.length : Int)) (fun x122 =>
        if ¬ (x122 = true) then
          some (.inr (.inr false))
        else
          cal (F_slices_Contains_int64 x108 i56) (fun x131 =>
            if x131 = true then
              some (.inr (.inr false))
            else
              ck (i56 + 1) (fun _ =>
                some (.inl (i56 + 1))))))
  else
    some (.inr (.inl ()))
noncomputable def F_impl_GraphOk_l4 (a0_0 : (List (List Int))) (i311 : Int) (x487 : (List Int)) (i549 : Int) : Option (Int ⊕ (Unit ⊕ (Int ⊕ (Unit ⊕ Bool)))) :=
  if i549 < (x487.length : Int) then
    idx x487 i549 (fun x606 =>
      idx a0_0 x606 (fun x618 =>
        cal (F_slices_Contains_int64 x618 i311) (fun x632 =>
          if ¬ (x632 = true) then
            some (.inr (.inr (.inr (.inr false))))
          else
            ck (i549 + 1) (fun _ =>
              some (.inl (i549 + 1))))))
  else
    some (.inr (.inl ()))
noncomputable def F_impl_GraphOk_k5 (i311 : Int)  : Option (Int ⊕ (Unit ⊕ Bool)) :=
  ck (i311 + 1) (fun _ =>
    some (.inl (i311 + 1)))
noncomputable def F_impl_GraphOk_l3 (a0_0 : (List (List Int))) (i311 : Int) : Option (Int ⊕ (Unit ⊕ Bool)) :=
  if i311 < (a0_0.length : Int) then
    idx a0_0 i311 (fun x487 =>
      bnd (lp (fun s => F_impl_GraphOk_l4 a0_0 i311 x487 s) 0) (fun j => F_impl_GraphOk_k5 i311 ))
  else
    some (.inr (.inl ()))
noncomputable def F_impl_GraphOk_k6   : Option Bool :=
  some true
noncomputable def F_impl_GraphOk_k2 (a0_0 : (List (List Int)))  : Option Bool :=
  bnd (lp (fun s => F_impl_GraphOk_l3 a0_0 s) 0) (fun j => F_impl_GraphOk_k6 )
noncomputable def F_impl_GraphOk (a0_0 : (List (List Int))) : Option Bool :=
  if (a0_0.length : Int) < 1 then
    some false
  else
    if 16 < (a0_0.length : Int) then
      some false
    else
      bnd (lp (fun s => F_impl_GraphOk_l1 a0_0 s) 0) (fun j => F_impl_GraphOk_k2 a0_0 )
noncomputable def F_impl_one (a0 : Int) : Option (BitVec 32) :=
  grd ((0 : Int) ≤ a0) (
    some ((1#32) <<< (a0 : Int).toNat))
noncomputable def F_impl_maskOf_l1 (a0 : (List Int)) (u29 : BitVec 32) (i30 : Int) : Option (((BitVec 32) × Int) ⊕ ((BitVec 32) ⊕ (BitVec 32))) :=
  if i30 < (a0.length : Int) then
    idx a0 i30 (fun x70 =>
      cal (F_impl_one x70) (fun x82 =>
        ck (i30 + 1) (fun _ =>
          some (.inl (u29 ||| x82, i30 + 1)))))
  else
    some (.inr (.inl u29))
noncomputable def F_impl_maskOf_k2  (u59 : BitVec 32) : Option (BitVec 32) :=
  some u59
noncomputable def F_impl_maskOf (a0 : (List Int)) : Option (BitVec 32) :=
  bnd (lp (fun s => F_impl_maskOf_l1 a0 s.1 s.2) (0#32, 0)) (fun j => F_impl_maskOf_k2 j)
noncomputable def F_impl_netsOf_l1 (a0_0 : (List (List Int))) (l84 : (List (BitVec 32))) (i87 : Int) : Option (((List (BitVec 32)) × Int) ⊕ ((List (BitVec 32)) ⊕ (List (BitVec 32)))) :=
  if i87 < (a0_0.length : Int) then
    idx a0_0 i87 (fun x162 =>
      cal (F_impl_maskOf x162) (fun x176 =>
        app l84 ([x176]) (fun _ =>
          ck (i87 + 1) (fun _ =>
            some (.inl ((l84 ++ ([x176])), i87 + 1))))))
  else
    some (.inr (.inl l84))
noncomputable def F_impl_netsOf_k2  (l149 : (List (BitVec 32))) : Option (List (BitVec 32)) :=
  some l149
noncomputable def F_impl_netsOf (a0_0 : (List (List Int))) : Option (List (BitVec 32)) :=
  bnd (lp (fun s => F_impl_netsOf_l1 a0_0 s.1 s.2) (([] : (List (BitVec 32))), 0)) (fun j => F_impl_netsOf_k2 j)
noncomputable def F_impl_firstOf (a0 : Int) : Option (BitVec 32) :=
  grd ((0 : Int) ≤ a0) (
    some (((1#32) <<< (a0 : Int).toNat) - (1#32)))
noncomputable def F_impl_nets_all (a0 : (List (BitVec 32))) : Option (BitVec 32) :=
  cal (F_impl_firstOf (a0.length : Int)) (fun x1 =>
    some x1)
noncomputable def F_math_bits_TrailingZeros32 (a0 : BitVec 32) : Option Int :=
  if a0 = (0#32) then
    some 32
  else
    idx deBruijn32 (BitVec.toNat (((a0 &&& (-a0)) * (125613361#32)) >>> (27 : Int).toNat) : Int) (fun x2 =>
      some (BitVec.toNat x2 : Int))
noncomputable def F_impl_vset_least (a0 : BitVec 32) : Option Int :=
  cal (F_math_bits_TrailingZeros32 a0) (fun x1 =>
    some x1)
noncomputable def F_impl_vset_list_l1  (u55 : BitVec 32) (l59 : (List Int)) : Option (((BitVec 32) × (List Int)) ⊕ ((List Int) ⊕ (List Int))) :=
  if u55 ≠ (0#32) then
    cal (F_impl_vset_least u55) (fun x119 =>
      app l59 ([x119]) (fun _ =>
        some (.inl (u55 &&& (u55 - (1#32)), (l59 ++ ([x119]))))))
  else
    some (.inr (.inl l59))
noncomputable def F_impl_vset_list_k2  (l106 : (List Int)) : Option (List Int) :=
  some l106
noncomputable def F_impl_vset_list (a0 : BitVec 32) : Option (List Int) :=
  bnd (lp (fun s => F_impl_vset_list_l1 s.1 s.2) (a0, ([] : (List Int)))) (fun j => F_impl_vset_list_k2 j)
noncomputable def F_impl_onSets_l2 (l444 : (List Int)) (u447 : BitVec 32) (x878 : (BitVec 32)) (x906 : (List Int)) (l1030 : (List Int)) (i1036 : Int) : Option (((List Int) × Int) ⊕ ((List Int) ⊕ (((List Int) × (BitVec 32)) ⊕ ((List Int) ⊕ (List Int))))) :=
  if i1036 < (x906.length : Int) then
    idx x906 i1036 (fun x1152 =>
      cal (F_impl_one x1152) (fun x1164 =>
        idx l444 (BitVec.toNat ((u447 &&& ~~~x878) &&& ~~~x1164) : Int) (fun x1170 =>
          app l1030 ([x1170]) (fun _ =>
            ck (i1036 + 1) (fun _ =>
              some (.inl ((l1030 ++ ([x1170])), i1036 + 1)))))))
  else
    some (.inr (.inl l1030))
noncomputable def F_impl_onSets_k3 (a2 : Int → (List Int) → Option Int) (l444 : (List Int)) (u447 : BitVec 32) (x878 : (BitVec 32)) (l1137 : (List Int)) : Option (((List Int) × (BitVec 32)) ⊕ ((List Int) ⊕ (List Int))) :=
  idx l444 (BitVec.toNat (u447 &&& ~~~x878) : Int) (fun x1215 =>
    cal (a2 x1215 l1137) (fun x1230 =>
      idx l444 (BitVec.toNat u447 : Int) (fun x1237 =>
        some (.inl ((l444.set (((BitVec.toNat u447 : Int) : Int).toNat) x1230), u447 + (1#32))))))
noncomputable def F_impl_onSets_l1 (a0 : (List (BitVec 32))) (a2 : Int → (List Int) → Option Int) (l444 : (List Int)) (u447 : BitVec 32) : Option (((List Int) × (BitVec 32)) ⊕ ((List Int) ⊕ (List Int))) :=
  cal (F_impl_nets_all a0) (fun x864 =>
    if u447 ≤ x864 then
      cal (F_impl_vset_least u447) (fun x871 =>
        cal (F_impl_one x871) (fun x878 =>
          idx a0 x871 (fun x895 =>
            cal (F_impl_vset_list (x895 &&& (u447 &&& ~~~x878))) (fun x906 =>
              bnd (lp (fun s => F_impl_onSets_l2 l444 u447 x878 x906 s.1 s.2) (([] : (List Int)), 0)) (fun j => F_impl_onSets_k3 a2 l444 u447 x878 j)))))
    else
      some (.inr (.inl l444)))
noncomputable def F_impl_onSets_k4  (l852 : (List Int)) : Option (List Int) :=
  some l852
noncomputable def F_impl_onSets (a0 : (List (BitVec 32))) (a1 : Int) (a2 : Int → (List Int) → Option Int) : Option (List Int) :=
  cal (F_impl_nets_all a0) (fun x1 =>
    mkS (BitVec.toNat (x1 + (1#32)) : Int) (0 : Int) (fun _ =>
      idx (List.replicate ((BitVec.toNat (x1 + (1#32)) : Int) : Int).toNat (0 : Int)) 0 (fun x18 =>
        bnd (lp (fun s => F_impl_onSets_l1 a0 a2 s.1 s.2) (((List.replicate ((BitVec.toNat (x1 + (1#32)) : Int) : Int).toNat (0 : Int)).set ((0 : Int).toNat) a1), 1#32)) (fun j => F_impl_onSets_k4 j))))
noncomputable def F_impl_MatchingsMany_1_l1 (a1 : (List Int)) (i26 : Int) (i28 : Int) : Option ((Int × Int) ⊕ (Int ⊕ Int)) :=
  if i28 < (a1.length : Int) then
    idx a1 i28 (fun x66 =>
      ck (i26 + x66) (fun _ =>
        ck (i28 + 1) (fun _ =>
          some (.inl (i26 + x66, i28 + 1)))))
  else
    some (.inr (.inl i26))
noncomputable def F_impl_MatchingsMany_1_k2  (i54 : Int) : Option Int :=
  some i54
noncomputable def F_impl_MatchingsMany_1 (a0 : Int) (a1 : (List Int)) : Option Int :=
  bnd (lp (fun s => F_impl_MatchingsMany_1_l1 a1 s.1 s.2) (a0, 0)) (fun j => F_impl_MatchingsMany_1_k2 j)
noncomputable def F_impl_MatchingsMany (a0_0 : (List (List Int))) : Option Int :=
  cal (F_impl_GraphOk a0_0) (fun x9 =>
    if ¬ (x9 = true) then
      some (-1)
    else
      cal (F_impl_netsOf a0_0) (fun x16 =>
        cal (F_impl_onSets x16 1 (fun (z32 : Int) (z33 : (List Int)) => F_impl_MatchingsMany_1 z32 z33)) (fun x35 =>
          cal (F_impl_nets_all x16) (fun x51 =>
            idx x35 (BitVec.toNat x51 : Int) (fun x57 =>
              some x57)))))
noncomputable def F_impl_PerfectMany_1_l1 (a1 : (List Int)) (i26 : Int) (i28 : Int) : Option ((Int × Int) ⊕ (Int ⊕ Int)) :=
  if i28 < (a1.length : Int) then
    idx a1 i28 (fun x66 =>
      ck (i26 + x66) (fun _ =>
        ck (i28 + 1) (fun _ =>
          some (.inl (i26 + x66, i28 + 1)))))
  else
    some (.inr (.inl i26))
noncomputable def F_impl_PerfectMany_1_k2  (i54 : Int) : Option Int :=
  some i54
noncomputable def F_impl_PerfectMany_1 (a0 : Int) (a1 : (List Int)) : Option Int :=
  bnd (lp (fun s => F_impl_PerfectMany_1_l1 a1 s.1 s.2) (0, 0)) (fun j => F_impl_PerfectMany_1_k2 j)
noncomputable def F_impl_PerfectMany (a0_0 : (List (List Int))) : Option Int :=
  cal (F_impl_GraphOk a0_0) (fun x9 =>
    if ¬ (x9 = true) then
      some (-1)
    else
      cal (F_impl_netsOf a0_0) (fun x16 =>
        cal (F_impl_onSets x16 1 (fun (z32 : Int) (z33 : (List Int)) => F_impl_PerfectMany_1 z32 z33)) (fun x35 =>
          cal (F_impl_nets_all x16) (fun x51 =>
            idx x35 (BitVec.toNat x51 : Int) (fun x57 =>
              some x57)))))
noncomputable def F_spec_l1Size (a0_0 : (List (List Int))) : Option Int :=
  some (a0_0.length : Int)
noncomputable def F_spec_l1Has_l1 (a0 : (List Int)) (a1 : Int) (i23 : Int) : Option (Int ⊕ (Unit ⊕ Bool)) :=
  if i23 < (a0.length : Int) then
    idx a0 i23 (fun x56 =>
      if x56 = a1 then
        some (.inr (.inr true))
      else
        ck (i23 + 1) (fun _ =>
          some (.inl (i23 + 1))))
  else
    some (.inr (.inl ()))
noncomputable def F_spec_l1Has_k2   : Option Bool :=
  some false
noncomputable def F_spec_l1Has (a0 : (List Int)) (a1 : Int) : Option Bool :=
  bnd (lp (fun s => F_spec_l1Has_l1 a0 a1 s) 0) (fun j => F_spec_l1Has_k2 )
noncomputable def F_spec_GraphOk_l1 (a0_0 : (List (List Int))) (x9 : Int) (i80 : Int) : Option (Int ⊕ (Unit ⊕ Bool)) :=
  if i80 < x9 then
    idx a0_0 i80 (fun x146 =>
      cal (F_spec_l1Set x146 x9) (fun x160 =>
        if ¬ (x160 = true) then
          some (.inr (.inr false))
        else
          idx a0_0 i80 (fun x169 =>
            cal (F_spec_l1Has x169 i80) (fun x183 =>
              if x183 = true then
                some (.inr (.inr false))
              else
                ck (i80 + 1) (fun _ =>
                  some (.inl (i80 + 1)))))))
  else
    some (.inr (.inl ()))
noncomputable def F_spec_GraphOk_l4 (a0_0 : (List (List Int))) (i436 : Int) (i762 : Int) : Option (Int ⊕ (Unit ⊕ (Int ⊕ (Unit ⊕ Bool)))) :=
  idx a0_0 i436 (fun x847 =>
    if i762 < (x847.length : Int) then
      idx a0_0 i436 (fun x862 =>
        idx x862 i762 (fun x876 =>
          idx a0_0 x876 (fun x888 =>
            cal (F_spec_l1Has x888 i436) (fun x904 =>
              if ¬ (x904 = true) then
                some (.inr (.inr (.inr (.inr false))))
              else
                ck (i762 + 1) (fun _ =>
                  some (.inl (i762 + 1)))))))
    else
      some (.inr (.inl ())))
noncomputable def F_spec_GraphOk_k5 (i436 : Int)  : Option (Int ⊕ (Unit ⊕ Bool)) :=
  ck (i436 + 1) (fun _ =>
    some (.inl (i436 + 1)))
noncomputable def F_spec_GraphOk_l3 (a0_0 : (List (List Int))) (x9 : Int) (i436 : Int) : Option (Int ⊕ (Unit ⊕ Bool)) :=
  if i436 < x9 then
    bnd (lp (fun s => F_spec_GraphOk_l4 a0_0 i436 s) 0) (fun j => F_spec_GraphOk_k5 i436 )
  else
    some (.inr (.inl ()))
noncomputable def F_spec_GraphOk_k6   : Option Bool :=
  some true
noncomputable def F_spec_GraphOk_k2 (a0_0 : (List (List Int))) (x9 : Int)  : Option Bool :=
  bnd (lp (fun s => F_spec_GraphOk_l3 a0_0 x9 s) 0) (fun j => F_spec_GraphOk_k6 )
noncomputable def F_spec_GraphOk (a0_0 : (List (List Int))) : Option Bool :=
  cal (F_spec_l1Size a0_0) (fun x9 =>
    cal (F_spec_l1In x9 1 16) (fun x16 =>
      if ¬ (x16 = true) then
        some false
      else
        bnd (lp (fun s => F_spec_GraphOk_l1 a0_0 x9 s) 0) (fun j => F_spec_GraphOk_k2 a0_0 x9 )))
noncomputable def F_spec_l25Bits_l2 (a0_0 : (List (List Int))) (i284 : Int) (i625 : Int) (i627 : Int) : Option ((Int × Int) ⊕ (Int ⊕ (((List Int) × Int) ⊕ ((List Int) ⊕ (List Int))))) :=
  idx a0_0 i284 (fun x709 =>
    if i627 < (x709.length : Int) then
      idx a0_0 i284 (fun x724 =>
        idx x724 i627 (fun x738 =>
          grd ((0 : Int) ≤ x738) (
            ck (1 * 2 ^ (x738 : Int).toNat) (fun _ =>
              ck (i627 + 1) (fun _ =>
                some (.inl (i64or i625 (1 * 2 ^ (x738 : Int).toNat), i627 + 1)))))))
    else
      some (.inr (.inl i625)))
noncomputable def F_spec_l25Bits_k3 (l281 : (List Int)) (i284 : Int) (i696 : Int) : Option (((List Int) × Int) ⊕ ((List Int) ⊕ (List Int))) :=
  app l281 ([i696]) (fun _ =>
    ck (i284 + 1) (fun _ =>
      some (.inl ((l281 ++ ([i696])), i284 + 1))))
noncomputable def F_spec_l25Bits_l1 (a0_0 : (List (List Int))) (l281 : (List Int)) (i284 : Int) : Option (((List Int) × Int) ⊕ ((List Int) ⊕ (List Int))) :=
  if i284 < (a0_0.length : Int) then
    bnd (lp (fun s => F_spec_l25Bits_l2 a0_0 i284 s.1 s.2) (0, 0)) (fun j => F_spec_l25Bits_k3 l281 i284 j)
  else
    some (.inr (.inl l281))
noncomputable def F_spec_l25Bits_k4  (l539 : (List Int)) : Option (List Int) :=
  some l539
noncomputable def F_spec_l25Bits (a0_0 : (List (List Int))) : Option (List Int) :=
  bnd (lp (fun s => F_spec_l25Bits_l1 a0_0 s.1 s.2) (([] : (List Int)), 0)) (fun j => F_spec_l25Bits_k4 j)
noncomputable def F_spec_l27Low_l1 (a0 : Int) (i11 : Int) : Option (Int ⊕ (Int ⊕ Int)) :=
  grd ((0 : Int) ≤ i11) (
    if (i64and (a0 / 2 ^ (i11 : Int).toNat) 1) = 0 then
      ck (i11 + 1) (fun _ =>
        some (.inl (i11 + 1)))
    else
      some (.inr (.inl i11)))
noncomputable def F_spec_l27Low_k2  (i22 : Int) : Option Int :=
  some i22
noncomputable def F_spec_l27Low (a0 : Int) : Option Int :=
  bnd (lp (fun s => F_spec_l27Low_l1 a0 s) 0) (fun j => F_spec_l27Low_k2 j)
noncomputable def F_spec_l1Max (a0 : Int) (a1 : Int) : Option Int :=
  if a1 < a0 then
    some a0
  else
    some a1
noncomputable def F_spec_l27Table_l2 (l210 : (List Int)) (i213 : Int) (i495 : Int) (i497 : Int) : Option ((Int × Int) ⊕ (Int ⊕ (((List Int) × Int) ⊕ ((List Int) ⊕ (List Int))))) :=
  if 0 < i497 then
    ck (0 - i497) (fun _ =>
      idx l210 (i64andn (i64and i213 (i213 - 1)) (i64and i497 (0 - i497))) (fun x552 =>
        ck (1 + x552) (fun _ =>
          cal (F_spec_l1Max i495 (1 + x552)) (fun x566 =>
            ck (i497 - 1) (fun _ =>
              some (.inl (x566, i64and i497 (i497 - 1))))))))
  else
    some (.inr (.inl i495))
noncomputable def F_spec_l27Table_k3 (l210 : (List Int)) (i213 : Int) (i538 : Int) : Option (((List Int) × Int) ⊕ ((List Int) ⊕ (List Int))) :=
  idx l210 i213 (fun x575 =>
    ck (i213 + 1) (fun _ =>
      some (.inl ((l210.set ((i213 : Int).toNat) i538), i213 + 1))))
noncomputable def F_spec_l27Table_l1 (a0 : (List Int)) (l210 : (List Int)) (i213 : Int) : Option (((List Int) × Int) ⊕ ((List Int) ⊕ (List Int))) :=
  if i213 < (l210.length : Int) then
    cal (F_spec_l27Low i213) (fun x419 =>
      ck (i213 - 1) (fun _ =>
        idx l210 (i64and i213 (i213 - 1)) (fun x428 =>
          idx a0 x419 (fun x440 =>
            bnd (lp (fun s => F_spec_l27Table_l2 l210 i213 s.1 s.2) (x428, i64and x440 (i64and i213 (i213 - 1)))) (fun j => F_spec_l27Table_k3 l210 i213 j)))))
  else
    some (.inr (.inl l210))
noncomputable def F_spec_l27Table_k4  (l406 : (List Int)) : Option (List Int) :=
  some l406
noncomputable def F_spec_l27Table (a0 : (List Int)) : Option (List Int) :=
  grd ((0 : Int) ≤ (a0.length : Int)) (
    ck (1 * 2 ^ ((a0.length : Int) : Int).toNat) (fun _ =>
      mkS (1 * 2 ^ ((a0.length : Int) : Int).toNat) (0 : Int) (fun _ =>
        bnd (lp (fun s => F_spec_l27Table_l1 a0 s.1 s.2) ((List.replicate (1 * 2 ^ ((a0.length : Int) : Int).toNat : Int).toNat (0 : Int)), 1)) (fun j => F_spec_l27Table_k4 j))))
noncomputable def F_spec_l25All (a0_0 : (List (List Int))) : Option Int :=
  grd ((0 : Int) ≤ (a0_0.length : Int)) (
    ck (1 * 2 ^ ((a0_0.length : Int) : Int).toNat) (fun _ =>
      ck ((1 * 2 ^ ((a0_0.length : Int) : Int).toNat) - 1) (fun _ =>
        some ((1 * 2 ^ ((a0_0.length : Int) : Int).toNat) - 1))))
noncomputable def F_spec_BestMatch_l2 (x45 : (List Int)) (i467 : Int) (l980 : (List (List Int))) (i989 : Int) : Option (((List (List Int)) × Int) ⊕ (((List (List Int)) × Int) ⊕ (((List (List Int)) × Int) ⊕ ((List (List Int)) ⊕ (List (List Int)))))) :=
  if 0 < i989 then
    ck (0 - i989) (fun _ =>
      idx x45 (i64andn (i64and i467 (i467 - 1)) (i64and i989 (0 - i989))) (fun x1096 =>
        ck (1 + x1096) (fun _ =>
          idx x45 i467 (fun x1110 =>
            if (1 + x1096) < x1110 then
              ck (i989 - 1) (fun _ =>
                some (.inl (l980, i64and i989 (i989 - 1))))
            else
              some (.inr (.inl (l980, i989)))))))
  else
    some (.inr (.inl (l980, i989)))
noncomputable def F_spec_BestMatch_k3 (i467 : Int) (x870 : Int) (l1067 : (List (List Int))) (i1076 : Int) : Option (((List (List Int)) × Int) ⊕ ((List (List Int)) ⊕ (List (List Int)))) :=
  if 0 < i1076 then
    cal (F_spec_l27Low i1076) (fun x1132 =>
      app l1067 ([[x870, x1132]]) (fun _ =>
        grd ((0 : Int) ≤ x1132) (
          ck (1 * 2 ^ (x1132 : Int).toNat) (fun _ =>
            some (.inl ((l1067 ++ ([[x870, x1132]])), i64andn (i64and i467 (i467 - 1)) (1 * 2 ^ (x1132 : Int).toNat)))))))
  else
    some (.inl (l1067, i64and i467 (i467 - 1)))
noncomputable def F_spec_BestMatch_l1 (x27 : (List Int)) (x45 : (List Int)) (l458 : (List (List Int))) (i467 : Int) : Option (((List (List Int)) × Int) ⊕ ((List (List Int)) ⊕ (List (List Int)))) :=
  idx x45 i467 (fun x857 =>
    if 0 < x857 then
      cal (F_spec_l27Low i467) (fun x870 =>
        ck (i467 - 1) (fun _ =>
          idx x27 x870 (fun x879 =>
            bnd (lp (fun s => F_spec_BestMatch_l2 x45 i467 s.1 s.2) (l458, i64and x879 (i64and i467 (i467 - 1)))) (fun j => F_spec_BestMatch_k3 i467 x870 j.1 j.2))))
    else
      some (.inr (.inl l458)))
noncomputable def F_spec_BestMatch_k4  (l845 : (List (List Int))) : Option (List (List Int)) :=
  some l845
noncomputable def F_spec_BestMatch (a0_0 : (List (List Int))) : Option (List (List Int)) :=
  cal (F_spec_GraphOk a0_0) (fun x20 =>
    if ¬ (x20 = true) then
      some ([] : (List (List Int)))
    else
      cal (F_spec_l25Bits a0_0) (fun x27 =>
        cal (F_spec_l27Table x27) (fun x45 =>
          cal (F_spec_l25All a0_0) (fun x62 =>
            bnd (lp (fun s => F_spec_BestMatch_l1 x27 x45 s.1 s.2) (([] : (List (List Int))), x62)) (fun j => F_spec_BestMatch_k4 j)))))
noncomputable def F_spec_l1Edges_l2 (a0_0 : (List (List Int))) (i505 : Int) (l1152 : (List (List Int))) (i1155 : Int) : Option (((List (List Int)) × Int) ⊕ ((List (List Int)) ⊕ (((List (List Int)) × Int) ⊕ ((List (List Int)) ⊕ (List (List Int)))))) :=
  idx a0_0 i505 (fun x1316 =>
    if i1155 < (x1316.length : Int) then
      idx a0_0 i505 (fun x1331 =>
        idx x1331 i1155 (fun x1345 =>
          if i505 < x1345 then
            idx a0_0 i505 (fun x1358 =>
              idx x1358 i1155 (fun x1372 =>
                app l1152 ([[i505, x1372]]) (fun _ =>
                  ck (i1155 + 1) (fun _ =>
                    some (.inl ((l1152 ++ ([[i505, x1372]])), i1155 + 1))))))
          else
            ck (i1155 + 1) (fun _ =>
              some (.inl (l1152, i1155 + 1)))))
    else
      some (.inr (.inl l1152)))
noncomputable def F_spec_l1Edges_k3 (i505 : Int) (l1302 : (List (List Int))) : Option (((List (List Int)) × Int) ⊕ ((List (List Int)) ⊕ (List (List Int)))) :=
  ck (i505 + 1) (fun _ =>
    some (.inl (l1302, i505 + 1)))
noncomputable def F_spec_l1Edges_l1 (a0_0 : (List (List Int))) (l502 : (List (List Int))) (i505 : Int) : Option (((List (List Int)) × Int) ⊕ ((List (List Int)) ⊕ (List (List Int)))) :=
  cal (F_spec_l1Size a0_0) (fun x990 =>
    if i505 < x990 then
      bnd (lp (fun s => F_spec_l1Edges_l2 a0_0 i505 s.1 s.2) (l502, 0)) (fun j => F_spec_l1Edges_k3 i505 j)
    else
      some (.inr (.inl l502)))
noncomputable def F_spec_l1Edges_k4  (l978 : (List (List Int))) : Option (List (List Int)) :=
  some l978
noncomputable def F_spec_l1Edges (a0_0 : (List (List Int))) : Option (List (List Int)) :=
  bnd (lp (fun s => F_spec_l1Edges_l1 a0_0 s.1 s.2) (([] : (List (List Int))), 0)) (fun j => F_spec_l1Edges_k4 j)
noncomputable def F_spec_EdgesOf (a0_0 : (List (List Int))) : Option (List (List Int)) :=
  cal (F_spec_GraphOk a0_0) (fun x9 =>
    if ¬ (x9 = true) then
      some ([] : (List (List Int)))
    else
      cal (F_spec_l1Edges a0_0) (fun x27 =>
        some x27))
noncomputable def F_spec_l1There (a0_0 : (List (List Int))) (a1 : Int) : Option Bool :=
  cal (F_spec_l1Size a0_0) (fun x9 =>
    ck (x9 - 1) (fun _ =>
      cal (F_spec_l1In a1 0 (x9 - 1)) (fun x18 =>
        some x18)))
noncomputable def F_spec_l2Pair (a0_0 : (List (List Int))) (a1 : Int) (a2 : Int) : Option Bool :=
  cal (F_spec_GraphOk a0_0) (fun x9 =>
    if x9 = true then
      cal (F_spec_l1There a0_0 a1) (fun x16 =>
        if x16 = true then
          cal (F_spec_l1There a0_0 a2) (fun x23 =>
            if x23 = true then
              some (decide (a1 ≠ a2))
            else
              some false)
        else
          some false)
    else
      some false)
noncomputable def F_spec_l1Edge (a0_0 : (List (List Int))) (a1 : Int) (a2 : Int) : Option Bool :=
  idx a0_0 a1 (fun x9 =>
    cal (F_spec_l1Has x9 a2) (fun x23 =>
      some x23))
noncomputable def F_spec_l1CopyGraph_l1 (a0_0 : (List (List Int))) (l198 : (List (List Int))) (i201 : Int) : Option (((List (List Int)) × Int) ⊕ ((List (List Int)) ⊕ (List (List Int)))) :=
  if i201 < (a0_0.length : Int) then
    idx a0_0 i201 (fun x385 =>
      cal (F_spec_l1Copy x385) (fun x402 =>
        app l198 ([x402]) (fun _ =>
          ck (i201 + 1) (fun _ =>
            some (.inl ((l198 ++ ([x402])), i201 + 1))))))
  else
    some (.inr (.inl l198))
noncomputable def F_spec_l1CopyGraph_k2  (l355 : (List (List Int))) : Option (List (List Int)) :=
  some l355
noncomputable def F_spec_l1CopyGraph (a0_0 : (List (List Int))) : Option (List (List Int)) :=
  bnd (lp (fun s => F_spec_l1CopyGraph_l1 a0_0 s.1 s.2) (([] : (List (List Int))), 0)) (fun j => F_spec_l1CopyGraph_k2 j)
noncomputable def F_spec_l2Without_l1 (a0 : (List Int)) (a1 : Int) (l81 : (List Int)) (i84 : Int) : Option (((List Int) × Int) ⊕ ((List Int) ⊕ (List Int))) :=
  if i84 < (a0.length : Int) then
    idx a0 i84 (fun x166 =>
      if x166 ≠ a1 then
        idx a0 i84 (fun x179 =>
          app l81 ([x179]) (fun _ =>
            ck (i84 + 1) (fun _ =>
              some (.inl ((l81 ++ ([x179])), i84 + 1)))))
      else
        ck (i84 + 1) (fun _ =>
          some (.inl (l81, i84 + 1))))
  else
    some (.inr (.inl l81))
noncomputable def F_spec_l2Without_k2  (l153 : (List Int)) : Option (List Int) :=
  some l153
noncomputable def F_spec_l2Without (a0 : (List Int)) (a1 : Int) : Option (List Int) :=
  bnd (lp (fun s => F_spec_l2Without_l1 a0 a1 s.1 s.2) (([] : (List Int)), 0)) (fun j => F_spec_l2Without_k2 j)
noncomputable def F_spec_CutEdge (a0_0 : (List (List Int))) (a1 : Int) (a2 : Int) : Option ((List (List Int)) × Bool) :=
  cal (F_spec_l2Pair a0_0 a1 a2) (fun x41 =>
    if ¬ (x41 = true) then
      some (([] : (List (List Int))), false)
    else
      cal (F_spec_l1Edge a0_0 a1 a2) (fun x52 =>
        if ¬ (x52 = true) then
          some (([] : (List (List Int))), false)
        else
          cal (F_spec_l1CopyGraph a0_0) (fun x63 =>
            idx x63 a1 (fun x103 =>
              cal (F_spec_l2Without x103 a2) (fun x123 =>
                idx x63 a1 (fun x142 =>
                  idx (x63.set ((a1 : Int).toNat) x123) a2 (fun x178 =>
                    cal (F_spec_l2Without x178 a1) (fun x198 =>
                      idx (x63.set ((a1 : Int).toNat) x123) a2 (fun x217 =>
                        some (((x63.set ((a1 : Int).toNat) x123).set ((a2 : Int).toNat) x198), true))))))))))
noncomputable def F_laws_w6Has_l1 (a0 : (List Int)) (a1 : Int) (i23 : Int) : Option (Int ⊕ (Unit ⊕ Bool)) :=
  if i23 < (a0.length : Int) then
    idx a0 i23 (fun x56 =>
      if x56 = a1 then
        some (.inr (.inr true))
      else
        ck (i23 + 1) (fun _ =>
          some (.inl (i23 + 1))))
  else
    some (.inr (.inl ()))
noncomputable def F_laws_w6Has_k2   : Option Bool :=
  some false
noncomputable def F_laws_w6Has (a0 : (List Int)) (a1 : Int) : Option Bool :=
  bnd (lp (fun s => F_laws_w6Has_l1 a0 a1 s) 0) (fun j => F_laws_w6Has_k2 )
noncomputable def F_laws_w6Rest_l1 (a0_0 : (List (List Int))) (a1 : (List Int)) (l87 : (List Int)) (i90 : Int) : Option (((List Int) × Int) ⊕ ((List Int) ⊕ (List Int))) :=
  if i90 < (a0_0.length : Int) then
    cal (F_laws_w6Has a1 i90) (fun x164 =>
      if ¬ (x164 = true) then
        app l87 ([i90]) (fun _ =>
          ck (i90 + 1) (fun _ =>
            some (.inl ((l87 ++ ([i90])), i90 + 1))))
      else
        ck (i90 + 1) (fun _ =>
          some (.inl (l87, i90 + 1))))
  else
    some (.inr (.inl l87))
noncomputable def F_laws_w6Rest_k2  (l151 : (List Int)) : Option (List Int) :=
  some l151
noncomputable def F_laws_w6Rest (a0_0 : (List (List Int))) (a1 : (List Int)) : Option (List Int) :=
  bnd (lp (fun s => F_laws_w6Rest_l1 a0_0 a1 s.1 s.2) (([] : (List Int)), 0)) (fun j => F_laws_w6Rest_k2 j)
noncomputable def F_spec_SetOk (a0_0 : (List (List Int))) (a1 : (List Int)) : Option Bool :=
  cal (F_spec_GraphOk a0_0) (fun x9 =>
    if x9 = true then
      cal (F_spec_l1Size a0_0) (fun x16 =>
        cal (F_spec_l1Set a1 x16) (fun x23 =>
          some x23))
    else
      some false)
noncomputable def F_spec_l2Of_l2 (a0_0 : (List (List Int))) (a1 : (List Int)) (i453 : Int) (l974 : (List (List Int))) (i977 : Int) : Option (((List (List Int)) × Int) ⊕ ((List (List Int)) ⊕ (((List (List Int)) × Int) ⊕ ((List (List Int)) ⊕ (List (List Int)))))) :=
  if i977 < i453 then
    idx a1 i453 (fun x1115 =>
      idx a1 i977 (fun x1127 =>
        cal (F_spec_l1Edge a0_0 x1115 x1127) (fun x1141 =>
          if x1141 = true then
            cal (F_spec_l1Link l974 i977 i453) (fun x1147 =>
              ck (i977 + 1) (fun _ =>
                some (.inl (x1147, i977 + 1))))
          else
            ck (i977 + 1) (fun _ =>
              some (.inl (l974, i977 + 1))))))
  else
    some (.inr (.inl l974))
noncomputable def F_spec_l2Of_k3 (i453 : Int) (l1090 : (List (List Int))) : Option (((List (List Int)) × Int) ⊕ ((List (List Int)) ⊕ (List (List Int)))) :=
  ck (i453 + 1) (fun _ =>
    some (.inl (l1090, i453 + 1)))
noncomputable def F_spec_l2Of_l1 (a0_0 : (List (List Int))) (a1 : (List Int)) (l450 : (List (List Int))) (i453 : Int) : Option (((List (List Int)) × Int) ⊕ ((List (List Int)) ⊕ (List (List Int)))) :=
  if i453 < (a1.length : Int) then
    bnd (lp (fun s => F_spec_l2Of_l2 a0_0 a1 i453 s.1 s.2) (l450, 0)) (fun j => F_spec_l2Of_k3 i453 j)
  else
    some (.inr (.inl l450))
noncomputable def F_spec_l2Of_k4  (l831 : (List (List Int))) : Option (List (List Int)) :=
  some l831
noncomputable def F_spec_l2Of (a0_0 : (List (List Int))) (a1 : (List Int)) : Option (List (List Int)) :=
  cal (F_spec_l1Empty (a1.length : Int)) (fun x19 =>
    bnd (lp (fun s => F_spec_l2Of_l1 a0_0 a1 s.1 s.2) (x19, 0)) (fun j => F_spec_l2Of_k4 j))
noncomputable def F_spec_Induced (a0_0 : (List (List Int))) (a1 : (List Int)) : Option ((List (List Int)) × Bool) :=
  cal (F_spec_SetOk a0_0 a1) (fun x19 =>
    if ¬ (x19 = true) then
      some (([] : (List (List Int))), false)
    else
      if (a1.length : Int) = 0 then
        some (([] : (List (List Int))), false)
      else
        cal (F_spec_l2Of a0_0 a1) (fun x35 =>
          some (x35, true)))
noncomputable def F_laws_w6Set_l1 (a1_0 : (List (List Int))) (l120 : ((List (BitVec 8)) × Int × Int)) (l130 : (List Int)) (i133 : Int) : Option ((((List (BitVec 8)) × Int × Int) × (List Int) × Int) ⊕ (((List Int) × ((List (BitVec 8)) × Int × Int)) ⊕ ((List Int) × ((List (BitVec 8)) × Int × Int)))) :=
  if i133 < (a1_0.length : Int) then
    cal (F_laws_dice_below l120 2) (fun x241 =>
      if x241.1 = 0 then
        app l130 ([i133]) (fun _ =>
          ck (i133 + 1) (fun _ =>
            some (.inl (x241.2, (l130 ++ ([i133])), i133 + 1))))
      else
        ck (i133 + 1) (fun _ =>
          some (.inl (x241.2, l130, i133 + 1))))
  else
    some (.inr (.inl (l130, l120)))
noncomputable def F_laws_w6Set_k2  (l222 : (List Int)) (l226 : ((List (BitVec 8)) × Int × Int)) : Option ((List Int) × ((List (BitVec 8)) × Int × Int)) :=
  some (l222, l226)
noncomputable def F_laws_w6Set (a0 : ((List (BitVec 8)) × Int × Int)) (a1_0 : (List (List Int))) : Option ((List Int) × ((List (BitVec 8)) × Int × Int)) :=
  bnd (lp (fun s => F_laws_w6Set_l1 a1_0 s.1 s.2.1 s.2.2) (a0, ([] : (List Int)), 0)) (fun j => F_laws_w6Set_k2 j.1 j.2)
noncomputable def F_impl_SetOk (a0_0 : (List (List Int))) (a1 : (List Int)) : Option Bool :=
  cal (F_impl_GraphOk a0_0) (fun x9 =>
    if x9 = true then
      cal (F_impl_increasing a1 (a0_0.length : Int)) (fun x16 =>
        some x16)
    else
      some false)
noncomputable def F_impl_reach_l2 (a0 : (List (BitVec 32))) (a2 : BitVec 32) (x282 : (List Int)) (u332 : BitVec 32) (i336 : Int) : Option (((BitVec 32) × Int) ⊕ ((BitVec 32) ⊕ ((BitVec 32) ⊕ (Unit ⊕ (BitVec 32))))) :=
  if i336 < (x282.length : Int) then
    idx x282 i336 (fun x384 =>
      idx a0 x384 (fun x396 =>
        ck (i336 + 1) (fun _ =>
          some (.inl (u332 ||| (x396 &&& a2), i336 + 1)))))
  else
    some (.inr (.inl u332))
noncomputable def F_impl_reach_k3 (u140 : BitVec 32) (u373 : BitVec 32) : Option ((BitVec 32) ⊕ (Unit ⊕ (BitVec 32))) :=
  if u373 = u140 then
    some (.inr (.inr u140))
  else
    some (.inl u373)
noncomputable def F_impl_reach_l1 (a0 : (List (BitVec 32))) (a2 : BitVec 32) (u140 : BitVec 32) : Option ((BitVec 32) ⊕ (Unit ⊕ (BitVec 32))) :=
  cal (F_impl_vset_list u140) (fun x282 =>
    bnd (lp (fun s => F_impl_reach_l2 a0 a2 x282 s.1 s.2) (u140, 0)) (fun j => F_impl_reach_k3 u140 j))
noncomputable def F_impl_reach (a0 : (List (BitVec 32))) (a1 : Int) (a2 : BitVec 32) : Option (BitVec 32) :=
  cal (F_impl_one a1) (fun x1 =>
    bnd (lp (fun s => F_impl_reach_l1 a0 a2 s) x1) (fun _ => none))
noncomputable def F_impl_partsOf_l1 (a0 : (List (BitVec 32))) (u61 : BitVec 32) (l65 : (List (BitVec 32))) : Option (((BitVec 32) × (List (BitVec 32))) ⊕ ((List (BitVec 32)) ⊕ (List (BitVec 32)))) :=
  if u61 ≠ (0#32) then
    cal (F_impl_vset_least u61) (fun x131 =>
      cal (F_impl_reach a0 x131 u61) (fun x138 =>
        app l65 ([x138]) (fun _ =>
          some (.inl (u61 &&& ~~~x138, (l65 ++ ([x138])))))))
  else
    some (.inr (.inl l65))
noncomputable def F_impl_partsOf_k2  (l118 : (List (BitVec 32))) : Option (List (BitVec 32)) :=
  some l118
noncomputable def F_impl_partsOf (a0 : (List (BitVec 32))) (a1 : BitVec 32) : Option (List (BitVec 32)) :=
  bnd (lp (fun s => F_impl_partsOf_l1 a0 s.1 s.2) (a1, ([] : (List (BitVec 32))))) (fun j => F_impl_partsOf_k2 j)
noncomputable def F_math_bits_OnesCount32 (a0 : BitVec 32) : Option Int :=
  idx popTab (BitVec.toNat (a0 >>> (24 : Int).toNat) : Int) (fun x1 =>
    idx popTab (BitVec.toNat ((a0 >>> (16 : Int).toNat) &&& (255#32)) : Int) (fun x4 =>
      idx popTab (BitVec.toNat ((a0 >>> (8 : Int).toNat) &&& (255#32)) : Int) (fun x7 =>
        idx popTab (BitVec.toNat (a0 &&& (255#32)) : Int) (fun x10 =>
          some (BitVec.toNat (((x1 + x4) + x7) + x10) : Int)))))
noncomputable def F_impl_vset_size (a0 : BitVec 32) : Option Int :=
  cal (F_math_bits_OnesCount32 a0) (fun x1 =>
    some x1)
noncomputable def F_impl_oddParts_l1 (x1 : (List (BitVec 32))) (i51 : Int) (i56 : Int) : Option ((Int × Int) ⊕ (Int ⊕ Int)) :=
  if i56 < (x1.length : Int) then
    idx x1 i56 (fun x105 =>
      cal (F_impl_vset_size x105) (fun x116 =>
        grd ((0 : Int) ≤ x116 ∧ (0 : Int) < 2) (
          ck (i51 + (x116 % 2)) (fun _ =>
            ck (i56 + 1) (fun _ =>
              some (.inl (i51 + (x116 % 2), i56 + 1)))))))
  else
    some (.inr (.inl i51))
noncomputable def F_impl_oddParts_k2  (i93 : Int) : Option Int :=
  some i93
noncomputable def F_impl_oddParts (a0 : (List (BitVec 32))) (a1 : BitVec 32) : Option Int :=
  cal (F_impl_partsOf a0 a1) (fun x1 =>
    bnd (lp (fun s => F_impl_oddParts_l1 x1 s.1 s.2) (0, 0)) (fun j => F_impl_oddParts_k2 j))
noncomputable def F_impl_OddParts (a0_0 : (List (List Int))) (a1 : (List Int)) : Option Int :=
  cal (F_impl_SetOk a0_0 a1) (fun x9 =>
    if ¬ (x9 = true) then
      some (-1)
    else
      cal (F_impl_netsOf a0_0) (fun x16 =>
        cal (F_impl_nets_all x16) (fun x32 =>
          cal (F_impl_maskOf a1) (fun x38 =>
            cal (F_impl_oddParts x16 (x32 &&& ~~~x38)) (fun x47 =>
              some x47)))))
noncomputable def F_spec_l25Mask_l1 (a0 : (List Int)) (i27 : Int) (i29 : Int) : Option ((Int × Int) ⊕ (Int ⊕ Int)) :=
  if i29 < (a0.length : Int) then
    idx a0 i29 (fun x68 =>
      grd ((0 : Int) ≤ x68) (
        ck (1 * 2 ^ (x68 : Int).toNat) (fun _ =>
          ck (i29 + 1) (fun _ =>
            some (.inl (i64or i27 (1 * 2 ^ (x68 : Int).toNat), i29 + 1))))))
  else
    some (.inr (.inl i27))
noncomputable def F_spec_l25Mask_k2  (i56 : Int) : Option Int :=
  some i56
noncomputable def F_spec_l25Mask (a0 : (List Int)) : Option Int :=
  bnd (lp (fun s => F_spec_l25Mask_l1 a0 s.1 s.2) (0, 0)) (fun j => F_spec_l25Mask_k2 j)
noncomputable def F_spec_l27Part_l2 (a0 : (List Int)) (a2 : Int) (i348 : Int) (t350 : Bool) (i351 : Int) : Option ((Int × Bool × Int) ⊕ ((Int × Bool) ⊕ ((Int × Bool) ⊕ (Int ⊕ Int)))) :=
  if i351 < (a0.length : Int) then
    grd ((0 : Int) ≤ i351) (
      if (i64and (i348 / 2 ^ (i351 : Int).toNat) 1) = 1 then
        idx a0 i351 (fun x410 =>
          if (i64andn (i64and x410 a2) i348) ≠ 0 then
            idx a0 i351 (fun x423 =>
              ck (i351 + 1) (fun _ =>
                some (.inl (i64or i348 (i64and x423 a2), true, i351 + 1))))
          else
            ck (i351 + 1) (fun _ =>
              some (.inl (i348, t350, i351 + 1))))
      else
        ck (i351 + 1) (fun _ =>
          some (.inl (i348, t350, i351 + 1))))
  else
    some (.inr (.inl (i348, t350)))
noncomputable def F_spec_l27Part_k3  (i395 : Int) (t397 : Bool) : Option ((Int × Bool) ⊕ (Int ⊕ Int)) :=
  some (.inl (i395, t397))
noncomputable def F_spec_l27Part_l1 (a0 : (List Int)) (a2 : Int) (i147 : Int) (t149 : Bool) : Option ((Int × Bool) ⊕ (Int ⊕ Int)) :=
  if t149 = true then
    bnd (lp (fun s => F_spec_l27Part_l2 a0 a2 s.1 s.2.1 s.2.2) (i147, false, 0)) (fun j => F_spec_l27Part_k3 j.1 j.2)
  else
    some (.inr (.inl i147))
noncomputable def F_spec_l27Part_k4  (i293 : Int) : Option Int :=
  some i293
noncomputable def F_spec_l27Part (a0 : (List Int)) (a1 : Int) (a2 : Int) : Option Int :=
  grd ((0 : Int) ≤ a1) (
    ck (1 * 2 ^ (a1 : Int).toNat) (fun _ =>
      bnd (lp (fun s => F_spec_l27Part_l1 a0 a2 s.1 s.2) (1 * 2 ^ (a1 : Int).toNat, true)) (fun j => F_spec_l27Part_k4 j)))
noncomputable def F_spec_l25Many_l1  (i14 : Int) (i16 : Int) : Option ((Int × Int) ⊕ (Int ⊕ Int)) :=
  if 0 < i14 then
    ck (i16 + 1) (fun _ =>
      ck (i14 - 1) (fun _ =>
        some (.inl (i64and i14 (i14 - 1), i16 + 1))))
  else
    some (.inr (.inl i16))
noncomputable def F_spec_l25Many_k2  (i30 : Int) : Option Int :=
  some i30
noncomputable def F_spec_l25Many (a0 : Int) : Option Int :=
  bnd (lp (fun s => F_spec_l25Many_l1 s.1 s.2) (a0, 0)) (fun j => F_spec_l25Many_k2 j)
noncomputable def F_spec_l27Parts_l1 (a0 : (List Int)) (i39 : Int) (i41 : Int) (i43 : Int) : Option ((Int × Int × Int) ⊕ ((Int × Int) ⊕ (Int × Int))) :=
  if 0 < i39 then
    cal (F_spec_l27Low i39) (fun x96 =>
      cal (F_spec_l27Part a0 x96 i39) (fun x103 =>
        ck (i41 + 1) (fun _ =>
          cal (F_spec_l25Many x103) (fun x112 =>
            grd ((0 : Int) ≤ x112 ∧ (0 : Int) < 2) (
              ck (i43 + (x112 % 2)) (fun _ =>
                some (.inl (i64andn i39 x103, i41 + 1, i43 + (x112 % 2)))))))))
  else
    some (.inr (.inl (i41, i43)))
noncomputable def F_spec_l27Parts_k2  (i82 : Int) (i84 : Int) : Option (Int × Int) :=
  some (i82, i84)
noncomputable def F_spec_l27Parts (a0 : (List Int)) (a1 : Int) : Option (Int × Int) :=
  bnd (lp (fun s => F_spec_l27Parts_l1 a0 s.1 s.2.1 s.2.2) (a1, 0, 0)) (fun j => F_spec_l27Parts_k2 j.1 j.2)
noncomputable def F_spec_OddParts (a0_0 : (List (List Int))) (a1 : (List Int)) : Option Int :=
  cal (F_spec_GraphOk a0_0) (fun x23 =>
    if ¬ (x23 = true) then
      some (-1)
    else
      cal (F_spec_SetOk a0_0 a1) (fun x30 =>
        if ¬ (x30 = true) then
          some (-1)
        else
          cal (F_spec_l25Bits a0_0) (fun x40 =>
            cal (F_spec_l25All a0_0) (fun x55 =>
              cal (F_spec_l25Mask a1) (fun x60 =>
                cal (F_spec_l27Parts x40 (i64andn x55 x60)) (fun x69 =>
                  some x69.2))))))
noncomputable def F_laws_FnMatchings_k1 (x21 : ((List (List Int)) × ((List (BitVec 8)) × Int × Int))) (x49 : Int) (x56 : Int) (x157 : (Int × ((List (BitVec 8)) × Int × Int))) (xqr1o7_1 : ((List (List Int)) × Bool)) (i310 : Int) (i312 : Int) : Option Bool :=
  cal (F_laws_w6Set x157.2 x21.1) (fun x390 =>
    cal (F_impl_MatchingsMany xqr1o7_1.1) (fun x417 =>
      ck (x417 + i310) (fun _ =>
        if x49 = (x417 + i310) then
          cal (F_impl_PerfectMany xqr1o7_1.1) (fun x428 =>
            ck (x428 + i312) (fun _ =>
              if x56 = (x428 + i312) then
                cal (F_impl_OddParts x21.1 x390.1) (fun x439 =>
                  cal (F_spec_OddParts x21.1 x390.1) (fun x447 =>
                    some (decide (x439 = x447))))
              else
                some false))
        else
          some false)))
noncomputable def F_laws_FnMatchings (a0 : (List (BitVec 8))) : Option Bool :=
  cal (F_laws_big a0) (fun x1 =>
    if x1 = true then
      some true
    else
      cal (F_laws_roll a0 809) (fun x8 =>
        cal (F_laws_w6Graph x8 8) (fun x21 =>
          cal (F_impl_MatchingsMany x21.1) (fun x49 =>
            cal (F_impl_PerfectMany x21.1) (fun x56 =>
              cal (F_spec_BestMatch x21.1) (fun x101 =>
                ck (2 * (x101.length : Int)) (fun _ =>
                  if ((decide (0 < x56)) != (decide ((2 * (x101.length : Int)) = (x21.1.length : Int)))) = true then
                    some false
                  else
                    if x49 < x56 then
                      some false
                    else
                      cal (F_spec_EdgesOf x21.1) (fun x133 =>
                        if (x133.length : Int) = 0 then
                          if x49 = 1 then
                            some (decide (x56 = 0))
                          else
                            some false
                        else
                          cal (F_laws_dice_below x21.2 (x133.length : Int)) (fun x157 =>
                            idx x133 x157.1 (fun x165 =>
                              idx x165 0 (fun x183 =>
                                idx x165 1 (fun x195 =>
                                  cal (F_spec_CutEdge x21.1 x183 x195) (fun xqr1o7_1 =>
                                    cal (F_laws_w6Rest x21.1 x165) (fun x210 =>
                                      bnd (
                                        if 0 < (x210.length : Int) then
                                          cal (F_spec_Induced x21.1 x210) (fun x335 =>
                                            cal (F_impl_MatchingsMany x335.1) (fun x376 =>
                                              cal (F_impl_PerfectMany x335.1) (fun x383 =>
                                                some (.inl (x376, x383)))))
                                        else
                                          some (.inl (1, 1))) (fun j => F_laws_FnMatchings_k1 x21 x49 x56 x157 xqr1o7_1 j.1 j.2)))))))))))))))
end Go.Proofs.YtadjcnllmkdgiaaDoor
