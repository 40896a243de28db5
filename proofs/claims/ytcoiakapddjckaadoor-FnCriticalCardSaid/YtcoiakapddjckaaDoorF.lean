/- Functional forms, printed by gen.py. -/
import Derived.Test.YtcoiakapddjckaaDoorPure
namespace Go.Proofs.YtcoiakapddjckaaDoor

noncomputable def F_laws_big (a0 : (List (BitVec 8))) : Option Bool :=
  some (decide (4096 < (a0.length : Int)))
noncomputable def F_laws_roll_l1 (a0 : (List (BitVec 8))) (i48 : Int) (i50 : Int) : Option ((Int × Int) ⊕ (Int ⊕ ((List (BitVec 8)) × Int × Int))) :=
  if i50 < (a0.length : Int) then
    idx a0 i50 (fun x99 =>
      ck (i50 + 1) (fun _ =>
        some (.inl ((((((i48 * 1099511628211) % 18446744073709551616) + (BitVec.toNat x99 : Int)) % 18446744073709551616) + 3) % 18446744073709551616, i50 + 1))))
  else
    some (.inr (.inl i48))
noncomputable def F_laws_roll_k2 (a0 : (List (BitVec 8))) (i87 : Int) : Option ((List (BitVec 8)) × Int × Int) :=
  some (a0, 0, i87)
noncomputable def F_laws_roll (a0 : (List (BitVec 8))) (a1 : Int) : Option ((List (BitVec 8)) × Int × Int) :=
  grd ((0 : Int) ≤ (a0.length : Int)) (
    bnd (lp (fun s => F_laws_roll_l1 a0 s.1 s.2) ((((a1 * 7919) % 18446744073709551616) + (a0.length : Int)) % 18446744073709551616, 0)) (fun j => F_laws_roll_k2 a0 j))
noncomputable def F_laws_dice_below (a0 : ((List (BitVec 8)) × Int × Int)) (a1 : Int) : Option (Int × ((List (BitVec 8)) × Int × Int)) :=
  ck (((BitVec.ofInt 64 (((((a0.2.2 * 6364136223846793005) % 18446744073709551616) + 1442695040888963407) % 18446744073709551616) / 2 ^ (33 : Int).toNat) &&& BitVec.ofInt 64 16777215).toNat : Int)) (fun _ =>
    if a0.2.1 < (a0.1.length : Int) then
      idx a0.1 a0.2.1 (fun x11 =>
        ck (((BitVec.ofInt 64 (((((a0.2.2 * 6364136223846793005) % 18446744073709551616) + 1442695040888963407) % 18446744073709551616) / 2 ^ (33 : Int).toNat) &&& BitVec.ofInt 64 16777215).toNat : Int) + (BitVec.toNat x11 : Int)) (fun _ =>
          ck (a0.2.1 + 1) (fun _ =>
            grd ((0 : Int) ≤ (((BitVec.ofInt 64 (((((a0.2.2 * 6364136223846793005) % 18446744073709551616) + 1442695040888963407) % 18446744073709551616) / 2 ^ (33 : Int).toNat) &&& BitVec.ofInt 64 16777215).toNat : Int) + (BitVec.toNat x11 : Int)) ∧ (0 : Int) < a1) (
              some ((((BitVec.ofInt 64 (((((a0.2.2 * 6364136223846793005) % 18446744073709551616) + 1442695040888963407) % 18446744073709551616) / 2 ^ (33 : Int).toNat) &&& BitVec.ofInt 64 16777215).toNat : Int) + (BitVec.toNat x11 : Int)) % a1, (a0.1, a0.2.1 + 1, (((a0.2.2 * 6364136223846793005) % 18446744073709551616) + 1442695040888963407) % 18446744073709551616))))))
    else
      grd ((0 : Int) ≤ ((BitVec.ofInt 64 (((((a0.2.2 * 6364136223846793005) % 18446744073709551616) + 1442695040888963407) % 18446744073709551616) / 2 ^ (33 : Int).toNat) &&& BitVec.ofInt 64 16777215).toNat : Int) ∧ (0 : Int) < a1) (
        some (((BitVec.ofInt 64 (((((a0.2.2 * 6364136223846793005) % 18446744073709551616) + 1442695040888963407) % 18446744073709551616) / 2 ^ (33 : Int).toNat) &&& BitVec.ofInt 64 16777215).toNat : Int) % a1, (a0.1, a0.2.1, (((a0.2.2 * 6364136223846793005) % 18446744073709551616) + 1442695040888963407) % 18446744073709551616))))
noncomputable def F_spec_l1In (a0 : Int) (a1 : Int) (a2 : Int) : Option Bool :=
  if a1 ≤ a0 then
    some (decide (a0 ≤ a2))
  else
    some false
noncomputable def F_spec_l1Empty_l1 (a0 : Int) (l128 : (List (List Int))) (i131 : Int) : Option (((List (List Int)) × Int) ⊕ ((List (List Int)) ⊕ (List (List Int)))) :=
  if i131 < a0 then
    app l128 ([([] : (List Int))]) (fun _ =>
      ck (i131 + 1) (fun _ =>
        some (.inl ((l128 ++ ([([] : (List Int))])), i131 + 1))))
  else
    some (.inr (.inl l128))
noncomputable def F_spec_l1Empty_k2  (l231 : (List (List Int))) : Option (List (List Int)) :=
  some l231
noncomputable def F_spec_l1Empty (a0 : Int) : Option (List (List Int)) :=
  bnd (lp (fun s => F_spec_l1Empty_l1 a0 s.1 s.2) (([] : (List (List Int))), 0)) (fun j => F_spec_l1Empty_k2 j)
noncomputable def F_spec_l1Set_l1 (a0 : (List Int)) (a1 : Int) (i69 : Int) : Option (Int ⊕ (Unit ⊕ Bool)) :=
  if i69 < (a0.length : Int) then
    idx a0 i69 (fun x147 =>
      ck (a1 - 1) (fun _ =>
        cal (F_spec_l1In x147 0 (a1 - 1)) (fun x163 =>
          if ¬ (x163 = true) then
            some (.inr (.inr false))
          else
            if 0 < i69 then
              idx a0 i69 (fun x172 =>
                ck (i69 - 1) (fun _ =>
                  idx a0 (i69 - 1) (fun x186 =>
                    if x172 ≤ x186 then
                      some (.inr (.inr false))
                    else
                      ck (i69 + 1) (fun _ =>
                        some (.inl (i69 + 1))))))
            else
              ck (i69 + 1) (fun _ =>
                some (.inl (i69 + 1))))))
  else
    some (.inr (.inl ()))
noncomputable def F_spec_l1Set_k2   : Option Bool :=
  some true
noncomputable def F_spec_l1Set (a0 : (List Int)) (a1 : Int) : Option Bool :=
  if a1 < (a0.length : Int) then
    some false
  else
    bnd (lp (fun s => F_spec_l1Set_l1 a0 a1 s) 0) (fun j => F_spec_l1Set_k2 )
noncomputable def F_spec_l1Copy (a0 : (List Int)) : Option (List Int) :=
  app ([] : (List Int)) a0 (fun _ =>
    some (([] : (List Int)) ++ a0))
noncomputable def F_spec_l1Into_l1 (a0 : (List Int)) (a1 : Int) (i23 : Int) : Option (Int ⊕ (Int ⊕ (List Int))) :=
  if i23 < (a0.length : Int) then
    idx a0 i23 (fun x58 =>
      if x58 < a1 then
        ck (i23 + 1) (fun _ =>
          some (.inl (i23 + 1)))
      else
        some (.inr (.inl i23)))
  else
    some (.inr (.inl i23))
noncomputable def F_spec_l1Into_k2 (a0 : (List Int)) (a1 : Int) (i46 : Int) : Option (List Int) :=
  if i46 < (a0.length : Int) then
    idx a0 i46 (fun x74 =>
      if x74 = a1 then
        some a0
      else
        slc a0 0 i46 (fun _ =>
          cal (F_spec_l1Copy ((a0.drop (0 : Int).toNat).take ((i46 : Int).toNat - (0 : Int).toNat))) (fun x95 =>
            app x95 ([a1]) (fun _ =>
              slc a0 i46 (a0.length : Int) (fun _ =>
                app (x95 ++ ([a1])) ((a0.drop (i46 : Int).toNat).take (((a0.length : Int) : Int).toNat - (i46 : Int).toNat)) (fun _ =>
                  some ((x95 ++ ([a1])) ++ ((a0.drop (i46 : Int).toNat).take (((a0.length : Int) : Int).toNat - (i46 : Int).toNat)))))))))
  else
    slc a0 0 i46 (fun _ =>
      cal (F_spec_l1Copy ((a0.drop (0 : Int).toNat).take ((i46 : Int).toNat - (0 : Int).toNat))) (fun x159 =>
        app x159 ([a1]) (fun _ =>
          slc a0 i46 (a0.length : Int) (fun _ =>
            app (x159 ++ ([a1])) ((a0.drop (i46 : Int).toNat).take (((a0.length : Int) : Int).toNat - (i46 : Int).toNat)) (fun _ =>
              some ((x159 ++ ([a1])) ++ ((a0.drop (i46 : Int).toNat).take (((a0.length : Int) : Int).toNat - (i46 : Int).toNat))))))))
noncomputable def F_spec_l1Into (a0 : (List Int)) (a1 : Int) : Option (List Int) :=
  bnd (lp (fun s => F_spec_l1Into_l1 a0 a1 s) 0) (fun j => F_spec_l1Into_k2 a0 a1 j)
noncomputable def F_spec_l1Link (a0_0 : (List (List Int))) (a1 : Int) (a2 : Int) : Option (List (List Int)) :=
  idx a0_0 a1 (fun x23 =>
    cal (F_spec_l1Into x23 a2) (fun x44 =>
      idx a0_0 a1 (fun x58 =>
        idx (a0_0.set ((a1 : Int).toNat) x44) a2 (fun x91 =>
          cal (F_spec_l1Into x91 a1) (fun x112 =>
            idx (a0_0.set ((a1 : Int).toNat) x44) a2 (fun x126 =>
              some ((a0_0.set ((a1 : Int).toNat) x44).set ((a2 : Int).toNat) x112)))))))
noncomputable def F_spec_GraphOf_l1 (a0 : Int) (a1 : (List (List Int))) (l302 : (List (List Int))) (i305 : Int) : Option (((List (List Int)) × Int) ⊕ ((List (List Int)) ⊕ ((List (List Int)) × Bool))) :=
  if i305 < (a1.length : Int) then
    idx a1 i305 (fun x587 =>
      if (x587.length : Int) ≠ 2 then
        some (.inr (.inr (([] : (List (List Int))), false)))
      else
        idx a1 i305 (fun x609 =>
          cal (F_spec_l1Set x609 a0) (fun x624 =>
            if ¬ (x624 = true) then
              some (.inr (.inr (([] : (List (List Int))), false)))
            else
              idx a1 i305 (fun x637 =>
                idx x637 0 (fun x652 =>
                  idx a1 i305 (fun x664 =>
                    idx x664 1 (fun x679 =>
                      cal (F_spec_l1Link l302 x652 x679) (fun x694 =>
                        ck (i305 + 1) (fun _ =>
                          some (.inl (x694, i305 + 1)))))))))))
  else
    some (.inr (.inl l302))
noncomputable def F_spec_GraphOf_k2  (l522 : (List (List Int))) : Option ((List (List Int)) × Bool) :=
  some (l522, true)
noncomputable def F_spec_GraphOf (a0 : Int) (a1 : (List (List Int))) : Option ((List (List Int)) × Bool) :=
  cal (F_spec_l1In a0 1 16) (fun x25 =>
    if ¬ (x25 = true) then
      some (([] : (List (List Int))), false)
    else
      if 120 < (a1.length : Int) then
        some (([] : (List (List Int))), false)
      else
        cal (F_spec_l1Empty a0) (fun x41 =>
          bnd (lp (fun s => F_spec_GraphOf_l1 a0 a1 s.1 s.2) (x41, 0)) (fun j => F_spec_GraphOf_k2 j)))
noncomputable def F_laws_w6Graph_l2 (x21 : (Int × ((List (BitVec 8)) × Int × Int))) (i423 : Int) (l919 : ((List (BitVec 8)) × Int × Int)) (l930 : (List (List Int))) (i933 : Int) : Option ((((List (BitVec 8)) × Int × Int) × (List (List Int)) × Int) ⊕ ((((List (BitVec 8)) × Int × Int) × (List (List Int))) ⊕ ((((List (BitVec 8)) × Int × Int) × (List (List Int)) × Int) ⊕ (((List (List Int)) × ((List (BitVec 8)) × Int × Int)) ⊕ ((List (List Int)) × ((List (BitVec 8)) × Int × Int)))))) :=
  if i933 < i423 then
    cal (F_laws_dice_below l919 4) (fun x1064 =>
      if x1064.1 < (1 + x21.1) then
        app l930 ([[i933, i423]]) (fun _ =>
          ck (i933 + 1) (fun _ =>
            some (.inl (x1064.2, (l930 ++ ([[i933, i423]])), i933 + 1))))
      else
        ck (i933 + 1) (fun _ =>
          some (.inl (x1064.2, l930, i933 + 1))))
  else
    some (.inr (.inl (l919, l930)))
noncomputable def F_laws_w6Graph_k3 (i423 : Int) (l1034 : ((List (BitVec 8)) × Int × Int)) (l1045 : (List (List Int))) : Option ((((List (BitVec 8)) × Int × Int) × (List (List Int)) × Int) ⊕ (((List (List Int)) × ((List (BitVec 8)) × Int × Int)) ⊕ ((List (List Int)) × ((List (BitVec 8)) × Int × Int)))) :=
  ck (i423 + 1) (fun _ =>
    some (.inl (l1034, l1045, i423 + 1)))
noncomputable def F_laws_w6Graph_l1 (x11 : (Int × ((List (BitVec 8)) × Int × Int))) (x21 : (Int × ((List (BitVec 8)) × Int × Int))) (l409 : ((List (BitVec 8)) × Int × Int)) (l420 : (List (List Int))) (i423 : Int) : Option ((((List (BitVec 8)) × Int × Int) × (List (List Int)) × Int) ⊕ (((List (List Int)) × ((List (BitVec 8)) × Int × Int)) ⊕ ((List (List Int)) × ((List (BitVec 8)) × Int × Int)))) :=
  if i423 < (1 + x11.1) then
    bnd (lp (fun s => F_laws_w6Graph_l2 x21 i423 s.1 s.2.1 s.2.2) (l409, l420, 0)) (fun j => F_laws_w6Graph_k3 i423 j.1 j.2)
  else
    some (.inr (.inl (l420, l409)))
noncomputable def F_laws_w6Graph_k4 (x11 : (Int × ((List (BitVec 8)) × Int × Int))) (l787 : (List (List Int))) (l791 : ((List (BitVec 8)) × Int × Int)) : Option ((List (List Int)) × ((List (BitVec 8)) × Int × Int)) :=
  cal (F_spec_GraphOf (1 + x11.1) l787) (fun x1134 =>
    some (x1134.1, l791))
noncomputable def F_laws_w6Graph (a0 : ((List (BitVec 8)) × Int × Int)) (a1 : Int) : Option ((List (List Int)) × ((List (BitVec 8)) × Int × Int)) :=
  cal (F_laws_dice_below a0 a1) (fun x11 =>
    ck (1 + x11.1) (fun _ =>
      cal (F_laws_dice_below x11.2 3) (fun x21 =>
        ck (1 + x21.1) (fun _ =>
          bnd (lp (fun s => F_laws_w6Graph_l1 x11 x21 s.1 s.2.1 s.2.2) (x21.2, ([] : (List (List Int))), 1)) (fun j => F_laws_w6Graph_k4 x11 j.1 j.2)))))
noncomputable def F_impl_inRange (a0 : Int) (a1 : Int) (a2 : Int) : Option Bool :=
  if a1 ≤ a0 then
    some (decide (a0 ≤ a2))
  else
    some false
noncomputable def F_impl_increasing_l1 (a0 : (List Int)) (a1 : Int) (i49 : Int) : Option (Int ⊕ (Unit ⊕ Bool)) :=
  if i49 < (a0.length : Int) then
    idx a0 i49 (fun x108 =>
      ck (a1 - 1) (fun _ =>
        cal (F_impl_inRange x108 0 (a1 - 1)) (fun x122 =>
          if ¬ (x122 = true) then
            some (.inr (.inr false))
          else
            if 0 < i49 then
              ck (i49 - 1) (fun _ =>
                idx a0 (i49 - 1) (fun x134 =>
                  if x108 ≤ x134 then
                    some (.inr (.inr false))
                  else
                    ck (i49 + 1) (fun _ =>
                      some (.inl (i49 + 1)))))
            else
              ck (i49 + 1) (fun _ =>
                some (.inl (i49 + 1))))))
  else
    some (.inr (.inl ()))
noncomputable def F_impl_increasing_k2   : Option Bool :=
  some true
noncomputable def F_impl_increasing (a0 : (List Int)) (a1 : Int) : Option Bool :=
  bnd (lp (fun s => F_impl_increasing_l1 a0 a1 s) 0) (fun j => F_impl_increasing_k2 )
noncomputable def F_slices_Index_int64_l1 (a0 : (List Int)) (a1 : Int) (i23 : Int) : Option (Int ⊕ (Unit ⊕ Int)) :=
  if i23 < (a0.length : Int) then
    idx a0 i23 (fun x56 =>
      if a1 = x56 then
        some (.inr (.inr i23))
      else
        ck (i23 + 1) (fun _ =>
          some (.inl (i23 + 1))))
  else
    some (.inr (.inl ()))
noncomputable def F_slices_Index_int64_k2   : Option Int :=
  some (-1)
noncomputable def F_slices_Index_int64 (a0 : (List Int)) (a1 : Int) : Option Int :=
  bnd (lp (fun s => F_slices_Index_int64_l1 a0 a1 s) 0) (fun j => F_slices_Index_int64_k2 )
noncomputable def F_slices_Contains_int64 (a0 : (List Int)) (a1 : Int) : Option Bool :=
  cal (F_slices_Index_int64 a0 a1) (fun x1 =>
    some (decide (0 ≤ x1)))
noncomputable def F_impl_GraphOk_l1 (a0_0 : (List (List Int))) (i56 : Int) : Option (Int ⊕ (Unit ⊕ Bool)) :=
  if i56 < (a0_0.length : Int) then
    idx a0_0 i56 (fun x108 =>
      cal (F_impl_increasing x108 (a0_0.length : Int)) (fun x122 =>
        if ¬ (x122 = true) then
          some (.inr (.inr false))
        else
          cal (F_slices_Contains_int64 x108 i56) (fun x131 =>
            if x131 = true then
              some (.inr (.inr false))
            else
              ck (i56 + 1) (fun _ =>
                some (.inl (i56 + 1))))))
  else
    some (.inr (.inl ()))
noncomputable def F_impl_GraphOk_l4 (a0_0 : (List (List Int))) (i311 : Int) (x487 : (List Int)) (i549 : Int) : Option (Int ⊕ (Unit ⊕ (Int ⊕ (Unit ⊕ Bool)))) :=
  if i549 < (x487.length : Int) then
    idx x487 i549 (fun x606 =>
      idx a0_0 x606 (fun x618 =>
        cal (F_slices_Contains_int64 x618 i311) (fun x632 =>
          if ¬ (x632 = true) then
            some (.inr (.inr (.inr (.inr false))))
          else
            ck (i549 + 1) (fun _ =>
              some (.inl (i549 + 1))))))
  else
    some (.inr (.inl ()))
noncomputable def F_impl_GraphOk_k5 (i311 : Int)  : Option (Int ⊕ (Unit ⊕ Bool)) :=
  ck (i311 + 1) (fun _ =>
    some (.inl (i311 + 1)))
noncomputable def F_impl_GraphOk_l3 (a0_0 : (List (List Int))) (i311 : Int) : Option (Int ⊕ (Unit ⊕ Bool)) :=
  if i311 < (a0_0.length : Int) then
    idx a0_0 i311 (fun x487 =>
      bnd (lp (fun s => F_impl_GraphOk_l4 a0_0 i311 x487 s) 0) (fun j => F_impl_GraphOk_k5 i311 ))
  else
    some (.inr (.inl ()))
noncomputable def F_impl_GraphOk_k6   : Option Bool :=
  some true
noncomputable def F_impl_GraphOk_k2 (a0_0 : (List (List Int)))  : Option Bool :=
  bnd (lp (fun s => F_impl_GraphOk_l3 a0_0 s) 0) (fun j => F_impl_GraphOk_k6 )
noncomputable def F_impl_GraphOk (a0_0 : (List (List Int))) : Option Bool :=
  if (a0_0.length : Int) < 1 then
    some false
  else
    if 16 < (a0_0.length : Int) then
      some false
    else
      bnd (lp (fun s => F_impl_GraphOk_l1 a0_0 s) 0) (fun j => F_impl_GraphOk_k2 a0_0 )
noncomputable def F_impl_one (a0 : Int) : Option (BitVec 32) :=
  grd ((0 : Int) ≤ a0) (
    some ((1#32) <<< (a0 : Int).toNat))
noncomputable def F_impl_maskOf_l1 (a0 : (List Int)) (u29 : BitVec 32) (i30 : Int) : Option (((BitVec 32) × Int) ⊕ ((BitVec 32) ⊕ (BitVec 32))) :=
  if i30 < (a0.length : Int) then
    idx a0 i30 (fun x70 =>
      cal (F_impl_one x70) (fun x82 =>
        ck (i30 + 1) (fun _ =>
          some (.inl (u29 ||| x82, i30 + 1)))))
  else
    some (.inr (.inl u29))
noncomputable def F_impl_maskOf_k2  (u59 : BitVec 32) : Option (BitVec 32) :=
  some u59
noncomputable def F_impl_maskOf (a0 : (List Int)) : Option (BitVec 32) :=
  bnd (lp (fun s => F_impl_maskOf_l1 a0 s.1 s.2) (0#32, 0)) (fun j => F_impl_maskOf_k2 j)
noncomputable def F_impl_netsOf_l1 (a0_0 : (List (List Int))) (l84 : (List (BitVec 32))) (i87 : Int) : Option (((List (BitVec 32)) × Int) ⊕ ((List (BitVec 32)) ⊕ (List (BitVec 32)))) :=
  if i87 < (a0_0.length : Int) then
    idx a0_0 i87 (fun x162 =>
      cal (F_impl_maskOf x162) (fun x176 =>
        app l84 ([x176]) (fun _ =>
          ck (i87 + 1) (fun _ =>
            some (.inl ((l84 ++ ([x176])), i87 + 1))))))
  else
    some (.inr (.inl l84))
noncomputable def F_impl_netsOf_k2  (l149 : (List (BitVec 32))) : Option (List (BitVec 32)) :=
  some l149
noncomputable def F_impl_netsOf (a0_0 : (List (List Int))) : Option (List (BitVec 32)) :=
  bnd (lp (fun s => F_impl_netsOf_l1 a0_0 s.1 s.2) (([] : (List (BitVec 32))), 0)) (fun j => F_impl_netsOf_k2 j)
noncomputable def F_impl_firstOf (a0 : Int) : Option (BitVec 32) :=
  grd ((0 : Int) ≤ a0) (
    some (((1#32) <<< (a0 : Int).toNat) - (1#32)))
noncomputable def F_impl_nets_all (a0 : (List (BitVec 32))) : Option (BitVec 32) :=
  cal (F_impl_firstOf (a0.length : Int)) (fun x1 =>
    some x1)
noncomputable def F_math_bits_TrailingZeros32 (a0 : BitVec 32) : Option Int :=
  if a0 = (0#32) then
    some 32
  else
    idx deBruijn32 (BitVec.toNat (((a0 &&& (-a0)) * (125613361#32)) >>> (27 : Int).toNat) : Int) (fun x2 =>
      some (BitVec.toNat x2 : Int))
noncomputable def F_impl_vset_least (a0 : BitVec 32) : Option Int :=
  cal (F_math_bits_TrailingZeros32 a0) (fun x1 =>
    some x1)
noncomputable def F_impl_vset_list_l1  (u55 : BitVec 32) (l59 : (List Int)) : Option (((BitVec 32) × (List Int)) ⊕ ((List Int) ⊕ (List Int))) :=
  if u55 ≠ (0#32) then
    cal (F_impl_vset_least u55) (fun x119 =>
      app l59 ([x119]) (fun _ =>
        some (.inl (u55 &&& (u55 - (1#32)), (l59 ++ ([x119]))))))
  else
    some (.inr (.inl l59))
noncomputable def F_impl_vset_list_k2  (l106 : (List Int)) : Option (List Int) :=
  some l106
noncomputable def F_impl_vset_list (a0 : BitVec 32) : Option (List Int) :=
  bnd (lp (fun s => F_impl_vset_list_l1 s.1 s.2) (a0, ([] : (List Int)))) (fun j => F_impl_vset_list_k2 j)
noncomputable def F_impl_vset_has (a0 : BitVec 32) (a1 : Int) : Option Bool :=
  grd ((0 : Int) ≤ a1) (
    some (decide (((a0 >>> (a1 : Int).toNat) &&& (1#32)) = (1#32))))
noncomputable def F_impl_induced_l2 (a0 : (List (BitVec 32))) (a1 : (List Int)) (i316 : Int) (x628 : Int) (l731 : (List (BitVec 32))) (i734 : Int) : Option (((List (BitVec 32)) × Int) ⊕ ((List (BitVec 32)) ⊕ (((List (BitVec 32)) × Int) ⊕ ((List (BitVec 32)) ⊕ (List (BitVec 32)))))) :=
  if i734 < (a1.length : Int) then
    idx a1 i734 (fun x836 =>
      idx a0 x628 (fun x848 =>
        cal (F_impl_vset_has x848 x836) (fun x859 =>
          if x859 = true then
            idx l731 i316 (fun x866 =>
              cal (F_impl_one i734) (fun x879 =>
                idx l731 i316 (fun x881 =>
                  ck (i734 + 1) (fun _ =>
                    some (.inl ((l731.set ((i316 : Int).toNat) (x866 ||| x879)), i734 + 1))))))
          else
            ck (i734 + 1) (fun _ =>
              some (.inl (l731, i734 + 1))))))
  else
    some (.inr (.inl l731))
noncomputable def F_impl_induced_k3 (i316 : Int) (l823 : (List (BitVec 32))) : Option (((List (BitVec 32)) × Int) ⊕ ((List (BitVec 32)) ⊕ (List (BitVec 32)))) :=
  ck (i316 + 1) (fun _ =>
    some (.inl (l823, i316 + 1)))
noncomputable def F_impl_induced_l1 (a0 : (List (BitVec 32))) (a1 : (List Int)) (l313 : (List (BitVec 32))) (i316 : Int) : Option (((List (BitVec 32)) × Int) ⊕ ((List (BitVec 32)) ⊕ (List (BitVec 32)))) :=
  if i316 < (a1.length : Int) then
    idx a1 i316 (fun x628 =>
      bnd (lp (fun s => F_impl_induced_l2 a0 a1 i316 x628 s.1 s.2) (l313, 0)) (fun j => F_impl_induced_k3 i316 j))
  else
    some (.inr (.inl l313))
noncomputable def F_impl_induced_k4  (l615 : (List (BitVec 32))) : Option (List (BitVec 32)) :=
  some l615
noncomputable def F_impl_induced (a0 : (List (BitVec 32))) (a1 : (List Int)) : Option (List (BitVec 32)) :=
  mkS (a1.length : Int) (0 : BitVec 32) (fun _ =>
    bnd (lp (fun s => F_impl_induced_l1 a0 a1 s.1 s.2) ((List.replicate ((a1.length : Int) : Int).toNat (0 : BitVec 32)), 0)) (fun j => F_impl_induced_k4 j))
noncomputable def F_impl_colourOn_l1 (a0 : (List (BitVec 32))) (a1 : Int) (a2 : (List (BitVec 32))) (a3 : Int) (rc : (List (BitVec 32)) → Int → (List (BitVec 32)) → Int → Option (Bool × (List (BitVec 32)))) (l143 : (List (BitVec 32))) (i146 : Int) : Option (((List (BitVec 32)) × Int) ⊕ ((List (BitVec 32)) ⊕ (Bool × (List (BitVec 32))))) :=
  if i146 < (min (a3 + 1) (a2.length : Int)) then
    idx l143 i146 (fun x294 =>
      idx a0 a1 (fun x305 =>
        if (x294 &&& x305) ≠ (0#32) then
          ck (i146 + 1) (fun _ =>
            some (.inl (l143, i146 + 1)))
        else
          idx l143 i146 (fun x322 =>
            cal (F_impl_one a1) (fun x335 =>
              idx l143 i146 (fun x337 =>
                ck (a1 + 1) (fun _ =>
                  ck (i146 + 1) (fun _ =>
                    cal (rc a0 (a1 + 1) (l143.set ((i146 : Int).toNat) (x322 ||| x335)) (max a3 (i146 + 1))) (fun x364 =>
                      if x364.1 = true then
                        some (.inr (.inr (true, x364.2)))
                      else
                        idx x364.2 i146 (fun x374 =>
                          cal (F_impl_one a1) (fun x387 =>
                            idx x364.2 i146 (fun x389 =>
                              ck (i146 + 1) (fun _ =>
                                some (.inl ((x364.2.set ((i146 : Int).toNat) (x374 &&& ~~~x387)), i146 + 1))))))))))))))
  else
    some (.inr (.inl l143))
noncomputable def F_impl_colourOn_k2  (l281 : (List (BitVec 32))) : Option (Bool × (List (BitVec 32))) :=
  some (false, l281)
noncomputable def F_impl_colourOn_body (rc : (List (BitVec 32)) → Int → (List (BitVec 32)) → Int → Option (Bool × (List (BitVec 32)))) (a0 : (List (BitVec 32))) (a1 : Int) (a2 : (List (BitVec 32))) (a3 : Int) : Option (Bool × (List (BitVec 32))) :=
  if a1 = (a0.length : Int) then
    some (true, a2)
  else
    ck (a3 + 1) (fun _ =>
      bnd (lp (fun s => F_impl_colourOn_l1 a0 a1 a2 a3 rc s.1 s.2) (a2, 0)) (fun j => F_impl_colourOn_k2 j))
noncomputable def F_impl_colourOn (a0 : (List (BitVec 32))) (a1 : Int) (a2 : (List (BitVec 32))) (a3 : Int) : Option (Bool × (List (BitVec 32))) := fixO (fun (rc : ((List (BitVec 32)) × Int × (List (BitVec 32)) × Int) → Option (Bool × (List (BitVec 32)))) a => F_impl_colourOn_body (fun z0 z1 z2 z3 => rc (z0, z1, z2, z3)) a.1 a.2.1 a.2.2.1 a.2.2.2) (a0, a1, a2, a3)
noncomputable def F_impl_bestClasses_l1 (a0 : (List (BitVec 32))) (i28 : Int) : Option (Int ⊕ (Unit ⊕ (List (BitVec 32)))) :=
  mkS i28 (0 : BitVec 32) (fun _ =>
    cal (F_impl_colourOn a0 0 (List.replicate (i28 : Int).toNat (0 : BitVec 32)) 0) (fun x76 =>
      if x76.1 = true then
        some (.inr (.inr x76.2))
      else
        ck (i28 + 1) (fun _ =>
          some (.inl (i28 + 1)))))
noncomputable def F_impl_bestClasses (a0 : (List (BitVec 32))) : Option (List (BitVec 32)) :=
  bnd (lp (fun s => F_impl_bestClasses_l1 a0 s) 1) (fun _ => none)
noncomputable def F_impl_CriticalIn_l1 (x16 : (List (BitVec 32))) (i142 : Int) : Option (Int ⊕ (Unit ⊕ Bool)) :=
  if i142 < (x16.length : Int) then
    if 1 < (x16.length : Int) then
      cal (F_impl_nets_all x16) (fun x264 =>
        cal (F_impl_one i142) (fun x270 =>
          cal (F_impl_vset_list (x264 &&& ~~~x270)) (fun x276 =>
            cal (F_impl_induced x16 x276) (fun x295 =>
              cal (F_impl_bestClasses x295) (fun x313 =>
                cal (F_impl_bestClasses x16) (fun x333 =>
                  if (x313.length : Int) = (x333.length : Int) then
                    some (.inr (.inr false))
                  else
                    ck (i142 + 1) (fun _ =>
                      some (.inl (i142 + 1)))))))))
    else
      ck (i142 + 1) (fun _ =>
        some (.inl (i142 + 1)))
  else
    some (.inr (.inl ()))
noncomputable def F_impl_CriticalIn_k2   : Option Bool :=
  some true
noncomputable def F_impl_CriticalIn (a0_0 : (List (List Int))) : Option Bool :=
  cal (F_impl_GraphOk a0_0) (fun x9 =>
    if ¬ (x9 = true) then
      some false
    else
      cal (F_impl_netsOf a0_0) (fun x16 =>
        bnd (lp (fun s => F_impl_CriticalIn_l1 x16 s) 0) (fun j => F_impl_CriticalIn_k2 )))
noncomputable def F_spec_l1Size (a0_0 : (List (List Int))) : Option Int :=
  some (a0_0.length : Int)
noncomputable def F_spec_l1Has_l1 (a0 : (List Int)) (a1 : Int) (i23 : Int) : Option (Int ⊕ (Unit ⊕ Bool)) :=
  if i23 < (a0.length : Int) then
    idx a0 i23 (fun x56 =>
      if x56 = a1 then
        some (.inr (.inr true))
      else
        ck (i23 + 1) (fun _ =>
          some (.inl (i23 + 1))))
  else
    some (.inr (.inl ()))
noncomputable def F_spec_l1Has_k2   : Option Bool :=
  some false
noncomputable def F_spec_l1Has (a0 : (List Int)) (a1 : Int) : Option Bool :=
  bnd (lp (fun s => F_spec_l1Has_l1 a0 a1 s) 0) (fun j => F_spec_l1Has_k2 )
noncomputable def F_spec_GraphOk_l1 (a0_0 : (List (List Int))) (x9 : Int) (i80 : Int) : Option (Int ⊕ (Unit ⊕ Bool)) :=
  if i80 < x9 then
    idx a0_0 i80 (fun x146 =>
      cal (F_spec_l1Set x146 x9) (fun x160 =>
        if ¬ (x160 = true) then
          some (.inr (.inr false))
        else
          idx a0_0 i80 (fun x169 =>
            cal (F_spec_l1Has x169 i80) (fun x183 =>
              if x183 = true then
                some (.inr (.inr false))
              else
                ck (i80 + 1) (fun _ =>
                  some (.inl (i80 + 1)))))))
  else
    some (.inr (.inl ()))
noncomputable def F_spec_GraphOk_l4 (a0_0 : (List (List Int))) (i436 : Int) (i762 : Int) : Option (Int ⊕ (Unit ⊕ (Int ⊕ (Unit ⊕ Bool)))) :=
  idx a0_0 i436 (fun x847 =>
    if i762 < (x847.length : Int) then
      idx a0_0 i436 (fun x862 =>
        idx x862 i762 (fun x876 =>
          idx a0_0 x876 (fun x888 =>
            cal (F_spec_l1Has x888 i436) (fun x904 =>
              if ¬ (x904 = true) then
                some (.inr (.inr (.inr (.inr false))))
              else
                ck (i762 + 1) (fun _ =>
                  some (.inl (i762 + 1)))))))
    else
      some (.inr (.inl ())))
noncomputable def F_spec_GraphOk_k5 (i436 : Int)  : Option (Int ⊕ (Unit ⊕ Bool)) :=
  ck (i436 + 1) (fun _ =>
    some (.inl (i436 + 1)))
noncomputable def F_spec_GraphOk_l3 (a0_0 : (List (List Int))) (x9 : Int) (i436 : Int) : Option (Int ⊕ (Unit ⊕ Bool)) :=
  if i436 < x9 then
    bnd (lp (fun s => F_spec_GraphOk_l4 a0_0 i436 s) 0) (fun j => F_spec_GraphOk_k5 i436 )
  else
    some (.inr (.inl ()))
noncomputable def F_spec_GraphOk_k6   : Option Bool :=
  some true
noncomputable def F_spec_GraphOk_k2 (a0_0 : (List (List Int))) (x9 : Int)  : Option Bool :=
  bnd (lp (fun s => F_spec_GraphOk_l3 a0_0 x9 s) 0) (fun j => F_spec_GraphOk_k6 )
noncomputable def F_spec_GraphOk (a0_0 : (List (List Int))) : Option Bool :=
  cal (F_spec_l1Size a0_0) (fun x9 =>
    cal (F_spec_l1In x9 1 16) (fun x16 =>
      if ¬ (x16 = true) then
        some false
      else
        bnd (lp (fun s => F_spec_GraphOk_l1 a0_0 x9 s) 0) (fun j => F_spec_GraphOk_k2 a0_0 x9 )))
noncomputable def F_spec_l26None_l1 (a0 : Int) (l54 : (List Int)) (i57 : Int) : Option (((List Int) × Int) ⊕ ((List Int) ⊕ (List Int))) :=
  if i57 < a0 then
    app l54 ([(-1)]) (fun _ =>
      ck (i57 + 1) (fun _ =>
        some (.inl ((l54 ++ ([(-1)])), i57 + 1))))
  else
    some (.inr (.inl l54))
noncomputable def F_spec_l26None_k2  (l99 : (List Int)) : Option (List Int) :=
  some l99
noncomputable def F_spec_l26None (a0 : Int) : Option (List Int) :=
  bnd (lp (fun s => F_spec_l26None_l1 a0 s.1 s.2) (([] : (List Int)), 0)) (fun j => F_spec_l26None_k2 j)
noncomputable def F_spec_l26Try_l2 (a0_0 : (List (List Int))) (a1 : (List Int)) (a2 : Int) (i313 : Int) (t694 : Bool) (i695 : Int) : Option ((Bool × Int) ⊕ (Bool ⊕ (Int ⊕ (Unit ⊕ ((List Int) × Bool))))) :=
  idx a0_0 a2 (fun x777 =>
    if i695 < (x777.length : Int) then
      if t694 = true then
        idx a0_0 a2 (fun x794 =>
          idx x794 i695 (fun x809 =>
            idx a1 x809 (fun x821 =>
              ck (i695 + 1) (fun _ =>
                some (.inl (decide (x821 ≠ i313), i695 + 1))))))
      else
        ck (i695 + 1) (fun _ =>
          some (.inl (false, i695 + 1)))
    else
      some (.inr (.inl t694)))
noncomputable def F_spec_l26Try_k4 (a0_0 : (List (List Int))) (a2 : Int) (a4 : Int) (rc : (List (List Int)) → (List Int) → Int → Int → Int → Option ((List Int) × Bool)) (i313 : Int) (x840 : (List Int)) (i883 : Int) : Option (Int ⊕ (Unit ⊕ ((List Int) × Bool))) :=
  ck (a2 + 1) (fun _ =>
    cal (rc a0_0 (x840.set ((a2 : Int).toNat) i313) (a2 + 1) i883 a4) (fun x896 =>
      if x896.2 = true then
        some (.inr (.inr (x896.1, true)))
      else
        ck (i313 + 1) (fun _ =>
          some (.inl (i313 + 1)))))
noncomputable def F_spec_l26Try_k3 (a0_0 : (List (List Int))) (a1 : (List Int)) (a2 : Int) (a3 : Int) (a4 : Int) (rc : (List (List Int)) → (List Int) → Int → Int → Int → Option ((List Int) × Bool)) (i313 : Int) (t767 : Bool) : Option (Int ⊕ (Unit ⊕ ((List Int) × Bool))) :=
  if ¬ (t767 = true) then
    ck (i313 + 1) (fun _ =>
      some (.inl (i313 + 1)))
  else
    cal (F_spec_l1Copy a1) (fun x840 =>
      idx x840 a2 (fun x853 =>
        bnd (
          if i313 = a3 then
            ck (a3 + 1) (fun _ =>
              some (.inl (a3 + 1)))
          else
            some (.inl a3)) (fun j => F_spec_l26Try_k4 a0_0 a2 a4 rc i313 x840 j)))
noncomputable def F_spec_l26Try_l1 (a0_0 : (List (List Int))) (a1 : (List Int)) (a2 : Int) (a3 : Int) (a4 : Int) (rc : (List (List Int)) → (List Int) → Int → Int → Int → Option ((List Int) × Bool)) (i313 : Int) : Option (Int ⊕ (Unit ⊕ ((List Int) × Bool))) :=
  if i313 < a4 then
    if i313 ≤ a3 then
      bnd (lp (fun s => F_spec_l26Try_l2 a0_0 a1 a2 i313 s.1 s.2) (true, 0)) (fun j => F_spec_l26Try_k3 a0_0 a1 a2 a3 a4 rc i313 j)
    else
      some (.inr (.inl ()))
  else
    some (.inr (.inl ()))
noncomputable def F_spec_l26Try_k5 (a1 : (List Int))  : Option ((List Int) × Bool) :=
  some (a1, false)
noncomputable def F_spec_l26Try_body (rc : (List (List Int)) → (List Int) → Int → Int → Int → Option ((List Int) × Bool)) (a0_0 : (List (List Int))) (a1 : (List Int)) (a2 : Int) (a3 : Int) (a4 : Int) : Option ((List Int) × Bool) :=
  if a2 = (a0_0.length : Int) then
    some (a1, true)
  else
    bnd (lp (fun s => F_spec_l26Try_l1 a0_0 a1 a2 a3 a4 rc s) 0) (fun j => F_spec_l26Try_k5 a1 )
noncomputable def F_spec_l26Try (a0_0 : (List (List Int))) (a1 : (List Int)) (a2 : Int) (a3 : Int) (a4 : Int) : Option ((List Int) × Bool) := fixO (fun (rc : ((List (List Int)) × (List Int) × Int × Int × Int) → Option ((List Int) × Bool)) a => F_spec_l26Try_body (fun z0 z1 z2 z3 z4 => rc (z0, z1, z2, z3, z4)) a.1 a.2.1 a.2.2.1 a.2.2.2.1 a.2.2.2.2) (a0_0, a1, a2, a3, a4)
noncomputable def F_spec_l26Best_l1 (a0_0 : (List (List Int))) (i63 : Int) : Option (Int ⊕ (Unit ⊕ ((List Int) × Int))) :=
  cal (F_spec_l26None (a0_0.length : Int)) (fun x126 =>
    cal (F_spec_l26Try a0_0 x126 0 0 i63) (fun x145 =>
      if x145.2 = true then
        some (.inr (.inr (x145.1, i63)))
      else
        ck (i63 + 1) (fun _ =>
          some (.inl (i63 + 1)))))
noncomputable def F_spec_l26Best (a0_0 : (List (List Int))) : Option ((List Int) × Int) :=
  bnd (lp (fun s => F_spec_l26Best_l1 a0_0 s) 0) (fun _ => none)
noncomputable def F_spec_l26Without_l2 (a0_0 : (List (List Int))) (a1 : Int) (i672 : Int) (l1682 : (List (List Int))) (l1688 : (List Int)) (i1691 : Int) : Option (((List (List Int)) × (List Int) × Int) ⊕ (((List (List Int)) × (List Int)) ⊕ (((List (List Int)) × Int) ⊕ ((List (List Int)) ⊕ (List (List Int)))))) :=
  idx a0_0 i672 (fun x1940 =>
    if i1691 < (x1940.length : Int) then
      idx a0_0 i672 (fun x1955 =>
        idx x1955 i1691 (fun x1969 =>
          if x1969 < a1 then
            app l1688 ([x1969]) (fun _ =>
              ck (i1691 + 1) (fun _ =>
                some (.inl (l1682, (l1688 ++ ([x1969])), i1691 + 1))))
          else
            if a1 < x1969 then
              ck (x1969 - 1) (fun _ =>
                app l1688 ([x1969 - 1]) (fun _ =>
                  ck (i1691 + 1) (fun _ =>
                    some (.inl (l1682, (l1688 ++ ([x1969 - 1])), i1691 + 1)))))
            else
              ck (i1691 + 1) (fun _ =>
                some (.inl (l1682, l1688, i1691 + 1)))))
    else
      some (.inr (.inl (l1682, l1688))))
noncomputable def F_spec_l26Without_k3 (a1 : Int) (i672 : Int) (l1902 : (List (List Int))) (l1908 : (List Int)) : Option (((List (List Int)) × Int) ⊕ ((List (List Int)) ⊕ (List (List Int)))) :=
  if i672 ≠ a1 then
    app l1902 ([l1908]) (fun _ =>
      ck (i672 + 1) (fun _ =>
        some (.inl ((l1902 ++ ([l1908])), i672 + 1))))
  else
    ck (i672 + 1) (fun _ =>
      some (.inl (l1902, i672 + 1)))
noncomputable def F_spec_l26Without_l1 (a0_0 : (List (List Int))) (a1 : Int) (l669 : (List (List Int))) (i672 : Int) : Option (((List (List Int)) × Int) ⊕ ((List (List Int)) ⊕ (List (List Int)))) :=
  if i672 < (a0_0.length : Int) then
    bnd (lp (fun s => F_spec_l26Without_l2 a0_0 a1 i672 s.1 s.2.1 s.2.2) (l669, ([] : (List Int)), 0)) (fun j => F_spec_l26Without_k3 a1 i672 j.1 j.2)
  else
    some (.inr (.inl l669))
noncomputable def F_spec_l26Without_k4  (l1409 : (List (List Int))) : Option (List (List Int)) :=
  some l1409
noncomputable def F_spec_l26Without (a0_0 : (List (List Int))) (a1 : Int) : Option (List (List Int)) :=
  bnd (lp (fun s => F_spec_l26Without_l1 a0_0 a1 s.1 s.2) (([] : (List (List Int))), 0)) (fun j => F_spec_l26Without_k4 j)
noncomputable def F_spec_CriticalIn_l1 (a0_0 : (List (List Int))) (x16 : ((List Int) × Int)) (i84 : Int) : Option (Int ⊕ (Unit ⊕ Bool)) :=
  if i84 < (a0_0.length : Int) then
    cal (F_spec_l26Without a0_0 i84) (fun x145 =>
      cal (F_spec_l26Best x145) (fun x167 =>
        ck (x16.2 - 1) (fun _ =>
          if x167.2 ≠ (x16.2 - 1) then
            some (.inr (.inr false))
          else
            ck (i84 + 1) (fun _ =>
              some (.inl (i84 + 1))))))
  else
    some (.inr (.inl ()))
noncomputable def F_spec_CriticalIn_k2   : Option Bool :=
  some true
noncomputable def F_spec_CriticalIn (a0_0 : (List (List Int))) : Option Bool :=
  cal (F_spec_GraphOk a0_0) (fun x9 =>
    if ¬ (x9 = true) then
      some false
    else
      cal (F_spec_l26Best a0_0) (fun x16 =>
        bnd (lp (fun s => F_spec_CriticalIn_l1 a0_0 x16 s) 0) (fun j => F_spec_CriticalIn_k2 )))
noncomputable def F_spec_ChromaticOf (a0_0 : (List (List Int))) : Option Int :=
  cal (F_spec_GraphOk a0_0) (fun x9 =>
    if ¬ (x9 = true) then
      some (-1)
    else
      cal (F_spec_l26Best a0_0) (fun x16 =>
        some x16.2))
noncomputable def F_laws_FnCritical_l1 (x21 : ((List (List Int)) × ((List (BitVec 8)) × Int × Int))) (x49 : Bool) (i128 : Int) : Option (Int ⊕ (Unit ⊕ Bool)) :=
  if i128 < (x21.1.length : Int) then
    if x49 = true then
      idx x21.1 i128 (fun x195 =>
        cal (F_spec_ChromaticOf x21.1) (fun x213 =>
          ck (x213 - 1) (fun _ =>
            if (x195.length : Int) < (x213 - 1) then
              some (.inr (.inr false))
            else
              ck (i128 + 1) (fun _ =>
                some (.inl (i128 + 1))))))
    else
      some (.inr (.inl ()))
  else
    some (.inr (.inl ()))
noncomputable def F_laws_FnCritical_l3 (x226 : (Int × ((List (BitVec 8)) × Int × Int))) (l331 : (List (List Int))) (i334 : Int) : Option (((List (List Int)) × Int) ⊕ ((List (List Int)) ⊕ Bool)) :=
  if i334 < (3 + (2 * x226.1)) then
    ck (i334 - 1) (fun _ =>
      app l331 ([[i334 - 1, i334]]) (fun _ =>
        ck (i334 + 1) (fun _ =>
          some (.inl ((l331 ++ ([[i334 - 1, i334]])), i334 + 1)))))
  else
    some (.inr (.inl l331))
noncomputable def F_laws_FnCritical_k4 (x226 : (Int × ((List (BitVec 8)) × Int × Int))) (l400 : (List (List Int))) : Option Bool :=
  cal (F_spec_GraphOf (3 + (2 * x226.1)) l400) (fun x459 =>
    cal (F_impl_CriticalIn x459.1) (fun x487 =>
      some x487))
noncomputable def F_laws_FnCritical_k2 (x21 : ((List (List Int)) × ((List (BitVec 8)) × Int × Int)))  : Option Bool :=
  cal (F_laws_dice_below x21.2 3) (fun x226 =>
    ck (2 * x226.1) (fun _ =>
      ck (3 + (2 * x226.1)) (fun _ =>
        ck ((3 + (2 * x226.1)) - 1) (fun _ =>
          bnd (lp (fun s => F_laws_FnCritical_l3 x226 s.1 s.2) ([[0, (3 + (2 * x226.1)) - 1]], 1)) (fun j => F_laws_FnCritical_k4 x226 j)))))
noncomputable def F_laws_FnCritical (a0 : (List (BitVec 8))) : Option Bool :=
  cal (F_laws_big a0) (fun x1 =>
    if x1 = true then
      some true
    else
      cal (F_laws_roll a0 807) (fun x8 =>
        cal (F_laws_w6Graph x8 6) (fun x21 =>
          cal (F_impl_CriticalIn x21.1) (fun x49 =>
            cal (F_spec_CriticalIn x21.1) (fun x55 =>
              if (x49 != x55) = true then
                some false
              else
                bnd (lp (fun s => F_laws_FnCritical_l1 x21 x49 s) 0) (fun j => F_laws_FnCritical_k2 x21 ))))))
end Go.Proofs.YtcoiakapddjckaaDoor
