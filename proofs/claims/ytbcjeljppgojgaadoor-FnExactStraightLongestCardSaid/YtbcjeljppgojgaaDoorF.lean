/- Functional forms, printed by gen.py. -/
import Derived.Test.YtbcjeljppgojgaaDoorPure
namespace Go.Proofs.YtbcjeljppgojgaaDoor

noncomputable def F_laws_toInt64S_l1 (a0 : (List Int)) (l63 : (List Int)) (i66 : Int) : Option (((List Int) × Int) ⊕ ((List Int) ⊕ (List Int))) :=
  if i66 < (a0.length : Int) then
    idx a0 i66 (fun x128 =>
      idx l63 i66 (fun x140 =>
        ck (i66 + 1) (fun _ =>
          some (.inl ((l63.set ((i66 : Int).toNat) x128), i66 + 1)))))
  else
    some (.inr (.inl l63))
noncomputable def F_laws_toInt64S_k2  (l115 : (List Int)) : Option (List Int) :=
  some l115
noncomputable def F_laws_toInt64S (a0 : (List Int)) : Option (List Int) :=
  mkS (a0.length : Int) (0 : Int) (fun _ =>
    bnd (lp (fun s => F_laws_toInt64S_l1 a0 s.1 s.2) ((List.replicate ((a0.length : Int) : Int).toNat (0 : Int)), 0)) (fun j => F_laws_toInt64S_k2 j))
noncomputable def F_spec_l1In (a0 : Int) (a1 : Int) (a2 : Int) : Option Bool :=
  if a1 ≤ a0 then
    some (decide (a0 ≤ a2))
  else
    some false
noncomputable def F_spec_l1Has_l1 (a0 : (List Int)) (a1 : Int) (i23 : Int) : Option (Int ⊕ (Unit ⊕ Bool)) :=
  if i23 < (a0.length : Int) then
    idx a0 i23 (fun x56 =>
      if x56 = a1 then
        some (.inr (.inr true))
      else
        ck (i23 + 1) (fun _ =>
          some (.inl (i23 + 1))))
  else
    some (.inr (.inl ()))
noncomputable def F_spec_l1Has_k2   : Option Bool :=
  some false
noncomputable def F_spec_l1Has (a0 : (List Int)) (a1 : Int) : Option Bool :=
  bnd (lp (fun s => F_spec_l1Has_l1 a0 a1 s) 0) (fun j => F_spec_l1Has_k2 )
noncomputable def F_spec_l15Line_l1 (a0 : (List Int)) (i66 : Int) : Option (Int ⊕ (Unit ⊕ Bool)) :=
  if i66 < (a0.length : Int) then
    idx a0 i66 (fun x135 =>
      ck ((a0.length : Int) - 1) (fun _ =>
        cal (F_spec_l1In x135 0 ((a0.length : Int) - 1)) (fun x151 =>
          if ¬ (x151 = true) then
            some (.inr (.inr false))
          else
            slc a0 0 i66 (fun _ =>
              idx a0 i66 (fun x166 =>
                cal (F_spec_l1Has ((a0.drop (0 : Int).toNat).take ((i66 : Int).toNat - (0 : Int).toNat)) x166) (fun x180 =>
                  if x180 = true then
                    some (.inr (.inr false))
                  else
                    ck (i66 + 1) (fun _ =>
                      some (.inl (i66 + 1)))))))))
  else
    some (.inr (.inl ()))
noncomputable def F_spec_l15Line_k2   : Option Bool :=
  some true
noncomputable def F_spec_l15Line (a0 : (List Int)) : Option Bool :=
  cal (F_spec_l1In (a0.length : Int) 1 16) (fun x1 =>
    if ¬ (x1 = true) then
      some false
    else
      bnd (lp (fun s => F_spec_l15Line_l1 a0 s) 0) (fun j => F_spec_l15Line_k2 ))
noncomputable def F_spec_l15Lines (a0 : (List Int)) (a1 : (List Int)) : Option Bool :=
  cal (F_spec_l15Line a0) (fun x1 =>
    if x1 = true then
      cal (F_spec_l15Line a1) (fun x8 =>
        if x8 = true then
          some (decide ((a0.length : Int) = (a1.length : Int)))
        else
          some false)
    else
      some false)
noncomputable def F_spec_l15Place_l1 (a0 : (List Int)) (a1 : Int) (i23 : Int) : Option (Int ⊕ (Unit ⊕ Int)) :=
  if i23 < (a0.length : Int) then
    idx a0 i23 (fun x56 =>
      if x56 = a1 then
        some (.inr (.inr i23))
      else
        ck (i23 + 1) (fun _ =>
          some (.inl (i23 + 1))))
  else
    some (.inr (.inl ()))
noncomputable def F_spec_l15Place_k2   : Option Int :=
  some (-1)
noncomputable def F_spec_l15Place (a0 : (List Int)) (a1 : Int) : Option Int :=
  bnd (lp (fun s => F_spec_l15Place_l1 a0 a1 s) 0) (fun j => F_spec_l15Place_k2 )
noncomputable def F_spec_l15Cross (a0 : (List Int)) (a1 : (List Int)) (a2 : Int) (a3 : Int) : Option Bool :=
  if a2 ≠ a3 then
    cal (F_spec_l15Place a0 a2) (fun x2 =>
      cal (F_spec_l15Place a0 a3) (fun x9 =>
        cal (F_spec_l15Place a1 a2) (fun x16 =>
          cal (F_spec_l15Place a1 a3) (fun x23 =>
            some ((decide (x2 < x9)) != (decide (x16 < x23)))))))
  else
    some false
noncomputable def F_spec_l1Less_l1 (a0 : (List Int)) (a1 : (List Int)) (i66 : Int) : Option (Int ⊕ (Unit ⊕ Bool)) :=
  if i66 < (a0.length : Int) then
    idx a0 i66 (fun x141 =>
      idx a1 i66 (fun x153 =>
        if x141 ≠ x153 then
          idx a0 i66 (fun x169 =>
            idx a1 i66 (fun x181 =>
              some (.inr (.inr (decide (x169 < x181))))))
        else
          ck (i66 + 1) (fun _ =>
            some (.inl (i66 + 1)))))
  else
    some (.inr (.inl ()))
noncomputable def F_spec_l1Less_k2   : Option Bool :=
  some false
noncomputable def F_spec_l1Less (a0 : (List Int)) (a1 : (List Int)) : Option Bool :=
  if (a0.length : Int) ≠ (a1.length : Int) then
    some (decide ((a0.length : Int) < (a1.length : Int)))
  else
    bnd (lp (fun s => F_spec_l1Less_l1 a0 a1 s) 0) (fun j => F_spec_l1Less_k2 )
noncomputable def F_spec_l15Long_l1 (a0 : (List Int)) (a1 : (List Int)) (a2 : Int) (a3 : Bool) (rc : (List Int) → (List Int) → Int → Bool → Option (List Int)) (l101 : (List Int)) (i104 : Int) : Option (((List Int) × Int) ⊕ ((List Int) ⊕ (List Int))) :=
  if i104 < (a0.length : Int) then
    idx a0 a2 (fun x204 =>
      idx a0 i104 (fun x216 =>
        cal (F_spec_l15Cross a0 a1 x204 x216) (fun x230 =>
          if (x230 != a3) = true then
            ck (i104 + 1) (fun _ =>
              some (.inl (l101, i104 + 1)))
          else
            cal (rc a0 a1 i104 a3) (fun x238 =>
              if (l101.length : Int) < (x238.length : Int) then
                ck (i104 + 1) (fun _ =>
                  some (.inl (x238, i104 + 1)))
              else
                if (x238.length : Int) = (l101.length : Int) then
                  cal (F_spec_l1Less x238 l101) (fun x261 =>
                    if x261 = true then
                      ck (i104 + 1) (fun _ =>
                        some (.inl (x238, i104 + 1)))
                    else
                      ck (i104 + 1) (fun _ =>
                        some (.inl (l101, i104 + 1))))
                else
                  ck (i104 + 1) (fun _ =>
                    some (.inl (l101, i104 + 1)))))))
  else
    some (.inr (.inl l101))
noncomputable def F_spec_l15Long_k2 (a0 : (List Int)) (a2 : Int) (l191 : (List Int)) : Option (List Int) :=
  idx a0 a2 (fun x274 =>
    app ([x274]) l191 (fun _ =>
      some (([x274]) ++ l191)))
noncomputable def F_spec_l15Long_body (rc : (List Int) → (List Int) → Int → Bool → Option (List Int)) (a0 : (List Int)) (a1 : (List Int)) (a2 : Int) (a3 : Bool) : Option (List Int) :=
  ck (a2 + 1) (fun _ =>
    bnd (lp (fun s => F_spec_l15Long_l1 a0 a1 a2 a3 rc s.1 s.2) (([] : (List Int)), a2 + 1)) (fun j => F_spec_l15Long_k2 a0 a2 j))
noncomputable def F_spec_l15Long (a0 : (List Int)) (a1 : (List Int)) (a2 : Int) (a3 : Bool) : Option (List Int) := fixO (fun (rc : ((List Int) × (List Int) × Int × Bool) → Option (List Int)) a => F_spec_l15Long_body (fun z0 z1 z2 z3 => rc (z0, z1, z2, z3)) a.1 a.2.1 a.2.2.1 a.2.2.2) (a0, a1, a2, a3)
noncomputable def F_spec_l15Longest_l1 (a0 : (List Int)) (a1 : (List Int)) (a2 : Bool) (l72 : (List Int)) (i75 : Int) : Option (((List Int) × Int) ⊕ ((List Int) ⊕ (List Int))) :=
  if i75 < (a0.length : Int) then
    cal (F_spec_l15Long a0 a1 i75 a2) (fun x141 =>
      if (l72.length : Int) < (x141.length : Int) then
        ck (i75 + 1) (fun _ =>
          some (.inl (x141, i75 + 1)))
      else
        if (x141.length : Int) = (l72.length : Int) then
          cal (F_spec_l1Less x141 l72) (fun x164 =>
            if x164 = true then
              ck (i75 + 1) (fun _ =>
                some (.inl (x141, i75 + 1)))
            else
              ck (i75 + 1) (fun _ =>
                some (.inl (l72, i75 + 1))))
        else
          ck (i75 + 1) (fun _ =>
            some (.inl (l72, i75 + 1))))
  else
    some (.inr (.inl l72))
noncomputable def F_spec_l15Longest_k2  (l128 : (List Int)) : Option (List Int) :=
  some l128
noncomputable def F_spec_l15Longest (a0 : (List Int)) (a1 : (List Int)) (a2 : Bool) : Option (List Int) :=
  cal (F_spec_l15Lines a0 a1) (fun x10 =>
    if ¬ (x10 = true) then
      some ([] : (List Int))
    else
      bnd (lp (fun s => F_spec_l15Longest_l1 a0 a1 a2 s.1 s.2) (([] : (List Int)), 0)) (fun j => F_spec_l15Longest_k2 j))
noncomputable def F_spec_StraightLongest (a0 : (List Int)) (a1 : (List Int)) : Option (List Int) :=
  cal (F_spec_l15Longest a0 a1 false) (fun x1 =>
    some x1)
noncomputable def F_slices_Values_int64 (a0 : (List Int)) : Option (List Int) := some a0
noncomputable def F_slices_Collect_int64 (a0 : (List Int)) : Option (List Int) := if a0.length ≤ 1099511627776 then some a0 else none
noncomputable def F_slices_Sort_int64 (a0 : (List Int)) : Option (List Int) := if a0.length ≤ 1099511627776 then some (a0.mergeSort fun x y => decide (x ≤ y)) else none
noncomputable def F_slices_Sorted_int64 (a0 : (List Int)) : Option (List Int) :=
  cal (F_slices_Collect_int64 a0) (fun x1 =>
    cal (F_slices_Sort_int64 x1) (fun x12 =>
      some x12))
noncomputable def F_impl_inRange (a0 : Int) (a1 : Int) (a2 : Int) : Option Bool :=
  if a1 ≤ a0 then
    some (decide (a0 ≤ a2))
  else
    some false
noncomputable def F_impl_increasing_l1 (a0 : (List Int)) (a1 : Int) (i49 : Int) : Option (Int ⊕ (Unit ⊕ Bool)) :=
  if i49 < (a0.length : Int) then
    idx a0 i49 (fun x108 =>
      ck (a1 - 1) (fun _ =>
        cal (F_impl_inRange x108 0 (a1 - 1)) (fun x122 =>
          if ¬ (x122 = true) then
            some (.inr (.inr false))
          else
            if 0 < i49 then
              ck (i49 - 1) (fun _ =>
                idx a0 (i49 - 1) (fun x134 =>
                  if x108 ≤ x134 then
                    some (.inr (.inr false))
                  else
                    ck (i49 + 1) (fun _ =>
                      some (.inl (i49 + 1)))))
            else
              ck (i49 + 1) (fun _ =>
                some (.inl (i49 + 1))))))
  else
    some (.inr (.inl ()))
noncomputable def F_impl_increasing_k2   : Option Bool :=
  some true
noncomputable def F_impl_increasing (a0 : (List Int)) (a1 : Int) : Option Bool :=
  bnd (lp (fun s => F_impl_increasing_l1 a0 a1 s) 0) (fun j => F_impl_increasing_k2 )
noncomputable def F_impl_placesIn_l1 (a0 : (List Int)) (l123 : (List Int)) (i126 : Int) : Option (((List Int) × Int) ⊕ ((List Int) ⊕ ((List Int) × Bool))) :=
  if i126 < (a0.length : Int) then
    idx a0 i126 (fun x188 =>
      idx l123 x188 (fun x200 =>
        ck (i126 + 1) (fun _ =>
          some (.inl ((l123.set ((x188 : Int).toNat) i126), i126 + 1)))))
  else
    some (.inr (.inl l123))
noncomputable def F_impl_placesIn_k2  (l175 : (List Int)) : Option ((List Int) × Bool) :=
  some (l175, true)
noncomputable def F_impl_placesIn (a0 : (List Int)) : Option ((List Int) × Bool) :=
  if (a0.length : Int) < 1 then
    some (([] : (List Int)), false)
  else
    if 16 < (a0.length : Int) then
      some (([] : (List Int)), false)
    else
      cal (F_slices_Values_int64 a0) (fun x33 =>
        cal (F_slices_Sorted_int64 x33) (fun x40 =>
          cal (F_impl_increasing x40 (a0.length : Int)) (fun x54 =>
            if ¬ (x54 = true) then
              some (([] : (List Int)), false)
            else
              mkS (a0.length : Int) (0 : Int) (fun _ =>
                bnd (lp (fun s => F_impl_placesIn_l1 a0 s.1 s.2) ((List.replicate ((a0.length : Int) : Int).toNat (0 : Int)), 0)) (fun j => F_impl_placesIn_k2 j)))))
noncomputable def F_impl_one (a0 : Int) : Option (BitVec 32) :=
  grd ((0 : Int) ≤ a0) (
    some ((1#32) <<< (a0 : Int).toNat))
noncomputable def F_impl_nets_join (a0 : (List (BitVec 32))) (a1 : Int) (a2 : Int) : Option (List (BitVec 32)) :=
  idx a0 a1 (fun x1 =>
    cal (F_impl_one a2) (fun x14 =>
      idx a0 a1 (fun x16 =>
        idx (a0.set ((a1 : Int).toNat) (x1 ||| x14)) a2 (fun x39 =>
          cal (F_impl_one a1) (fun x52 =>
            idx (a0.set ((a1 : Int).toNat) (x1 ||| x14)) a2 (fun x54 =>
              some ((a0.set ((a1 : Int).toNat) (x1 ||| x14)).set ((a2 : Int).toNat) (x39 ||| x52))))))))
noncomputable def F_impl_crossings_l2 (x1 : ((List Int) × Bool)) (x14 : ((List Int) × Bool)) (i405 : Int) (l868 : (List (BitVec 32))) (i871 : Int) : Option (((List (BitVec 32)) × Int) ⊕ ((List (BitVec 32)) ⊕ (((List (BitVec 32)) × Int) ⊕ ((List (BitVec 32)) ⊕ ((List (BitVec 32)) × Bool))))) :=
  if i871 < i405 then
    idx x1.1 i405 (fun x994 =>
      idx x1.1 i871 (fun x1006 =>
        idx x14.1 i405 (fun x1018 =>
          idx x14.1 i871 (fun x1030 =>
            if ((decide (x994 < x1006)) != (decide (x1018 < x1030))) = true then
              cal (F_impl_nets_join l868 i405 i871) (fun x1046 =>
                ck (i871 + 1) (fun _ =>
                  some (.inl (x1046, i871 + 1))))
            else
              ck (i871 + 1) (fun _ =>
                some (.inl (l868, i871 + 1)))))))
  else
    some (.inr (.inl l868))
noncomputable def F_impl_crossings_k3 (i405 : Int) (l975 : (List (BitVec 32))) : Option (((List (BitVec 32)) × Int) ⊕ ((List (BitVec 32)) ⊕ ((List (BitVec 32)) × Bool))) :=
  ck (i405 + 1) (fun _ =>
    some (.inl (l975, i405 + 1)))
noncomputable def F_impl_crossings_l1 (x1 : ((List Int) × Bool)) (x14 : ((List Int) × Bool)) (l402 : (List (BitVec 32))) (i405 : Int) : Option (((List (BitVec 32)) × Int) ⊕ ((List (BitVec 32)) ⊕ ((List (BitVec 32)) × Bool))) :=
  if i405 < (x1.1.length : Int) then
    bnd (lp (fun s => F_impl_crossings_l2 x1 x14 i405 s.1 s.2) (l402, 0)) (fun j => F_impl_crossings_k3 i405 j)
  else
    some (.inr (.inl l402))
noncomputable def F_impl_crossings_k4  (l743 : (List (BitVec 32))) : Option ((List (BitVec 32)) × Bool) :=
  some (l743, true)
noncomputable def F_impl_crossings (a0 : (List Int)) (a1 : (List Int)) : Option ((List (BitVec 32)) × Bool) :=
  cal (F_impl_placesIn a0) (fun x1 =>
    cal (F_impl_placesIn a1) (fun x14 =>
      if ¬ (x1.2 = true) then
        some (([] : (List (BitVec 32))), false)
      else
        if ¬ (x14.2 = true) then
          some (([] : (List (BitVec 32))), false)
        else
          if (a0.length : Int) ≠ (a1.length : Int) then
            some (([] : (List (BitVec 32))), false)
          else
            mkS (a0.length : Int) (0 : BitVec 32) (fun _ =>
              bnd (lp (fun s => F_impl_crossings_l1 x1 x14 s.1 s.2) ((List.replicate ((a0.length : Int) : Int).toNat (0 : BitVec 32)), 0)) (fun j => F_impl_crossings_k4 j))))
noncomputable def F_math_bits_TrailingZeros32 (a0 : BitVec 32) : Option Int :=
  if a0 = (0#32) then
    some 32
  else
    idx deBruijn32 (BitVec.toNat (((a0 &&& (-a0)) * (125613361#32)) >>> (27 : Int).toNat) : Int) (fun x2 =>
      some (BitVec.toNat x2 : Int))
noncomputable def F_impl_vset_least (a0 : BitVec 32) : Option Int :=
  cal (F_math_bits_TrailingZeros32 a0) (fun x1 =>
    some x1)
noncomputable def F_impl_vset_list_l1  (u55 : BitVec 32) (l59 : (List Int)) : Option (((BitVec 32) × (List Int)) ⊕ ((List Int) ⊕ (List Int))) :=
  if u55 ≠ (0#32) then
    cal (F_impl_vset_least u55) (fun x119 =>
      app l59 ([x119]) (fun _ =>
        some (.inl (u55 &&& (u55 - (1#32)), (l59 ++ ([x119]))))))
  else
    some (.inr (.inl l59))
noncomputable def F_impl_vset_list_k2  (l106 : (List Int)) : Option (List Int) :=
  some l106
noncomputable def F_impl_vset_list (a0 : BitVec 32) : Option (List Int) :=
  bnd (lp (fun s => F_impl_vset_list_l1 s.1 s.2) (a0, ([] : (List Int)))) (fun j => F_impl_vset_list_k2 j)
noncomputable def F_cmp_isNaN_int (a0 : Int) : Option Bool :=
  some (decide (a0 ≠ a0))
noncomputable def F_cmp_Compare_int (a0 : Int) (a1 : Int) : Option Int :=
  cal (F_cmp_isNaN_int a0) (fun x1 =>
    cal (F_cmp_isNaN_int a1) (fun x7 =>
      if x1 = true then
        if x7 = true then
          some 0
        else
          some (-1)
      else
        if x7 = true then
          some 1
        else
          if a0 < a1 then
            some (-1)
          else
            if a1 < a0 then
              some 1
            else
              some 0))
noncomputable def F_slices_Compare_int_l1 (a0 : (List Int)) (a1 : (List Int)) (i43 : Int) : Option (Int ⊕ (Unit ⊕ Int)) :=
  if i43 < (a0.length : Int) then
    idx a0 i43 (fun x96 =>
      if (a1.length : Int) ≤ i43 then
        some (.inr (.inr 1))
      else
        idx a1 i43 (fun x111 =>
          cal (F_cmp_Compare_int x96 x111) (fun x123 =>
            if x123 ≠ 0 then
              some (.inr (.inr x123))
            else
              ck (i43 + 1) (fun _ =>
                some (.inl (i43 + 1))))))
  else
    some (.inr (.inl ()))
noncomputable def F_slices_Compare_int_k2 (a0 : (List Int)) (a1 : (List Int))  : Option Int :=
  if (a0.length : Int) < (a1.length : Int) then
    some (-1)
  else
    some 0
noncomputable def F_slices_Compare_int (a0 : (List Int)) (a1 : (List Int)) : Option Int :=
  bnd (lp (fun s => F_slices_Compare_int_l1 a0 a1 s) 0) (fun j => F_slices_Compare_int_k2 a0 a1 )
noncomputable def F_impl_isBetter (a0 : (List Int)) (a1 : (List Int)) : Option Bool :=
  if (a0.length : Int) ≠ (a1.length : Int) then
    some (decide ((a1.length : Int) < (a0.length : Int)))
  else
    cal (F_slices_Compare_int a0 a1) (fun x2 =>
      some (decide (x2 < 0)))
noncomputable def F_impl_from_l1 (rc : Int → List (List Int) → Option (List Int × List (List Int))) (x : List Int) (best : List Int) (t : List (List Int)) (i : Int) : Option ((List Int × List (List Int) × Int) ⊕ ((List Int × List (List Int)) ⊕ (List Int × List (List Int)))) :=
  if i < (x.length : Int) then
    idx x i (fun u =>
      cal (rc u t) (fun r1 =>
        cal (F_impl_isBetter r1.1 best) (fun b =>
          if b = true then
            ck (i + 1) (fun _ =>
              some (.inl (r1.1, r1.2, i + 1)))
          else
            ck (i + 1) (fun _ =>
              some (.inl (best, r1.2, i + 1))))))
  else
    some (.inr (.inl (best, t)))
noncomputable def F_impl_from_k (v : Int) (best : List Int) (t : List (List Int)) : Option (List Int × List (List Int)) :=
  app [v] best (fun _ =>
    idx t v (fun _ =>
      some ([v] ++ best, t.set v.toNat ([v] ++ best))))
noncomputable def F_impl_from_body (fol : List (BitVec 32)) (rc : Int → List (List Int) → Option (List Int × List (List Int))) (v : Int) (t : List (List Int)) : Option (List Int × List (List Int)) :=
  idx t v (fun y =>
    if y = [] then
      idx fol v (fun s =>
        cal (F_impl_vset_list s) (fun x =>
          bnd (lp (fun q => F_impl_from_l1 rc x q.1 q.2.1 q.2.2) (([] : List Int), t, 0)) (fun j => F_impl_from_k v j.1 j.2)))
    else
      some (y, t))
noncomputable def F_impl_from_B (fol : List (BitVec 32)) (rc : Int × List (List Int) → Option (List Int × List (List Int))) (a : Int × List (List Int)) : Option (List Int × List (List Int)) :=
  F_impl_from_body fol (fun z0 z1 => rc (z0, z1)) a.1 a.2
noncomputable def F_impl_from (fol : List (BitVec 32)) (v : Int) (t : List (List Int)) : Option (List Int × List (List Int)) := fixO (F_impl_from_B fol) (v, t)
noncomputable def F_impl_longestLists_l1 (fol : List (BitVec 32)) (t : List (List Int)) (i : Int) : Option ((List (List Int) × Int) ⊕ (List (List Int) ⊕ List (List Int))) :=
  if i < (fol.length : Int) then
    cal (F_impl_from fol i t) (fun r1 =>
      ck (i + 1) (fun _ =>
        some (.inl (r1.2, i + 1))))
  else
    some (.inr (.inl t))
noncomputable def F_impl_longestLists_k2 (t : List (List Int)) : Option (List (List Int)) :=
  some t
noncomputable def F_impl_longestLists (a0 : List (BitVec 32)) : Option (List (List Int)) :=
  mkS (a0.length : Int) ([] : List Int) (fun _ =>
    bnd (lp (fun s => F_impl_longestLists_l1 a0 s.1 s.2) (List.replicate ((a0.length : Int)).toNat ([] : List Int), 0)) (fun j => F_impl_longestLists_k2 j))

noncomputable def F_impl_bestList_l1 (a0 : (List (List Int))) (l57 : (List Int)) (i61 : Int) : Option (((List Int) × Int) ⊕ ((List Int) ⊕ (List Int))) :=
  if i61 < (a0.length : Int) then
    idx a0 i61 (fun x121 =>
      cal (F_impl_isBetter x121 l57) (fun x136 =>
        if x136 = true then
          ck (i61 + 1) (fun _ =>
            some (.inl (x121, i61 + 1)))
        else
          ck (i61 + 1) (fun _ =>
            some (.inl (l57, i61 + 1)))))
  else
    some (.inr (.inl l57))
noncomputable def F_impl_bestList_k2  (l103 : (List Int)) : Option (List Int) :=
  some l103
noncomputable def F_impl_bestList (a0 : (List (List Int))) : Option (List Int) :=
  bnd (lp (fun s => F_impl_bestList_l1 a0 s.1 s.2) (([] : (List Int)), 0)) (fun j => F_impl_bestList_k2 j)
noncomputable def F_impl_wide_l1 (a0 : (List Int)) (l67 : (List Int)) (i70 : Int) : Option (((List Int) × Int) ⊕ ((List Int) ⊕ (List Int))) :=
  if i70 < (a0.length : Int) then
    idx a0 i70 (fun x137 =>
      app l67 ([x137]) (fun _ =>
        ck (i70 + 1) (fun _ =>
          some (.inl ((l67 ++ ([x137])), i70 + 1)))))
  else
    some (.inr (.inl l67))
noncomputable def F_impl_wide_k2  (l124 : (List Int)) : Option (List Int) :=
  some l124
noncomputable def F_impl_wide (a0 : (List Int)) : Option (List Int) :=
  grd ((0 : Int) ≤ (a0.length : Int) ∧ (a0.length : Int) ≤ lim) (
    bnd (lp (fun s => F_impl_wide_l1 a0 s.1 s.2) (([] : (List Int)), 0)) (fun j => F_impl_wide_k2 j))
noncomputable def F_impl_longestLine_l1 (a0 : (List Int)) (a2 : Bool) (x1 : ((List (BitVec 32)) × Bool)) (l148 : (List (BitVec 32))) (u151 : BitVec 32) (i152 : Int) : Option (((List (BitVec 32)) × (BitVec 32) × Int) ⊕ ((List (BitVec 32)) ⊕ (List Int))) :=
  if 0 ≤ i152 then
    idx a0 i152 (fun x275 =>
      if a2 = true then
        idx x1.1 x275 (fun x288 =>
          idx l148 x275 (fun x299 =>
            cal (F_impl_one x275) (fun x316 =>
              ck (i152 - 1) (fun _ =>
                some (.inl ((l148.set ((x275 : Int).toNat) (u151 &&& x288)), u151 ||| x316, i152 - 1))))))
      else
        idx x1.1 x275 (fun x324 =>
          idx l148 x275 (fun x335 =>
            cal (F_impl_one x275) (fun x352 =>
              ck (i152 - 1) (fun _ =>
                some (.inl ((l148.set ((x275 : Int).toNat) (u151 &&& ~~~x324)), u151 ||| x352, i152 - 1)))))))
  else
    some (.inr (.inl l148))
noncomputable def F_impl_longestLine_k2  (l262 : (List (BitVec 32))) : Option (List Int) :=
  cal (F_impl_longestLists l262) (fun x363 =>
    cal (F_impl_bestList x363) (fun x373 =>
      cal (F_impl_wide x373) (fun x383 =>
        some x383)))
noncomputable def F_impl_longestLine (a0 : (List Int)) (a1 : (List Int)) (a2 : Bool) : Option (List Int) :=
  cal (F_impl_crossings a0 a1) (fun x1 =>
    if ¬ (x1.2 = true) then
      some ([] : (List Int))
    else
      mkS (a0.length : Int) (0 : BitVec 32) (fun _ =>
        ck ((a0.length : Int) - 1) (fun _ =>
          bnd (lp (fun s => F_impl_longestLine_l1 a0 a2 x1 s.1 s.2.1 s.2.2) ((List.replicate ((a0.length : Int) : Int).toNat (0 : BitVec 32)), 0#32, (a0.length : Int) - 1)) (fun j => F_impl_longestLine_k2 j))))
noncomputable def F_impl_StraightLongest (a0 : (List Int)) (a1 : (List Int)) : Option (List Int) :=
  cal (F_impl_longestLine a0 a1 false) (fun x1 =>
    some x1)
noncomputable def F_laws_eqInt64S_l1 (a0 : (List Int)) (a1 : (List Int)) (i39 : Int) : Option (Int ⊕ (Unit ⊕ Bool)) :=
  if i39 < (a0.length : Int) then
    idx a0 i39 (fun x87 =>
      idx a1 i39 (fun x99 =>
        if x87 ≠ x99 then
          some (.inr (.inr false))
        else
          ck (i39 + 1) (fun _ =>
            some (.inl (i39 + 1)))))
  else
    some (.inr (.inl ()))
noncomputable def F_laws_eqInt64S_k2   : Option Bool :=
  some true
noncomputable def F_laws_eqInt64S (a0 : (List Int)) (a1 : (List Int)) : Option Bool :=
  if (a0.length : Int) ≠ (a1.length : Int) then
    some false
  else
    bnd (lp (fun s => F_laws_eqInt64S_l1 a0 a1 s) 0) (fun j => F_laws_eqInt64S_k2 )
noncomputable def F_laws_markInt64S_l1  (l38 : (List Int)) (i41 : Int) (i43 : Int) : Option (((List Int) × Int × Int) ⊕ ((Int × (List Int)) ⊕ (Int × (List Int)))) :=
  if i43 < (l38.length : Int) then
    idx l38 i43 (fun x95 =>
      ck (i41 + 1) (fun _ =>
        ck (i43 + 1) (fun _ =>
          some (.inl ((l38.set ((i43 : Int).toNat) i41), i41 + 1, i43 + 1)))))
  else
    some (.inr (.inl (i41, l38)))
noncomputable def F_laws_markInt64S_k2  (i79 : Int) (l82 : (List Int)) : Option (Int × (List Int)) :=
  some (i79, l82)
noncomputable def F_laws_markInt64S (a0 : (List Int)) (a1 : Int) : Option (Int × (List Int)) :=
  bnd (lp (fun s => F_laws_markInt64S_l1 s.1 s.2.1 s.2.2) (a0, a1, 0)) (fun j => F_laws_markInt64S_k2 j.1 j.2)
noncomputable def F_laws_heldInt64S_l1 (a0 : (List Int)) (i27 : Int) (i29 : Int) : Option ((Int × Int) ⊕ (Int ⊕ Int)) :=
  if i29 < (a0.length : Int) then
    idx a0 i29 (fun x68 =>
      if x68 ≠ i27 then
        some (.inr (.inr (-1)))
      else
        ck (i27 + 1) (fun _ =>
          ck (i29 + 1) (fun _ =>
            some (.inl (i27 + 1, i29 + 1)))))
  else
    some (.inr (.inl i27))
noncomputable def F_laws_heldInt64S_k2  (i56 : Int) : Option Int :=
  some i56
noncomputable def F_laws_heldInt64S (a0 : (List Int)) (a1 : Int) : Option Int :=
  bnd (lp (fun s => F_laws_heldInt64S_l1 a0 s.1 s.2) (a1, 0)) (fun j => F_laws_heldInt64S_k2 j)
noncomputable def F_laws_FnExactStraightLongest (a0 : (List Int)) (a1 : (List Int)) : Option Bool :=
  if 1048576 < (a0.length : Int) then
    some true
  else
    if 1048576 < (a1.length : Int) then
      some true
    else
      cal (F_laws_toInt64S a0) (fun x3 =>
        cal (F_laws_toInt64S a1) (fun x14 =>
          cal (F_spec_StraightLongest x3 x14) (fun x33 =>
            cal (F_laws_toInt64S a0) (fun x48 =>
              cal (F_laws_toInt64S a1) (fun x61 =>
                cal (F_impl_StraightLongest x48 x61) (fun x82 =>
                  cal (F_laws_eqInt64S x82 x33) (fun x105 =>
                    if ¬ (x105 = true) then
                      some false
                    else
                      cal (F_laws_toInt64S a0) (fun x112 =>
                        cal (F_laws_eqInt64S x48 x112) (fun x137 =>
                          if ¬ (x137 = true) then
                            some false
                          else
                            cal (F_laws_toInt64S a1) (fun x144 =>
                              cal (F_laws_eqInt64S x61 x144) (fun x169 =>
                                if ¬ (x169 = true) then
                                  some false
                                else
                                  cal (F_laws_markInt64S x48 1) (fun x176 =>
                                    cal (F_laws_markInt64S x61 x176.1) (fun x184 =>
                                      if x184.1 < 0 then
                                        some false
                                      else
                                        cal (F_laws_eqInt64S x82 x33) (fun x213 =>
                                          if ¬ (x213 = true) then
                                            some false
                                          else
                                            cal (F_laws_markInt64S x82 1) (fun x220 =>
                                              cal (F_laws_heldInt64S x220.2 1) (fun x231 =>
                                                if x231 < 0 then
                                                  some false
                                                else
                                                  if x231 ≠ x220.1 then
                                                    some false
                                                  else
                                                    cal (F_laws_toInt64S a0) (fun x240 =>
                                                      cal (F_laws_toInt64S a1) (fun x255 =>
                                                        cal (F_impl_StraightLongest x240 x255) (fun x278 =>
                                                          cal (F_laws_eqInt64S x278 x33) (fun x303 =>
                                                            if ¬ (x303 = true) then
                                                              some false
                                                            else
                                                              cal (F_laws_heldInt64S x220.2 1) (fun x313 =>
                                                                if x313 < 0 then
                                                                  some false
                                                                else
                                                                  if x313 ≠ x220.1 then
                                                                    some false
                                                                  else
                                                                    some true)))))))))))))))))))))
end Go.Proofs.YtbcjeljppgojgaaDoor
