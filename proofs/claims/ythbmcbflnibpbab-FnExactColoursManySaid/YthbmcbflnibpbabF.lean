/- Functional forms, printed by gen.py. -/
import Derived.Test.YthbmcbflnibpbabPure
namespace Go.Proofs.Ythbmcbflnibpbab

noncomputable def F_laws_toInt64S_l1 (a0 : (List Int)) (l63 : (List Int)) (i66 : Int) : Option (((List Int) × Int) ⊕ ((List Int) ⊕ (List Int))) :=
  if i66 < (a0.length : Int) then
    idx a0 i66 (fun x128 =>
      idx l63 i66 (fun x140 =>
        ck (i66 + 1) (fun _ =>
          some (.inl ((l63.set ((i66 : Int).toNat) x128), i66 + 1)))))
  else
    some (.inr (.inl l63))
noncomputable def F_laws_toInt64S_k2  (l115 : (List Int)) : Option (List Int) :=
  some l115
noncomputable def F_laws_toInt64S (a0 : (List Int)) : Option (List Int) :=
  mkS (a0.length : Int) (0 : Int) (fun _ =>
    bnd (lp (fun s => F_laws_toInt64S_l1 a0 s.1 s.2) ((List.replicate ((a0.length : Int) : Int).toNat (0 : Int)), 0)) (fun j => F_laws_toInt64S_k2 j))
noncomputable def F_spec_l1Has_l1 (a0 : (List Int)) (a1 : Int) (i23 : Int) : Option (Int ⊕ (Unit ⊕ Bool)) :=
  if i23 < (a0.length : Int) then
    idx a0 i23 (fun x56 =>
      if x56 = a1 then
        some (.inr (.inr true))
      else
        ck (i23 + 1) (fun _ =>
          some (.inl (i23 + 1))))
  else
    some (.inr (.inl ()))
noncomputable def F_spec_l1Has_k2   : Option Bool :=
  some false
noncomputable def F_spec_l1Has (a0 : (List Int)) (a1 : Int) : Option Bool :=
  bnd (lp (fun s => F_spec_l1Has_l1 a0 a1 s) 0) (fun j => F_spec_l1Has_k2 )
noncomputable def F_spec_ColoursMany_l1 (a0 : (List Int)) (l91 : (List Int)) (i94 : Int) : Option (((List Int) × Int) ⊕ ((List Int) ⊕ Int)) :=
  if i94 < (a0.length : Int) then
    idx a0 i94 (fun x185 =>
      cal (F_spec_l1Has l91 x185) (fun x200 =>
        if ¬ (x200 = true) then
          idx a0 i94 (fun x207 =>
            app l91 ([x207]) (fun _ =>
              ck (i94 + 1) (fun _ =>
                some (.inl ((l91 ++ ([x207])), i94 + 1)))))
        else
          ck (i94 + 1) (fun _ =>
            some (.inl (l91, i94 + 1)))))
  else
    some (.inr (.inl l91))
noncomputable def F_spec_ColoursMany_k2  (l172 : (List Int)) : Option Int :=
  some (l172.length : Int)
noncomputable def F_spec_ColoursMany (a0 : (List Int)) : Option Int :=
  if 16 < (a0.length : Int) then
    some (-1)
  else
    bnd (lp (fun s => F_spec_ColoursMany_l1 a0 s.1 s.2) (([] : (List Int)), 0)) (fun j => F_spec_ColoursMany_k2 j)
noncomputable def F_slices_Values_int64 (a0 : (List Int)) : Option (List Int) := some a0
noncomputable def F_slices_Collect_int64 (a0 : (List Int)) : Option (List Int) := if a0.length ≤ 1099511627776 then some a0 else none
noncomputable def F_slices_Sort_int64 (a0 : (List Int)) : Option (List Int) := if a0.length ≤ 1099511627776 then some (a0.mergeSort fun x y => decide (x ≤ y)) else none
noncomputable def F_slices_Sorted_int64 (a0 : (List Int)) : Option (List Int) :=
  cal (F_slices_Collect_int64 a0) (fun x1 =>
    cal (F_slices_Sort_int64 x1) (fun x12 =>
      some x12))
def cpt (zs : List Int) : List Int := ((List.range zs.length).filter fun j => decide (j = 0 ∨ zs.getD j 0 ≠ zs.getD (j - 1) 0)).map fun j => zs.getD j 0
noncomputable def F_slices_Compact_int64 (a0 : (List Int)) : Option ((List Int) × (List Int)) := if a0.length ≤ 1099511627776 then some (cpt a0, cpt a0 ++ List.replicate (a0.length - (cpt a0).length) 0) else none
noncomputable def F_impl_ColoursMany (a0 : (List Int)) : Option Int :=
  if 16 < (a0.length : Int) then
    some (-1)
  else
    cal (F_slices_Values_int64 a0) (fun x2 =>
      cal (F_slices_Sorted_int64 x2) (fun x9 =>
        cal (F_slices_Compact_int64 x9) (fun x20 =>
          some (x20.1.length : Int))))
noncomputable def F_laws_eqInt64S_l1 (a0 : (List Int)) (a1 : (List Int)) (i39 : Int) : Option (Int ⊕ (Unit ⊕ Bool)) :=
  if i39 < (a0.length : Int) then
    idx a0 i39 (fun x87 =>
      idx a1 i39 (fun x99 =>
        if x87 ≠ x99 then
          some (.inr (.inr false))
        else
          ck (i39 + 1) (fun _ =>
            some (.inl (i39 + 1)))))
  else
    some (.inr (.inl ()))
noncomputable def F_laws_eqInt64S_k2   : Option Bool :=
  some true
noncomputable def F_laws_eqInt64S (a0 : (List Int)) (a1 : (List Int)) : Option Bool :=
  if (a0.length : Int) ≠ (a1.length : Int) then
    some false
  else
    bnd (lp (fun s => F_laws_eqInt64S_l1 a0 a1 s) 0) (fun j => F_laws_eqInt64S_k2 )
noncomputable def F_laws_FnExactColoursMany (a0 : (List Int)) : Option Bool :=
  if 1048576 < (a0.length : Int) then
    some true
  else
    cal (F_laws_toInt64S a0) (fun x2 =>
      cal (F_spec_ColoursMany x2) (fun x16 =>
        cal (F_laws_toInt64S a0) (fun x23 =>
          cal (F_impl_ColoursMany x23) (fun x37 =>
            if x37 ≠ x16 then
              some false
            else
              cal (F_laws_toInt64S a0) (fun x45 =>
                cal (F_laws_eqInt64S x23 x45) (fun x64 =>
                  if ¬ (x64 = true) then
                    some false
                  else
                    some true))))))
end Go.Proofs.Ythbmcbflnibpbab
