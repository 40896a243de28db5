/- Functional forms, printed by gen.py. -/
import Derived.Test.YtacgmkncleiblaaPure
namespace Go.Proofs.Ytacgmkncleiblaa

noncomputable def F_laws_toInt64S_l1 (a0 : (List Int)) (l63 : (List Int)) (i66 : Int) : Option (((List Int) × Int) ⊕ ((List Int) ⊕ (List Int))) :=
  if i66 < (a0.length : Int) then
    idx a0 i66 (fun x128 =>
      idx l63 i66 (fun x140 =>
        ck (i66 + 1) (fun _ =>
          some (.inl ((l63.set ((i66).toNat) x128), i66 + 1)))))
  else
    some (.inr (.inl l63))
noncomputable def F_laws_toInt64S_k2  (l115 : (List Int)) : Option (List Int) :=
  some l115
noncomputable def F_laws_toInt64S (a0 : (List Int)) : Option (List Int) :=
  mkS (a0.length : Int) (0 : Int) (fun _ =>
    bnd (lp (fun s => F_laws_toInt64S_l1 a0 s.1 s.2) ((List.replicate ((a0.length : Int)).toNat (0 : Int)), 0)) (fun j => F_laws_toInt64S_k2 j))
noncomputable def F_spec_LeastNames_l2 (a0 : (List Int)) (l324 : (List Int)) (i327 : Int) (i693 : Int) : Option (Int ⊕ (Int ⊕ (((List Int) × (List Int) × Int) ⊕ ((List Int) ⊕ (List Int))))) :=
  if i693 < (l324.length : Int) then
    idx l324 i693 (fun x764 =>
      idx a0 i327 (fun x776 =>
        if x764 ≠ x776 then
          ck (i693 + 1) (fun _ =>
            some (.inl (i693 + 1)))
        else
          some (.inr (.inl i693))))
  else
    some (.inr (.inl i693))
noncomputable def F_spec_LeastNames_k3 (a0 : (List Int)) (l318 : (List Int)) (l324 : (List Int)) (i327 : Int) (i750 : Int) : Option (((List Int) × (List Int) × Int) ⊕ ((List Int) ⊕ (List Int))) :=
  if i750 = (l324.length : Int) then
    idx a0 i327 (fun x798 =>
      app l324 ([x798]) (fun _ =>
        app l318 ([i750]) (fun _ =>
          ck (i327 + 1) (fun _ =>
            some (.inl ((l318 ++ ([i750])), (l324 ++ ([x798])), i327 + 1))))))
  else
    app l318 ([i750]) (fun _ =>
      ck (i327 + 1) (fun _ =>
        some (.inl ((l318 ++ ([i750])), l324, i327 + 1))))
noncomputable def F_spec_LeastNames_l1 (a0 : (List Int)) (l318 : (List Int)) (l324 : (List Int)) (i327 : Int) : Option (((List Int) × (List Int) × Int) ⊕ ((List Int) ⊕ (List Int))) :=
  if i327 < (a0.length : Int) then
    bnd (lp (fun s => F_spec_LeastNames_l2 a0 l324 i327 s) 0) (fun j => F_spec_LeastNames_k3 a0 l318 l324 i327 j)
  else
    some (.inr (.inl l318))
noncomputable def F_spec_LeastNames_k4  (l618 : (List Int)) : Option (List Int) :=
  some l618
noncomputable def F_spec_LeastNames (a0 : (List Int)) : Option (List Int) :=
  if 16 < (a0.length : Int) then
    some ([] : (List Int))
  else
    bnd (lp (fun s => F_spec_LeastNames_l1 a0 s.1 s.2.1 s.2.2) (([] : (List Int)), ([] : (List Int)), 0)) (fun j => F_spec_LeastNames_k4 j)
noncomputable def F_slices_Index_int64_l1 (a0 : (List Int)) (a1 : Int) (i23 : Int) : Option (Int ⊕ (Unit ⊕ Int)) :=
  if i23 < (a0.length : Int) then
    idx a0 i23 (fun x56 =>
      if a1 = x56 then
        some (.inr (.inr i23))
      else
        ck (i23 + 1) (fun _ =>
          some (.inl (i23 + 1))))
  else
    some (.inr (.inl ()))
noncomputable def F_slices_Index_int64_k2   : Option Int :=
  some (-1)
noncomputable def F_slices_Index_int64 (a0 : (List Int)) (a1 : Int) : Option Int :=
  bnd (lp (fun s => F_slices_Index_int64_l1 a0 a1 s) 0) (fun j => F_slices_Index_int64_k2 )
noncomputable def F_slices_Contains_int64 (a0 : (List Int)) (a1 : Int) : Option Bool :=
  cal (F_slices_Index_int64 a0 a1) (fun x1 =>
    some (decide (0 ≤ x1)))
noncomputable def F_impl_LeastNames_l1 (a0 : (List Int)) (l178 : (List Int)) (l184 : (List Int)) (i187 : Int) : Option (((List Int) × (List Int) × Int) ⊕ ((List Int) ⊕ (List Int))) :=
  if i187 < (a0.length : Int) then
    idx a0 i187 (fun x351 =>
      cal (F_slices_Contains_int64 l178 x351) (fun x365 =>
        if ¬ (x365 = true) then
          app l178 ([x351]) (fun _ =>
            cal (F_slices_Index_int64 (l178 ++ ([x351])) x351) (fun x401 =>
              app l184 ([x401]) (fun _ =>
                ck (i187 + 1) (fun _ =>
                  some (.inl ((l178 ++ ([x351])), (l184 ++ ([x401])), i187 + 1))))))
        else
          cal (F_slices_Index_int64 l178 x351) (fun x439 =>
            app l184 ([x439]) (fun _ =>
              ck (i187 + 1) (fun _ =>
                some (.inl (l178, (l184 ++ ([x439])), i187 + 1)))))))
  else
    some (.inr (.inl l184))
noncomputable def F_impl_LeastNames_k2  (l338 : (List Int)) : Option (List Int) :=
  some l338
noncomputable def F_impl_LeastNames (a0 : (List Int)) : Option (List Int) :=
  if 16 < (a0.length : Int) then
    some ([] : (List Int))
  else
    bnd (lp (fun s => F_impl_LeastNames_l1 a0 s.1 s.2.1 s.2.2) (([] : (List Int)), ([] : (List Int)), 0)) (fun j => F_impl_LeastNames_k2 j)
noncomputable def F_laws_eqInt64S_l1 (a0 : (List Int)) (a1 : (List Int)) (i39 : Int) : Option (Int ⊕ (Unit ⊕ Bool)) :=
  if i39 < (a0.length : Int) then
    idx a0 i39 (fun x87 =>
      idx a1 i39 (fun x99 =>
        if x87 ≠ x99 then
          some (.inr (.inr false))
        else
          ck (i39 + 1) (fun _ =>
            some (.inl (i39 + 1)))))
  else
    some (.inr (.inl ()))
noncomputable def F_laws_eqInt64S_k2   : Option Bool :=
  some true
noncomputable def F_laws_eqInt64S (a0 : (List Int)) (a1 : (List Int)) : Option Bool :=
  if (a0.length : Int) ≠ (a1.length : Int) then
    some false
  else
    bnd (lp (fun s => F_laws_eqInt64S_l1 a0 a1 s) 0) (fun j => F_laws_eqInt64S_k2 )
noncomputable def F_laws_markInt64S_l1  (l38 : (List Int)) (i41 : Int) (i43 : Int) : Option (((List Int) × Int × Int) ⊕ ((Int × (List Int)) ⊕ (Int × (List Int)))) :=
  if i43 < (l38.length : Int) then
    idx l38 i43 (fun x95 =>
      ck (i41 + 1) (fun _ =>
        ck (i43 + 1) (fun _ =>
          some (.inl ((l38.set ((i43).toNat) i41), i41 + 1, i43 + 1)))))
  else
    some (.inr (.inl (i41, l38)))
noncomputable def F_laws_markInt64S_k2  (i79 : Int) (l82 : (List Int)) : Option (Int × (List Int)) :=
  some (i79, l82)
noncomputable def F_laws_markInt64S (a0 : (List Int)) (a1 : Int) : Option (Int × (List Int)) :=
  bnd (lp (fun s => F_laws_markInt64S_l1 s.1 s.2.1 s.2.2) (a0, a1, 0)) (fun j => F_laws_markInt64S_k2 j.1 j.2)
noncomputable def F_laws_heldInt64S_l1 (a0 : (List Int)) (i27 : Int) (i29 : Int) : Option ((Int × Int) ⊕ (Int ⊕ Int)) :=
  if i29 < (a0.length : Int) then
    idx a0 i29 (fun x68 =>
      if x68 ≠ i27 then
        some (.inr (.inr (-1)))
      else
        ck (i27 + 1) (fun _ =>
          ck (i29 + 1) (fun _ =>
            some (.inl (i27 + 1, i29 + 1)))))
  else
    some (.inr (.inl i27))
noncomputable def F_laws_heldInt64S_k2  (i56 : Int) : Option Int :=
  some i56
noncomputable def F_laws_heldInt64S (a0 : (List Int)) (a1 : Int) : Option Int :=
  bnd (lp (fun s => F_laws_heldInt64S_l1 a0 s.1 s.2) (a1, 0)) (fun j => F_laws_heldInt64S_k2 j)
noncomputable def F_laws_FnExactLeastNames (a0 : (List Int)) : Option Bool :=
  if 1048576 < (a0.length : Int) then
    some true
  else
    cal (F_laws_toInt64S a0) (fun x2 =>
      cal (F_spec_LeastNames x2) (fun x15 =>
        cal (F_laws_toInt64S a0) (fun x28 =>
          cal (F_impl_LeastNames x28) (fun x43 =>
            cal (F_laws_eqInt64S x43 x15) (fun x62 =>
              if ¬ (x62 = true) then
                some false
              else
                cal (F_laws_toInt64S a0) (fun x69 =>
                  cal (F_laws_eqInt64S x28 x69) (fun x90 =>
                    if ¬ (x90 = true) then
                      some false
                    else
                      cal (F_laws_markInt64S x28 1) (fun x97 =>
                        if x97.1 < 0 then
                          some false
                        else
                          cal (F_laws_eqInt64S x43 x15) (fun x122 =>
                            if ¬ (x122 = true) then
                              some false
                            else
                              cal (F_laws_markInt64S x43 1) (fun x129 =>
                                cal (F_laws_heldInt64S x129.2 1) (fun x139 =>
                                  if x139 < 0 then
                                    some false
                                  else
                                    if x139 ≠ x129.1 then
                                      some false
                                    else
                                      cal (F_laws_toInt64S a0) (fun x148 =>
                                        cal (F_impl_LeastNames x148) (fun x165 =>
                                          cal (F_laws_eqInt64S x165 x15) (fun x186 =>
                                            if ¬ (x186 = true) then
                                              some false
                                            else
                                              cal (F_laws_heldInt64S x129.2 1) (fun x195 =>
                                                if x195 < 0 then
                                                  some false
                                                else
                                                  if x195 ≠ x129.1 then
                                                    some false
                                                  else
                                                    some true)))))))))))))))
end Go.Proofs.Ytacgmkncleiblaa
