/- Functional forms, printed by gen.py. -/
import Derived.Test.YtacgmkncleiblaaPure
namespace Go.Proofs.Ytacgmkncleiblaa

noncomputable def F_laws_szInt64S (a0 : (List Int)) (a1 : Int) : Option Int :=
  ck (a1 - (a0.length : Int)) (fun _ =>
    if (a1 - (a0.length : Int)) < 0 then
      some (-1)
    else
      some (a1 - (a0.length : Int)))
noncomputable def F_laws_szInt64SS_l1 (a0 : (List (List Int))) (i37 : Int) (i39 : Int) : Option ((Int × Int) ⊕ (Int ⊕ Int)) :=
  if i39 < (a0.length : Int) then
    idx a0 i39 (fun x85 =>
      cal (F_laws_szInt64S x85 i37) (fun x99 =>
        if x99 < 0 then
          some (.inr (.inr (-1)))
        else
          ck (i39 + 1) (fun _ =>
            some (.inl (x99, i39 + 1)))))
  else
    some (.inr (.inl i37))
noncomputable def F_laws_szInt64SS_k2  (i73 : Int) : Option Int :=
  some i73
noncomputable def F_laws_szInt64SS (a0 : (List (List Int))) (a1 : Int) : Option Int :=
  ck (a1 - (a0.length : Int)) (fun _ =>
    if (a1 - (a0.length : Int)) < 0 then
      some (-1)
    else
      bnd (lp (fun s => F_laws_szInt64SS_l1 a0 s.1 s.2) (a1 - (a0.length : Int), 0)) (fun j => F_laws_szInt64SS_k2 j))
noncomputable def F_laws_szCert (a0_0 : Int) (a0_1 : (List Int)) (a0_2 : (List (List Int))) (a1 : Int) : Option Int :=
  cal (F_laws_szInt64S a0_1 a1) (fun x9 =>
    if x9 < 0 then
      some (-1)
    else
      cal (F_laws_szInt64SS a0_2 x9) (fun x17 =>
        if x17 < 0 then
          some (-1)
        else
          some x17))
noncomputable def F_laws_toInt64S_l1 (a0 : (List Int)) (l63 : (List Int)) (i66 : Int) : Option (((List Int) × Int) ⊕ ((List Int) ⊕ (List Int))) :=
  if i66 < (a0.length : Int) then
    idx a0 i66 (fun x128 =>
      idx l63 i66 (fun x140 =>
        ck (i66 + 1) (fun _ =>
          some (.inl ((l63.set ((i66).toNat) x128), i66 + 1)))))
  else
    some (.inr (.inl l63))
noncomputable def F_laws_toInt64S_k2  (l115 : (List Int)) : Option (List Int) :=
  some l115
noncomputable def F_laws_toInt64S (a0 : (List Int)) : Option (List Int) :=
  mkS (a0.length : Int) (0 : Int) (fun _ =>
    bnd (lp (fun s => F_laws_toInt64S_l1 a0 s.1 s.2) ((List.replicate ((a0.length : Int)).toNat (0 : Int)), 0)) (fun j => F_laws_toInt64S_k2 j))
noncomputable def F_laws_toInt64SS_l1 (a0 : (List (List Int))) (l95 : (List (List Int))) (i98 : Int) : Option (((List (List Int)) × Int) ⊕ ((List (List Int)) ⊕ (List (List Int)))) :=
  if i98 < (a0.length : Int) then
    idx a0 i98 (fun x189 =>
      cal (F_laws_toInt64S x189) (fun x203 =>
        idx l95 i98 (fun x216 =>
          ck (i98 + 1) (fun _ =>
            some (.inl ((l95.set ((i98).toNat) x203), i98 + 1))))))
  else
    some (.inr (.inl l95))
noncomputable def F_laws_toInt64SS_k2  (l176 : (List (List Int))) : Option (List (List Int)) :=
  some l176
noncomputable def F_laws_toInt64SS (a0 : (List (List Int))) : Option (List (List Int)) :=
  mkS (a0.length : Int) ([] : (List Int)) (fun _ =>
    bnd (lp (fun s => F_laws_toInt64SS_l1 a0 s.1 s.2) ((List.replicate ((a0.length : Int)).toNat ([] : (List Int))), 0)) (fun j => F_laws_toInt64SS_k2 j))
noncomputable def F_laws_toCert (a0_0 : Int) (a0_1 : (List Int)) (a0_2 : (List (List Int))) : Option (Int × ((List Int) × (List (List Int)))) :=
  cal (F_laws_toInt64S a0_1) (fun x35 =>
    cal (F_laws_toInt64SS a0_2) (fun x56 =>
      some (a0_0, x35, x56)))
noncomputable def F_spec_l1Same_l1 (a0 : (List Int)) (a1 : (List Int)) (i39 : Int) : Option (Int ⊕ (Unit ⊕ Bool)) :=
  if i39 < (a0.length : Int) then
    idx a0 i39 (fun x87 =>
      idx a1 i39 (fun x99 =>
        if x87 ≠ x99 then
          some (.inr (.inr false))
        else
          ck (i39 + 1) (fun _ =>
            some (.inl (i39 + 1)))))
  else
    some (.inr (.inl ()))
noncomputable def F_spec_l1Same_k2   : Option Bool :=
  some true
noncomputable def F_spec_l1Same (a0 : (List Int)) (a1 : (List Int)) : Option Bool :=
  if (a0.length : Int) ≠ (a1.length : Int) then
    some false
  else
    bnd (lp (fun s => F_spec_l1Same_l1 a0 a1 s) 0) (fun j => F_spec_l1Same_k2 )
noncomputable def F_spec_SameCert_l1 (a0_2 : (List (List Int))) (a1_2 : (List (List Int))) (i98 : Int) : Option (Int ⊕ (Unit ⊕ Bool)) :=
  if i98 < (a0_2.length : Int) then
    idx a0_2 i98 (fun x162 =>
      idx a1_2 i98 (fun x176 =>
        cal (F_spec_l1Same x162 x176) (fun x192 =>
          if ¬ (x192 = true) then
            some (.inr (.inr false))
          else
            ck (i98 + 1) (fun _ =>
              some (.inl (i98 + 1))))))
  else
    some (.inr (.inl ()))
noncomputable def F_spec_SameCert_k2   : Option Bool :=
  some true
noncomputable def F_spec_SameCert (a0_0 : Int) (a0_1 : (List Int)) (a0_2 : (List (List Int))) (a1_0 : Int) (a1_1 : (List Int)) (a1_2 : (List (List Int))) : Option Bool :=
  if a0_0 ≠ a1_0 then
    some false
  else
    cal (F_spec_l1Same a0_1 a1_1) (fun x29 =>
      if ¬ (x29 = true) then
        some false
      else
        if (a0_2.length : Int) ≠ (a1_2.length : Int) then
          some false
        else
          bnd (lp (fun s => F_spec_SameCert_l1 a0_2 a1_2 s) 0) (fun j => F_spec_SameCert_k2 ))
noncomputable def F_slices_Equal_int64_l1 (a0 : (List Int)) (a1 : (List Int)) (i39 : Int) : Option (Int ⊕ (Unit ⊕ Bool)) :=
  if i39 < (a0.length : Int) then
    idx a0 i39 (fun x87 =>
      idx a1 i39 (fun x99 =>
        if x87 ≠ x99 then
          some (.inr (.inr false))
        else
          ck (i39 + 1) (fun _ =>
            some (.inl (i39 + 1)))))
  else
    some (.inr (.inl ()))
noncomputable def F_slices_Equal_int64_k2   : Option Bool :=
  some true
noncomputable def F_slices_Equal_int64 (a0 : (List Int)) (a1 : (List Int)) : Option Bool :=
  if (a0.length : Int) ≠ (a1.length : Int) then
    some false
  else
    bnd (lp (fun s => F_slices_Equal_int64_l1 a0 a1 s) 0) (fun j => F_slices_Equal_int64_k2 )
noncomputable def F_slices_EqualFunc_Sint64_l1 (a0 : (List (List Int))) (a1 : (List (List Int))) (a2 : (List Int) → (List Int) → Option Bool) (i46 : Int) : Option (Int ⊕ (Unit ⊕ Bool)) :=
  if i46 < (a0.length : Int) then
    idx a0 i46 (fun x101 =>
      idx a1 i46 (fun x115 =>
        cal (a2 x101 x115) (fun x129 =>
          if ¬ (x129 = true) then
            some (.inr (.inr false))
          else
            ck (i46 + 1) (fun _ =>
              some (.inl (i46 + 1))))))
  else
    some (.inr (.inl ()))
noncomputable def F_slices_EqualFunc_Sint64_k2   : Option Bool :=
  some true
noncomputable def F_slices_EqualFunc_Sint64 (a0 : (List (List Int))) (a1 : (List (List Int))) (a2 : (List Int) → (List Int) → Option Bool) : Option Bool :=
  if (a0.length : Int) ≠ (a1.length : Int) then
    some false
  else
    bnd (lp (fun s => F_slices_EqualFunc_Sint64_l1 a0 a1 a2 s) 0) (fun j => F_slices_EqualFunc_Sint64_k2 )
noncomputable def F_impl_SameCert (a0_0 : Int) (a0_1 : (List Int)) (a0_2 : (List (List Int))) (a1_0 : Int) (a1_1 : (List Int)) (a1_2 : (List (List Int))) : Option Bool :=
  if a0_0 = a1_0 then
    cal (F_slices_Equal_int64 a0_1 a1_1) (fun x20 =>
      if x20 = true then
        cal (F_slices_EqualFunc_Sint64 a0_2 a1_2 (fun (z27 : (List Int)) (z28 : (List Int)) => F_slices_Equal_int64 z27 z28)) (fun x30 =>
          some x30)
      else
        some false)
  else
    some false
noncomputable def F_laws_eqInt64S_l1 (a0 : (List Int)) (a1 : (List Int)) (i39 : Int) : Option (Int ⊕ (Unit ⊕ Bool)) :=
  if i39 < (a0.length : Int) then
    idx a0 i39 (fun x87 =>
      idx a1 i39 (fun x99 =>
        if x87 ≠ x99 then
          some (.inr (.inr false))
        else
          ck (i39 + 1) (fun _ =>
            some (.inl (i39 + 1)))))
  else
    some (.inr (.inl ()))
noncomputable def F_laws_eqInt64S_k2   : Option Bool :=
  some true
noncomputable def F_laws_eqInt64S (a0 : (List Int)) (a1 : (List Int)) : Option Bool :=
  if (a0.length : Int) ≠ (a1.length : Int) then
    some false
  else
    bnd (lp (fun s => F_laws_eqInt64S_l1 a0 a1 s) 0) (fun j => F_laws_eqInt64S_k2 )
noncomputable def F_laws_eqInt64SS_l1 (a0 : (List (List Int))) (a1 : (List (List Int))) (i47 : Int) : Option (Int ⊕ (Unit ⊕ Bool)) :=
  if i47 < (a0.length : Int) then
    idx a0 i47 (fun x103 =>
      idx a1 i47 (fun x117 =>
        cal (F_laws_eqInt64S x103 x117) (fun x133 =>
          if ¬ (x133 = true) then
            some (.inr (.inr false))
          else
            ck (i47 + 1) (fun _ =>
              some (.inl (i47 + 1))))))
  else
    some (.inr (.inl ()))
noncomputable def F_laws_eqInt64SS_k2   : Option Bool :=
  some true
noncomputable def F_laws_eqInt64SS (a0 : (List (List Int))) (a1 : (List (List Int))) : Option Bool :=
  if (a0.length : Int) ≠ (a1.length : Int) then
    some false
  else
    bnd (lp (fun s => F_laws_eqInt64SS_l1 a0 a1 s) 0) (fun j => F_laws_eqInt64SS_k2 )
noncomputable def F_laws_eqCert (a0_0 : Int) (a0_1 : (List Int)) (a0_2 : (List (List Int))) (a1_0 : Int) (a1_1 : (List Int)) (a1_2 : (List (List Int))) : Option Bool :=
  if a0_0 ≠ a1_0 then
    some false
  else
    cal (F_laws_eqInt64S a0_1 a1_1) (fun x20 =>
      if ¬ (x20 = true) then
        some false
      else
        cal (F_laws_eqInt64SS a0_2 a1_2) (fun x27 =>
          if ¬ (x27 = true) then
            some false
          else
            some true))
noncomputable def F_laws_FnExactSameCert (a0_0 : Int) (a0_1 : (List Int)) (a0_2 : (List (List Int))) (a1_0 : Int) (a1_1 : (List Int)) (a1_2 : (List (List Int))) : Option Bool :=
  cal (F_laws_szCert a0_0 a0_1 a0_2 1048576) (fun x19 =>
    if x19 < 0 then
      some true
    else
      cal (F_laws_szCert a1_0 a1_1 a1_2 x19) (fun x27 =>
        if x27 < 0 then
          some true
        else
          cal (F_laws_toCert a0_0 a0_1 a0_2) (fun x38 =>
            cal (F_laws_toCert a1_0 a1_1 a1_2) (fun x75 =>
              cal (F_spec_SameCert x38.1 x38.2.1 x38.2.2 x75.1 x75.2.1 x75.2.2) (fun x127 =>
                cal (F_laws_toCert a0_0 a0_1 a0_2) (fun x132 =>
                  cal (F_laws_toCert a1_0 a1_1 a1_2) (fun x186 =>
                    cal (F_impl_SameCert x132.1 x132.2.1 x132.2.2 x186.1 x186.2.1 x186.2.2) (fun x266 =>
                      if (x266 != x127) = true then
                        some false
                      else
                        cal (F_laws_toCert a0_0 a0_1 a0_2) (fun x276 =>
                          cal (F_laws_eqCert x132.1 x132.2.1 x132.2.2 x276.1 x276.2.1 x276.2.2) (fun x344 =>
                            if ¬ (x344 = true) then
                              some false
                            else
                              cal (F_laws_toCert a1_0 a1_1 a1_2) (fun x353 =>
                                cal (F_laws_eqCert x186.1 x186.2.1 x186.2.2 x353.1 x353.2.1 x353.2.2) (fun x405 =>
                                  if ¬ (x405 = true) then
                                    some false
                                  else
                                    some true))))))))))))
end Go.Proofs.Ytacgmkncleiblaa
