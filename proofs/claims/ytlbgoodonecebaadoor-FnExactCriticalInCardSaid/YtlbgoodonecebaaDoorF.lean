/- Functional forms, printed by gen.py. -/
import Derived.Test.YtlbgoodonecebaaDoorPure
namespace Go.Proofs.YtlbgoodonecebaaDoor

noncomputable def F_laws_szInt64S (a0 : (List Int)) (a1 : Int) : Option Int :=
  ck (a1 - (a0.length : Int)) (fun _ =>
    if (a1 - (a0.length : Int)) < 0 then
      some (-1)
    else
      some (a1 - (a0.length : Int)))
noncomputable def F_laws_szInt64SS_l1 (a0 : (List (List Int))) (i37 : Int) (i39 : Int) : Option ((Int × Int) ⊕ (Int ⊕ Int)) :=
  if i39 < (a0.length : Int) then
    idx a0 i39 (fun x85 =>
      cal (F_laws_szInt64S x85 i37) (fun x99 =>
        if x99 < 0 then
          some (.inr (.inr (-1)))
        else
          ck (i39 + 1) (fun _ =>
            some (.inl (x99, i39 + 1)))))
  else
    some (.inr (.inl i37))
noncomputable def F_laws_szInt64SS_k2  (i73 : Int) : Option Int :=
  some i73
noncomputable def F_laws_szInt64SS (a0 : (List (List Int))) (a1 : Int) : Option Int :=
  ck (a1 - (a0.length : Int)) (fun _ =>
    if (a1 - (a0.length : Int)) < 0 then
      some (-1)
    else
      bnd (lp (fun s => F_laws_szInt64SS_l1 a0 s.1 s.2) (a1 - (a0.length : Int), 0)) (fun j => F_laws_szInt64SS_k2 j))
noncomputable def F_laws_szGraph (a0_0 : (List (List Int))) (a1 : Int) : Option Int :=
  cal (F_laws_szInt64SS a0_0 a1) (fun x9 =>
    if x9 < 0 then
      some (-1)
    else
      some x9)
noncomputable def F_laws_toInt64S_l1 (a0 : (List Int)) (l63 : (List Int)) (i66 : Int) : Option (((List Int) × Int) ⊕ ((List Int) ⊕ (List Int))) :=
  if i66 < (a0.length : Int) then
    idx a0 i66 (fun x128 =>
      idx l63 i66 (fun x140 =>
        ck (i66 + 1) (fun _ =>
          some (.inl ((l63.set ((i66 : Int).toNat) x128), i66 + 1)))))
  else
    some (.inr (.inl l63))
noncomputable def F_laws_toInt64S_k2  (l115 : (List Int)) : Option (List Int) :=
  some l115
noncomputable def F_laws_toInt64S (a0 : (List Int)) : Option (List Int) :=
  mkS (a0.length : Int) (0 : Int) (fun _ =>
    bnd (lp (fun s => F_laws_toInt64S_l1 a0 s.1 s.2) ((List.replicate ((a0.length : Int) : Int).toNat (0 : Int)), 0)) (fun j => F_laws_toInt64S_k2 j))
noncomputable def F_laws_toInt64SS_l1 (a0 : (List (List Int))) (l96 : (List (List Int))) (i99 : Int) : Option (((List (List Int)) × Int) ⊕ ((List (List Int)) ⊕ (List (List Int)))) :=
  if i99 < (a0.length : Int) then
    idx a0 i99 (fun x191 =>
      cal (F_laws_toInt64S x191) (fun x205 =>
        idx l96 i99 (fun x219 =>
          ck (i99 + 1) (fun _ =>
            some (.inl ((l96.set ((i99 : Int).toNat) x205), i99 + 1))))))
  else
    some (.inr (.inl l96))
noncomputable def F_laws_toInt64SS_k2  (l178 : (List (List Int))) : Option (List (List Int)) :=
  some l178
noncomputable def F_laws_toInt64SS (a0 : (List (List Int))) : Option (List (List Int)) :=
  mkS (a0.length : Int) ([] : (List Int)) (fun _ =>
    bnd (lp (fun s => F_laws_toInt64SS_l1 a0 s.1 s.2) ((List.replicate ((a0.length : Int) : Int).toNat ([] : (List Int))), 0)) (fun j => F_laws_toInt64SS_k2 j))
noncomputable def F_laws_toGraph (a0_0 : (List (List Int))) : Option (List (List Int)) :=
  cal (F_laws_toInt64SS a0_0) (fun x31 =>
    some x31)
noncomputable def F_spec_l1Size (a0_0 : (List (List Int))) : Option Int :=
  some (a0_0.length : Int)
noncomputable def F_spec_l1In (a0 : Int) (a1 : Int) (a2 : Int) : Option Bool :=
  if a1 ≤ a0 then
    some (decide (a0 ≤ a2))
  else
    some false
noncomputable def F_spec_l1Set_l1 (a0 : (List Int)) (a1 : Int) (i69 : Int) : Option (Int ⊕ (Unit ⊕ Bool)) :=
  if i69 < (a0.length : Int) then
    idx a0 i69 (fun x147 =>
      ck (a1 - 1) (fun _ =>
        cal (F_spec_l1In x147 0 (a1 - 1)) (fun x163 =>
          if ¬ (x163 = true) then
            some (.inr (.inr false))
          else
            if 0 < i69 then
              idx a0 i69 (fun x172 =>
                ck (i69 - 1) (fun _ =>
                  idx a0 (i69 - 1) (fun x186 =>
                    if x172 ≤ x186 then
                      some (.inr (.inr false))
                    else
                      ck (i69 + 1) (fun _ =>
                        some (.inl (i69 + 1))))))
            else
              ck (i69 + 1) (fun _ =>
                some (.inl (i69 + 1))))))
  else
    some (.inr (.inl ()))
noncomputable def F_spec_l1Set_k2   : Option Bool :=
  some true
noncomputable def F_spec_l1Set (a0 : (List Int)) (a1 : Int) : Option Bool :=
  if a1 < (a0.length : Int) then
    some false
  else
    bnd (lp (fun s => F_spec_l1Set_l1 a0 a1 s) 0) (fun j => F_spec_l1Set_k2 )
noncomputable def F_spec_l1Has_l1 (a0 : (List Int)) (a1 : Int) (i23 : Int) : Option (Int ⊕ (Unit ⊕ Bool)) :=
  if i23 < (a0.length : Int) then
    idx a0 i23 (fun x56 =>
      if x56 = a1 then
        some (.inr (.inr true))
      else
        ck (i23 + 1) (fun _ =>
          some (.inl (i23 + 1))))
  else
    some (.inr (.inl ()))
noncomputable def F_spec_l1Has_k2   : Option Bool :=
  some false
noncomputable def F_spec_l1Has (a0 : (List Int)) (a1 : Int) : Option Bool :=
  bnd (lp (fun s => F_spec_l1Has_l1 a0 a1 s) 0) (fun j => F_spec_l1Has_k2 )
noncomputable def F_spec_GraphOk_l1 (a0_0 : (List (List Int))) (x9 : Int) (i80 : Int) : Option (Int ⊕ (Unit ⊕ Bool)) :=
  if i80 < x9 then
    idx a0_0 i80 (fun x146 =>
      cal (F_spec_l1Set x146 x9) (fun x160 =>
        if ¬ (x160 = true) then
          some (.inr (.inr false))
        else
          idx a0_0 i80 (fun x169 =>
            cal (F_spec_l1Has x169 i80) (fun x183 =>
              if x183 = true then
                some (.inr (.inr false))
              else
                ck (i80 + 1) (fun _ =>
                  some (.inl (i80 + 1)))))))
  else
    some (.inr (.inl ()))
noncomputable def F_spec_GraphOk_l4 (a0_0 : (List (List Int))) (i436 : Int) (i762 : Int) : Option (Int ⊕ (Unit ⊕ (Int ⊕ (Unit ⊕ Bool)))) :=
  idx a0_0 i436 (fun x847 =>
    if i762 < (x847.length : Int) then
      idx a0_0 i436 (fun x862 =>
        idx x862 i762 (fun x876 =>
          idx a0_0 x876 (fun x888 =>
            cal (F_spec_l1Has x888 i436) (fun x904 =>
              if ¬ (x904 = true) then
                some (.inr (.inr (.inr (.inr false))))
              else
                ck (i762 + 1) (fun _ =>
                  some (.inl (i762 + 1)))))))
    else
      some (.inr (.inl ())))
noncomputable def F_spec_GraphOk_k5 (i436 : Int)  : Option (Int ⊕ (Unit ⊕ Bool)) :=
  ck (i436 + 1) (fun _ =>
    some (.inl (i436 + 1)))
noncomputable def F_spec_GraphOk_l3 (a0_0 : (List (List Int))) (x9 : Int) (i436 : Int) : Option (Int ⊕ (Unit ⊕ Bool)) :=
  if i436 < x9 then
    bnd (lp (fun s => F_spec_GraphOk_l4 a0_0 i436 s) 0) (fun j => F_spec_GraphOk_k5 i436 )
  else
    some (.inr (.inl ()))
noncomputable def F_spec_GraphOk_k6   : Option Bool :=
  some true
noncomputable def F_spec_GraphOk_k2 (a0_0 : (List (List Int))) (x9 : Int)  : Option Bool :=
  bnd (lp (fun s => F_spec_GraphOk_l3 a0_0 x9 s) 0) (fun j => F_spec_GraphOk_k6 )
noncomputable def F_spec_GraphOk (a0_0 : (List (List Int))) : Option Bool :=
  cal (F_spec_l1Size a0_0) (fun x9 =>
    cal (F_spec_l1In x9 1 16) (fun x16 =>
      if ¬ (x16 = true) then
        some false
      else
        bnd (lp (fun s => F_spec_GraphOk_l1 a0_0 x9 s) 0) (fun j => F_spec_GraphOk_k2 a0_0 x9 )))
noncomputable def F_spec_l26None_l1 (a0 : Int) (l54 : (List Int)) (i57 : Int) : Option (((List Int) × Int) ⊕ ((List Int) ⊕ (List Int))) :=
  if i57 < a0 then
    app l54 ([(-1)]) (fun _ =>
      ck (i57 + 1) (fun _ =>
        some (.inl ((l54 ++ ([(-1)])), i57 + 1))))
  else
    some (.inr (.inl l54))
noncomputable def F_spec_l26None_k2  (l99 : (List Int)) : Option (List Int) :=
  some l99
noncomputable def F_spec_l26None (a0 : Int) : Option (List Int) :=
  bnd (lp (fun s => F_spec_l26None_l1 a0 s.1 s.2) (([] : (List Int)), 0)) (fun j => F_spec_l26None_k2 j)
noncomputable def F_spec_l1Copy (a0 : (List Int)) : Option (List Int) :=
  app ([] : (List Int)) a0 (fun _ =>
    some (([] : (List Int)) ++ a0))
noncomputable def F_spec_l26Try_l2 (a0_0 : (List (List Int))) (a1 : (List Int)) (a2 : Int) (i315 : Int) (t700 : Bool) (i701 : Int) : Option ((Bool × Int) ⊕ (Bool ⊕ (Int ⊕ (Unit ⊕ ((List Int) × Bool))))) :=
  idx a0_0 a2 (fun x783 =>
    if i701 < (x783.length : Int) then
      if t700 = true then
        idx a0_0 a2 (fun x800 =>
          idx x800 i701 (fun x815 =>
            idx a1 x815 (fun x827 =>
              ck (i701 + 1) (fun _ =>
                some (.inl (decide (x827 ≠ i315), i701 + 1))))))
      else
        ck (i701 + 1) (fun _ =>
          some (.inl (false, i701 + 1)))
    else
      some (.inr (.inl t700)))
noncomputable def F_spec_l26Try_k4 (a0_0 : (List (List Int))) (a2 : Int) (a4 : Int) (rc : (List (List Int)) → (List Int) → Int → Int → Int → Option ((List Int) × Bool)) (i315 : Int) (x846 : (List Int)) (i889 : Int) : Option (Int ⊕ (Unit ⊕ ((List Int) × Bool))) :=
  ck (a2 + 1) (fun _ =>
    cal (rc a0_0 (x846.set ((a2 : Int).toNat) i315) (a2 + 1) i889 a4) (fun x902 =>
      if x902.2 = true then
        some (.inr (.inr (x902.1, true)))
      else
        ck (i315 + 1) (fun _ =>
          some (.inl (i315 + 1)))))
noncomputable def F_spec_l26Try_k3 (a0_0 : (List (List Int))) (a1 : (List Int)) (a2 : Int) (a3 : Int) (a4 : Int) (rc : (List (List Int)) → (List Int) → Int → Int → Int → Option ((List Int) × Bool)) (i315 : Int) (t773 : Bool) : Option (Int ⊕ (Unit ⊕ ((List Int) × Bool))) :=
  if ¬ (t773 = true) then
    ck (i315 + 1) (fun _ =>
      some (.inl (i315 + 1)))
  else
    cal (F_spec_l1Copy a1) (fun x846 =>
      idx x846 a2 (fun x859 =>
        bnd (
          if i315 = a3 then
            ck (a3 + 1) (fun _ =>
              some (.inl (a3 + 1)))
          else
            some (.inl a3)) (fun j => F_spec_l26Try_k4 a0_0 a2 a4 rc i315 x846 j)))
noncomputable def F_spec_l26Try_l1 (a0_0 : (List (List Int))) (a1 : (List Int)) (a2 : Int) (a3 : Int) (a4 : Int) (rc : (List (List Int)) → (List Int) → Int → Int → Int → Option ((List Int) × Bool)) (i315 : Int) : Option (Int ⊕ (Unit ⊕ ((List Int) × Bool))) :=
  if i315 < a4 then
    if i315 ≤ a3 then
      bnd (lp (fun s => F_spec_l26Try_l2 a0_0 a1 a2 i315 s.1 s.2) (true, 0)) (fun j => F_spec_l26Try_k3 a0_0 a1 a2 a3 a4 rc i315 j)
    else
      some (.inr (.inl ()))
  else
    some (.inr (.inl ()))
noncomputable def F_spec_l26Try_k5 (a1 : (List Int))  : Option ((List Int) × Bool) :=
  some (a1, false)
noncomputable def F_spec_l26Try_body (rc : (List (List Int)) → (List Int) → Int → Int → Int → Option ((List Int) × Bool)) (a0_0 : (List (List Int))) (a1 : (List Int)) (a2 : Int) (a3 : Int) (a4 : Int) : Option ((List Int) × Bool) :=
  if a2 = (a0_0.length : Int) then
    some (a1, true)
  else
    bnd (lp (fun s => F_spec_l26Try_l1 a0_0 a1 a2 a3 a4 rc s) 0) (fun j => F_spec_l26Try_k5 a1 )
noncomputable def F_spec_l26Try (a0_0 : (List (List Int))) (a1 : (List Int)) (a2 : Int) (a3 : Int) (a4 : Int) : Option ((List Int) × Bool) := fixO (fun (rc : ((List (List Int)) × (List Int) × Int × Int × Int) → Option ((List Int) × Bool)) a => F_spec_l26Try_body (fun z0 z1 z2 z3 z4 => rc (z0, z1, z2, z3, z4)) a.1 a.2.1 a.2.2.1 a.2.2.2.1 a.2.2.2.2) (a0_0, a1, a2, a3, a4)
noncomputable def F_spec_l26Best_l1 (a0_0 : (List (List Int))) (i63 : Int) : Option (Int ⊕ (Unit ⊕ ((List Int) × Int))) :=
  cal (F_spec_l26None (a0_0.length : Int)) (fun x126 =>
    cal (F_spec_l26Try a0_0 x126 0 0 i63) (fun x145 =>
      if x145.2 = true then
        some (.inr (.inr (x145.1, i63)))
      else
        ck (i63 + 1) (fun _ =>
          some (.inl (i63 + 1)))))
noncomputable def F_spec_l26Best (a0_0 : (List (List Int))) : Option ((List Int) × Int) :=
  bnd (lp (fun s => F_spec_l26Best_l1 a0_0 s) 0) (fun _ => none)
noncomputable def F_spec_l26Without_l2 (a0_0 : (List (List Int))) (a1 : Int) (i672 : Int) (l1682 : (List (List Int))) (l1688 : (List Int)) (i1691 : Int) : Option (((List (List Int)) × (List Int) × Int) ⊕ (((List (List Int)) × (List Int)) ⊕ (((List (List Int)) × Int) ⊕ ((List (List Int)) ⊕ (List (List Int)))))) :=
  idx a0_0 i672 (fun x1940 =>
    if i1691 < (x1940.length : Int) then
      idx a0_0 i672 (fun x1955 =>
        idx x1955 i1691 (fun x1969 =>
          if x1969 < a1 then
            app l1688 ([x1969]) (fun _ =>
              ck (i1691 + 1) (fun _ =>
                some (.inl (l1682, (l1688 ++ ([x1969])), i1691 + 1))))
          else
            if a1 < x1969 then
              ck (x1969 - 1) (fun _ =>
                app l1688 ([x1969 - 1]) (fun _ =>
                  ck (i1691 + 1) (fun _ =>
                    some (.inl (l1682, (l1688 ++ ([x1969 - 1])), i1691 + 1)))))
            else
              ck (i1691 + 1) (fun _ =>
                some (.inl (l1682, l1688, i1691 + 1)))))
    else
      some (.inr (.inl (l1682, l1688))))
noncomputable def F_spec_l26Without_k3 (a1 : Int) (i672 : Int) (l1902 : (List (List Int))) (l1908 : (List Int)) : Option (((List (List Int)) × Int) ⊕ ((List (List Int)) ⊕ (List (List Int)))) :=
  if i672 ≠ a1 then
    app l1902 ([l1908]) (fun _ =>
      ck (i672 + 1) (fun _ =>
        some (.inl ((l1902 ++ ([l1908])), i672 + 1))))
  else
    ck (i672 + 1) (fun _ =>
      some (.inl (l1902, i672 + 1)))
noncomputable def F_spec_l26Without_l1 (a0_0 : (List (List Int))) (a1 : Int) (l669 : (List (List Int))) (i672 : Int) : Option (((List (List Int)) × Int) ⊕ ((List (List Int)) ⊕ (List (List Int)))) :=
  if i672 < (a0_0.length : Int) then
    bnd (lp (fun s => F_spec_l26Without_l2 a0_0 a1 i672 s.1 s.2.1 s.2.2) (l669, ([] : (List Int)), 0)) (fun j => F_spec_l26Without_k3 a1 i672 j.1 j.2)
  else
    some (.inr (.inl l669))
noncomputable def F_spec_l26Without_k4  (l1409 : (List (List Int))) : Option (List (List Int)) :=
  some l1409
noncomputable def F_spec_l26Without (a0_0 : (List (List Int))) (a1 : Int) : Option (List (List Int)) :=
  bnd (lp (fun s => F_spec_l26Without_l1 a0_0 a1 s.1 s.2) (([] : (List (List Int))), 0)) (fun j => F_spec_l26Without_k4 j)
noncomputable def F_spec_CriticalIn_l1 (a0_0 : (List (List Int))) (x16 : ((List Int) × Int)) (i84 : Int) : Option (Int ⊕ (Unit ⊕ Bool)) :=
  if i84 < (a0_0.length : Int) then
    cal (F_spec_l26Without a0_0 i84) (fun x145 =>
      cal (F_spec_l26Best x145) (fun x167 =>
        ck (x16.2 - 1) (fun _ =>
          if x167.2 ≠ (x16.2 - 1) then
            some (.inr (.inr false))
          else
            ck (i84 + 1) (fun _ =>
              some (.inl (i84 + 1))))))
  else
    some (.inr (.inl ()))
noncomputable def F_spec_CriticalIn_k2   : Option Bool :=
  some true
noncomputable def F_spec_CriticalIn (a0_0 : (List (List Int))) : Option Bool :=
  cal (F_spec_GraphOk a0_0) (fun x9 =>
    if ¬ (x9 = true) then
      some false
    else
      cal (F_spec_l26Best a0_0) (fun x16 =>
        bnd (lp (fun s => F_spec_CriticalIn_l1 a0_0 x16 s) 0) (fun j => F_spec_CriticalIn_k2 )))
noncomputable def F_impl_inRange (a0 : Int) (a1 : Int) (a2 : Int) : Option Bool :=
  if a1 ≤ a0 then
    some (decide (a0 ≤ a2))
  else
    some false
noncomputable def F_impl_increasing_l1 (a0 : (List Int)) (a1 : Int) (i49 : Int) : Option (Int ⊕ (Unit ⊕ Bool)) :=
  if i49 < (a0.length : Int) then
    idx a0 i49 (fun x108 =>
      ck (a1 - 1) (fun _ =>
        cal (F_impl_inRange x108 0 (a1 - 1)) (fun x122 =>
          if ¬ (x122 = true) then
            some (.inr (.inr false))
          else
            if 0 < i49 then
              ck (i49 - 1) (fun _ =>
                idx a0 (i49 - 1) (fun x134 =>
                  if x108 ≤ x134 then
                    some (.inr (.inr false))
                  else
                    ck (i49 + 1) (fun _ =>
                      some (.inl (i49 + 1)))))
            else
              ck (i49 + 1) (fun _ =>
                some (.inl (i49 + 1))))))
  else
    some (.inr (.inl ()))
noncomputable def F_impl_increasing_k2   : Option Bool :=
  some true
noncomputable def F_impl_increasing (a0 : (List Int)) (a1 : Int) : Option Bool :=
  bnd (lp (fun s => F_impl_increasing_l1 a0 a1 s) 0) (fun j => F_impl_increasing_k2 )
noncomputable def F_slices_Index_int64_l1 (a0 : (List Int)) (a1 : Int) (i23 : Int) : Option (Int ⊕ (Unit ⊕ Int)) :=
  if i23 < (a0.length : Int) then
    idx a0 i23 (fun x56 =>
      if a1 = x56 then
        some (.inr (.inr i23))
      else
        ck (i23 + 1) (fun _ =>
          some (.inl (i23 + 1))))
  else
    some (.inr (.inl ()))
noncomputable def F_slices_Index_int64_k2   : Option Int :=
  some (-1)
noncomputable def F_slices_Index_int64 (a0 : (List Int)) (a1 : Int) : Option Int :=
  bnd (lp (fun s => F_slices_Index_int64_l1 a0 a1 s) 0) (fun j => F_slices_Index_int64_k2 )
noncomputable def F_slices_Contains_int64 (a0 : (List Int)) (a1 : Int) : Option Bool :=
  cal (F_slices_Index_int64 a0 a1) (fun x1 =>
    some (decide (0 ≤ x1)))
noncomputable def F_impl_GraphOk_l1 (a0_0 : (List (List Int))) (i56 : Int) : Option (Int ⊕ (Unit ⊕ Bool)) :=
  if i56 < (a0_0.length : Int) then
    idx a0_0 i56 (fun x108 =>
      cal (F_impl_increasing x108 (a0_0.length : Int)) (fun x122 =>
        if ¬ (x122 = true) then
          some (.inr (.inr false))
        else
          cal (F_slices_Contains_int64 x108 i56) (fun x131 =>
            if x131 = true then
              some (.inr (.inr false))
            else
              ck (i56 + 1) (fun _ =>
                some (.inl (i56 + 1))))))
  else
    some (.inr (.inl ()))
noncomputable def F_impl_GraphOk_l4 (a0_0 : (List (List Int))) (i311 : Int) (x487 : (List Int)) (i549 : Int) : Option (Int ⊕ (Unit ⊕ (Int ⊕ (Unit ⊕ Bool)))) :=
  if i549 < (x487.length : Int) then
    idx x487 i549 (fun x606 =>
      idx a0_0 x606 (fun x618 =>
        cal (F_slices_Contains_int64 x618 i311) (fun x632 =>
          if ¬ (x632 = true) then
            some (.inr (.inr (.inr (.inr false))))
          else
            ck (i549 + 1) (fun _ =>
              some (.inl (i549 + 1))))))
  else
    some (.inr (.inl ()))
noncomputable def F_impl_GraphOk_k5 (i311 : Int)  : Option (Int ⊕ (Unit ⊕ Bool)) :=
  ck (i311 + 1) (fun _ =>
    some (.inl (i311 + 1)))
noncomputable def F_impl_GraphOk_l3 (a0_0 : (List (List Int))) (i311 : Int) : Option (Int ⊕ (Unit ⊕ Bool)) :=
  if i311 < (a0_0.length : Int) then
    idx a0_0 i311 (fun x487 =>
      bnd (lp (fun s => F_impl_GraphOk_l4 a0_0 i311 x487 s) 0) (fun j => F_impl_GraphOk_k5 i311 ))
  else
    some (.inr (.inl ()))
noncomputable def F_impl_GraphOk_k6   : Option Bool :=
  some true
noncomputable def F_impl_GraphOk_k2 (a0_0 : (List (List Int)))  : Option Bool :=
  bnd (lp (fun s => F_impl_GraphOk_l3 a0_0 s) 0) (fun j => F_impl_GraphOk_k6 )
noncomputable def F_impl_GraphOk (a0_0 : (List (List Int))) : Option Bool :=
  if (a0_0.length : Int) < 1 then
    some false
  else
    if 16 < (a0_0.length : Int) then
      some false
    else
      bnd (lp (fun s => F_impl_GraphOk_l1 a0_0 s) 0) (fun j => F_impl_GraphOk_k2 a0_0 )
noncomputable def F_impl_one (a0 : Int) : Option (BitVec 32) :=
  grd ((0 : Int) ≤ a0) (
    some ((1#32) <<< (a0 : Int).toNat))
noncomputable def F_impl_maskOf_l1 (a0 : (List Int)) (u29 : BitVec 32) (i30 : Int) : Option (((BitVec 32) × Int) ⊕ ((BitVec 32) ⊕ (BitVec 32))) :=
  if i30 < (a0.length : Int) then
    idx a0 i30 (fun x70 =>
      cal (F_impl_one x70) (fun x82 =>
        ck (i30 + 1) (fun _ =>
          some (.inl (u29 ||| x82, i30 + 1)))))
  else
    some (.inr (.inl u29))
noncomputable def F_impl_maskOf_k2  (u59 : BitVec 32) : Option (BitVec 32) :=
  some u59
noncomputable def F_impl_maskOf (a0 : (List Int)) : Option (BitVec 32) :=
  bnd (lp (fun s => F_impl_maskOf_l1 a0 s.1 s.2) (0#32, 0)) (fun j => F_impl_maskOf_k2 j)
noncomputable def F_impl_netsOf_l1 (a0_0 : (List (List Int))) (l84 : (List (BitVec 32))) (i87 : Int) : Option (((List (BitVec 32)) × Int) ⊕ ((List (BitVec 32)) ⊕ (List (BitVec 32)))) :=
  if i87 < (a0_0.length : Int) then
    idx a0_0 i87 (fun x162 =>
      cal (F_impl_maskOf x162) (fun x176 =>
        app l84 ([x176]) (fun _ =>
          ck (i87 + 1) (fun _ =>
            some (.inl ((l84 ++ ([x176])), i87 + 1))))))
  else
    some (.inr (.inl l84))
noncomputable def F_impl_netsOf_k2  (l149 : (List (BitVec 32))) : Option (List (BitVec 32)) :=
  some l149
noncomputable def F_impl_netsOf (a0_0 : (List (List Int))) : Option (List (BitVec 32)) :=
  bnd (lp (fun s => F_impl_netsOf_l1 a0_0 s.1 s.2) (([] : (List (BitVec 32))), 0)) (fun j => F_impl_netsOf_k2 j)
noncomputable def F_impl_firstOf (a0 : Int) : Option (BitVec 32) :=
  grd ((0 : Int) ≤ a0) (
    some (((1#32) <<< (a0 : Int).toNat) - (1#32)))
noncomputable def F_impl_nets_all (a0 : (List (BitVec 32))) : Option (BitVec 32) :=
  cal (F_impl_firstOf (a0.length : Int)) (fun x1 =>
    some x1)
noncomputable def F_math_bits_TrailingZeros32 (a0 : BitVec 32) : Option Int :=
  if a0 = (0#32) then
    some 32
  else
    idx deBruijn32 (BitVec.toNat (((a0 &&& (-a0)) * (125613361#32)) >>> (27 : Int).toNat) : Int) (fun x2 =>
      some (BitVec.toNat x2 : Int))
noncomputable def F_impl_vset_least (a0 : BitVec 32) : Option Int :=
  cal (F_math_bits_TrailingZeros32 a0) (fun x1 =>
    some x1)
noncomputable def F_impl_vset_list_l1  (u55 : BitVec 32) (l59 : (List Int)) : Option (((BitVec 32) × (List Int)) ⊕ ((List Int) ⊕ (List Int))) :=
  if u55 ≠ (0#32) then
    cal (F_impl_vset_least u55) (fun x119 =>
      app l59 ([x119]) (fun _ =>
        some (.inl (u55 &&& (u55 - (1#32)), (l59 ++ ([x119]))))))
  else
    some (.inr (.inl l59))
noncomputable def F_impl_vset_list_k2  (l106 : (List Int)) : Option (List Int) :=
  some l106
noncomputable def F_impl_vset_list (a0 : BitVec 32) : Option (List Int) :=
  bnd (lp (fun s => F_impl_vset_list_l1 s.1 s.2) (a0, ([] : (List Int)))) (fun j => F_impl_vset_list_k2 j)
noncomputable def F_impl_vset_has (a0 : BitVec 32) (a1 : Int) : Option Bool :=
  grd ((0 : Int) ≤ a1) (
    some (decide (((a0 >>> (a1 : Int).toNat) &&& (1#32)) = (1#32))))
noncomputable def F_impl_induced_l2 (a0 : (List (BitVec 32))) (a1 : (List Int)) (i316 : Int) (x628 : Int) (l731 : (List (BitVec 32))) (i734 : Int) : Option (((List (BitVec 32)) × Int) ⊕ ((List (BitVec 32)) ⊕ (((List (BitVec 32)) × Int) ⊕ ((List (BitVec 32)) ⊕ (List (BitVec 32)))))) :=
  if i734 < (a1.length : Int) then
    idx a1 i734 (fun x836 =>
      idx a0 x628 (fun x848 =>
        cal (F_impl_vset_has x848 x836) (fun x859 =>
          if x859 = true then
            idx l731 i316 (fun x866 =>
              cal (F_impl_one i734) (fun x879 =>
                idx l731 i316 (fun x881 =>
                  ck (i734 + 1) (fun _ =>
                    some (.inl ((l731.set ((i316 : Int).toNat) (x866 ||| x879)), i734 + 1))))))
          else
            ck (i734 + 1) (fun _ =>
              some (.inl (l731, i734 + 1))))))
  else
    some (.inr (.inl l731))
noncomputable def F_impl_induced_k3 (i316 : Int) (l823 : (List (BitVec 32))) : Option (((List (BitVec 32)) × Int) ⊕ ((List (BitVec 32)) ⊕ (List (BitVec 32)))) :=
  ck (i316 + 1) (fun _ =>
    some (.inl (l823, i316 + 1)))
noncomputable def F_impl_induced_l1 (a0 : (List (BitVec 32))) (a1 : (List Int)) (l313 : (List (BitVec 32))) (i316 : Int) : Option (((List (BitVec 32)) × Int) ⊕ ((List (BitVec 32)) ⊕ (List (BitVec 32)))) :=
  if i316 < (a1.length : Int) then
    idx a1 i316 (fun x628 =>
      bnd (lp (fun s => F_impl_induced_l2 a0 a1 i316 x628 s.1 s.2) (l313, 0)) (fun j => F_impl_induced_k3 i316 j))
  else
    some (.inr (.inl l313))
noncomputable def F_impl_induced_k4  (l615 : (List (BitVec 32))) : Option (List (BitVec 32)) :=
  some l615
noncomputable def F_impl_induced (a0 : (List (BitVec 32))) (a1 : (List Int)) : Option (List (BitVec 32)) :=
  mkS (a1.length : Int) (0 : BitVec 32) (fun _ =>
    bnd (lp (fun s => F_impl_induced_l1 a0 a1 s.1 s.2) ((List.replicate ((a1.length : Int) : Int).toNat (0 : BitVec 32)), 0)) (fun j => F_impl_induced_k4 j))
noncomputable def F_impl_colourOn_l1 (a0 : (List (BitVec 32))) (a1 : Int) (a2 : (List (BitVec 32))) (a3 : Int) (rc : (List (BitVec 32)) → Int → (List (BitVec 32)) → Int → Option (Bool × (List (BitVec 32)))) (l143 : (List (BitVec 32))) (i146 : Int) : Option (((List (BitVec 32)) × Int) ⊕ ((List (BitVec 32)) ⊕ (Bool × (List (BitVec 32))))) :=
  if i146 < (min (a3 + 1) (a2.length : Int)) then
    idx l143 i146 (fun x294 =>
      idx a0 a1 (fun x305 =>
        if (x294 &&& x305) ≠ (0#32) then
          ck (i146 + 1) (fun _ =>
            some (.inl (l143, i146 + 1)))
        else
          idx l143 i146 (fun x322 =>
            cal (F_impl_one a1) (fun x335 =>
              idx l143 i146 (fun x337 =>
                ck (a1 + 1) (fun _ =>
                  ck (i146 + 1) (fun _ =>
                    cal (rc a0 (a1 + 1) (l143.set ((i146 : Int).toNat) (x322 ||| x335)) (max a3 (i146 + 1))) (fun x364 =>
                      if x364.1 = true then
                        some (.inr (.inr (true, x364.2)))
                      else
                        idx x364.2 i146 (fun x374 =>
                          cal (F_impl_one a1) (fun x387 =>
                            idx x364.2 i146 (fun x389 =>
                              ck (i146 + 1) (fun _ =>
                                some (.inl ((x364.2.set ((i146 : Int).toNat) (x374 &&& ~~~x387)), i146 + 1))))))))))))))
  else
    some (.inr (.inl l143))
noncomputable def F_impl_colourOn_k2  (l281 : (List (BitVec 32))) : Option (Bool × (List (BitVec 32))) :=
  some (false, l281)
noncomputable def F_impl_colourOn_body (rc : (List (BitVec 32)) → Int → (List (BitVec 32)) → Int → Option (Bool × (List (BitVec 32)))) (a0 : (List (BitVec 32))) (a1 : Int) (a2 : (List (BitVec 32))) (a3 : Int) : Option (Bool × (List (BitVec 32))) :=
  if a1 = (a0.length : Int) then
    some (true, a2)
  else
    ck (a3 + 1) (fun _ =>
      bnd (lp (fun s => F_impl_colourOn_l1 a0 a1 a2 a3 rc s.1 s.2) (a2, 0)) (fun j => F_impl_colourOn_k2 j))
noncomputable def F_impl_colourOn (a0 : (List (BitVec 32))) (a1 : Int) (a2 : (List (BitVec 32))) (a3 : Int) : Option (Bool × (List (BitVec 32))) := fixO (fun (rc : ((List (BitVec 32)) × Int × (List (BitVec 32)) × Int) → Option (Bool × (List (BitVec 32)))) a => F_impl_colourOn_body (fun z0 z1 z2 z3 => rc (z0, z1, z2, z3)) a.1 a.2.1 a.2.2.1 a.2.2.2) (a0, a1, a2, a3)
noncomputable def F_impl_bestClasses_l1 (a0 : (List (BitVec 32))) (i28 : Int) : Option (Int ⊕ (Unit ⊕ (List (BitVec 32)))) :=
  mkS i28 (0 : BitVec 32) (fun _ =>
    cal (F_impl_colourOn a0 0 (List.replicate (i28 : Int).toNat (0 : BitVec 32)) 0) (fun x76 =>
      if x76.1 = true then
        some (.inr (.inr x76.2))
      else
        ck (i28 + 1) (fun _ =>
          some (.inl (i28 + 1)))))
noncomputable def F_impl_bestClasses (a0 : (List (BitVec 32))) : Option (List (BitVec 32)) :=
  bnd (lp (fun s => F_impl_bestClasses_l1 a0 s) 1) (fun _ => none)
noncomputable def F_impl_CriticalIn_l1 (x16 : (List (BitVec 32))) (i142 : Int) : Option (Int ⊕ (Unit ⊕ Bool)) :=
  if i142 < (x16.length : Int) then
    if 1 < (x16.length : Int) then
      cal (F_impl_nets_all x16) (fun x264 =>
        cal (F_impl_one i142) (fun x270 =>
          cal (F_impl_vset_list (x264 &&& ~~~x270)) (fun x276 =>
            cal (F_impl_induced x16 x276) (fun x295 =>
              cal (F_impl_bestClasses x295) (fun x313 =>
                cal (F_impl_bestClasses x16) (fun x333 =>
                  if (x313.length : Int) = (x333.length : Int) then
                    some (.inr (.inr false))
                  else
                    ck (i142 + 1) (fun _ =>
                      some (.inl (i142 + 1)))))))))
    else
      ck (i142 + 1) (fun _ =>
        some (.inl (i142 + 1)))
  else
    some (.inr (.inl ()))
noncomputable def F_impl_CriticalIn_k2   : Option Bool :=
  some true
noncomputable def F_impl_CriticalIn (a0_0 : (List (List Int))) : Option Bool :=
  cal (F_impl_GraphOk a0_0) (fun x9 =>
    if ¬ (x9 = true) then
      some false
    else
      cal (F_impl_netsOf a0_0) (fun x16 =>
        bnd (lp (fun s => F_impl_CriticalIn_l1 x16 s) 0) (fun j => F_impl_CriticalIn_k2 )))
noncomputable def F_laws_eqInt64S_l1 (a0 : (List Int)) (a1 : (List Int)) (i39 : Int) : Option (Int ⊕ (Unit ⊕ Bool)) :=
  if i39 < (a0.length : Int) then
    idx a0 i39 (fun x87 =>
      idx a1 i39 (fun x99 =>
        if x87 ≠ x99 then
          some (.inr (.inr false))
        else
          ck (i39 + 1) (fun _ =>
            some (.inl (i39 + 1)))))
  else
    some (.inr (.inl ()))
noncomputable def F_laws_eqInt64S_k2   : Option Bool :=
  some true
noncomputable def F_laws_eqInt64S (a0 : (List Int)) (a1 : (List Int)) : Option Bool :=
  if (a0.length : Int) ≠ (a1.length : Int) then
    some false
  else
    bnd (lp (fun s => F_laws_eqInt64S_l1 a0 a1 s) 0) (fun j => F_laws_eqInt64S_k2 )
noncomputable def F_laws_eqInt64SS_l1 (a0 : (List (List Int))) (a1 : (List (List Int))) (i47 : Int) : Option (Int ⊕ (Unit ⊕ Bool)) :=
  if i47 < (a0.length : Int) then
    idx a0 i47 (fun x103 =>
      idx a1 i47 (fun x117 =>
        cal (F_laws_eqInt64S x103 x117) (fun x133 =>
          if ¬ (x133 = true) then
            some (.inr (.inr false))
          else
            ck (i47 + 1) (fun _ =>
              some (.inl (i47 + 1))))))
  else
    some (.inr (.inl ()))
noncomputable def F_laws_eqInt64SS_k2   : Option Bool :=
  some true
noncomputable def F_laws_eqInt64SS (a0 : (List (List Int))) (a1 : (List (List Int))) : Option Bool :=
  if (a0.length : Int) ≠ (a1.length : Int) then
    some false
  else
    bnd (lp (fun s => F_laws_eqInt64SS_l1 a0 a1 s) 0) (fun j => F_laws_eqInt64SS_k2 )
noncomputable def F_laws_eqGraph (a0_0 : (List (List Int))) (a1_0 : (List (List Int))) : Option Bool :=
  cal (F_laws_eqInt64SS a0_0 a1_0) (fun x19 =>
    if ¬ (x19 = true) then
      some false
    else
      some true)
noncomputable def F_laws_FnExactCriticalIn (a0_0 : (List (List Int))) : Option Bool :=
  cal (F_laws_szGraph a0_0 1048576) (fun x9 =>
    if x9 < 0 then
      some true
    else
      cal (F_laws_toGraph a0_0) (fun x17 =>
        cal (F_spec_CriticalIn x17) (fun x39 =>
          cal (F_laws_toGraph a0_0) (fun x45 =>
            cal (F_impl_CriticalIn x45) (fun x83 =>
              if (x83 != x39) = true then
                some false
              else
                cal (F_laws_toGraph a0_0) (fun x93 =>
                  cal (F_laws_eqGraph x45 x93) (fun x127 =>
                    if ¬ (x127 = true) then
                      some false
                    else
                      some true)))))))
end Go.Proofs.YtlbgoodonecebaaDoor
