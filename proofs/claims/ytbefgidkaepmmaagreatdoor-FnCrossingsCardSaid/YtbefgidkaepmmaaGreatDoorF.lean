/- Functional forms, printed by gen.py. -/
import Derived.Test.YtbefgidkaepmmaaGreatDoorPure
namespace Go.Proofs.YtbefgidkaepmmaaGreatDoor

noncomputable def F_laws_big (a0 : (List (BitVec 8))) : Option Bool :=
  some (decide (4096 < (a0.length : Int)))
noncomputable def F_spec_l1New_l1 (a0 : (List (BitVec 8))) (i31 : Int) (i33 : Int) : Option ((Int × Int) ⊕ (Int ⊕ ((List (BitVec 8)) × Int × Int))) :=
  if i33 < (a0.length : Int) then
    ck (i31 * 331) (fun _ =>
      idx a0 i33 (fun x76 =>
        ck ((i31 * 331) + (BitVec.toNat x76 : Int)) (fun _ =>
          ck (((i31 * 331) + (BitVec.toNat x76 : Int)) + 11) (fun _ =>
            ck (i33 + 1) (fun _ =>
              some (.inl (i64and (((i31 * 331) + (BitVec.toNat x76 : Int)) + 11) 1073741823, i33 + 1)))))))
  else
    some (.inr (.inl i31))
noncomputable def F_spec_l1New_k2 (a0 : (List (BitVec 8))) (i62 : Int) : Option ((List (BitVec 8)) × Int × Int) :=
  some (a0, 0, i62)
noncomputable def F_spec_l1New (a0 : (List (BitVec 8))) : Option ((List (BitVec 8)) × Int × Int) :=
  ck (580031 + (a0.length : Int)) (fun _ =>
    bnd (lp (fun s => F_spec_l1New_l1 a0 s.1 s.2) (580031 + (a0.length : Int), 0)) (fun j => F_spec_l1New_k2 a0 j))
noncomputable def F_spec_l1Byte (a0 : ((List (BitVec 8)) × Int × Int)) : Option (Int × ((List (BitVec 8)) × Int × Int)) :=
  if a0.2.1 < (a0.1.length : Int) then
    idx a0.1 a0.2.1 (fun x12 =>
      some (i64and (wI ((i64and (i64xor ((wI ((wI (a0.2.2 * 6364136223846793005)) + 1442695040888963407)) / 2 ^ (33 : Int).toNat) ((wI ((wI (a0.2.2 * 6364136223846793005)) + 1442695040888963407)) / 2 ^ (45 : Int).toNat)) 255) + (BitVec.toNat x12 : Int))) 255, (a0.1, wI (a0.2.1 + 1), wI ((wI (a0.2.2 * 6364136223846793005)) + 1442695040888963407))))
  else
    some (i64and (i64xor ((wI ((wI (a0.2.2 * 6364136223846793005)) + 1442695040888963407)) / 2 ^ (33 : Int).toNat) ((wI ((wI (a0.2.2 * 6364136223846793005)) + 1442695040888963407)) / 2 ^ (45 : Int).toNat)) 255, (a0.1, a0.2.1, wI ((wI (a0.2.2 * 6364136223846793005)) + 1442695040888963407)))
noncomputable def F_spec_l1Below (a0 : ((List (BitVec 8)) × Int × Int)) (a1 : Int) : Option (Int × ((List (BitVec 8)) × Int × Int)) :=
  if a1 ≤ 0 then
    some (0, a0)
  else
    if a1 ≤ 256 then
      cal (F_spec_l1Byte a0) (fun x3 =>
        grd ((0 : Int) ≤ x3.1 ∧ (0 : Int) < a1) (
          some (x3.1 % a1, x3.2)))
    else
      cal (F_spec_l1Byte a0) (fun x13 =>
        cal (F_spec_l1Byte x13.2) (fun x21 =>
          cal (F_spec_l1Byte x21.2) (fun x29 =>
            cal (F_spec_l1Byte x29.2) (fun x37 =>
              ck (x13.1 * 16777216) (fun _ =>
                ck (x21.1 * 65536) (fun _ =>
                  ck ((x13.1 * 16777216) + (x21.1 * 65536)) (fun _ =>
                    ck (x29.1 * 256) (fun _ =>
                      ck (((x13.1 * 16777216) + (x21.1 * 65536)) + (x29.1 * 256)) (fun _ =>
                        ck ((((x13.1 * 16777216) + (x21.1 * 65536)) + (x29.1 * 256)) + x37.1) (fun _ =>
                          grd ((0 : Int) ≤ ((((x13.1 * 16777216) + (x21.1 * 65536)) + (x29.1 * 256)) + x37.1) ∧ (0 : Int) < a1) (
                            some (((((x13.1 * 16777216) + (x21.1 * 65536)) + (x29.1 * 256)) + x37.1) % a1, x37.2))))))))))))
noncomputable def F_spec_l1Once (a0 : ((List (BitVec 8)) × Int × Int)) (a1 : Int) : Option (Bool × ((List (BitVec 8)) × Int × Int)) :=
  cal (F_spec_l1Below a0 a1) (fun x1 =>
    some (decide (x1.1 = 0), x1.2))
noncomputable def F_spec_l1In (a0 : Int) (a1 : Int) (a2 : Int) : Option Bool :=
  if a1 ≤ a0 then
    some (decide (a0 ≤ a2))
  else
    some false
noncomputable def F_spec_l1Empty_l1 (a0 : Int) (l128 : (List (List Int))) (i131 : Int) : Option (((List (List Int)) × Int) ⊕ ((List (List Int)) ⊕ (List (List Int)))) :=
  if i131 < a0 then
    app l128 ([([] : (List Int))]) (fun _ =>
      ck (i131 + 1) (fun _ =>
        some (.inl ((l128 ++ ([([] : (List Int))])), i131 + 1))))
  else
    some (.inr (.inl l128))
noncomputable def F_spec_l1Empty_k2  (l231 : (List (List Int))) : Option (List (List Int)) :=
  some l231
noncomputable def F_spec_l1Empty (a0 : Int) : Option (List (List Int)) :=
  bnd (lp (fun s => F_spec_l1Empty_l1 a0 s.1 s.2) (([] : (List (List Int))), 0)) (fun j => F_spec_l1Empty_k2 j)
noncomputable def F_spec_l6Of (a0 : Int) : Option ((List (List Int)) × Bool) :=
  cal (F_spec_l1In a0 1 16) (fun x9 =>
    if ¬ (x9 = true) then
      some (([] : (List (List Int))), false)
    else
      cal (F_spec_l1Empty a0) (fun x20 =>
        some (x20, true)))
noncomputable def F_spec_l1Copy (a0 : (List Int)) : Option (List Int) :=
  app ([] : (List Int)) a0 (fun _ =>
    some (([] : (List Int)) ++ a0))
noncomputable def F_spec_l1Into_l1 (a0 : (List Int)) (a1 : Int) (i23 : Int) : Option (Int ⊕ (Int ⊕ (List Int))) :=
  if i23 < (a0.length : Int) then
    idx a0 i23 (fun x58 =>
      if x58 < a1 then
        ck (i23 + 1) (fun _ =>
          some (.inl (i23 + 1)))
      else
        some (.inr (.inl i23)))
  else
    some (.inr (.inl i23))
noncomputable def F_spec_l1Into_k2 (a0 : (List Int)) (a1 : Int) (i46 : Int) : Option (List Int) :=
  if i46 < (a0.length : Int) then
    idx a0 i46 (fun x74 =>
      if x74 = a1 then
        some a0
      else
        slc a0 0 i46 (fun _ =>
          cal (F_spec_l1Copy ((a0.drop (0 : Int).toNat).take ((i46 : Int).toNat - (0 : Int).toNat))) (fun x95 =>
            app x95 ([a1]) (fun _ =>
              slc a0 i46 (a0.length : Int) (fun _ =>
                app (x95 ++ ([a1])) ((a0.drop (i46 : Int).toNat).take (((a0.length : Int) : Int).toNat - (i46 : Int).toNat)) (fun _ =>
                  some ((x95 ++ ([a1])) ++ ((a0.drop (i46 : Int).toNat).take (((a0.length : Int) : Int).toNat - (i46 : Int).toNat)))))))))
  else
    slc a0 0 i46 (fun _ =>
      cal (F_spec_l1Copy ((a0.drop (0 : Int).toNat).take ((i46 : Int).toNat - (0 : Int).toNat))) (fun x159 =>
        app x159 ([a1]) (fun _ =>
          slc a0 i46 (a0.length : Int) (fun _ =>
            app (x159 ++ ([a1])) ((a0.drop (i46 : Int).toNat).take (((a0.length : Int) : Int).toNat - (i46 : Int).toNat)) (fun _ =>
              some ((x159 ++ ([a1])) ++ ((a0.drop (i46 : Int).toNat).take (((a0.length : Int) : Int).toNat - (i46 : Int).toNat))))))))
noncomputable def F_spec_l1Into (a0 : (List Int)) (a1 : Int) : Option (List Int) :=
  bnd (lp (fun s => F_spec_l1Into_l1 a0 a1 s) 0) (fun j => F_spec_l1Into_k2 a0 a1 j)
noncomputable def F_spec_l1Link (a0_0 : (List (List Int))) (a1 : Int) (a2 : Int) : Option (List (List Int)) :=
  idx a0_0 a1 (fun x23 =>
    cal (F_spec_l1Into x23 a2) (fun x44 =>
      idx a0_0 a1 (fun x58 =>
        idx (a0_0.set ((a1 : Int).toNat) x44) a2 (fun x91 =>
          cal (F_spec_l1Into x91 a1) (fun x112 =>
            idx (a0_0.set ((a1 : Int).toNat) x44) a2 (fun x126 =>
              some ((a0_0.set ((a1 : Int).toNat) x44).set ((a2 : Int).toNat) x112)))))))

noncomputable def F_spec_PathGraph_l1 (a0 : Int) (x9 : ((List (List Int)) × Bool)) (l124 : (List (List Int))) (i127 : Int) : Option (((List (List Int)) × Int) ⊕ ((List (List Int)) ⊕ ((List (List Int)) × Bool))) :=
  if i127 < a0 then
    if x9.2 = true then
      ck (i127 - 1) (fun _ =>
        cal (F_spec_l1Link l124 (i127 - 1) i127) (fun x215 =>
          ck (i127 + 1) (fun _ =>
            some (.inl (x215, i127 + 1)))))
    else
      some (.inr (.inl l124))
  else
    some (.inr (.inl l124))
noncomputable def F_spec_PathGraph_k2 (x9 : ((List (List Int)) × Bool)) (l193 : (List (List Int))) : Option ((List (List Int)) × Bool) :=
  some (l193, x9.2)
noncomputable def F_spec_PathGraph (a0 : Int) : Option ((List (List Int)) × Bool) :=
  cal (F_spec_l6Of a0) (fun x9 =>
    bnd (lp (fun s => F_spec_PathGraph_l1 a0 x9 s.1 s.2) (x9.1, 1)) (fun j => F_spec_PathGraph_k2 x9 j))
noncomputable def F_spec_LoopGraph (a0 : Int) : Option ((List (List Int)) × Bool) :=
  cal (F_spec_PathGraph a0) (fun x9 =>
    if ¬ (x9.2 = true) then
      some (([] : (List (List Int))), false)
    else
      if a0 < 3 then
        some (([] : (List (List Int))), false)
      else
        ck (a0 - 1) (fun _ =>
          cal (F_spec_l1Link x9.1 0 (a0 - 1)) (fun x59 =>
            some (x59, true))))
noncomputable def F_spec_l1DrawOf_l2 (x51 : (Int × ((List (BitVec 8)) × Int × Int))) (i403 : Int) (l845 : ((List (BitVec 8)) × Int × Int)) (l858 : (List (List Int))) (i861 : Int) : Option ((((List (BitVec 8)) × Int × Int) × (List (List Int)) × Int) ⊕ ((((List (BitVec 8)) × Int × Int) × (List (List Int))) ⊕ ((((List (BitVec 8)) × Int × Int) × (List (List Int)) × Int) ⊕ (((List (List Int)) × ((List (BitVec 8)) × Int × Int)) ⊕ ((List (List Int)) × ((List (BitVec 8)) × Int × Int)))))) :=
  if i861 < i403 then
    cal (F_spec_l1Below l845 4) (fun x981 =>
      if x981.1 < (1 + x51.1) then
        cal (F_spec_l1Link l858 i861 i403) (fun x990 =>
          ck (i861 + 1) (fun _ =>
            some (.inl (x981.2, x990, i861 + 1))))
      else
        ck (i861 + 1) (fun _ =>
          some (.inl (x981.2, l858, i861 + 1))))
  else
    some (.inr (.inl (l845, l858)))
noncomputable def F_spec_l1DrawOf_k3 (i403 : Int) (l943 : ((List (BitVec 8)) × Int × Int)) (l956 : (List (List Int))) : Option ((((List (BitVec 8)) × Int × Int) × (List (List Int)) × Int) ⊕ (((List (List Int)) × ((List (BitVec 8)) × Int × Int)) ⊕ ((List (List Int)) × ((List (BitVec 8)) × Int × Int)))) :=
  ck (i403 + 1) (fun _ =>
    some (.inl (l943, l956, i403 + 1)))
noncomputable def F_spec_l1DrawOf_l1 (a1 : Int) (x51 : (Int × ((List (BitVec 8)) × Int × Int))) (l387 : ((List (BitVec 8)) × Int × Int)) (l400 : (List (List Int))) (i403 : Int) : Option ((((List (BitVec 8)) × Int × Int) × (List (List Int)) × Int) ⊕ (((List (List Int)) × ((List (BitVec 8)) × Int × Int)) ⊕ ((List (List Int)) × ((List (BitVec 8)) × Int × Int)))) :=
  if i403 < a1 then
    bnd (lp (fun s => F_spec_l1DrawOf_l2 x51 i403 s.1 s.2.1 s.2.2) (l387, l400, 0)) (fun j => F_spec_l1DrawOf_k3 i403 j.1 j.2)
  else
    some (.inr (.inl (l400, l387)))
noncomputable def F_spec_l1DrawOf_k4  (l724 : (List (List Int))) (l728 : ((List (BitVec 8)) × Int × Int)) : Option ((List (List Int)) × ((List (BitVec 8)) × Int × Int)) :=
  some (l724, l728)
noncomputable def F_spec_l1DrawOf (a0 : ((List (BitVec 8)) × Int × Int)) (a1 : Int) : Option ((List (List Int)) × ((List (BitVec 8)) × Int × Int)) :=
  cal (F_spec_l1Empty a1) (fun x11 =>
    cal (F_spec_l1Below a0 3) (fun x51 =>
      ck (1 + x51.1) (fun _ =>
        bnd (lp (fun s => F_spec_l1DrawOf_l1 a1 x51 s.1 s.2.1 s.2.2) (x51.2, x11, 1)) (fun j => F_spec_l1DrawOf_k4 j.1 j.2))))
noncomputable def F_spec_l1Draw (a0 : ((List (BitVec 8)) × Int × Int)) : Option ((List (List Int)) × ((List (BitVec 8)) × Int × Int)) :=
  cal (F_spec_l1Below a0 6) (fun x11 =>
    if x11.1 = 0 then
      cal (F_spec_l1Below x11.2 4) (fun x20 =>
        ck (3 + x20.1) (fun _ =>
          cal (F_spec_LoopGraph (3 + x20.1)) (fun x30 =>
            some (x30.1, x20.2))))
    else
      if x11.1 = 1 then
        cal (F_spec_l1Below x11.2 6) (fun x77 =>
          ck (1 + x77.1) (fun _ =>
            cal (F_spec_PathGraph (1 + x77.1)) (fun x87 =>
              some (x87.1, x77.2))))
      else
        cal (F_spec_l1Below x11.2 7) (fun x133 =>
          ck (1 + x133.1) (fun _ =>
            cal (F_spec_l1DrawOf x133.2 (1 + x133.1)) (fun x143 =>
              some (x143.1, x143.2)))))
noncomputable def F_spec_l1Odd (a0 : ((List (BitVec 8)) × Int × Int)) : Option (Int × ((List (BitVec 8)) × Int × Int)) :=
  cal (F_spec_l1Below a0 10) (fun x12 =>
    idx ([(-1), 0, 1, 2147483648, (-2147483648), 1099511627776, 4611686018427387904, (-4611686018427387904), 9223372036854775807, (-9223372036854775808)]) x12.1 (fun x20 =>
      some (x20, x12.2)))
noncomputable def F_spec_l1Min (a0 : Int) (a1 : Int) : Option Int :=
  if a0 < a1 then
    some a0
  else
    some a1
noncomputable def F_spec_l1Num (a0 : ((List (BitVec 8)) × Int × Int)) (a1 : Int) : Option (Int × ((List (BitVec 8)) × Int × Int)) :=
  cal (F_spec_l1Once a0 10) (fun x1 =>
    if x1.1 = true then
      ck (a1 + 1) (fun _ =>
        cal (F_spec_l1Odd x1.2) (fun x11 =>
          cal (F_spec_l1Below x11.2 4) (fun x30 =>
            idx ([(-1), a1, a1 + 1, x11.1]) x30.1 (fun x38 =>
              some (x38, x30.2)))))
    else
      cal (F_spec_l1Once x1.2 2) (fun x50 =>
        if x50.1 = true then
          cal (F_spec_l1Min a1 4) (fun x58 =>
            ck (x58 + 1) (fun _ =>
              cal (F_spec_l1Below x50.2 (x58 + 1)) (fun x67 =>
                some (x67.1, x67.2))))
        else
          ck (a1 + 1) (fun _ =>
            cal (F_spec_l1Below x50.2 (a1 + 1)) (fun x77 =>
              some (x77.1, x77.2)))))
noncomputable def F_spec_l1DrawAny (a0 : ((List (BitVec 8)) × Int × Int)) : Option ((List (List Int)) × ((List (BitVec 8)) × Int × Int)) :=
  cal (F_spec_l1Draw a0) (fun x11 =>
    cal (F_spec_l1Once x11.2 12) (fun x52 =>
      if x52.1 = true then
        cal (F_spec_l1Below x52.2 (x11.1.length : Int)) (fun x60 =>
          cal (F_spec_l1Below x60.2 5) (fun x68 =>
            if x68.1 = 0 then
              idx x11.1 x60.1 (fun x78 =>
                cal (F_spec_l1Num x68.2 16) (fun x100 =>
                  app x78 ([x100.1]) (fun _ =>
                    idx x11.1 x60.1 (fun x157 =>
                      some ((x11.1.set ((x60.1 : Int).toNat) (x78 ++ ([x100.1]))), x100.2)))))
            else
              if x68.1 = 1 then
                idx x11.1 x60.1 (fun x203 =>
                  some ((x11.1.set ((x60.1 : Int).toNat) ([x60.1])), x68.2))
              else
                if x68.1 = 2 then
                  cal (F_spec_l1Below x68.2 2) (fun x240 =>
                    ck (16 + x240.1) (fun _ =>
                      cal (F_spec_l1Empty (16 + x240.1)) (fun x250 =>
                        some (x250, x240.2))))
                else
                  if x68.1 = 3 then
                    some (([] : (List (List Int))), x68.2)
                  else
                    if x68.1 = 4 then
                      idx x11.1 x60.1 (fun x314 =>
                        some ((x11.1.set ((x60.1 : Int).toNat) ([] : (List Int))), x68.2))
                    else
                      some (x11.1, x68.2)))
      else
        some (x11.1, x52.2)))
noncomputable def F_spec_l23Sides (a0 : Int) : Option (Int × Int) :=
  if a0 = 1 then
    some (5, 0)
  else
    if a0 = 2 then
      some (3, 3)
    else
      if a0 = 3 then
        some (4, 0)
      else
        if a0 = 4 then
          some (2, 3)
        else
          some (0, 0)
noncomputable def F_spec_l23Pairs_l2 (x1 : (Int × Int)) (i649 : Int) (l1562 : (List (List Int))) (i1565 : Int) : Option (((List (List Int)) × Int) ⊕ ((List (List Int)) ⊕ ((List (List Int)) ⊕ (((List (List Int)) × Int) ⊕ ((List (List Int)) ⊕ (List (List Int))))))) :=
  if i1565 < x1.1 then
    app l1562 ([[i649, i1565]]) (fun _ =>
      ck (i1565 + 1) (fun _ =>
        some (.inl ((l1562 ++ ([[i649, i1565]])), i1565 + 1))))
  else
    some (.inr (.inl l1562))
noncomputable def F_spec_l23Pairs_k3  (l1629 : (List (List Int))) : Option ((List (List Int)) ⊕ (((List (List Int)) × Int) ⊕ ((List (List Int)) ⊕ (List (List Int))))) :=
  some (.inl l1629)
noncomputable def F_spec_l23Pairs_l5 (x1 : (Int × Int)) (i649 : Int) (l1754 : (List (List Int))) (i1757 : Int) : Option (((List (List Int)) × Int) ⊕ ((List (List Int)) ⊕ (((List (List Int)) × Int) ⊕ ((List (List Int)) ⊕ (List (List Int)))))) :=
  if i1757 < x1.2 then
    ck (x1.1 + i1757) (fun _ =>
      app l1754 ([[i649, x1.1 + i1757]]) (fun _ =>
        ck (i1757 + 1) (fun _ =>
          some (.inl ((l1754 ++ ([[i649, x1.1 + i1757]])), i1757 + 1)))))
  else
    some (.inr (.inl l1754))
noncomputable def F_spec_l23Pairs_k6 (i649 : Int) (l1823 : (List (List Int))) : Option (((List (List Int)) × Int) ⊕ ((List (List Int)) ⊕ (List (List Int)))) :=
  ck (i649 + 1) (fun _ =>
    some (.inl (l1823, i649 + 1)))
noncomputable def F_spec_l23Pairs_k4 (x1 : (Int × Int)) (i649 : Int) (l1486 : (List (List Int))) : Option (((List (List Int)) × Int) ⊕ ((List (List Int)) ⊕ (List (List Int)))) :=
  bnd (lp (fun s => F_spec_l23Pairs_l5 x1 i649 s.1 s.2) (l1486, 0)) (fun j => F_spec_l23Pairs_k6 i649 j)
noncomputable def F_spec_l23Pairs_l1 (x1 : (Int × Int)) (l646 : (List (List Int))) (i649 : Int) : Option (((List (List Int)) × Int) ⊕ ((List (List Int)) ⊕ (List (List Int)))) :=
  if i649 < x1.1 then
    bnd (
      if x1.2 = 0 then
        ck (i649 + 1) (fun _ =>
          bnd (lp (fun s => F_spec_l23Pairs_l2 x1 i649 s.1 s.2) (l646, i649 + 1)) (fun j => F_spec_l23Pairs_k3 j))
      else
        some (.inl l646)) (fun j => F_spec_l23Pairs_k4 x1 i649 j)
  else
    some (.inr (.inl l646))
noncomputable def F_spec_l23Pairs_k7  (l1270 : (List (List Int))) : Option (List (List Int)) :=
  some l1270
noncomputable def F_spec_l23Pairs (a0 : Int) : Option (List (List Int)) :=
  cal (F_spec_l23Sides a0) (fun x1 =>
    bnd (lp (fun s => F_spec_l23Pairs_l1 x1 s.1 s.2) (([] : (List (List Int))), 0)) (fun j => F_spec_l23Pairs_k7 j))
noncomputable def F_spec_PatternOf_l1  (l264 : (List (List Int))) (l273 : (List (List Int))) (i276 : Int) : Option (((List (List Int)) × (List (List Int)) × Int) ⊕ ((List (List Int)) ⊕ (List (List Int)))) :=
  if i276 < (l273.length : Int) then
    idx l273 i276 (fun x453 =>
      idx x453 0 (fun x471 =>
        idx l273 i276 (fun x483 =>
          idx x483 1 (fun x501 =>
            cal (F_spec_l1Link l264 x471 x501) (fun x516 =>
              ck (i276 + 1) (fun _ =>
                some (.inl (x516, l273, i276 + 1))))))))
  else
    some (.inr (.inl l264))
noncomputable def F_spec_PatternOf_k2  (l434 : (List (List Int))) : Option (List (List Int)) :=
  some l434
noncomputable def F_spec_PatternOf (a0 : Int) : Option (List (List Int)) :=
  cal (F_spec_l23Sides a0) (fun x9 =>
    if x9.1 = 0 then
      some ([] : (List (List Int)))
    else
      ck (x9.1 + x9.2) (fun _ =>
        cal (F_spec_l1Empty (x9.1 + x9.2)) (fun x26 =>
          cal (F_spec_l23Pairs a0) (fun x62 =>
            bnd (lp (fun s => F_spec_PatternOf_l1 s.1 s.2.1 s.2.2) (x26, x62, 0)) (fun j => F_spec_PatternOf_k2 j)))))
noncomputable def F_spec_l1Size (a0_0 : (List (List Int))) : Option Int :=
  some (a0_0.length : Int)
noncomputable def F_spec_l1Edges_l2 (a0_0 : (List (List Int))) (i505 : Int) (l1152 : (List (List Int))) (i1155 : Int) : Option (((List (List Int)) × Int) ⊕ ((List (List Int)) ⊕ (((List (List Int)) × Int) ⊕ ((List (List Int)) ⊕ (List (List Int)))))) :=
  idx a0_0 i505 (fun x1316 =>
    if i1155 < (x1316.length : Int) then
      idx a0_0 i505 (fun x1331 =>
        idx x1331 i1155 (fun x1345 =>
          if i505 < x1345 then
            idx a0_0 i505 (fun x1358 =>
              idx x1358 i1155 (fun x1372 =>
                app l1152 ([[i505, x1372]]) (fun _ =>
                  ck (i1155 + 1) (fun _ =>
                    some (.inl ((l1152 ++ ([[i505, x1372]])), i1155 + 1))))))
          else
            ck (i1155 + 1) (fun _ =>
              some (.inl (l1152, i1155 + 1)))))
    else
      some (.inr (.inl l1152)))
noncomputable def F_spec_l1Edges_k3 (i505 : Int) (l1302 : (List (List Int))) : Option (((List (List Int)) × Int) ⊕ ((List (List Int)) ⊕ (List (List Int)))) :=
  ck (i505 + 1) (fun _ =>
    some (.inl (l1302, i505 + 1)))
noncomputable def F_spec_l1Edges_l1 (a0_0 : (List (List Int))) (l502 : (List (List Int))) (i505 : Int) : Option (((List (List Int)) × Int) ⊕ ((List (List Int)) ⊕ (List (List Int)))) :=
  cal (F_spec_l1Size a0_0) (fun x990 =>
    if i505 < x990 then
      bnd (lp (fun s => F_spec_l1Edges_l2 a0_0 i505 s.1 s.2) (l502, 0)) (fun j => F_spec_l1Edges_k3 i505 j)
    else
      some (.inr (.inl l502)))
noncomputable def F_spec_l1Edges_k4  (l978 : (List (List Int))) : Option (List (List Int)) :=
  some l978
noncomputable def F_spec_l1Edges (a0_0 : (List (List Int))) : Option (List (List Int)) :=
  bnd (lp (fun s => F_spec_l1Edges_l1 a0_0 s.1 s.2) (([] : (List (List Int))), 0)) (fun j => F_spec_l1Edges_k4 j)
noncomputable def F_spec_l1Set_l1 (a0 : (List Int)) (a1 : Int) (i69 : Int) : Option (Int ⊕ (Unit ⊕ Bool)) :=
  if i69 < (a0.length : Int) then
    idx a0 i69 (fun x147 =>
      ck (a1 - 1) (fun _ =>
        cal (F_spec_l1In x147 0 (a1 - 1)) (fun x163 =>
          if ¬ (x163 = true) then
            some (.inr (.inr false))
          else
            if 0 < i69 then
              idx a0 i69 (fun x172 =>
                ck (i69 - 1) (fun _ =>
                  idx a0 (i69 - 1) (fun x186 =>
                    if x172 ≤ x186 then
                      some (.inr (.inr false))
                    else
                      ck (i69 + 1) (fun _ =>
                        some (.inl (i69 + 1))))))
            else
              ck (i69 + 1) (fun _ =>
                some (.inl (i69 + 1))))))
  else
    some (.inr (.inl ()))
noncomputable def F_spec_l1Set_k2   : Option Bool :=
  some true
noncomputable def F_spec_l1Set (a0 : (List Int)) (a1 : Int) : Option Bool :=
  if a1 < (a0.length : Int) then
    some false
  else
    bnd (lp (fun s => F_spec_l1Set_l1 a0 a1 s) 0) (fun j => F_spec_l1Set_k2 )
noncomputable def F_spec_l1Has_l1 (a0 : (List Int)) (a1 : Int) (i23 : Int) : Option (Int ⊕ (Unit ⊕ Bool)) :=
  if i23 < (a0.length : Int) then
    idx a0 i23 (fun x56 =>
      if x56 = a1 then
        some (.inr (.inr true))
      else
        ck (i23 + 1) (fun _ =>
          some (.inl (i23 + 1))))
  else
    some (.inr (.inl ()))
noncomputable def F_spec_l1Has_k2   : Option Bool :=
  some false
noncomputable def F_spec_l1Has (a0 : (List Int)) (a1 : Int) : Option Bool :=
  bnd (lp (fun s => F_spec_l1Has_l1 a0 a1 s) 0) (fun j => F_spec_l1Has_k2 )
noncomputable def F_spec_GraphOk_l1 (a0_0 : (List (List Int))) (x9 : Int) (i80 : Int) : Option (Int ⊕ (Unit ⊕ Bool)) :=
  if i80 < x9 then
    idx a0_0 i80 (fun x146 =>
      cal (F_spec_l1Set x146 x9) (fun x160 =>
        if ¬ (x160 = true) then
          some (.inr (.inr false))
        else
          idx a0_0 i80 (fun x169 =>
            cal (F_spec_l1Has x169 i80) (fun x183 =>
              if x183 = true then
                some (.inr (.inr false))
              else
                ck (i80 + 1) (fun _ =>
                  some (.inl (i80 + 1)))))))
  else
    some (.inr (.inl ()))
noncomputable def F_spec_GraphOk_l4 (a0_0 : (List (List Int))) (i436 : Int) (i762 : Int) : Option (Int ⊕ (Unit ⊕ (Int ⊕ (Unit ⊕ Bool)))) :=
  idx a0_0 i436 (fun x847 =>
    if i762 < (x847.length : Int) then
      idx a0_0 i436 (fun x862 =>
        idx x862 i762 (fun x876 =>
          idx a0_0 x876 (fun x888 =>
            cal (F_spec_l1Has x888 i436) (fun x904 =>
              if ¬ (x904 = true) then
                some (.inr (.inr (.inr (.inr false))))
              else
                ck (i762 + 1) (fun _ =>
                  some (.inl (i762 + 1)))))))
    else
      some (.inr (.inl ())))
noncomputable def F_spec_GraphOk_k5 (i436 : Int)  : Option (Int ⊕ (Unit ⊕ Bool)) :=
  ck (i436 + 1) (fun _ =>
    some (.inl (i436 + 1)))
noncomputable def F_spec_GraphOk_l3 (a0_0 : (List (List Int))) (x9 : Int) (i436 : Int) : Option (Int ⊕ (Unit ⊕ Bool)) :=
  if i436 < x9 then
    bnd (lp (fun s => F_spec_GraphOk_l4 a0_0 i436 s) 0) (fun j => F_spec_GraphOk_k5 i436 )
  else
    some (.inr (.inl ()))
noncomputable def F_spec_GraphOk_k6   : Option Bool :=
  some true
noncomputable def F_spec_GraphOk_k2 (a0_0 : (List (List Int))) (x9 : Int)  : Option Bool :=
  bnd (lp (fun s => F_spec_GraphOk_l3 a0_0 x9 s) 0) (fun j => F_spec_GraphOk_k6 )
noncomputable def F_spec_GraphOk (a0_0 : (List (List Int))) : Option Bool :=
  cal (F_spec_l1Size a0_0) (fun x9 =>
    cal (F_spec_l1In x9 1 16) (fun x16 =>
      if ¬ (x16 = true) then
        some false
      else
        bnd (lp (fun s => F_spec_GraphOk_l1 a0_0 x9 s) 0) (fun j => F_spec_GraphOk_k2 a0_0 x9 )))
noncomputable def F_spec_l1There (a0_0 : (List (List Int))) (a1 : Int) : Option Bool :=
  cal (F_spec_l1Size a0_0) (fun x9 =>
    ck (x9 - 1) (fun _ =>
      cal (F_spec_l1In a1 0 (x9 - 1)) (fun x18 =>
        some x18)))
noncomputable def F_spec_l1Edge (a0_0 : (List (List Int))) (a1 : Int) (a2 : Int) : Option Bool :=
  idx a0_0 a1 (fun x9 =>
    cal (F_spec_l1Has x9 a2) (fun x23 =>
      some x23))
noncomputable def F_spec_EdgeIn (a0_0 : (List (List Int))) (a1 : Int) (a2 : Int) : Option Bool :=
  cal (F_spec_GraphOk a0_0) (fun x9 =>
    if x9 = true then
      cal (F_spec_l1There a0_0 a1) (fun x16 =>
        if x16 = true then
          cal (F_spec_l1There a0_0 a2) (fun x23 =>
            if x23 = true then
              cal (F_spec_l1Edge a0_0 a1 a2) (fun x30 =>
                some x30)
            else
              some false)
        else
          some false)
    else
      some false)
noncomputable def F_spec_l2Pair (a0_0 : (List (List Int))) (a1 : Int) (a2 : Int) : Option Bool :=
  cal (F_spec_GraphOk a0_0) (fun x9 =>
    if x9 = true then
      cal (F_spec_l1There a0_0 a1) (fun x16 =>
        if x16 = true then
          cal (F_spec_l1There a0_0 a2) (fun x23 =>
            if x23 = true then
              some (decide (a1 ≠ a2))
            else
              some false)
        else
          some false)
    else
      some false)
noncomputable def F_spec_l1CopyGraph_l1 (a0_0 : (List (List Int))) (l198 : (List (List Int))) (i201 : Int) : Option (((List (List Int)) × Int) ⊕ ((List (List Int)) ⊕ (List (List Int)))) :=
  if i201 < (a0_0.length : Int) then
    idx a0_0 i201 (fun x385 =>
      cal (F_spec_l1Copy x385) (fun x402 =>
        app l198 ([x402]) (fun _ =>
          ck (i201 + 1) (fun _ =>
            some (.inl ((l198 ++ ([x402])), i201 + 1))))))
  else
    some (.inr (.inl l198))
noncomputable def F_spec_l1CopyGraph_k2  (l355 : (List (List Int))) : Option (List (List Int)) :=
  some l355
noncomputable def F_spec_l1CopyGraph (a0_0 : (List (List Int))) : Option (List (List Int)) :=
  bnd (lp (fun s => F_spec_l1CopyGraph_l1 a0_0 s.1 s.2) (([] : (List (List Int))), 0)) (fun j => F_spec_l1CopyGraph_k2 j)
noncomputable def F_spec_l2Without_l1 (a0 : (List Int)) (a1 : Int) (l81 : (List Int)) (i84 : Int) : Option (((List Int) × Int) ⊕ ((List Int) ⊕ (List Int))) :=
  if i84 < (a0.length : Int) then
    idx a0 i84 (fun x166 =>
      if x166 ≠ a1 then
        idx a0 i84 (fun x179 =>
          app l81 ([x179]) (fun _ =>
            ck (i84 + 1) (fun _ =>
              some (.inl ((l81 ++ ([x179])), i84 + 1)))))
      else
        ck (i84 + 1) (fun _ =>
          some (.inl (l81, i84 + 1))))
  else
    some (.inr (.inl l81))
noncomputable def F_spec_l2Without_k2  (l153 : (List Int)) : Option (List Int) :=
  some l153
noncomputable def F_spec_l2Without (a0 : (List Int)) (a1 : Int) : Option (List Int) :=
  bnd (lp (fun s => F_spec_l2Without_l1 a0 a1 s.1 s.2) (([] : (List Int)), 0)) (fun j => F_spec_l2Without_k2 j)
noncomputable def F_spec_CutEdge (a0_0 : (List (List Int))) (a1 : Int) (a2 : Int) : Option ((List (List Int)) × Bool) :=
  cal (F_spec_l2Pair a0_0 a1 a2) (fun x41 =>
    if ¬ (x41 = true) then
      some (([] : (List (List Int))), false)
    else
      cal (F_spec_l1Edge a0_0 a1 a2) (fun x52 =>
        if ¬ (x52 = true) then
          some (([] : (List (List Int))), false)
        else
          cal (F_spec_l1CopyGraph a0_0) (fun x63 =>
            idx x63 a1 (fun x104 =>
              cal (F_spec_l2Without x104 a2) (fun x124 =>
                idx x63 a1 (fun x143 =>
                  idx (x63.set ((a1 : Int).toNat) x124) a2 (fun x179 =>
                    cal (F_spec_l2Without x179 a1) (fun x199 =>
                      idx (x63.set ((a1 : Int).toNat) x124) a2 (fun x218 =>
                        some (((x63.set ((a1 : Int).toNat) x124).set ((a2 : Int).toNat) x199), true))))))))))
noncomputable def F_spec_l1Max (a0 : Int) (a1 : Int) : Option Int :=
  if a1 < a0 then
    some a0
  else
    some a1
noncomputable def F_spec_SetOk (a0_0 : (List (List Int))) (a1 : (List Int)) : Option Bool :=
  cal (F_spec_GraphOk a0_0) (fun x9 =>
    if x9 = true then
      cal (F_spec_l1Size a0_0) (fun x16 =>
        cal (F_spec_l1Set a1 x16) (fun x23 =>
          some x23))
    else
      some false)
noncomputable def F_spec_AddedVertex_l1 (a0_0 : (List (List Int))) (a1 : (List Int)) (l284 : (List (List Int))) (i287 : Int) : Option (((List (List Int)) × Int) ⊕ ((List (List Int)) ⊕ ((List (List Int)) × Bool))) :=
  if i287 < (a1.length : Int) then
    idx a1 i287 (fun x410 =>
      cal (F_spec_l1Size a0_0) (fun x424 =>
        cal (F_spec_l1Link l284 x410 x424) (fun x430 =>
          ck (i287 + 1) (fun _ =>
            some (.inl (x430, i287 + 1))))))
  else
    some (.inr (.inl l284))
noncomputable def F_spec_AddedVertex_k2  (l391 : (List (List Int))) : Option ((List (List Int)) × Bool) :=
  some (l391, true)
noncomputable def F_spec_AddedVertex (a0_0 : (List (List Int))) (a1 : (List Int)) : Option ((List (List Int)) × Bool) :=
  cal (F_spec_SetOk a0_0 a1) (fun x42 =>
    if ¬ (x42 = true) then
      some (([] : (List (List Int))), false)
    else
      cal (F_spec_l1Size a0_0) (fun x53 =>
        if x53 = 16 then
          some (([] : (List (List Int))), false)
        else
          cal (F_spec_l1CopyGraph a0_0) (fun x65 =>
            app x65 ([([] : (List Int))]) (fun _ =>
              bnd (lp (fun s => F_spec_AddedVertex_l1 a0_0 a1 s.1 s.2) ((x65 ++ ([([] : (List Int))])), 0)) (fun j => F_spec_AddedVertex_k2 j)))))
noncomputable def F_spec_SplitEdge (a0_0 : (List (List Int))) (a1 : Int) (a2 : Int) : Option ((List (List Int)) × Bool) :=
  cal (F_spec_l1Size a0_0) (fun x19 =>
    cal (F_spec_EdgeIn a0_0 a1 a2) (fun x42 =>
      if ¬ (x42 = true) then
        some (([] : (List (List Int))), false)
      else
        if 16 ≤ x19 then
          some (([] : (List (List Int))), false)
        else
          cal (F_spec_CutEdge a0_0 a1 a2) (fun x58 =>
            cal (F_spec_l1Min a1 a2) (fun x103 =>
              cal (F_spec_l1Max a1 a2) (fun x108 =>
                cal (F_spec_AddedVertex x58.1 ([x103, x108])) (fun x139 =>
                  some (x139.1, x139.2)))))))
noncomputable def F_spec_AddedEdge (a0_0 : (List (List Int))) (a1 : Int) (a2 : Int) : Option ((List (List Int)) × Bool) :=
  cal (F_spec_l2Pair a0_0 a1 a2) (fun x19 =>
    if ¬ (x19 = true) then
      some (([] : (List (List Int))), false)
    else
      cal (F_spec_l1Edge a0_0 a1 a2) (fun x30 =>
        if x30 = true then
          some (([] : (List (List Int))), false)
        else
          cal (F_spec_l1CopyGraph a0_0) (fun x41 =>
            cal (F_spec_l1Link x41 a1 a2) (fun x63 =>
              some (x63, true)))))
noncomputable def F_spec_l1All_l1 (a0 : Int) (l54 : (List Int)) (i57 : Int) : Option (((List Int) × Int) ⊕ ((List Int) ⊕ (List Int))) :=
  if i57 < a0 then
    app l54 ([i57]) (fun _ =>
      ck (i57 + 1) (fun _ =>
        some (.inl ((l54 ++ ([i57])), i57 + 1))))
  else
    some (.inr (.inl l54))
noncomputable def F_spec_l1All_k2  (l99 : (List Int)) : Option (List Int) :=
  some l99
noncomputable def F_spec_l1All (a0 : Int) : Option (List Int) :=
  bnd (lp (fun s => F_spec_l1All_l1 a0 s.1 s.2) (([] : (List Int)), 0)) (fun j => F_spec_l1All_k2 j)
noncomputable def F_spec_l1From (a0 : ((List (BitVec 8)) × Int × Int)) (a1 : Int) (a2 : Int) : Option (Int × ((List (BitVec 8)) × Int × Int)) :=
  ck (a2 - a1) (fun _ =>
    ck ((a2 - a1) + 1) (fun _ =>
      cal (F_spec_l1Below a0 ((a2 - a1) + 1)) (fun x5 =>
        ck (a1 + x5.1) (fun _ =>
          some (a1 + x5.1, x5.2)))))
noncomputable def F_spec_l1DrawOrder_l1  (l209 : ((List (BitVec 8)) × Int × Int)) (l215 : (List Int)) (l221 : (List Int)) : Option ((((List (BitVec 8)) × Int × Int) × (List Int) × (List Int)) ⊕ ((((List (BitVec 8)) × Int × Int) × (List Int)) ⊕ ((List Int) × ((List (BitVec 8)) × Int × Int)))) :=
  if 0 < (l215.length : Int) then
    cal (F_spec_l1Below l209 (l215.length : Int)) (fun x405 =>
      idx l215 x405.1 (fun x413 =>
        app l221 ([x413]) (fun _ =>
          slc l215 0 x405.1 (fun _ =>
            ck (x405.1 + 1) (fun _ =>
              slc l215 (x405.1 + 1) (l215.length : Int) (fun _ =>
                cal (F_spec_l1Copy ((l215.drop (0 : Int).toNat).take ((x405.1 : Int).toNat - (0 : Int).toNat))) (fun x485 =>
                  app x485 ((l215.drop (x405.1 + 1 : Int).toNat).take (((l215.length : Int) : Int).toNat - (x405.1 + 1 : Int).toNat)) (fun _ =>
                    some (.inl (x405.2, (x485 ++ ((l215.drop (x405.1 + 1 : Int).toNat).take (((l215.length : Int) : Int).toNat - (x405.1 + 1 : Int).toNat))), (l221 ++ ([x413]))))))))))))
  else
    some (.inr (.inl (l209, l221)))
noncomputable def F_spec_l1DrawOrder_k2  (l384 : ((List (BitVec 8)) × Int × Int)) (l390 : (List Int)) : Option ((List Int) × ((List (BitVec 8)) × Int × Int)) :=
  cal (F_spec_l1Once l384 15) (fun x532 =>
    if x532.1 = true then
      if 0 < (l390.length : Int) then
        cal (F_spec_l1Below x532.2 (l390.length : Int)) (fun x541 =>
          cal (F_spec_l1From x541.2 (-1) 7) (fun x549 =>
            idx l390 x541.1 (fun x557 =>
              some ((l390.set ((x541.1 : Int).toNat) x549.1), x549.2))))
      else
        some (l390, x532.2)
    else
      some (l390, x532.2))
noncomputable def F_spec_l1DrawOrder (a0 : ((List (BitVec 8)) × Int × Int)) (a1_0 : (List (List Int))) : Option ((List Int) × ((List (BitVec 8)) × Int × Int)) :=
  cal (F_spec_l1All (a1_0.length : Int)) (fun x12 =>
    bnd (lp (fun s => F_spec_l1DrawOrder_l1 s.1 s.2.1 s.2.2) (a0, x12, ([] : (List Int)))) (fun j => F_spec_l1DrawOrder_k2 j.1 j.2))
noncomputable def F_spec_l1Order_l1 (a0_0 : (List (List Int))) (a1 : (List Int)) (i79 : Int) : Option (Int ⊕ (Unit ⊕ Bool)) :=
  if i79 < (a1.length : Int) then
    idx a1 i79 (fun x148 =>
      cal (F_spec_l1There a0_0 x148) (fun x162 =>
        if ¬ (x162 = true) then
          some (.inr (.inr false))
        else
          slc a1 0 i79 (fun _ =>
            idx a1 i79 (fun x177 =>
              cal (F_spec_l1Has ((a1.drop (0 : Int).toNat).take ((i79 : Int).toNat - (0 : Int).toNat)) x177) (fun x191 =>
                if x191 = true then
                  some (.inr (.inr false))
                else
                  ck (i79 + 1) (fun _ =>
                    some (.inl (i79 + 1))))))))
  else
    some (.inr (.inl ()))
noncomputable def F_spec_l1Order_k2   : Option Bool :=
  some true
noncomputable def F_spec_l1Order (a0_0 : (List (List Int))) (a1 : (List Int)) : Option Bool :=
  cal (F_spec_l1Size a0_0) (fun x9 =>
    if (a1.length : Int) ≠ x9 then
      some false
    else
      bnd (lp (fun s => F_spec_l1Order_l1 a0_0 a1 s) 0) (fun j => F_spec_l1Order_k2 ))
noncomputable def F_spec_OrderOk (a0_0 : (List (List Int))) (a1 : (List Int)) : Option Bool :=
  cal (F_spec_GraphOk a0_0) (fun x9 =>
    if x9 = true then
      cal (F_spec_l1Order a0_0 a1) (fun x16 =>
        some x16)
    else
      some false)
noncomputable def F_spec_l2Of_l2 (a0_0 : (List (List Int))) (a1 : (List Int)) (i463 : Int) (l988 : (List (List Int))) (i991 : Int) : Option (((List (List Int)) × Int) ⊕ ((List (List Int)) ⊕ (((List (List Int)) × Int) ⊕ ((List (List Int)) ⊕ (List (List Int)))))) :=
  if i991 < i463 then
    idx a1 i463 (fun x1130 =>
      idx a1 i991 (fun x1142 =>
        cal (F_spec_l1Edge a0_0 x1130 x1142) (fun x1156 =>
          if x1156 = true then
            cal (F_spec_l1Link l988 i991 i463) (fun x1162 =>
              ck (i991 + 1) (fun _ =>
                some (.inl (x1162, i991 + 1))))
          else
            ck (i991 + 1) (fun _ =>
              some (.inl (l988, i991 + 1))))))
  else
    some (.inr (.inl l988))
noncomputable def F_spec_l2Of_k3 (i463 : Int) (l1105 : (List (List Int))) : Option (((List (List Int)) × Int) ⊕ ((List (List Int)) ⊕ (List (List Int)))) :=
  ck (i463 + 1) (fun _ =>
    some (.inl (l1105, i463 + 1)))
noncomputable def F_spec_l2Of_l1 (a0_0 : (List (List Int))) (a1 : (List Int)) (l460 : (List (List Int))) (i463 : Int) : Option (((List (List Int)) × Int) ⊕ ((List (List Int)) ⊕ (List (List Int)))) :=
  if i463 < (a1.length : Int) then
    bnd (lp (fun s => F_spec_l2Of_l2 a0_0 a1 i463 s.1 s.2) (l460, 0)) (fun j => F_spec_l2Of_k3 i463 j)
  else
    some (.inr (.inl l460))
noncomputable def F_spec_l2Of_k4  (l844 : (List (List Int))) : Option (List (List Int)) :=
  some l844
noncomputable def F_spec_l2Of (a0_0 : (List (List Int))) (a1 : (List Int)) : Option (List (List Int)) :=
  cal (F_spec_l1Empty (a1.length : Int)) (fun x19 =>
    bnd (lp (fun s => F_spec_l2Of_l1 a0_0 a1 s.1 s.2) (x19, 0)) (fun j => F_spec_l2Of_k4 j))
noncomputable def F_spec_Renamed (a0_0 : (List (List Int))) (a1 : (List Int)) : Option ((List (List Int)) × Bool) :=
  cal (F_spec_OrderOk a0_0 a1) (fun x19 =>
    if ¬ (x19 = true) then
      some (([] : (List (List Int))), false)
    else
      cal (F_spec_l2Of a0_0 a1) (fun x30 =>
        some (x30, true)))
noncomputable def F_spec_l23Draw_l1  (l269 : ((List (BitVec 8)) × Int × Int)) (l282 : (List (List Int))) (i285 : Int) : Option ((((List (BitVec 8)) × Int × Int) × (List (List Int)) × Int) ⊕ ((((List (BitVec 8)) × Int × Int) × (List (List Int))) ⊕ ((List (List Int)) × ((List (BitVec 8)) × Int × Int)))) :=
  if 0 < i285 then
    cal (F_spec_l1Size l282) (fun x484 =>
      if x484 < 7 then
        cal (F_spec_l1Edges l282) (fun x495 =>
          cal (F_spec_l1Below l269 (x495.length : Int)) (fun x522 =>
            idx x495 x522.1 (fun x530 =>
              idx x530 0 (fun x550 =>
                idx x530 1 (fun x562 =>
                  cal (F_spec_SplitEdge l282 x550 x562) (fun xqr3o7_1 =>
                    ck (i285 - 1) (fun _ =>
                      some (.inl (x522.2, xqr3o7_1.1, i285 - 1)))))))))
      else
        some (.inr (.inl (l269, l282))))
  else
    some (.inr (.inl (l269, l282)))
noncomputable def F_spec_l23Draw_k4  (l933 : ((List (BitVec 8)) × Int × Int)) (l946 : (List (List Int))) : Option ((List (List Int)) × ((List (BitVec 8)) × Int × Int)) :=
  cal (F_spec_l1Once l933 2) (fun x1061 =>
    if x1061.1 = true then
      cal (F_spec_l1DrawOrder x1061.2 l946) (fun xqr6o3_1 =>
        cal (F_spec_Renamed l946 xqr6o3_1.1) (fun xqr6o4_1 =>
          if xqr6o4_1.2 = true then
            some (xqr6o4_1.1, xqr6o3_1.2)
          else
            some (l946, xqr6o3_1.2)))
    else
      some (l946, x1061.2))
noncomputable def F_spec_l23Draw_k3  (l694 : ((List (BitVec 8)) × Int × Int)) (l707 : (List (List Int))) : Option ((List (List Int)) × ((List (BitVec 8)) × Int × Int)) :=
  bnd (
    cal (F_spec_l1Once l694 3) (fun x964 =>
      if x964.1 = true then
        cal (F_spec_l1Edges l707) (fun x975 =>
          cal (F_spec_l1Below x964.2 (x975.length : Int)) (fun x1002 =>
            idx x975 x1002.1 (fun x1010 =>
              idx x1010 0 (fun x1030 =>
                idx x1010 1 (fun x1042 =>
                  cal (F_spec_CutEdge l707 x1030 x1042) (fun xqr5o7_1 =>
                    some (.inl (x1002.2, xqr5o7_1.1))))))))
      else
        some (.inl (x964.2, l707)))) (fun j => F_spec_l23Draw_k4 j.1 j.2)
noncomputable def F_spec_l23Draw_k2  (l441 : ((List (BitVec 8)) × Int × Int)) (l454 : (List (List Int))) : Option ((List (List Int)) × ((List (BitVec 8)) × Int × Int)) :=
  bnd (
    cal (F_spec_l1Once l441 3) (fun x725 =>
      if x725.1 = true then
        cal (F_spec_l1Size l454) (fun x736 =>
          cal (F_spec_l1Below x725.2 x736) (fun x743 =>
            cal (F_spec_l1Size l454) (fun x754 =>
              cal (F_spec_l1Below x743.2 x754) (fun x761 =>
                cal (F_spec_AddedEdge l454 x743.1 x761.1) (fun x772 =>
                  if x772.2 = true then
                    some (.inl (x761.2, x772.1))
                  else
                    some (.inl (x761.2, l454)))))))
      else
        some (.inl (x725.2, l454)))) (fun j => F_spec_l23Draw_k3 j.1 j.2)
noncomputable def F_spec_l23Draw (a0 : ((List (BitVec 8)) × Int × Int)) : Option ((List (List Int)) × ((List (BitVec 8)) × Int × Int)) :=
  cal (F_spec_l1Once a0 2) (fun x11 =>
    if x11.1 = true then
      cal (F_spec_l1DrawAny x11.2) (fun x19 =>
        some (x19.1, x19.2))
    else
      cal (F_spec_l1Below x11.2 4) (fun x45 =>
        ck (1 + x45.1) (fun _ =>
          cal (F_spec_PatternOf (1 + x45.1)) (fun x55 =>
            cal (F_spec_l1Below x45.2 3) (fun x95 =>
              bnd (lp (fun s => F_spec_l23Draw_l1 s.1 s.2.1 s.2.2) (x95.2, x55, x95.1)) (fun j => F_spec_l23Draw_k2 j.1 j.2))))))
noncomputable def F_spec_l24Draw_l1 (x45 : (Int × ((List (BitVec 8)) × Int × Int))) (x98 : ((List Int) × ((List (BitVec 8)) × Int × Int))) (l332 : ((List (BitVec 8)) × Int × Int)) (l345 : (List (List Int))) (i351 : Int) : Option ((((List (BitVec 8)) × Int × Int) × (List (List Int)) × Int) ⊕ (((List (List Int)) × ((List (BitVec 8)) × Int × Int)) ⊕ ((List (List Int)) × ((List (BitVec 8)) × Int × Int)))) :=
  if 0 < i351 then
    cal (F_spec_l1Below l332 (3 + x45.1)) (fun x583 =>
      idx x98.1 x583.1 (fun x591 =>
        ck (x583.1 + 1) (fun _ =>
          cal (F_spec_l1Below x583.2 2) (fun x605 =>
            ck ((x583.1 + 1) + x605.1) (fun _ =>
              grd ((0 : Int) ≤ ((x583.1 + 1) + x605.1) ∧ (0 : Int) < (3 + x45.1)) (
                idx x98.1 (((x583.1 + 1) + x605.1) % (3 + x45.1)) (fun x617 =>
                  cal (F_spec_AddedEdge l345 x591 x617) (fun x632 =>
                    if x632.2 = true then
                      ck (i351 - 1) (fun _ =>
                        some (.inl (x605.2, x632.1, i351 - 1)))
                    else
                      ck (i351 - 1) (fun _ =>
                        some (.inl (x605.2, l345, i351 - 1)))))))))))
  else
    some (.inr (.inl (l345, l332)))
noncomputable def F_spec_l24Draw_k2  (l552 : (List (List Int))) (l556 : ((List (BitVec 8)) × Int × Int)) : Option ((List (List Int)) × ((List (BitVec 8)) × Int × Int)) :=
  some (l552, l556)
noncomputable def F_spec_l24Draw (a0 : ((List (BitVec 8)) × Int × Int)) : Option ((List (List Int)) × ((List (BitVec 8)) × Int × Int)) :=
  cal (F_spec_l1Once a0 3) (fun x11 =>
    if x11.1 = true then
      cal (F_spec_l23Draw x11.2) (fun x19 =>
        some (x19.1, x19.2))
    else
      cal (F_spec_l1Below x11.2 4) (fun x45 =>
        ck (3 + x45.1) (fun _ =>
          cal (F_spec_l1Empty (3 + x45.1)) (fun x55 =>
            cal (F_spec_l1DrawOrder x45.2 x55) (fun x98 =>
              cal (F_spec_l1Below x98.2 9) (fun x119 =>
                bnd (lp (fun s => F_spec_l24Draw_l1 x45 x98 s.1 s.2.1 s.2.2) (x119.2, x55, x119.1)) (fun j => F_spec_l24Draw_k2 j.1 j.2)))))))
noncomputable def F_spec_l26Small (a0_0 : (List (List Int))) : Option Bool :=
  cal (F_spec_GraphOk a0_0) (fun x9 =>
    if x9 = true then
      some (decide ((a0_0.length : Int) ≤ 8))
    else
      some false)
noncomputable def F_spec_l24Places_l1 (a0 : (List Int)) (l63 : (List Int)) (i66 : Int) : Option (((List Int) × Int) ⊕ ((List Int) ⊕ (List Int))) :=
  if i66 < (a0.length : Int) then
    idx a0 i66 (fun x128 =>
      idx l63 x128 (fun x140 =>
        ck (i66 + 1) (fun _ =>
          some (.inl ((l63.set ((x128 : Int).toNat) i66), i66 + 1)))))
  else
    some (.inr (.inl l63))
noncomputable def F_spec_l24Places_k2  (l115 : (List Int)) : Option (List Int) :=
  some l115
noncomputable def F_spec_l24Places (a0 : (List Int)) : Option (List Int) :=
  mkS (a0.length : Int) (0 : Int) (fun _ =>
    bnd (lp (fun s => F_spec_l24Places_l1 a0 s.1 s.2) ((List.replicate ((a0.length : Int) : Int).toNat (0 : Int)), 0)) (fun j => F_spec_l24Places_k2 j))
noncomputable def F_spec_l24Cross (a0 : (List Int)) (a1 : (List Int)) (a2 : (List Int)) : Option Bool :=
  idx a1 0 (fun x1 =>
    idx a0 x1 (fun x13 =>
      idx a1 1 (fun x25 =>
        idx a0 x25 (fun x37 =>
          cal (F_spec_l1Min x13 x37) (fun x51 =>
            idx a1 0 (fun x57 =>
              idx a0 x57 (fun x69 =>
                idx a1 1 (fun x81 =>
                  idx a0 x81 (fun x93 =>
                    cal (F_spec_l1Max x69 x93) (fun x107 =>
                      idx a2 0 (fun x113 =>
                        idx a0 x113 (fun x125 =>
                          idx a2 1 (fun x137 =>
                            idx a0 x137 (fun x149 =>
                              cal (F_spec_l1Min x125 x149) (fun x163 =>
                                idx a2 0 (fun x169 =>
                                  idx a0 x169 (fun x181 =>
                                    idx a2 1 (fun x193 =>
                                      idx a0 x193 (fun x205 =>
                                        cal (F_spec_l1Max x181 x205) (fun x219 =>
                                          if x51 < x163 then
                                            if x163 < x107 then
                                              if x107 < x219 then
                                                some true
                                              else
                                                if x163 < x51 then
                                                  if x51 < x219 then
                                                    some (decide (x219 < x107))
                                                  else
                                                    some false
                                                else
                                                  some false
                                            else
                                              if x163 < x51 then
                                                if x51 < x219 then
                                                  some (decide (x219 < x107))
                                                else
                                                  some false
                                              else
                                                some false
                                          else
                                            if x163 < x51 then
                                              if x51 < x219 then
                                                some (decide (x219 < x107))
                                              else
                                                some false
                                            else
                                              some false))))))))))))))))))))
noncomputable def F_spec_l1Flag (a0 : Bool) : Option Int :=
  if a0 = true then
    some 1
  else
    some 0
noncomputable def F_spec_l24Crossings_l2 (a0 : (List (List Int))) (x1 : (List Int)) (i223 : Int) (i504 : Int) (i506 : Int) : Option ((Int × Int) ⊕ (Int ⊕ ((Int × Int) ⊕ (Int ⊕ Int)))) :=
  if i506 < i223 then
    idx a0 i223 (fun x581 =>
      idx a0 i506 (fun x595 =>
        cal (F_spec_l24Cross x1 x581 x595) (fun x614 =>
          cal (F_spec_l1Flag x614) (fun x618 =>
            ck (i504 + x618) (fun _ =>
              ck (i506 + 1) (fun _ =>
                some (.inl (i504 + x618, i506 + 1))))))))
  else
    some (.inr (.inl i504))
noncomputable def F_spec_l24Crossings_k3 (i223 : Int) (i569 : Int) : Option ((Int × Int) ⊕ (Int ⊕ Int)) :=
  ck (i223 + 1) (fun _ =>
    some (.inl (i569, i223 + 1)))
noncomputable def F_spec_l24Crossings_l1 (a0 : (List (List Int))) (x1 : (List Int)) (i221 : Int) (i223 : Int) : Option ((Int × Int) ⊕ (Int ⊕ Int)) :=
  if i223 < (a0.length : Int) then
    bnd (lp (fun s => F_spec_l24Crossings_l2 a0 x1 i223 s.1 s.2) (i221, 0)) (fun j => F_spec_l24Crossings_k3 i223 j)
  else
    some (.inr (.inl i221))
noncomputable def F_spec_l24Crossings_k4  (i427 : Int) : Option Int :=
  some i427
noncomputable def F_spec_l24Crossings (a0 : (List (List Int))) (a1 : (List Int)) : Option Int :=
  cal (F_spec_l24Places a1) (fun x1 =>
    bnd (lp (fun s => F_spec_l24Crossings_l1 a0 x1 s.1 s.2) (0, 0)) (fun j => F_spec_l24Crossings_k4 j))
noncomputable def F_spec_l24Rings_l1 (a0 : (List (List Int))) (a1 : (List Int)) (a2 : Int) (rc : (List (List Int)) → (List Int) → Int → (List Int) → Int → Option ((List Int) × Int)) (l146 : (List Int)) (i150 : Int) (i154 : Int) : Option (((List Int) × Int × Int) ⊕ (((List Int) × Int) ⊕ ((List Int) × Int))) :=
  if i154 < a2 then
    cal (F_spec_l1Has a1 i154) (fun x227 =>
      if ¬ (x227 = true) then
        cal (F_spec_l1Copy a1) (fun xqr3o2_1 =>
          app xqr3o2_1 ([i154]) (fun _ =>
            cal (rc a0 (xqr3o2_1 ++ ([i154])) a2 l146 i150) (fun xqr3o8_1 =>
              ck (i154 + 1) (fun _ =>
                some (.inl (xqr3o8_1.1, xqr3o8_1.2, i154 + 1))))))
      else
        ck (i154 + 1) (fun _ =>
          some (.inl (l146, i150, i154 + 1))))
  else
    some (.inr (.inl (l146, i150)))
noncomputable def F_spec_l24Rings_k2  (l201 : (List Int)) (i205 : Int) : Option ((List Int) × Int) :=
  some (l201, i205)
noncomputable def F_spec_l24Rings_body (rc : (List (List Int)) → (List Int) → Int → (List Int) → Int → Option ((List Int) × Int)) (a0 : (List (List Int))) (a1 : (List Int)) (a2 : Int) (a3_0 : (List Int)) (a3_1 : Int) : Option ((List Int) × Int) :=
  if a3_1 = 0 then
    some (a3_0, a3_1)
  else
    if (a1.length : Int) = a2 then
      cal (F_spec_l24Crossings a0 a1) (fun x25 =>
        if a3_1 < 0 then
          cal (F_spec_l1Copy a1) (fun x37 =>
            some (x37, x25))
        else
          if x25 < a3_1 then
            cal (F_spec_l1Copy a1) (fun x68 =>
              some (x68, x25))
          else
            some (a3_0, a3_1))
    else
      bnd (lp (fun s => F_spec_l24Rings_l1 a0 a1 a2 rc s.1 s.2.1 s.2.2) (a3_0, a3_1, 0)) (fun j => F_spec_l24Rings_k2 j.1 j.2)
noncomputable def F_spec_l24Rings (a0 : (List (List Int))) (a1 : (List Int)) (a2 : Int) (a3_0 : (List Int)) (a3_1 : Int) : Option ((List Int) × Int) := fixO (fun (rc : ((List (List Int)) × (List Int) × Int × (List Int) × Int) → Option ((List Int) × Int)) a => F_spec_l24Rings_body (fun z0 z1 z2 z3 z4 => rc (z0, z1, z2, z3, z4)) a.1 a.2.1 a.2.2.1 a.2.2.2.1 a.2.2.2.2) (a0, a1, a2, a3_0, a3_1)
noncomputable def F_spec_l24Least (a0_0 : (List (List Int))) : Option ((List Int) × Int) :=
  cal (F_spec_l1Edges a0_0) (fun xqr1o1_1 =>
    cal (F_spec_l1Size a0_0) (fun xqr1o4_1 =>
      cal (F_spec_l24Rings xqr1o1_1 ([0]) xqr1o4_1 [] (-1)) (fun xqr1o6_1 =>
        some (xqr1o6_1.1, xqr1o6_1.2))))
noncomputable def F_spec_OuterRing (a0_0 : (List (List Int))) : Option ((List Int) × Bool) :=
  cal (F_spec_l26Small a0_0) (fun x9 =>
    if ¬ (x9 = true) then
      some (([] : (List Int)), false)
    else
      cal (F_spec_l24Least a0_0) (fun x30 =>
        if x30.2 ≠ 0 then
          some (([] : (List Int)), false)
        else
          some (x30.1, true)))
noncomputable def F_spec_l24DrawRing_l2 (x55 : ((List Int) × ((List (BitVec 8)) × Int × Int))) (l395 : ((List (BitVec 8)) × Int × Int)) (l408 : (List (List Int))) (i414 : Int) : Option ((((List (BitVec 8)) × Int × Int) × (List (List Int)) × Int) ⊕ (((List (List Int)) × ((List (BitVec 8)) × Int × Int)) ⊕ ((List (List Int)) × ((List Int) × ((List (BitVec 8)) × Int × Int))))) :=
  if i414 < (x55.1.length : Int) then
    cal (F_spec_l1Once l395 10) (fun x657 =>
      if ¬ (x657.1 = true) then
        idx x55.1 i414 (fun x665 =>
          if x665 = 0 then
            slc x55.1 i414 (x55.1.length : Int) (fun _ =>
              slc x55.1 0 i414 (fun _ =>
                cal (F_spec_l1Copy ((x55.1.drop (i414 : Int).toNat).take (((x55.1.length : Int) : Int).toNat - (i414 : Int).toNat))) (fun x711 =>
                  app x711 ((x55.1.drop (0 : Int).toNat).take ((i414 : Int).toNat - (0 : Int).toNat)) (fun _ =>
                    some (.inr (.inr (l408, (x711 ++ ((x55.1.drop (0 : Int).toNat).take ((i414 : Int).toNat - (0 : Int).toNat))), x657.2)))))))
          else
            ck (i414 + 1) (fun _ =>
              some (.inl (x657.2, l408, i414 + 1))))
      else
        some (.inr (.inl (l408, x657.2))))
  else
    some (.inr (.inl (l408, l395)))
noncomputable def F_spec_l24DrawRing_k3 (x55 : ((List Int) × ((List (BitVec 8)) × Int × Int))) (l614 : (List (List Int))) (l621 : ((List (BitVec 8)) × Int × Int)) : Option ((List (List Int)) × ((List Int) × ((List (BitVec 8)) × Int × Int))) :=
  some (l614, x55.1, l621)
noncomputable def F_spec_l24DrawRing_k1 (x11 : ((List (List Int)) × ((List (BitVec 8)) × Int × Int))) (x55 : ((List Int) × ((List (BitVec 8)) × Int × Int))) (l114 : ((List (BitVec 8)) × Int × Int)) : Option ((List (List Int)) × ((List Int) × ((List (BitVec 8)) × Int × Int))) :=
  bnd (lp (fun s => F_spec_l24DrawRing_l2 x55 s.1 s.2.1 s.2.2) (l114, x11.1, 0)) (fun j => F_spec_l24DrawRing_k3 x55 j.1 j.2)
noncomputable def F_spec_l24DrawRing (a0 : ((List (BitVec 8)) × Int × Int)) : Option ((List (List Int)) × ((List Int) × ((List (BitVec 8)) × Int × Int))) :=
  cal (F_spec_l24Draw a0) (fun x11 =>
    cal (F_spec_l1DrawOrder x11.2 x11.1) (fun x55 =>
      bnd (
        cal (F_spec_l1Once x55.2 3) (fun x154 =>
          if x154.1 = true then
            cal (F_spec_OuterRing x11.1) (fun x165 =>
              if x165.2 = true then
                some (.inr (x11.1, x165.1, x154.2))
              else
                some (.inl x154.2))
          else
            some (.inl x154.2))) (fun j => F_spec_l24DrawRing_k1 x11 x55 j)))
noncomputable def F_spec_EdgesOf (a0_0 : (List (List Int))) : Option (List (List Int)) :=
  cal (F_spec_GraphOk a0_0) (fun x9 =>
    if ¬ (x9 = true) then
      some ([] : (List (List Int)))
    else
      cal (F_spec_l1Edges a0_0) (fun x27 =>
        some x27))
noncomputable def F_spec_DrawChordsCross (a0 : (List (BitVec 8))) : Option ((List (List Int)) × ((List Int) × ((List Int) × (List Int)))) :=
  cal (F_spec_l1New a0) (fun x9 =>
    cal (F_spec_l24DrawRing x9) (fun x22 =>
      cal (F_spec_EdgesOf x22.1) (fun x64 =>
        if (x64.length : Int) = 0 then
          cal (F_spec_l1From x22.2.2 (-1) 5) (fun xqr3o3_1 =>
            cal (F_spec_l1From xqr3o3_1.2 (-1) 5) (fun xqr3o5_1 =>
              some (x22.1, x22.2.1, [xqr3o3_1.1, xqr3o5_1.1], [1, 2])))
        else
          cal (F_spec_l1Once x22.2.2 8) (fun x119 =>
            if x119.1 = true then
              cal (F_spec_l1From x119.2 (-1) 5) (fun xqr4o3_1 =>
                cal (F_spec_l1From xqr4o3_1.2 (-1) 5) (fun xqr4o5_1 =>
                  some (x22.1, x22.2.1, [xqr4o3_1.1, xqr4o5_1.1], [1, 2])))
            else
              cal (F_spec_l1Below x119.2 (x64.length : Int)) (fun x137 =>
                idx x64 x137.1 (fun x145 =>
                  cal (F_spec_l1Below x137.2 (x64.length : Int)) (fun x169 =>
                    idx x64 x169.1 (fun xqr5o8_1 =>
                      some (x22.1, x22.2.1, x145, xqr5o8_1)))))))))
noncomputable def F_impl_inRange (a0 : Int) (a1 : Int) (a2 : Int) : Option Bool :=
  if a1 ≤ a0 then
    some (decide (a0 ≤ a2))
  else
    some false
noncomputable def F_impl_increasing_l1 (a0 : (List Int)) (a1 : Int) (i49 : Int) : Option (Int ⊕ (Unit ⊕ Bool)) :=
  if i49 < (a0.length : Int) then
    idx a0 i49 (fun x108 =>
      ck (a1 - 1) (fun _ =>
        cal (F_impl_inRange x108 0 (a1 - 1)) (fun x122 =>
          if ¬ (x122 = true) then
            some (.inr (.inr false))
          else
            if 0 < i49 then
              ck (i49 - 1) (fun _ =>
                idx a0 (i49 - 1) (fun x134 =>
                  if x108 ≤ x134 then
                    some (.inr (.inr false))
                  else
                    ck (i49 + 1) (fun _ =>
                      some (.inl (i49 + 1)))))
            else
              ck (i49 + 1) (fun _ =>
                some (.inl (i49 + 1))))))
  else
    some (.inr (.inl ()))
noncomputable def F_impl_increasing_k2   : Option Bool :=
  some true
noncomputable def F_impl_increasing (a0 : (List Int)) (a1 : Int) : Option Bool :=
  bnd (lp (fun s => F_impl_increasing_l1 a0 a1 s) 0) (fun j => F_impl_increasing_k2 )
noncomputable def F_slices_Index_int64_l1 (a0 : (List Int)) (a1 : Int) (i23 : Int) : Option (Int ⊕ (Unit ⊕ Int)) :=
  if i23 < (a0.length : Int) then
    idx a0 i23 (fun x56 =>
      if a1 = x56 then
        some (.inr (.inr i23))
      else
        ck (i23 + 1) (fun _ =>
          some (.inl (i23 + 1))))
  else
    some (.inr (.inl ()))
noncomputable def F_slices_Index_int64_k2   : Option Int :=
  some (-1)
noncomputable def F_slices_Index_int64 (a0 : (List Int)) (a1 : Int) : Option Int :=
  bnd (lp (fun s => F_slices_Index_int64_l1 a0 a1 s) 0) (fun j => F_slices_Index_int64_k2 )
noncomputable def F_slices_Contains_int64 (a0 : (List Int)) (a1 : Int) : Option Bool :=
  cal (F_slices_Index_int64 a0 a1) (fun x1 =>
    some (decide (0 ≤ x1)))
noncomputable def F_impl_GraphOk_l1 (a0_0 : (List (List Int))) (i56 : Int) : Option (Int ⊕ (Unit ⊕ Bool)) :=
  if i56 < (a0_0.length : Int) then
    idx a0_0 i56 (fun x108 =>
      cal (F_impl_increasing x108 (a0_0.length : Int)) (fun x122 =>
        if ¬ (x122 = true) then
          some (.inr (.inr false))
        else
          cal (F_slices_Contains_int64 x108 i56) (fun x131 =>
            if x131 = true then
              some (.inr (.inr false))
            else
              ck (i56 + 1) (fun _ =>
                some (.inl (i56 + 1))))))
  else
    some (.inr (.inl ()))
noncomputable def F_impl_GraphOk_l4 (a0_0 : (List (List Int))) (i311 : Int) (x487 : (List Int)) (i549 : Int) : Option (Int ⊕ (Unit ⊕ (Int ⊕ (Unit ⊕ Bool)))) :=
  if i549 < (x487.length : Int) then
    idx x487 i549 (fun x606 =>
      idx a0_0 x606 (fun x618 =>
        cal (F_slices_Contains_int64 x618 i311) (fun x632 =>
          if ¬ (x632 = true) then
            some (.inr (.inr (.inr (.inr false))))
          else
            ck (i549 + 1) (fun _ =>
              some (.inl (i549 + 1))))))
  else
    some (.inr (.inl ()))
noncomputable def F_impl_GraphOk_k5 (i311 : Int)  : Option (Int ⊕ (Unit ⊕ Bool)) :=
  ck (i311 + 1) (fun _ =>
    some (.inl (i311 + 1)))
noncomputable def F_impl_GraphOk_l3 (a0_0 : (List (List Int))) (i311 : Int) : Option (Int ⊕ (Unit ⊕ Bool)) :=
  if i311 < (a0_0.length : Int) then
    idx a0_0 i311 (fun x487 =>
      bnd (lp (fun s => F_impl_GraphOk_l4 a0_0 i311 x487 s) 0) (fun j => F_impl_GraphOk_k5 i311 ))
  else
    some (.inr (.inl ()))
noncomputable def F_impl_GraphOk_k6   : Option Bool :=
  some true
noncomputable def F_impl_GraphOk_k2 (a0_0 : (List (List Int)))  : Option Bool :=
  bnd (lp (fun s => F_impl_GraphOk_l3 a0_0 s) 0) (fun j => F_impl_GraphOk_k6 )
noncomputable def F_impl_GraphOk (a0_0 : (List (List Int))) : Option Bool :=
  if (a0_0.length : Int) < 1 then
    some false
  else
    if 16 < (a0_0.length : Int) then
      some false
    else
      bnd (lp (fun s => F_impl_GraphOk_l1 a0_0 s) 0) (fun j => F_impl_GraphOk_k2 a0_0 )
noncomputable def F_slices_Values_int64 (a0 : (List Int)) : Option (List Int) := some a0
noncomputable def F_slices_Collect_int64 (a0 : (List Int)) : Option (List Int) := if a0.length ≤ 1099511627776 then some a0 else none
noncomputable def F_slices_Sort_int64 (a0 : (List Int)) : Option (List Int) := if a0.length ≤ 1099511627776 then some (a0.mergeSort fun x y => decide (x ≤ y)) else none
noncomputable def F_slices_Sorted_int64 (a0 : (List Int)) : Option (List Int) :=
  cal (F_slices_Collect_int64 a0) (fun x1 =>
    cal (F_slices_Sort_int64 x1) (fun x12 =>
      some x12))
noncomputable def F_impl_OrderOk (a0_0 : (List (List Int))) (a1 : (List Int)) : Option Bool :=
  cal (F_impl_GraphOk a0_0) (fun x9 =>
    if ¬ (x9 = true) then
      some false
    else
      if (a1.length : Int) ≠ (a0_0.length : Int) then
        some false
      else
        cal (F_slices_Values_int64 a1) (fun x17 =>
          cal (F_slices_Sorted_int64 x17) (fun x24 =>
            cal (F_impl_increasing x24 (a0_0.length : Int)) (fun x40 =>
              some x40))))
noncomputable def F_impl_RingOk (a0_0 : (List (List Int))) (a1 : (List Int)) : Option Bool :=
  cal (F_impl_OrderOk a0_0 a1) (fun x9 =>
    if x9 = true then
      idx a1 0 (fun x16 =>
        some (decide (x16 = 0)))
    else
      some false)
noncomputable def F_impl_isVertex (a0_0 : (List (List Int))) (a1 : Int) : Option Bool :=
  cal (F_impl_GraphOk a0_0) (fun x9 =>
    if x9 = true then
      ck ((a0_0.length : Int) - 1) (fun _ =>
        cal (F_impl_inRange a1 0 ((a0_0.length : Int) - 1)) (fun x18 =>
          some x18))
    else
      some false)
noncomputable def F_impl_EdgeIn (a0_0 : (List (List Int))) (a1 : Int) (a2 : Int) : Option Bool :=
  cal (F_impl_isVertex a0_0 a1) (fun x9 =>
    if x9 = true then
      idx a0_0 a1 (fun x16 =>
        cal (F_slices_Contains_int64 x16 a2) (fun x30 =>
          some x30))
    else
      some false)
noncomputable def F_impl_isEdge (a0_0 : (List (List Int))) (a1 : (List Int)) : Option Bool :=
  if (a1.length : Int) = 2 then
    idx a1 0 (fun x10 =>
      idx a1 1 (fun x22 =>
        if x10 < x22 then
          idx a1 0 (fun x35 =>
            idx a1 1 (fun x47 =>
              cal (F_impl_EdgeIn a0_0 x35 x47) (fun x61 =>
                some x61)))
        else
          some false))
  else
    some false
noncomputable def F_impl_placesIn_l1 (a0 : (List Int)) (l123 : (List Int)) (i126 : Int) : Option (((List Int) × Int) ⊕ ((List Int) ⊕ ((List Int) × Bool))) :=
  if i126 < (a0.length : Int) then
    idx a0 i126 (fun x188 =>
      idx l123 x188 (fun x200 =>
        ck (i126 + 1) (fun _ =>
          some (.inl ((l123.set ((x188 : Int).toNat) i126), i126 + 1)))))
  else
    some (.inr (.inl l123))
noncomputable def F_impl_placesIn_k2  (l175 : (List Int)) : Option ((List Int) × Bool) :=
  some (l175, true)
noncomputable def F_impl_placesIn (a0 : (List Int)) : Option ((List Int) × Bool) :=
  if (a0.length : Int) < 1 then
    some (([] : (List Int)), false)
  else
    if 16 < (a0.length : Int) then
      some (([] : (List Int)), false)
    else
      cal (F_slices_Values_int64 a0) (fun x33 =>
        cal (F_slices_Sorted_int64 x33) (fun x40 =>
          cal (F_impl_increasing x40 (a0.length : Int)) (fun x54 =>
            if ¬ (x54 = true) then
              some (([] : (List Int)), false)
            else
              mkS (a0.length : Int) (0 : Int) (fun _ =>
                bnd (lp (fun s => F_impl_placesIn_l1 a0 s.1 s.2) ((List.replicate ((a0.length : Int) : Int).toNat (0 : Int)), 0)) (fun j => F_impl_placesIn_k2 j)))))
noncomputable def F_impl_alternate_1 (a0 : Int) (y0 : Int) (y1 : (List Int)) (y2 : Int) : Option Bool :=
  idx y1 a0 (fun x1 =>
    if y0 < x1 then
      idx y1 a0 (fun x14 =>
        some (decide (x14 < y2)))
    else
      some false)
noncomputable def F_impl_alternate (a0 : (List Int)) (a1 : (List Int)) (a2 : (List Int)) : Option Bool :=
  idx a1 0 (fun x10 =>
    idx a0 x10 (fun x22 =>
      idx a1 1 (fun x34 =>
        idx a0 x34 (fun x46 =>
          idx a1 0 (fun x58 =>
            idx a0 x58 (fun x70 =>
              idx a1 1 (fun x82 =>
                idx a0 x82 (fun x94 =>
                  idx a1 0 (fun x109 =>
                    idx a2 0 (fun x121 =>
                      if x109 ≠ x121 then
                        idx a1 0 (fun x134 =>
                          idx a2 1 (fun x146 =>
                            if x134 ≠ x146 then
                              idx a1 1 (fun x159 =>
                                idx a2 0 (fun x171 =>
                                  if x159 ≠ x171 then
                                    idx a1 1 (fun x184 =>
                                      idx a2 1 (fun x196 =>
                                        if x184 ≠ x196 then
                                          idx a2 0 (fun x212 =>
                                            cal (F_impl_alternate_1 x212 (min x22 x46) a0 (max x70 x94)) (fun x226 =>
                                              idx a2 1 (fun x228 =>
                                                cal (F_impl_alternate_1 x228 (min x22 x46) a0 (max x70 x94)) (fun x242 =>
                                                  some (x226 != x242)))))
                                        else
                                          some false))
                                  else
                                    some false))
                            else
                              some false))
                      else
                        some false))))))))))
noncomputable def F_impl_ChordsCross (a0_0 : (List (List Int))) (a1 : (List Int)) (a2 : (List Int)) (a3 : (List Int)) : Option Bool :=
  cal (F_impl_RingOk a0_0 a1) (fun x9 =>
    if ¬ (x9 = true) then
      some false
    else
      cal (F_impl_isEdge a0_0 a2) (fun x16 =>
        if ¬ (x16 = true) then
          some false
        else
          cal (F_impl_isEdge a0_0 a3) (fun x23 =>
            if ¬ (x23 = true) then
              some false
            else
              cal (F_impl_placesIn a1) (fun x30 =>
                cal (F_impl_alternate x30.1 a2 a3) (fun x46 =>
                  some x46)))))
noncomputable def F_spec_RingOk (a0_0 : (List (List Int))) (a1 : (List Int)) : Option Bool :=
  cal (F_spec_OrderOk a0_0 a1) (fun x9 =>
    if x9 = true then
      idx a1 0 (fun x16 =>
        some (decide (x16 = 0)))
    else
      some false)
noncomputable def F_spec_l24Edge (a0_0 : (List (List Int))) (a1 : (List Int)) : Option Bool :=
  if (a1.length : Int) = 2 then
    idx a1 0 (fun x10 =>
      idx a1 1 (fun x22 =>
        if x10 < x22 then
          idx a1 0 (fun x35 =>
            idx a1 1 (fun x47 =>
              cal (F_spec_EdgeIn a0_0 x35 x47) (fun x61 =>
                some x61)))
        else
          some false))
  else
    some false
noncomputable def F_spec_ChordsCross (a0_0 : (List (List Int))) (a1 : (List Int)) (a2 : (List Int)) (a3 : (List Int)) : Option Bool :=
  cal (F_spec_RingOk a0_0 a1) (fun x9 =>
    if x9 = true then
      cal (F_spec_l24Edge a0_0 a2) (fun x16 =>
        if x16 = true then
          cal (F_spec_l24Edge a0_0 a3) (fun x23 =>
            if x23 = true then
              cal (F_spec_l24Places a1) (fun x30 =>
                cal (F_spec_l24Cross x30 a2 a3) (fun x46 =>
                  some x46))
            else
              some false)
        else
          some false)
    else
      some false)
noncomputable def F_impl_edgesOf_l2 (i302 : Int) (x589 : (List Int)) (l687 : (List (List Int))) (i690 : Int) : Option (((List (List Int)) × Int) ⊕ ((List (List Int)) ⊕ (((List (List Int)) × Int) ⊕ ((List (List Int)) ⊕ (List (List Int)))))) :=
  if i690 < (x589.length : Int) then
    idx x589 i690 (fun x782 =>
      if i302 < x782 then
        app l687 ([[i302, x782]]) (fun _ =>
          ck (i690 + 1) (fun _ =>
            some (.inl ((l687 ++ ([[i302, x782]])), i690 + 1))))
      else
        ck (i690 + 1) (fun _ =>
          some (.inl (l687, i690 + 1))))
  else
    some (.inr (.inl l687))
noncomputable def F_impl_edgesOf_k3 (i302 : Int) (l769 : (List (List Int))) : Option (((List (List Int)) × Int) ⊕ ((List (List Int)) ⊕ (List (List Int)))) :=
  ck (i302 + 1) (fun _ =>
    some (.inl (l769, i302 + 1)))
noncomputable def F_impl_edgesOf_l1 (a0_0 : (List (List Int))) (l299 : (List (List Int))) (i302 : Int) : Option (((List (List Int)) × Int) ⊕ ((List (List Int)) ⊕ (List (List Int)))) :=
  if i302 < (a0_0.length : Int) then
    idx a0_0 i302 (fun x589 =>
      bnd (lp (fun s => F_impl_edgesOf_l2 i302 x589 s.1 s.2) (l299, 0)) (fun j => F_impl_edgesOf_k3 i302 j))
  else
    some (.inr (.inl l299))
noncomputable def F_impl_edgesOf_k4  (l576 : (List (List Int))) : Option (List (List Int)) :=
  some l576
noncomputable def F_impl_edgesOf (a0_0 : (List (List Int))) : Option (List (List Int)) :=
  bnd (lp (fun s => F_impl_edgesOf_l1 a0_0 s.1 s.2) (([] : (List (List Int))), 0)) (fun j => F_impl_edgesOf_k4 j)
noncomputable def F_impl_crossingsOn_l2 (a0 : (List (List Int))) (x1 : ((List Int) × Bool)) (i195 : Int) (x381 : (List Int)) (i450 : Int) (i452 : Int) : Option ((Int × Int) ⊕ (Int ⊕ ((Int × Int) ⊕ (Int ⊕ Int)))) :=
  if i452 < (((a0.drop (0 : Int).toNat).take ((i195 : Int).toNat - (0 : Int).toNat)).length : Int) then
    idx ((a0.drop (0 : Int).toNat).take ((i195 : Int).toNat - (0 : Int).toNat)) i452 (fun x510 =>
      cal (F_impl_alternate x1.1 x381 x510) (fun x527 =>
        if x527 = true then
          ck (i450 + 1) (fun _ =>
            ck (i452 + 1) (fun _ =>
              some (.inl (i450 + 1, i452 + 1))))
        else
          ck (i452 + 1) (fun _ =>
            some (.inl (i450, i452 + 1)))))
  else
    some (.inr (.inl i450))
noncomputable def F_impl_crossingsOn_k3 (i195 : Int) (i498 : Int) : Option ((Int × Int) ⊕ (Int ⊕ Int)) :=
  ck (i195 + 1) (fun _ =>
    some (.inl (i498, i195 + 1)))
noncomputable def F_impl_crossingsOn_l1 (a0 : (List (List Int))) (x1 : ((List Int) × Bool)) (i193 : Int) (i195 : Int) : Option ((Int × Int) ⊕ (Int ⊕ Int)) :=
  if i195 < (a0.length : Int) then
    idx a0 i195 (fun x381 =>
      slc a0 0 i195 (fun _ =>
        bnd (lp (fun s => F_impl_crossingsOn_l2 a0 x1 i195 x381 s.1 s.2) (i193, 0)) (fun j => F_impl_crossingsOn_k3 i195 j)))
  else
    some (.inr (.inl i193))
noncomputable def F_impl_crossingsOn_k4  (i369 : Int) : Option Int :=
  some i369
noncomputable def F_impl_crossingsOn (a0 : (List (List Int))) (a1 : (List Int)) : Option Int :=
  cal (F_impl_placesIn a1) (fun x1 =>
    bnd (lp (fun s => F_impl_crossingsOn_l1 a0 x1 s.1 s.2) (0, 0)) (fun j => F_impl_crossingsOn_k4 j))
noncomputable def F_impl_CrossingsOf (a0_0 : (List (List Int))) (a1 : (List Int)) : Option Int :=
  cal (F_impl_RingOk a0_0 a1) (fun x9 =>
    if ¬ (x9 = true) then
      some (-1)
    else
      cal (F_impl_edgesOf a0_0) (fun x16 =>
        cal (F_impl_crossingsOn x16 a1) (fun x37 =>
          some x37)))
noncomputable def F_impl_isSmall (a0_0 : (List (List Int))) : Option Bool :=
  cal (F_impl_GraphOk a0_0) (fun x9 =>
    if x9 = true then
      some (decide ((a0_0.length : Int) ≤ 8))
    else
      some false)
noncomputable def F_impl_firstOf (a0 : Int) : Option (BitVec 32) :=
  grd ((0 : Int) ≤ a0) (
    some (((1#32) <<< (a0 : Int).toNat) - (1#32)))
noncomputable def F_math_bits_TrailingZeros32 (a0 : BitVec 32) : Option Int :=
  if a0 = (0#32) then
    some 32
  else
    idx deBruijn32 (BitVec.toNat (((a0 &&& (-a0)) * (125613361#32)) >>> (27 : Int).toNat) : Int) (fun x2 =>
      some (BitVec.toNat x2 : Int))
noncomputable def F_impl_vset_least (a0 : BitVec 32) : Option Int :=
  cal (F_math_bits_TrailingZeros32 a0) (fun x1 =>
    some x1)
noncomputable def F_impl_vset_list_l1  (u55 : BitVec 32) (l59 : (List Int)) : Option (((BitVec 32) × (List Int)) ⊕ ((List Int) ⊕ (List Int))) :=
  if u55 ≠ (0#32) then
    cal (F_impl_vset_least u55) (fun x119 =>
      app l59 ([x119]) (fun _ =>
        some (.inl (u55 &&& (u55 - (1#32)), (l59 ++ ([x119]))))))
  else
    some (.inr (.inl l59))
noncomputable def F_impl_vset_list_k2  (l106 : (List Int)) : Option (List Int) :=
  some l106
noncomputable def F_impl_vset_list (a0 : BitVec 32) : Option (List Int) :=
  bnd (lp (fun s => F_impl_vset_list_l1 s.1 s.2) (a0, ([] : (List Int)))) (fun j => F_impl_vset_list_k2 j)
noncomputable def F_slices_Clone_int64 (a0 : (List Int)) : Option (List Int) :=
  app ([] : (List Int)) a0 (fun _ =>
    some (([] : (List Int)) ++ a0))
noncomputable def F_impl_one (a0 : Int) : Option (BitVec 32) :=
  grd ((0 : Int) ≤ a0) (
    some ((1#32) <<< (a0 : Int).toNat))
noncomputable def F_impl_leastRing_1 (es : List (List Int)) (a0 : List Int) (s : List Int × Int) : Option (Bool × List Int × Int) :=
  cal (F_impl_crossingsOn es a0) (fun x1 =>
    if s.2 < 0 then
      cal (F_slices_Clone_int64 a0) (fun x9 =>
        some (decide (x1 = 0), x9, x1))
    else
      if x1 < s.2 then
        cal (F_slices_Clone_int64 a0) (fun x21 =>
          some (decide (x1 = 0), x21, x1))
      else
        some (decide (s.2 = 0), s))
noncomputable def F_impl_rings_l1 {S : Type} (a0 : Int) (a1 : (List Int)) (a2 : BitVec 32) (rc : Int → (List Int) → (BitVec 32) → S → Option (Bool × S)) (x14 : (List Int)) (s : S) (i112 : Int) : Option ((S × Int) ⊕ (S ⊕ (Bool × S))) :=
  if i112 < (x14.length : Int) then
    idx x14 i112 (fun x204 =>
      cal (F_slices_Clone_int64 a1) (fun x216 =>
        app x216 ([x204]) (fun _ =>
          cal (F_impl_one x204) (fun x256 =>
            cal (rc a0 (x216 ++ ([x204])) (a2 ||| x256) s) (fun x266 =>
              if x266.1 = true then
                some (.inr (.inr (true, x266.2)))
              else
                ck (i112 + 1) (fun _ =>
                  some (.inl (x266.2, i112 + 1))))))))
  else
    some (.inr (.inl s))
noncomputable def F_impl_rings_k2 {S : Type} (s : S) : Option (Bool × S) :=
  some (false, s)
noncomputable def F_impl_rings_body {S : Type} (a3 : (List Int) → S → Option (Bool × S)) (rc : Int → (List Int) → (BitVec 32) → S → Option (Bool × S)) (a0 : Int) (a1 : (List Int)) (a2 : BitVec 32) (s : S) : Option (Bool × S) :=
  if (a1.length : Int) = a0 then
    a3 a1 s
  else
    cal (F_impl_firstOf a0) (fun x8 =>
      cal (F_impl_vset_list (x8 &&& ~~~a2)) (fun x14 =>
        bnd (lp (fun q => F_impl_rings_l1 a0 a1 a2 rc x14 q.1 q.2) (s, 0)) (fun j => F_impl_rings_k2 j)))
noncomputable def F_impl_rings_B {S : Type} (a3 : (List Int) → S → Option (Bool × S)) (rc : (Int × (List Int) × (BitVec 32) × S) → Option (Bool × S)) (a : Int × (List Int) × (BitVec 32) × S) : Option (Bool × S) :=
  F_impl_rings_body a3 (fun z0 z1 z2 z3 => rc (z0, z1, z2, z3)) a.1 a.2.1 a.2.2.1 a.2.2.2
noncomputable def F_impl_rings {S : Type} (a3 : (List Int) → S → Option (Bool × S)) (a0 : Int) (a1 : (List Int)) (a2 : BitVec 32) (s : S) : Option (Bool × S) := fixO (F_impl_rings_B a3) (a0, a1, a2, s)
noncomputable def F_impl_leastRing (a0_0 : (List (List Int))) : Option ((List Int) × Int) :=
  cal (F_impl_edgesOf a0_0) (fun x19 =>
    cal (F_impl_rings (F_impl_leastRing_1 x19) (a0_0.length : Int) ([0]) (1#32) (([] : List Int), (-1 : Int))) (fun x106 =>
      some x106.2))

noncomputable def F_impl_LeastCrossings (a0_0 : (List (List Int))) : Option ((List Int) × Int) :=
  cal (F_impl_isSmall a0_0) (fun x9 =>
    if ¬ (x9 = true) then
      some (([] : (List Int)), (-1))
    else
      cal (F_impl_leastRing a0_0) (fun x16 =>
        some (x16.1, x16.2)))
noncomputable def F_spec_LeastCrossings (a0_0 : (List (List Int))) : Option ((List Int) × Int) :=
  cal (F_spec_l26Small a0_0) (fun x9 =>
    if ¬ (x9 = true) then
      some (([] : (List Int)), (-1))
    else
      cal (F_spec_l24Least a0_0) (fun x30 =>
        some (x30.1, x30.2)))
noncomputable def F_spec_CrossingsOf (a0_0 : (List (List Int))) (a1 : (List Int)) : Option Int :=
  cal (F_spec_RingOk a0_0 a1) (fun x9 =>
    if ¬ (x9 = true) then
      some (-1)
    else
      cal (F_spec_l1Edges a0_0) (fun x16 =>
        cal (F_spec_l24Crossings x16 a1) (fun x37 =>
          some x37)))
noncomputable def F_laws_FnCrossings_l2 (x8 : ((List (List Int)) × ((List Int) × ((List Int) × (List Int))))) (i642 : Int) (l1208 : (List (List Int))) (i1211 : Int) (i1213 : Int) : Option (((List (List Int)) × Int × Int) ⊕ (((List (List Int)) × Int) ⊕ (((List (List Int)) × Int × Int) ⊕ (Int ⊕ Bool)))) :=
  if i1213 < i642 then
    idx l1208 i642 (fun x1367 =>
      idx l1208 i1213 (fun x1384 =>
        cal (F_impl_ChordsCross x8.1 x8.2.1 x1367 x1384) (fun x1403 =>
          if x1403 = true then
            ck (i1211 + 1) (fun _ =>
              ck (i1213 + 1) (fun _ =>
                some (.inl (l1208, i1211 + 1, i1213 + 1))))
          else
            ck (i1213 + 1) (fun _ =>
              some (.inl (l1208, i1211, i1213 + 1))))))
  else
    some (.inr (.inl (l1208, i1211)))
noncomputable def F_laws_FnCrossings_k3 (i642 : Int) (l1336 : (List (List Int))) (i1339 : Int) : Option (((List (List Int)) × Int × Int) ⊕ (Int ⊕ Bool)) :=
  ck (i642 + 1) (fun _ =>
    some (.inl (l1336, i1339, i642 + 1)))
noncomputable def F_laws_FnCrossings_l1 (x8 : ((List (List Int)) × ((List Int) × ((List Int) × (List Int))))) (l637 : (List (List Int))) (i640 : Int) (i642 : Int) : Option (((List (List Int)) × Int × Int) ⊕ (Int ⊕ Bool)) :=
  if i642 < (l637.length : Int) then
    bnd (lp (fun s => F_laws_FnCrossings_l2 x8 i642 s.1 s.2.1 s.2.2) (l637, i640, 0)) (fun j => F_laws_FnCrossings_k3 i642 j.1 j.2)
  else
    some (.inr (.inl i640))
noncomputable def F_laws_FnCrossings_k4 (x8 : ((List (List Int)) × ((List Int) × ((List Int) × (List Int))))) (x99 : Int) (x106 : ((List Int) × Int)) (i1055 : Int) : Option Bool :=
  if i1055 = x99 then
    if x106.2 ≤ x99 then
      cal (F_impl_CrossingsOf x8.1 x106.1) (fun x1422 =>
        some (decide (x1422 = x106.2)))
    else
      some false
  else
    some false
noncomputable def F_laws_FnCrossings (a0 : (List (BitVec 8))) : Option Bool :=
  cal (F_laws_big a0) (fun x1 =>
    if x1 = true then
      some true
    else
      cal (F_spec_DrawChordsCross a0) (fun x8 =>
        cal (F_impl_ChordsCross x8.1 x8.2.1 x8.2.2.1 x8.2.2.2) (fun x77 =>
          cal (F_spec_ChordsCross x8.1 x8.2.1 x8.2.2.1 x8.2.2.2) (fun x81 =>
            if (x77 != x81) = true then
              some false
            else
              cal (F_impl_ChordsCross x8.1 x8.2.1 x8.2.2.2 x8.2.2.1) (fun x89 =>
                cal (F_impl_ChordsCross x8.1 x8.2.1 x8.2.2.1 x8.2.2.2) (fun x93 =>
                  if (x89 != x93) = true then
                    some false
                  else
                    cal (F_impl_CrossingsOf x8.1 x8.2.1) (fun x99 =>
                      cal (F_impl_LeastCrossings x8.1) (fun x106 =>
                        cal (F_spec_LeastCrossings x8.1) (fun x124 =>
                          cal (F_spec_CrossingsOf x8.1 x8.2.1) (fun x148 =>
                            if x99 ≠ x148 then
                              some false
                            else
                              if x106.2 ≠ x124.2 then
                                some false
                              else
                                cal (F_spec_RingOk x8.1 x8.2.1) (fun x167 =>
                                  if ¬ (x167 = true) then
                                    if x99 = (-1) then
                                      some true
                                    else
                                      some (decide (x106.2 = (-1)))
                                  else
                                    if 8 < (x8.1.length : Int) then
                                      if x99 = (-1) then
                                        some true
                                      else
                                        some (decide (x106.2 = (-1)))
                                    else
                                      cal (F_spec_EdgesOf x8.1) (fun x177 =>
                                        bnd (lp (fun s => F_laws_FnCrossings_l1 x8 s.1 s.2.1 s.2.2) (x177, 0, 0)) (fun j => F_laws_FnCrossings_k4 x8 x99 x106 j)))))))))))))
end Go.Proofs.YtbefgidkaepmmaaGreatDoor
