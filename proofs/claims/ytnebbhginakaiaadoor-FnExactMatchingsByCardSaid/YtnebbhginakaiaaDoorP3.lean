/- Plain texts: TreeMI, TreeMR, LawNice. -/
import Derived.Test.YtnebbhginakaiaaDoorP2
import Derived.Test.YtnebbhginakaiaaDoorP1
/- What the run over tables finds of matchings: as many as the reference. -/
namespace Go.Proofs.YtnebbhginakaiaaDoor
section
variable {g : List (List Int)} {K V : List Int} {B C : List (List Int)}
structure TM (g : List (List Int)) (K V : List Int) (B C : List (List Int)) (j : Nat) (T : Tf (BitVec 32)) : Prop where
  fin : finT T
  ok : okT T
  supp : ∀ a n, T a = some n → ∃ f, valid 2 (B.getD j []) f ∧ a = keyU (B.getD j []) f
  val : ∀ f, valid 2 (B.getD j []) f → eqv ((T (keyU (B.getD j []) f)).getD 0) (mval g K V B C j f)
noncomputable abbrev mRu (g : List (List Int)) : Ru (BitVec 32) := mtRu (bvs (nb g))
theorem key_zero {b1 b2 : List Int} {v : Int} (hn : ∀ u ∈ b1 ++ b2, u.toNat ≠ v.toNat) {f : Nat → Nat} (h0 : f v.toNat = 0) : keyU (b1 ++ v :: b2) f = keyU (b1 ++ b2) f := by
  have := mks_more (f := f) hn 0
  rw [if_neg (by decide), show upd1 f v.toNat 0 = f by rw [← h0, upd_id]] at this
  unfold keyU; rw [this]
theorem key_one {b : List Int} {n : Nat} (hr : Rises b n) (h16 : n ≤ 16) {u : Int} (hu : u ∈ b) {f : Nat → Nat} (h0 : f u.toNat ≠ 1) : keyU b f ||| BitVec.ofNat 32 (2 ^ u.toNat) = keyU b (upd1 f u.toNat 1) := by
  have hnd := rises_nodup h16 hr
  obtain ⟨c1, c2, e⟩ := List.append_of_mem hu
  rw [e] at hnd ⊢
  have hn := nodup_split hnd
  have e1 : mks (c1 ++ u :: c2) f = mks (c1 ++ c2) f := by
    refine bits_ext fun j => ?_
    rw [mks_bit, mks_bit, decide_eq_decide]
    constructor
    · rintro ⟨x, hx, h1, h2⟩
      simp only [List.mem_append, List.mem_cons] at hx
      rcases hx with h | h | h
      · exact ⟨x, by simp [h], h1, h2⟩
      · subst h; exact absurd h1 h0
      · exact ⟨x, by simp [h], h1, h2⟩
    · rintro ⟨x, hx, h1, h2⟩
      exact ⟨x, by simp at hx ⊢; rcases hx with h | h; exact .inl h; exact .inr (.inr h), h1, h2⟩
  have e2 := mks_more (f := f) hn 1
  rw [if_pos rfl] at e2
  unfold keyU
  rw [e1, e2, BitVec.ofNat_or]
theorem sumAt_perm {κ : Type} [DecidableEq κ] {l l' : List (κ × Int)} (h : l.Perm l') (a : κ) : sumAt l a = sumAt l' a := by
  unfold sumAt
  induction h with
  | nil => rfl
  | cons x _ ih => simp only [List.map_cons, List.sum_cons]; rw [ih]
  | swap x y l => simp only [List.map_cons, List.sum_cons]; omega
  | trans _ _ h1 h2 => exact h1.trans h2
theorem picks_m : (mRu g).pick = pSum := rfl
noncomputable def mtMates (g : List (List Int)) (b : List Int) (v : Int) (f : Nat → Nat) : List Nat := els (sdiff (mk (g.getD v.toNat []) &&& mk b) (mks b f))
theorem mem_mtMates (hg : GOk g) {b : List Int} (hr : Rises b g.length) {v : Int} (h0 : 0 ≤ v) (h1 : v < g.length) {f : Nat → Nat} (hf : valid 2 b f) {u : Nat} : u ∈ mtMates g b v f ↔ (u : Int) ∈ b ∧ (u : Int) ∈ g.getD v.toNat [] ∧ f u = 0 := by
  have h16 := hg.n16
  have hrow := hg.rows v.toNat (by omega)
  have hlt : mk b < 2 ^ 16 := Nat.lt_of_lt_of_le hr.lt (Nat.pow_le_pow_right (by decide) h16)
  unfold mtMates
  rw [mem_els (sdiff_lt (Nat.lt_of_le_of_lt Nat.and_le_right hlt)), sdiff_bit, Nat.testBit_and, row_of hg h0 h1, Bool.and_eq_true, Bool.and_eq_true, hrow.1.mem_mk, hr.mem_mk, Bool.not_eq_true', mks_bit, decide_eq_false_iff_not]
  constructor
  · rintro ⟨⟨h1, h2⟩, h3⟩
    refine ⟨h2, h1, ?_⟩
    have hu := hf _ h2
    rw [Int.toNat_natCast] at hu
    have : ¬ f u = 1 := fun e => h3 ⟨(u : Int), h2, by rw [Int.toNat_natCast]; exact e, Int.toNat_natCast u⟩
    omega
  · rintro ⟨h1, h2, h3⟩
    refine ⟨⟨h2, h1⟩, ?_⟩
    rintro ⟨x, hx, h4, h5⟩
    rw [h5, h3] at h4; cases h4
noncomputable def gives (g : List (List Int)) (b : List Int) (v : Int) (f : Nat → Nat) (n : Int) : List (BitVec 32 × Int) := (keyU b f, n) :: (if f v.toNat = 0 then (mtMates g b v f).map fun u => (keyU b (upd1 f u 1), n) else [])
theorem put_is {b : List Int} {N : Nat} (hr : Rises b N) (h16 : N ≤ 16) {f : Nat → Nat} (hf : valid 2 b f) {n : Int} : ∀ (us done : List Nat) (T : Tf (BitVec 32)), (done ++ us).Nodup → (∀ u ∈ done ++ us, (u : Int) ∈ b ∧ f u = 0) → IsL ((keyU b f, n) :: done.map fun u => (keyU b (upd1 f u 1), n)) T →
    ∃ T', mtPut (keyU b f) n (ints us) T = some T' ∧ IsL ((keyU b f, n) :: (done ++ us).map fun u => (keyU b (upd1 f u 1), n)) T'
  | [], done, T, _, _, hT => ⟨T, rfl, by rw [List.append_nil]; exact hT⟩
  | u :: us, done, T, hnd, hm, hT => by
    obtain ⟨hub, hu0⟩ := hm u (by simp)
    have hu := hr.mem hub
    have hvalid : ∀ w : Nat, valid 2 b (upd1 f w 1) := fun w x hx => by
      unfold upd1; split
      · decide
      · exact hf x hx
    have hkey : keyU b f ||| BitVec.ofNat 32 (2 ^ u) = keyU b (upd1 f u 1) := by
      have := key_one hr h16 hub (f := f) (by rw [Int.toNat_natCast]; omega)
      rwa [Int.toNat_natCast] at this
    have hnew : T (keyU b (upd1 f u 1)) = none := by
      cases hq : T (keyU b (upd1 f u 1)) with
      | none => rfl
      | some m =>
        exfalso
        have hmem := (hT.mem _ _).1 hq
        rcases List.mem_cons.1 hmem with e | e
        · have e1 := (keyU_same h16 hr (hvalid u) hf).1 (congrArg Prod.fst e) (u : Int) hub
          rw [Int.toNat_natCast, upd_at, hu0] at e1; cases e1
        · obtain ⟨w, hw, e⟩ := List.mem_map.1 e
          have e1 := (keyU_same h16 hr (hvalid w) (hvalid u)).1 (congrArg Prod.fst e) (u : Int) hub
          rw [Int.toNat_natCast, upd_at] at e1
          have hne : u ≠ w := fun h => by
            rw [List.nodup_append] at hnd
            exact hnd.2.2 w hw u (by simp) h.symm
          rw [upd_off _ _ hne, hu0] at e1; cases e1
    obtain ⟨T', h1, h2⟩ := put_is hr h16 hf us (done ++ [u]) (putT T (keyU b (upd1 f u 1)) n) (by rw [List.append_assoc]; exact hnd) (by rw [List.append_assoc]; exact hm) (by
      have := hT.push (n := n) hnew
      rw [List.map_append]; simpa using this)
    refine ⟨T', ?_, by rw [List.append_assoc] at h2; exact h2⟩
    show cal (F_impl_one (u : Int)) _ = _
    rw [cal_of (one_eq (by omega)), hkey]
    exact h1
theorem m_drop (hg : GOk g) {b1 b2 : List Int} {v : Int} {f : Nat → Nat} {mb : BitVec 32} {n : Int} (hrk : Rises (b1 ++ v :: b2) g.length) (hr : Rises (b1 ++ b2) g.length) (hmb : F_impl_maskOf (b1 ++ b2) = some mb) (hf : valid 2 (b1 ++ v :: b2) f) :
    ∃ T, (mRu g).drop (keyU (b1 ++ v :: b2) f) v mb n = some T ∧ IsL (gives g (b1 ++ b2) v f n) T := by
  have h16 := hg.n16
  have hv := hrk.mem (x := v) (by simp)
  have hnd := nodup_split (rises_nodup h16 hrk)
  have e0 : ((v.toNat : Nat) : Int) = v := by omega
  have hfb : valid 2 (b1 ++ b2) f := valid_less hf
  have hmbe : mb = BitVec.ofNat 32 (mk (b1 ++ b2)) := by
    have := maskOf_eq (s := b1 ++ b2) (fun x hx => by have := hr.mem hx; omega) (by have := hr.len16 h16; omega)
    rw [this] at hmb; exact (Option.some.inj hmb).symm
  have hrow : (nb g)[v.toNat]'(by rw [nb_len]; omega) = mk (g.getD v.toNat []) := by rw [row_of hg hv.1 hv.2]; simp [nb]
  have hgr := hg.rows v.toNat (by omega)
  have hstart : IsL [(keyU (b1 ++ b2) f, n)] (putT (noT : Tf (BitVec 32)) (keyU (b1 ++ b2) f) n) := by have := (IsL.empty (κ := BitVec 32)).push (a := keyU (b1 ++ b2) f) (n := n) rfl; simpa using this
  show ∃ T, mtDrop (bvs (nb g)) (keyU (b1 ++ v :: b2) f) v mb n = some T ∧ _
  unfold mtDrop
  rw [show F_impl_one v = F_impl_one ((v.toNat : Nat) : Int) by rw [e0], cal_of (one_eq (by omega)), show F_impl_vset_has (keyU (b1 ++ v :: b2) f) v = F_impl_vset_has (keyU (b1 ++ v :: b2) f) ((v.toNat : Nat) : Int) by rw [e0]]
  have hh : F_impl_vset_has (keyU (b1 ++ v :: b2) f) ((v.toNat : Nat) : Int) = some (decide (f v.toNat = 1)) := by rw [keyU, has_eq (mks_32 h16 hrk f) (by omega), mks_has hnd]
  have hless : keyU (b1 ++ v :: b2) f &&& ~~~ BitVec.ofNat 32 (2 ^ v.toNat) = keyU (b1 ++ b2) f := by unfold keyU; rw [bv_andn (mks_32 h16 hrk f), mks_less hnd]
  rw [cal_of hh, hless]
  have hfv := hf v (by simp)
  unfold gives
  by_cases c : f v.toNat = 0
  · have hkz := key_zero hnd c
    have hlist : (BitVec.ofNat 32 (mk (g.getD v.toNat [])) &&& mb) &&& ~~~ keyU (b1 ++ v :: b2) f = BitVec.ofNat 32 (sdiff (mk (g.getD v.toNat []) &&& mk (b1 ++ b2)) (mks (b1 ++ b2) f)) := by
      have hlt : mk (b1 ++ b2) < 2 ^ 32 := Nat.lt_of_lt_of_le hr.lt (Nat.pow_le_pow_right (by decide) (by omega))
      rw [hmbe, bv_and, hkz, keyU, bv_andn (Nat.lt_of_le_of_lt Nat.and_le_right hlt)]
    have hlt16 : sdiff (mk (g.getD v.toNat []) &&& mk (b1 ++ b2)) (mks (b1 ++ b2) f) < 2 ^ 16 := sdiff_lt (Nat.lt_of_le_of_lt Nat.and_le_right (Nat.lt_of_lt_of_le hr.lt (Nat.pow_le_pow_right (by decide) h16)))
    rw [if_pos (by simp [c]), if_pos c, show idx (bvs (nb g)) v = idx (bvs (nb g)) ((v.toNat : Nat) : Int) by rw [e0], idx_bvs (by rw [nb_len]; omega), hrow, hlist, cal_of (list_eq hlt16), hkz]
    exact put_is hr h16 hfb (mtMates g (b1 ++ b2) v f) [] _ (by rw [List.nil_append]; exact els_nodup _) (fun u hu => by
      have := (mem_mtMates hg hr hv.1 hv.2 hfb).1 (by simpa using hu); exact ⟨this.1, this.2.2⟩) hstart
  · rw [if_neg (by simp; omega), if_neg c]
    exact ⟨_, rfl, hstart⟩
theorem sum_filter {α : Type} (p : α → Bool) (F : α → Int) : ∀ (l : List α), (l.map fun u => if p u = true then F u else 0).sum = ((l.filter p).map F).sum
  | [] => rfl
  | x :: l => by
    rw [List.map_cons, List.sum_cons, sum_filter p F l]
    by_cases c : p x = true
    · rw [if_pos c, List.filter_cons_of_pos c, List.map_cons, List.sum_cons]
    · rw [if_neg c, List.filter_cons_of_neg c]; omega
theorem sumAt_sing2 {κ : Type} [DecidableEq κ] (a a' : κ) (n : Int) : sumAt [(a, n)] a' = if a = a' then n else 0 := by simp [sumAt]
theorem sumAt_cons {κ : Type} [DecidableEq κ] (p : κ × Int) (l : List (κ × Int)) (a : κ) : sumAt (p :: l) a = (if p.1 = a then p.2 else 0) + sumAt l a := rfl
theorem nodeM_add (h : NiceIs g K V B C) {i j : Nat} {b1 b2 : List Int} {T : Tf (BitVec 32)} {mb : BitVec 32} (hi : i < K.length) (hk : K.getD i 0 = 2) (hj : j < i) (hc : C.getD i [] = [(j : Int)]) (hb : B.getD i [] = b1 ++ V.getD i 0 :: b2) (hbk : B.getD j [] = b1 ++ b2)
    (hT : TM g K V B C j T) : ∃ T', gatF (mRu g) T (cAdd (mRu g) (V.getD i 0) mb) = some T' ∧ TM g K V B C i T' := by
  have h16 := h.1.n16
  have hr := (h.bag hi).2
  have hrk := (h.bag (i := j) (by omega)).2
  have hnd := nodup_split (by rw [← hb]; exact h.nodup hi)
  rw [hb] at hr; rw [hbk] at hrk
  have hadd : ∀ p : BitVec 32 × Int, cAdd (mRu g) (V.getD i 0) mb p = some [p] := fun p => rfl
  have hsupp : ∀ a n, T a = some n → ∃ f, valid 2 (b1 ++ b2) f ∧ a = keyU (b1 ++ b2) f := fun a n ha => by have := hT.supp a n ha; rwa [hbk] at this
  have hup : ∀ {f : Nat → Nat}, valid 2 (b1 ++ b2) f → valid 2 (b1 ++ V.getD i 0 :: b2) (upd1 f (V.getD i 0).toNat 0) ∧ keyU (b1 ++ V.getD i 0 :: b2) (upd1 f (V.getD i 0).toNat 0) = keyU (b1 ++ b2) f := fun {f} hf =>
    ⟨valid_more hf (by decide), by rw [key_zero hnd (upd_at _ _ _)]; unfold keyU; rw [mks_congr fun u hu => upd_off _ _ (hnd u hu)]⟩
  obtain ⟨T', hT', hfin, hs, hok, hsum⟩ := gatF_sum picks_m hT.fin (fun p => [p]) (fun a n _ => hadd (a, n))
  refine ⟨T', hT', hfin, hok fun s n hn p hp => ?_, fun a n ha => ?_, fun f hf => ?_⟩
  · rw [List.mem_singleton] at hp; subst hp; exact hT.ok _ _ hn
  · obtain ⟨s, m, m', hsm, hm⟩ := hs a (by rw [ha]; simp)
    rw [List.mem_singleton] at hm
    obtain ⟨f, hf, rfl⟩ := hsupp s m hsm
    exact ⟨_, by rw [hb]; exact (hup hf).1, by rw [hb, (hup hf).2]; exact congrArg Prod.fst hm⟩
  · rw [hb] at hf ⊢
    have hfk : valid 2 (b1 ++ b2) f := valid_less hf
    have hfv := hf (V.getD i 0) (by simp)
    rw [mval_add hk hj hc]
    by_cases c : f (V.getD i 0).toNat = 0
    · rw [if_pos c, key_zero hnd c]
      refine (hsum _ [keyU (b1 ++ b2) f] (by simp) (fun s n hn hx => by rw [sumAt_sing2, if_neg (fun e => hx (by rw [e]; simp))])).trans ?_
      have hih := hT.val f (by rw [hbk]; exact hfk)
      rw [hbk] at hih
      refine eqv.trans ?_ hih
      simp only [List.map_cons, List.map_nil, List.sum_cons, List.sum_nil, Int.add_zero]
      cases hTk : T (keyU (b1 ++ b2) f) with
      | none => exact eqv.refl _
      | some n => simp only; rw [sumAt_sing2, if_pos rfl]; exact eqv.refl _
    · rw [if_neg c]
      refine (hsum _ [] (by simp) (fun s n hn hx => by
        obtain ⟨f', hf', rfl⟩ := hsupp s n hn
        rw [sumAt_sing2, if_neg]
        intro e
        rw [← (hup hf').2] at e
        have := (keyU_same h16 hr (hup hf').1 hf).1 e (V.getD i 0) (by simp)
        rw [upd_at] at this; exact c this.symm)).trans (eqv.refl _)
theorem nodeM_drop (h : NiceIs g K V B C) {i j : Nat} {b1 b2 : List Int} {T : Tf (BitVec 32)} {mb : BitVec 32} (hi : i < K.length) (hk : K.getD i 0 = 3) (hj : j < i) (hc : C.getD i [] = [(j : Int)]) (hbk : B.getD j [] = b1 ++ V.getD i 0 :: b2) (hb : B.getD i [] = b1 ++ b2)
    (hT : TM g K V B C j T) (hmb : F_impl_maskOf (B.getD i []) = some mb) : ∃ T', gatF (mRu g) T (cDrop (mRu g) (V.getD i 0) mb) = some T' ∧ TM g K V B C i T' := by
  have h16 := h.1.n16
  have hr := (h.bag hi).2
  have hrk := (h.bag (i := j) (by omega)).2
  have hnd := nodup_split (by rw [← hbk]; exact h.nodup (i := j) (by omega))
  have hndi := h.nodup hi
  rw [hb] at hr hmb hndi; rw [hbk] at hrk
  have hv := hrk.mem (x := V.getD i 0) (by simp)
  have hmv := mval_drop (g := g) (V := V) (B := B) hk hj hc
  generalize V.getD i 0 = v at *
  have hdrop : ∀ {f : Nat → Nat} (n : Int), valid 2 (b1 ++ v :: b2) f → ∃ l, cDrop (mRu g) (v) mb (keyU (b1 ++ v :: b2) f, n) = some l ∧ l.Perm (gives g (b1 ++ b2) (v) f n) := fun {f} n hf => by
    obtain ⟨T0, h1, h2⟩ := m_drop h.1 (n := n) hrk hr hmb hf
    exact ⟨lst T0, by unfold cDrop; rw [h1, Option.map_some], (lst_is h2).perm h2⟩
  have hsupp : ∀ a n, T a = some n → ∃ f, valid 2 (b1 ++ v :: b2) f ∧ a = keyU (b1 ++ v :: b2) f := fun a n ha => by have := hT.supp a n ha; rwa [hbk] at this
  have hG : ∀ a n, T a = some n → cDrop (mRu g) (v) mb (a, n) = some ((cDrop (mRu g) (v) mb (a, n)).getD []) := fun a n ha => by
    obtain ⟨f, hf, rfl⟩ := hsupp a n ha
    obtain ⟨l, hl, _⟩ := hdrop n hf
    rw [hl]; rfl
  have hgv : ∀ {f : Nat → Nat} (n : Int), valid 2 (b1 ++ v :: b2) f → ((cDrop (mRu g) (v) mb (keyU (b1 ++ v :: b2) f, n)).getD []).Perm (gives g (b1 ++ b2) (v) f n) := fun {f} n hf => by
    obtain ⟨l, hl, hp⟩ := hdrop n hf
    rw [hl]; exact hp
  have hvalid1 : ∀ {f : Nat → Nat} (w c : Nat), c < 2 → valid 2 (b1 ++ b2) f → valid 2 (b1 ++ b2) (upd1 f w c) := fun {f} w c hc2 hf x hx => by
    unfold upd1; split
    · exact hc2
    · exact hf x hx
  -- what is given, told as assignments
  have hmem : ∀ {f : Nat → Nat} {n : Int} {p : BitVec 32 × Int}, valid 2 (b1 ++ v :: b2) f → p ∈ gives g (b1 ++ b2) (v) f n → p.2 = n ∧ ∃ f', valid 2 (b1 ++ b2) f' ∧ p.1 = keyU (b1 ++ b2) f' := fun {f n p} hf hp => by
    unfold gives at hp
    rcases List.mem_cons.1 hp with e | e
    · subst e; exact ⟨rfl, f, valid_less hf, rfl⟩
    · split at e
      · obtain ⟨u, hu, rfl⟩ := List.mem_map.1 e
        exact ⟨rfl, _, hvalid1 u 1 (by decide) (valid_less hf), rfl⟩
      · cases e
  obtain ⟨T', hT', hfin, hs, hok, hsum⟩ := gatF_sum picks_m hT.fin (fun p => (cDrop (mRu g) (v) mb p).getD []) hG
  refine ⟨T', hT', hfin, hok fun s n hn p hp => ?_, fun a n ha => ?_, fun f hf => ?_⟩
  · obtain ⟨f, hf, rfl⟩ := hsupp s n hn
    rw [(hmem hf ((hgv n hf).mem_iff.1 hp)).1]; exact hT.ok _ _ hn
  · obtain ⟨s, m, m', hsm, hm⟩ := hs a (by rw [ha]; simp)
    obtain ⟨f, hf, rfl⟩ := hsupp s m hsm
    obtain ⟨_, f', hf', e⟩ := hmem hf ((hgv m hf).mem_iff.1 hm)
    exact ⟨f', by rw [hb]; exact hf', by rw [hb]; exact e⟩
  · rw [hb] at hf ⊢
    -- the states that give this one
    let us : List Int := (b1 ++ b2).filter fun u => decide (u ∈ g.getD v.toNat [] ∧ f u.toNat = 1)
    have hus : ∀ {u : Int}, u ∈ us ↔ u ∈ b1 ++ b2 ∧ u ∈ g.getD v.toNat [] ∧ f u.toNat = 1 := fun {u} => by
      show u ∈ List.filter _ _ ↔ _
      rw [List.mem_filter, decide_eq_true_iff]
    let fs : List (Nat → Nat) := upd1 f v.toNat 0 :: upd1 f v.toNat 1 :: us.map fun u => upd1 (upd1 f u.toNat 0) v.toNat 0
    have hfs : ∀ f' ∈ fs, valid 2 (b1 ++ v :: b2) f' := fun f' hf' => by
      rcases List.mem_cons.1 hf' with e | e
      · rw [e]; exact valid_more hf (by decide)
      · rcases List.mem_cons.1 e with e | e
        · rw [e]; exact valid_more hf (by decide)
        · obtain ⟨u, hu, rfl⟩ := List.mem_map.1 e
          exact valid_more (hvalid1 _ 0 (by decide) hf) (by decide)
    have hnb : (b1 ++ b2).Nodup := hndi.imp fun h e => h (by rw [e])
    -- what each of them gives
    have hval : ∀ {f' : Nat → Nat} (n : Int), valid 2 (b1 ++ v :: b2) f' → sumAt ((cDrop (mRu g) v mb (keyU (b1 ++ v :: b2) f', n)).getD []) (keyU (b1 ++ b2) f) = if (∀ u ∈ b1 ++ b2, f' u.toNat = f u.toNat) ∨ (f' v.toNat = 0 ∧ ∃ u ∈ us, ∀ x ∈ b1 ++ b2, f' x.toNat = upd1 f u.toNat 0 x.toNat) then n else 0 := fun {f'} n hf' => by
      have hf'b : valid 2 (b1 ++ b2) f' := valid_less hf'
      rw [sumAt_perm (hgv n hf')]
      unfold gives
      rw [sumAt_cons]
      have hk0 := keyU_same h16 hr hf'b hf
      -- the second part
      have h2 : sumAt (if f' v.toNat = 0 then (mtMates g (b1 ++ b2) v f').map (fun u => (keyU (b1 ++ b2) (upd1 f' u 1), n)) else []) (keyU (b1 ++ b2) f) = if f' v.toNat = 0 ∧ ∃ u ∈ us, ∀ x ∈ b1 ++ b2, f' x.toNat = upd1 f u.toNat 0 x.toNat then n else 0 := by
        by_cases c : f' v.toNat = 0
        · rw [if_pos c, sumAt_map]
          by_cases ce : ∃ u ∈ us, ∀ x ∈ b1 ++ b2, f' x.toNat = upd1 f u.toNat 0 x.toNat
          · rw [if_pos ⟨c, ce⟩]
            obtain ⟨u, hu, hx⟩ := ce
            obtain ⟨hub, hug, hu1⟩ := hus.1 hu
            have hu0 := hr.mem hub
            have eu : ((u.toNat : Nat) : Int) = u := by omega
            have hmu : u.toNat ∈ mtMates g (b1 ++ b2) v f' := (mem_mtMates h.1 hr hv.1 hv.2 hf'b).2 ⟨by rw [eu]; exact hub, by rw [eu]; exact hug, by rw [hx u hub, upd_at]⟩
            have hone : ∀ w ∈ mtMates g (b1 ++ b2) v f', (keyU (b1 ++ b2) (upd1 f' w 1) = keyU (b1 ++ b2) f ↔ w = u.toNat) := fun w hw => by
              obtain ⟨hwb, hwg, hw0⟩ := (mem_mtMates h.1 hr hv.1 hv.2 hf'b).1 hw
              rw [keyU_same h16 hr (hvalid1 _ 1 (by decide) hf'b) hf]
              constructor
              · intro hh
                refine Classical.byContradiction fun hne => ?_
                have h3 := hh u hub
                rw [upd_off _ _ (fun e => hne e.symm), hx u hub, upd_at, hu1] at h3; cases h3
              · intro e x hxb
                subst e
                by_cases ex : x.toNat = u.toNat
                · rw [ex, upd_at, hu1]
                · rw [upd_off _ _ ex, hx x hxb, upd_off _ _ ex]
            have e3 : ((mtMates g (b1 ++ b2) v f').map fun w => if keyU (b1 ++ b2) (upd1 f' w 1) = keyU (b1 ++ b2) f then n else 0) = (mtMates g (b1 ++ b2) v f').map fun w => if w = u.toNat then n else 0 := List.map_congr_left fun w hw => by
              by_cases c1 : w = u.toNat
              · rw [if_pos ((hone w hw).2 c1), if_pos c1]
              · rw [if_neg (fun h => c1 ((hone w hw).1 h)), if_neg c1]
            rw [e3, sum_pick _ (show (mtMates g (b1 ++ b2) v f').Nodup from els_nodup _), if_pos hmu]
          · rw [if_neg (fun h => ce h.2)]
            refine sumI_zero fun w hw => if_neg fun hh => ce ?_
            obtain ⟨hwb, hwg, hw0⟩ := (mem_mtMates h.1 hr hv.1 hv.2 hf'b).1 hw
            have h3 := (keyU_same h16 hr (hvalid1 _ 1 (by decide) hf'b) hf).1 hh
            have h4 := h3 _ hwb
            rw [Int.toNat_natCast, upd_at] at h4
            refine ⟨(w : Int), hus.2 ⟨hwb, hwg, by rw [Int.toNat_natCast]; exact h4.symm⟩, fun x hxb => ?_⟩
            rw [Int.toNat_natCast]
            by_cases ex : x.toNat = w
            · rw [ex, hw0, upd_at]
            · rw [upd_off _ _ ex, ← h3 x hxb, upd_off _ _ ex]
        · rw [if_neg c, if_neg (fun h => c h.1)]; rfl
      rw [h2]
      simp only
      by_cases c1 : ∀ u ∈ b1 ++ b2, f' u.toNat = f u.toNat
      · have hno : ¬ (f' v.toNat = 0 ∧ ∃ u ∈ us, ∀ x ∈ b1 ++ b2, f' x.toNat = upd1 f u.toNat 0 x.toNat) := by
          rintro ⟨_, u, hu, hx⟩
          obtain ⟨hub, _, hu1⟩ := hus.1 hu
          have h3 := hx u hub
          rw [upd_at, c1 u hub, hu1] at h3; cases h3
        rw [if_pos (hk0.2 c1), if_neg hno, if_pos (Or.inl c1)]; omega
      · rw [if_neg (fun h => c1 (hk0.1 h))]
        by_cases c2 : f' v.toNat = 0 ∧ ∃ u ∈ us, ∀ x ∈ b1 ++ b2, f' x.toNat = upd1 f u.toNat 0 x.toNat
        · rw [if_pos c2, if_pos (Or.inr c2)]; omega
        · rw [if_neg c2, if_neg (fun h => Or.elim h c1 c2)]; rfl
    have hgive : ∀ f' ∈ fs, (∀ u ∈ b1 ++ b2, f' u.toNat = f u.toNat) ∨ (f' v.toNat = 0 ∧ ∃ u ∈ us, ∀ x ∈ b1 ++ b2, f' x.toNat = upd1 f u.toNat 0 x.toNat) := fun f' hf' => by
      rcases List.mem_cons.1 hf' with e | e
      · rw [e]; exact .inl fun u hu => upd_off _ _ (hnd u hu)
      · rcases List.mem_cons.1 e with e | e
        · rw [e]; exact .inl fun u hu => upd_off _ _ (hnd u hu)
        · obtain ⟨u, hu, rfl⟩ := List.mem_map.1 e
          exact .inr ⟨upd_at _ _ _, u, hu, fun x hx => upd_off _ _ (hnd x hx)⟩
    have hsame : ∀ {f1 f2 : Nat → Nat}, valid 2 (b1 ++ v :: b2) f1 → valid 2 (b1 ++ v :: b2) f2 → (keyU (b1 ++ v :: b2) f1 = keyU (b1 ++ v :: b2) f2 ↔ ∀ u ∈ b1 ++ v :: b2, f1 u.toNat = f2 u.toNat) := fun h1 h2 => keyU_same h16 hrk h1 h2
    have hcand : (fs.map fun f' => keyU (b1 ++ v :: b2) f').Nodup := by
      have hu2 : ∀ u ∈ us, u ∈ b1 ++ v :: b2 := fun u hu => by
        have := (hus.1 hu).1
        simp only [List.mem_append, List.mem_cons] at this ⊢
        exact this.imp id .inr
      have hv2 : v ∈ b1 ++ v :: b2 := by simp
      have hw0 := hfs (upd1 f v.toNat 0) (by simp [fs])
      have hw1 := hfs (upd1 f v.toNat 1) (by simp [fs])
      have hwu : ∀ u ∈ us, valid 2 (b1 ++ v :: b2) (upd1 (upd1 f u.toNat 0) v.toNat 0) := fun u hu => hfs _ (by simp only [fs, List.mem_cons, List.mem_map]; exact .inr (.inr ⟨u, hu, rfl⟩))
      have au : ∀ {u w : Int}, u ∈ us → upd1 (upd1 f w.toNat 0) v.toNat 0 u.toNat = if u.toNat = w.toNat then 0 else 1 := fun {u w} hu => by
        obtain ⟨hub, _, hu1⟩ := hus.1 hu
        rw [upd_off _ _ (hnd u hub)]
        by_cases e : u.toNat = w.toNat
        · rw [if_pos e, e, upd_at]
        · rw [if_neg e, upd_off _ _ e, hu1]
      show (keyU _ _ :: keyU _ _ :: (us.map fun u => upd1 (upd1 f u.toNat 0) v.toNat 0).map fun f' => keyU (b1 ++ v :: b2) f').Nodup
      rw [List.nodup_cons, List.nodup_cons, List.map_map]
      refine ⟨fun hm => ?_, fun hm => ?_, ?_⟩
      · rcases List.mem_cons.1 hm with e | e
        · have := (hsame hw0 hw1).1 e v hv2
          rw [upd_at, upd_at] at this; cases this
        · obtain ⟨u, hu, e⟩ := List.mem_map.1 e
          obtain ⟨hub, _, hu1⟩ := hus.1 hu
          have := (hsame (hwu u hu) hw0).1 e u (hu2 u hu)
          rw [au hu, if_pos rfl, upd_off _ _ (hnd u hub), hu1] at this; cases this
      · obtain ⟨u, hu, e⟩ := List.mem_map.1 hm
        have := (hsame (hwu u hu) hw1).1 e v hv2
        rw [upd_at, upd_at] at this; cases this
      · have hun : us.Nodup := hnb.filter _
        have : ∀ (l : List Int), l.Nodup → (∀ u ∈ l, u ∈ us) → (l.map ((fun f' => keyU (b1 ++ v :: b2) f') ∘ fun u => upd1 (upd1 f u.toNat 0) v.toNat 0)).Nodup := by
          intro l
          induction l with
          | nil => intro _ _; exact List.nodup_nil
          | cons w l ih =>
            intro hn hl
            rw [List.nodup_cons] at hn
            rw [List.map_cons, List.nodup_cons]
            refine ⟨fun hm => ?_, ih hn.2 fun x hx => hl x (by simp [hx])⟩
            obtain ⟨u, hu, e⟩ := List.mem_map.1 hm
            have huu := hl u (by simp [hu])
            have hww := hl w (by simp)
            have := (hsame (hwu u huu) (hwu w hww)).1 e u (hu2 u huu)
            rw [au huu, au huu, if_pos rfl] at this
            by_cases e2 : u.toNat = w.toNat
            · have h5 := hr.mem (hus.1 huu).1
              have h6 := hr.mem (hus.1 hww).1
              have : u = w := by omega
              exact hn.1 (this ▸ hu)
            · rw [if_neg e2] at this; cases this
        exact this us hun fun u hu => hu
    refine (hsum _ _ hcand (fun s n hn hx => ?_)).trans ?_
    · obtain ⟨f', hf', rfl⟩ := hsupp s n hn
      show sumAt ((cDrop (mRu g) v mb (keyU (b1 ++ v :: b2) f', n)).getD []) _ = 0
      rw [hval n hf', if_neg]
      intro hh
      refine hx (List.mem_map.2 ?_)
      have hfv := hf' v (by simp)
      have full : ∀ (f2 : Nat → Nat), valid 2 (b1 ++ v :: b2) f2 → f2 v.toNat = f' v.toNat → (∀ x ∈ b1 ++ b2, f' x.toNat = f2 x.toNat) → keyU (b1 ++ v :: b2) f2 = keyU (b1 ++ v :: b2) f' := fun f2 hf2 h1 h2 => (hsame hf2 hf').2 fun u hu => by
        by_cases eu : u.toNat = v.toNat
        · rw [eu]; exact h1
        · refine (h2 u ?_).symm
          simp only [List.mem_append, List.mem_cons] at hu ⊢
          rcases hu with h | h | h
          · exact .inl h
          · subst h; exact absurd rfl eu
          · exact .inr h
      rcases hh with hh | ⟨h0, u, hu, hh⟩
      · rcases (show f' v.toNat = 0 ∨ f' v.toNat = 1 by omega) with e | e
        · exact ⟨upd1 f v.toNat 0, by simp [fs], full _ (hfs _ (by simp [fs])) (by rw [upd_at, e]) fun x hx => by rw [upd_off _ _ (hnd x hx), hh x hx]⟩
        · exact ⟨upd1 f v.toNat 1, by simp [fs], full _ (hfs _ (by simp [fs])) (by rw [upd_at, e]) fun x hx => by rw [upd_off _ _ (hnd x hx), hh x hx]⟩
      · have hmemf : upd1 (upd1 f u.toNat 0) v.toNat 0 ∈ fs := by simp only [fs, List.mem_cons, List.mem_map]; exact .inr (.inr ⟨u, hu, rfl⟩)
        exact ⟨_, hmemf, full _ (hfs _ hmemf) (by rw [upd_at, h0]) fun x hx => by rw [upd_off _ _ (hnd x hx), hh x hx]⟩
    · rw [hmv, hb]
      have e4 : mval g K V B C j (upd1 f v.toNat 0) + mval g K V B C j (upd1 f v.toNat 1) + edS g v (b1 ++ b2) (mval g K V B C j) f = (fs.map fun f' => mval g K V B C j f').sum := by
        have : edS g v (b1 ++ b2) (mval g K V B C j) f = (us.map fun u => mval g K V B C j (upd1 (upd1 f u.toNat 0) v.toNat 0)).sum := by
          show (List.map _ _).sum = _
          rw [← sum_filter (fun u => decide (u ∈ g.getD v.toNat [] ∧ f u.toNat = 1)) (fun u => mval g K V B C j (upd1 (upd1 f u.toNat 0) v.toNat 0)) (b1 ++ b2)]
          refine congrArg List.sum (List.map_congr_left fun u _ => ?_)
          by_cases c : u ∈ g.getD v.toNat [] ∧ f u.toNat = 1
          · rw [if_pos c, if_pos (decide_eq_true c)]
          · rw [if_neg c, if_neg (by simpa using c)]
        rw [this]
        simp only [fs, List.map_cons, List.sum_cons, List.map_map]
        rw [Int.add_assoc]; rfl
      show eqv _ (mval g K V B C j (upd1 f v.toNat 0) + mval g K V B C j (upd1 f v.toNat 1) + edS g v (b1 ++ b2) (mval g K V B C j) f)
      rw [e4, List.map_map]
      refine eqv.sum fun f' hf' => ?_
      have hih := hT.val f' (by rw [hbk]; exact hfs f' hf')
      rw [hbk] at hih
      refine eqv.trans ?_ hih
      show eqv (match T (keyU (b1 ++ v :: b2) f') with | some n => sumAt ((cDrop (mRu g) v mb (keyU (b1 ++ v :: b2) f', n)).getD []) (keyU (b1 ++ b2) f) | none => 0) _
      cases hTk : T (keyU (b1 ++ v :: b2) f') with
      | none => exact eqv.refl _
      | some n =>
        simp only
        rw [hval n (hfs f' hf'), if_pos (hgive f' hf')]; exact eqv.refl _
theorem valid_dec {b : List Int} (hnd : b.Pairwise (fun u v => u.toNat ≠ v.toNat)) {s : Nat} (hs : s < 2 ^ b.length) : valid 2 b (dec 2 b s) := (dec_spec (k := 2) hnd hs).1
theorem meet_iff {b : List Int} {n : Nat} (hr : Rises b n) (h16 : n ≤ 16) {f f1 f2 : Nat → Nat} (hf : valid 2 b f) (h1 : valid 2 b f1) (h2 : valid 2 b f2) :
    (keyU b f1 ||| keyU b f2 = keyU b f ∧ keyU b f1 &&& keyU b f2 = 0#32) ↔ ∀ v ∈ b, f1 v.toNat + f2 v.toNat = f v.toNat := by
  have l0 := mks_32 h16 hr f; have l1 := mks_32 h16 hr f1; have l2 := mks_32 h16 hr f2
  unfold keyU
  rw [← BitVec.ofNat_or, ofNat_inj32 (Nat.or_lt_two_pow l1 l2) l0, bv_and, show (0#32 : BitVec 32) = BitVec.ofNat 32 0 from rfl, ofNat_inj32 (Nat.lt_of_le_of_lt Nat.and_le_left l1) (by decide)]
  have one : ∀ (f : Nat → Nat) (v : Int), v ∈ b → (mks b f).testBit v.toNat = decide (f v.toNat = 1) := fun f v hv => by
    rw [mks_bit, decide_eq_decide]
    exact ⟨fun ⟨u, hu, h1, h2⟩ => by rw [← h2]; exact h1, fun h => ⟨v, hv, h, rfl⟩⟩
  constructor
  · rintro ⟨e1, e2⟩ v hv
    have b1 := congrArg (fun m => Nat.testBit m v.toNat) e1
    have b2 := congrArg (fun m => Nat.testBit m v.toNat) e2
    simp only [Nat.testBit_or, Nat.testBit_and, Nat.zero_testBit, one _ v hv] at b1 b2
    have c0 := hf v hv; have c1 := h1 v hv; have c2 := h2 v hv
    rcases (show f1 v.toNat = 0 ∨ f1 v.toNat = 1 by omega) with q1 | q1 <;> rcases (show f2 v.toNat = 0 ∨ f2 v.toNat = 1 by omega) with q2 | q2 <;> rcases (show f v.toNat = 0 ∨ f v.toNat = 1 by omega) with q0 | q0 <;> rw [q1, q2] at b1 b2 <;> rw [q0] at b1 <;> first | omega | (exfalso; revert b1 b2; decide)
  · intro hh
    constructor
    · refine bits_ext fun j => ?_
      rw [Nat.testBit_or]
      by_cases c : ∃ u ∈ b, u.toNat = j
      · obtain ⟨u, hu, rfl⟩ := c
        rw [one _ u hu, one _ u hu, one _ u hu]
        have := hh u hu; have c0 := hf u hu
        rcases (show f1 u.toNat = 0 ∨ f1 u.toNat = 1 by omega) with q1 | q1 <;> rcases (show f2 u.toNat = 0 ∨ f2 u.toNat = 1 by omega) with q2 | q2 <;> rw [← this, q1, q2] <;> first | rfl | omega
      · have no : ∀ h : Nat → Nat, (mks b h).testBit j = false := fun h => by rw [mks_bit]; exact decide_eq_false fun ⟨u, hu, _, e⟩ => c ⟨u, hu, e⟩
        rw [no, no, no]; rfl
    · refine bits_ext fun j => ?_
      rw [Nat.testBit_and, Nat.zero_testBit]
      by_cases c : ∃ u ∈ b, u.toNat = j
      · obtain ⟨u, hu, rfl⟩ := c
        rw [one _ u hu, one _ u hu]
        have := hh u hu; have c0 := hf u hu
        rcases (show f1 u.toNat = 0 ∨ f1 u.toNat = 1 by omega) with q1 | q1 <;> rcases (show f2 u.toNat = 0 ∨ f2 u.toNat = 1 by omega) with q2 | q2 <;> rw [q1, q2] <;> first | rfl | omega
      · have no : ∀ h : Nat → Nat, (mks b h).testBit j = false := fun h => by rw [mks_bit]; exact decide_eq_false fun ⟨u, hu, _, e⟩ => c ⟨u, hu, e⟩
        rw [no, no]; rfl
theorem rest_iff {b : List Int} (hnd : b.Pairwise (fun u v => u.toNat ≠ v.toNat)) {f f1 : Nat → Nat} (hf : valid 2 b f) (h1 : valid 2 b f1) (hle : ∀ v ∈ b, f1 v.toNat ≤ f v.toNat) : ∀ v ∈ b, dec 2 b (cod 2 b f - cod 2 b f1) v.toNat = f v.toNat - f1 v.toNat := by
  have hv : valid 2 b (fun x => f x - f1 x) := fun v hv => by have := hf v hv; show f v.toNat - f1 v.toNat < 2; omega
  have e : cod 2 b f = cod 2 b (fun x => f x - f1 x) + cod 2 b f1 := by
    rw [← cod_sum]
    exact cod_congr fun v hv => by have := hle v hv; show f v.toNat = f v.toNat - f1 v.toNat + f1 v.toNat; omega
  have e2 : cod 2 b f - cod 2 b f1 = cod 2 b (fun x => f x - f1 x) := by omega
  rw [e2]
  exact dec_cod hnd hv
theorem nodeM_meet (h : NiceIs g K V B C) {i j l : Nat} {T U : Tf (BitVec 32)} (hi : i < K.length) (hk : K.getD i 0 = 4) (hj : j < i) (hl : l < i) (hc : C.getD i [] = [(j : Int), (l : Int)]) (hbk : B.getD j [] = B.getD i []) (hbl : B.getD l [] = B.getD i [])
    (hT : TM g K V B C j T) (hU : TM g K V B C l U) : ∃ T', gatF (mRu g) T (cMeet (mRu g) U) = some T' ∧ TM g K V B C i T' := by
  have h16 := h.1.n16
  have hr := (h.bag hi).2
  have hnd := h.nodup hi
  have hlU := lst_is (hU.fin.choose_spec)
  have hone : ∀ (p q : BitVec 32 × Int), cMeet1 (mRu g) p q = if (p.1 &&& q.1) = 0#32 then [(p.1 ||| q.1, wr (p.2 * q.2))] else [] := fun p q => by
    unfold cMeet1
    show (if decide ((p.1 &&& q.1) = 0#32) = true then _ else _) = _
    by_cases c : (p.1 &&& q.1) = 0#32
    · rw [if_pos (decide_eq_true c), if_pos c]; rfl
    · rw [if_neg (by simp [c]), if_neg c]
  have hsT : ∀ a n, T a = some n → ∃ f, valid 2 (B.getD i []) f ∧ a = keyU (B.getD i []) f := fun a n ha => by have := hT.supp a n ha; rwa [hbk] at this
  have hsU : ∀ a n, U a = some n → ∃ f, valid 2 (B.getD i []) f ∧ a = keyU (B.getD i []) f := fun a n ha => by have := hU.supp a n ha; rwa [hbl] at this
  generalize hbg : B.getD i [] = b at *
  have hvd : ∀ {f1 f : Nat → Nat}, valid 2 b f → (∀ v ∈ b, f1 v.toNat ≤ f v.toNat) → valid 2 b (fun x => f x - f1 x) := fun hf _ v hv => by have := hf v hv; show _ - _ < 2; omega
  -- what one state of the first kid gives
  have hsumU : ∀ {f1 f : Nat → Nat} (n : Int), valid 2 b f1 → valid 2 b f → sumAt ((lst U).flatMap (cMeet1 (mRu g) (keyU b f1, n))) (keyU b f) = if cod 2 b f1 &&& cod 2 b f = cod 2 b f1 then (match U (keyU b (dec 2 b (cod 2 b f - cod 2 b f1))) with | some m => wr (n * m) | none => 0) else 0 := fun {f1 f} n h1 hf => by
    have hsub := cod_sub h1 hf
    rw [sumAt_flatMap]
    have hq : ∀ {f2 : Nat → Nat} (m : Int), valid 2 b f2 → sumAt (cMeet1 (mRu g) (keyU b f1, n) (keyU b f2, m)) (keyU b f) = if ∀ v ∈ b, f1 v.toNat + f2 v.toNat = f v.toNat then wr (n * m) else 0 := fun {f2} m h2 => by
      have hm := meet_iff hr h16 hf h1 h2
      rw [hone]
      by_cases c : ∀ v ∈ b, f1 v.toNat + f2 v.toNat = f v.toNat
      · rw [if_pos c, if_pos (hm.2 c).2, sumAt_sing2, if_pos (hm.2 c).1]
      · rw [if_neg c]
        by_cases c2 : (keyU b f1 &&& keyU b f2) = 0#32
        · rw [if_pos c2, sumAt_sing2, if_neg (fun e => c (hm.1 ⟨e, c2⟩))]
        · rw [if_neg c2]; rfl
    by_cases c : cod 2 b f1 &&& cod 2 b f = cod 2 b f1
    · rw [if_pos c]
      have hle := hsub.1 c
      have hrest := rest_iff hnd hf h1 hle
      have hdv : valid 2 b (dec 2 b (cod 2 b f - cod 2 b f1)) := fun v hv => by rw [hrest v hv]; have := hf v hv; omega
      rw [lsum hlU [keyU b (dec 2 b (cod 2 b f - cod 2 b f1))] (fun q => sumAt (cMeet1 (mRu g) (keyU b f1, n) q) (keyU b f)) (by simp) (fun q hq2 hx => by
        obtain ⟨f2, h2, e⟩ := hsU q.1 q.2 ((hlU.mem _ _).2 hq2)
        have eq : q = (keyU b f2, q.2) := by rw [← e]
        show sumAt (cMeet1 (mRu g) (keyU b f1, n) q) (keyU b f) = 0
        rw [eq, hq q.2 h2, if_neg]
        intro hh
        refine hx (List.mem_singleton.2 ?_)
        rw [e]
        refine (keyU_same h16 hr h2 hdv).2 fun v hv => ?_
        rw [hrest v hv]; have := hh v hv; omega)]
      simp only [List.map_cons, List.map_nil, List.sum_cons, List.sum_nil, Int.add_zero]
      cases hp : U (keyU b (dec 2 b (cod 2 b f - cod 2 b f1))) with
      | none => rfl
      | some m => simp only; rw [hq m hdv, if_pos fun v hv => by rw [hrest v hv]; have := hle v hv; omega]
    · rw [if_neg c]
      refine sumI_zero fun q hq2 => ?_
      obtain ⟨f2, h2, e⟩ := hsU q.1 q.2 ((hlU.mem _ _).2 hq2)
      have eq : q = (keyU b f2, q.2) := by rw [← e]
      rw [eq, hq q.2 h2, if_neg]
      intro hh
      exact c (hsub.2 fun v hv => by have := hh v hv; omega)
  obtain ⟨T', hT', hfin, hs, hok, hsum⟩ := gatF_sum picks_m hT.fin (f := cMeet (mRu g) U) (fun p => (lst U).flatMap (cMeet1 (mRu g) p)) (fun a n _ => rfl)
  refine ⟨T', hT', hfin, hok fun s n hn p hp => ?_, fun a n ha => ?_, fun f hf => ?_⟩
  · obtain ⟨q, hq, hp⟩ := List.mem_flatMap.1 hp
    rw [hone] at hp
    split at hp
    · rw [List.mem_singleton] at hp; subst hp; exact wr_in _
    · cases hp
  · obtain ⟨s, m, m', hsm, hm⟩ := hs a (by rw [ha]; simp)
    obtain ⟨q, hq, hp⟩ := List.mem_flatMap.1 hm
    obtain ⟨f1, h1, e1⟩ := hsT _ _ hsm
    obtain ⟨f2, h2, e2⟩ := hsU q.1 q.2 ((hlU.mem _ _).2 hq)
    rw [hone] at hp
    split at hp
    · rename_i c0
      rw [List.mem_singleton] at hp
      have e : a = s ||| q.1 := congrArg Prod.fst hp
      have c0 : (s &&& q.1) = 0#32 := c0
      rw [e1, e2] at c0
      -- no vertex twice
      have hdis : ∀ v ∈ b, f1 v.toNat + f2 v.toNat < 2 := fun v hv => by
        have a1 := h1 v hv; have a2 := h2 v hv
        refine Classical.byContradiction fun hh => ?_
        have b1 : f1 v.toNat = 1 := by omega
        have b2 : f2 v.toNat = 1 := by omega
        unfold keyU at c0
        rw [bv_and, show (0#32 : BitVec 32) = BitVec.ofNat 32 0 from rfl, ofNat_inj32 (Nat.lt_of_le_of_lt Nat.and_le_left (mks_32 h16 hr f1)) (by decide)] at c0
        have := congrArg (fun m => Nat.testBit m v.toNat) c0
        simp only [Nat.testBit_and, Nat.zero_testBit] at this
        rw [(mks_iff b f1 v.toNat).2 ⟨v, hv, b1, rfl⟩, (mks_iff b f2 v.toNat).2 ⟨v, hv, b2, rfl⟩] at this
        cases this
      have hv3 : valid 2 b (fun x => f1 x + f2 x) := fun v hv => hdis v hv
      rw [hbg]
      exact ⟨fun x => f1 x + f2 x, hv3, by rw [e, e1, e2]; exact ((meet_iff hr h16 hv3 h1 h2).2 fun v _ => rfl).1⟩
    · cases hp
  · rw [hbg] at hf ⊢
    have hlt := cod_lt hf
    have hcs : ∀ a ∈ (List.range (cod 2 b f + 1)).filter (fun a => decide (a &&& cod 2 b f = a)), a < 2 ^ b.length := fun a ha => by
      rw [List.mem_filter, List.mem_range] at ha; omega
    refine (hsum _ (((List.range (cod 2 b f + 1)).filter fun a => decide (a &&& cod 2 b f = a)).map fun a => keyU b (dec 2 b a)) ?_ (fun s n hn hx => ?_)).trans ?_
    · have : ∀ (m : List Nat), m.Nodup → (∀ a ∈ m, a < 2 ^ b.length) → (m.map fun a => keyU b (dec 2 b a)).Nodup := by
        intro m
        induction m with
        | nil => intro _ _; exact List.nodup_nil
        | cons c m ih =>
          intro hn hm
          rw [List.nodup_cons] at hn
          rw [List.map_cons, List.nodup_cons]
          refine ⟨fun hmm => ?_, ih hn.2 fun x hx => hm x (by simp [hx])⟩
          obtain ⟨c', hc', e⟩ := List.mem_map.1 hmm
          have d1 := dec_spec (k := 2) hnd (hm c' (by simp [hc']))
          have d2 := dec_spec (k := 2) hnd (hm c (by simp))
          have := cod_congr (k := 2) ((keyU_same h16 hr d1.1 d2.1).1 e)
          rw [d1.2, d2.2] at this
          exact hn.1 (this ▸ hc')
      exact this _ (List.nodup_range.filter _) hcs
    · obtain ⟨f1, h1, rfl⟩ := hsT s n hn
      rw [hsumU n h1 hf, if_neg]
      intro c
      refine hx (List.mem_map.2 ⟨cod 2 b f1, ?_, ?_⟩)
      · rw [List.mem_filter, List.mem_range]
        have : cod 2 b f1 ≤ cod 2 b f := by rw [← c]; exact Nat.and_le_right
        exact ⟨by omega, decide_eq_true c⟩
      · exact (keyU_same h16 hr (valid_dec hnd (cod_lt h1)) h1).2 (dec_cod hnd h1)
    · rw [mval_meet hk hj hl hc, hbg]
      unfold cvS rs
      have e : ((List.range (cod 2 b f + 1)).map fun a => if a &&& cod 2 b f = a then mval g K V B C j (dec 2 b a) * mval g K V B C l (dec 2 b (cod 2 b f - a)) else 0) = (List.range (cod 2 b f + 1)).map fun a => if decide (a &&& cod 2 b f = a) = true then mval g K V B C j (dec 2 b a) * mval g K V B C l (dec 2 b (cod 2 b f - a)) else 0 :=
        List.map_congr_left fun a _ => by
          by_cases c : a &&& cod 2 b f = a
          · rw [if_pos c, if_pos (decide_eq_true c)]
          · rw [if_neg c, if_neg (by simpa using c)]
      rw [e, sum_filter, List.map_map]
      refine eqv.sum fun a ha => ?_
      have hal := hcs a ha
      have hac : a &&& cod 2 b f = a := by rw [List.mem_filter] at ha; exact of_decide_eq_true ha.2
      obtain ⟨d1, d2⟩ := dec_spec (k := 2) hnd hal
      have hle2 : cod 2 b f - a < 2 ^ b.length := by omega
      have h1 := hT.val (dec 2 b a) (by rw [hbk]; exact d1)
      have h2 := hU.val (dec 2 b (cod 2 b f - a)) (by rw [hbl]; exact valid_dec hnd hle2)
      rw [hbk] at h1; rw [hbl] at h2
      refine eqv.trans ?_ (h1.mul h2)
      show eqv (match T (keyU b (dec 2 b a)) with | some n => sumAt ((lst U).flatMap (cMeet1 (mRu g) (keyU b (dec 2 b a), n))) (keyU b f) | none => 0) _
      cases hTk : T (keyU b (dec 2 b a)) with
      | none => simp only [Option.getD_none, Int.zero_mul]; exact eqv.refl _
      | some n =>
        simp only
        rw [hsumU n d1 hf, d2, if_pos hac]
        cases hUk : U (keyU b (dec 2 b (cod 2 b f - a))) with
        | none => simp only [Option.getD_none, Int.mul_zero]; exact eqv.refl _
        | some m => simp only [Option.getD_some]; exact eqv.wr _
theorem runM_eq (h : NiceIs g K V B C) : ∃ T, runF F_impl_maskOf (mRu g) (putT noT 0#32 1) K V B C = some T ∧ okT T ∧ eqv ((T 0#32).getD 0) (mval g K V B C (K.length - 1) fun _ => 0) := by
  have h16 := h.1.n16
  have key0 : ∀ f, keyU [] f = 0#32 := fun f => rfl
  obtain ⟨T, h1, h2⟩ := run_frame (R := mRu g) (start := putT noT 0#32 1) h (fun {b} hb => ⟨_, maskOf_eq (fun v hv => by have := hb.mem hv; omega) (by have := hb.len16 h16; omega)⟩) (TM g K V B C)
    (fun {i} hi hk hb hc => by
      refine ⟨put_fin fin_no _ _, fun a n ha => ?_, fun a n ha => ?_, fun f hf => ?_⟩
      · unfold putT at ha; split at ha
        · obtain rfl := Option.some.inj ha; decide
        · cases ha
      · unfold putT at ha; split at ha
        · rename_i e; exact ⟨fun _ => 0, by rw [hb]; exact (fun v hv => nomatch hv), by rw [hb]; exact e⟩
        · cases ha
      · rw [hb, key0, mval_leaf hk]
        unfold putT; rw [if_pos rfl]; exact eqv.refl _)
    (fun hi hk hj hc hv hb hbk hT hmb => nodeM_add h hi hk hj hc hb hbk hT)
    (fun hi hk hj hc hv hbk hb hT hmb => nodeM_drop h hi hk hj hc hbk hb hT hmb)
    (fun hi hk hj hl hc hbk hbl hT hU => nodeM_meet h hi hk hj hl hc hbk hbl hT hU)
  refine ⟨T, h1, h2.ok, ?_⟩
  have := h2.val (fun _ => 0) (by rw [h.last]; intro v hv; cases hv)
  rw [h.last] at this; exact this
end
end Go.Proofs.YtnebbhginakaiaaDoor

/- The reference's rows of matchings. -/
namespace Go.Proofs.YtnebbhginakaiaaDoor
theorem andn0_iff {a s : Nat} (ha : a < 2 ^ 63) (hs : s < 2 ^ 63) : i64andn (a : Int) (s : Int) = 0 ↔ a &&& s = a := by
  rw [i64andn_nat ha hs]
  constructor
  · intro h
    have h0 : sdiff a s = 0 := by omega
    refine Nat.eq_of_testBit_eq fun i => ?_
    have := congrArg (fun m => Nat.testBit m i) h0
    simp only [Nat.zero_testBit, sdiff_bit] at this
    rw [Nat.testBit_and]
    cases h1 : a.testBit i <;> cases h2 : s.testBit i <;> simp_all
  · intro h
    have : sdiff a s = 0 := by
      refine Nat.eq_of_testBit_eq fun i => ?_
      have := congrArg (fun m => Nat.testBit m i) h
      simp only [Nat.testBit_and] at this
      rw [sdiff_bit, Nat.zero_testBit]
      cases h1 : a.testBit i <;> cases h2 : s.testBit i <;> simp_all
    rw [this]; rfl
theorem cod_less {b : List Int} {k : Nat} (hk : k < b.length) (hnd : b.Pairwise (fun u v => u.toNat ≠ v.toNat)) (f : Nat → Nat) : cod 2 b f = cod 2 b (upd1 f (b[k]).toNat 0) + 2 ^ k * f (b[k]).toNat := by
  have e : b = b.take k ++ b[k] :: b.drop (k + 1) := by rw [List.getElem_cons_drop, List.take_append_drop]
  have hne := nodup_split (b1 := b.take k) (b2 := b.drop (k + 1)) (v := b[k]) (by rw [← e]; exact hnd)
  have hlen : (b.take k).length = k := by rw [List.length_take]; omega
  have e1 : cod 2 (b.take k) (upd1 f (b[k]).toNat 0) = cod 2 (b.take k) f := cod_congr fun u hu => upd_off _ _ (hne u (List.mem_append_left _ hu))
  have e2 : cod 2 (b.drop (k + 1)) (upd1 f (b[k]).toNat 0) = cod 2 (b.drop (k + 1)) f := cod_congr fun u hu => upd_off _ _ (hne u (List.mem_append_right _ hu))
  have main : ∀ h : Nat → Nat, cod 2 b h = cod 2 (b.take k) h + 2 ^ k * (h (b[k]).toNat + 2 * cod 2 (b.drop (k + 1)) h) := fun h => by
    conv => lhs; rw [e]
    rw [cod_append, hlen, cod_cons]
  rw [main f, main (upd1 f (b[k]).toNat 0), e1, e2, upd_at, Nat.mul_add, Nat.mul_add]; omega
theorem digit_at {b : List Int} {f : Nat → Nat} (hf : ∀ u ∈ b, f u.toNat < 2) (hb : b.length ≤ 8) {j : Nat} (hj : j < b.length) : F_spec_l29Digit ((cod 2 b f : Nat) : Int) 2 (j : Int) = some ((f (b[j]).toNat : Nat) : Int) := by
  have := l29Digit_eq (k := 2) (s := cod 2 b f) (a := j) (by decide) (by decide) (by omega)
  rw [show ((2 : Nat) : Int) = 2 from rfl] at this
  rw [this]
  have e : b = b.take j ++ b[j] :: b.drop (j + 1) := by rw [List.getElem_cons_drop, List.take_append_drop]
  have h := cod_digit (k := 2) (b1 := b.take j) (b2 := b.drop (j + 1)) (v := b[j]) (f := f) (by rw [← e]; exact hf)
  rw [← e, List.length_take, Nat.min_eq_left (by omega)] at h
  rw [h]
open Classical in
theorem edge_eq {g : List (List Int)} (hl : ∀ x ∈ g, x.length ≤ 1048576) {v : Int} (h0 : 0 ≤ v) (h1 : v < g.length) (u : Int) : F_spec_l1Edge g v u = some (decide (u ∈ g.getD v.toNat [])) := by
  have hrow : g.getD v.toNat [] ∈ g := by rw [List.getD_eq_getElem?_getD, List.getElem?_eq_getElem (by omega)]; exact List.getElem_mem _
  unfold F_spec_l1Edge
  rw [idx_of (x := g.getD v.toNat []) h0 (by rw [List.getD_eq_getElem?_getD, List.getElem?_eq_getElem (by omega)]; rfl), cal_of (l1Has_eq _ _ (by have := hl _ hrow; omega))]
section
variable {g : List (List Int)} {K V : List Int} {B C : List (List Int)}
open Classical in
theorem l29Matchings_row (h : NiceIs g K V B C) (hl : ∀ x ∈ g, x.length ≤ 1048576) {i : Nat} (hi : i < K.length) {s : Nat} (hs : s < 2 ^ (B.getD i []).length) :
    F_spec_l29Matchings_l2 g K B C (i : Int) (B.getD i []) (V.getD i 0) (rows 2 B (mval g K V B C) i) (rowTo 2 (B.getD i []) (mval g K V B C i) s) (s : Int)
      = some (.inl (rows 2 B (mval g K V B C) i, rowTo 2 (B.getD i []) (mval g K V B C i) (s + 1), ((s + 1 : Nat) : Int))) := by
  have hm : K.length ≤ 200 := h.2.1.2
  have hV : V.length = K.length := h.2.2.1
  have hB : B.length = K.length := h.2.2.2.1
  have hC : C.length = K.length := h.2.2.2.2.1
  have hb8 : ∀ {j}, j < K.length → (B.getD j []).length ≤ 8 := fun hj => (h.bag hj).1
  have hs2 : s ≤ 262144 := by have := pow_in (show 2 ≤ 4 by decide) (show (B.getD i []).length ≤ 9 by have := hb8 hi; omega); omega
  obtain ⟨hd1, hd2⟩ := dec_spec (h.nodup hi) hs
  obtain ⟨f, ef⟩ : ∃ f, f = dec 2 (B.getD i []) s := ⟨_, rfl⟩
  rw [← ef] at hd1 hd2
  have hci : ∀ {j : Nat} {x y : Nat → Nat}, j < K.length → (∀ v ∈ B.getD j [], x v.toNat = y v.toNat) → mval g K V B C j x = mval g K V B C j y := fun hj hx => mval_congr h _ hj _ _ hx
  have fin : ∀ {x : Int}, x = mval g K V B C i f → (rowTo 2 (B.getD i []) (mval g K V B C i) s).set s x = rowTo 2 (B.getD i []) (mval g K V B C i) (s + 1) := fun hx => rowTo_set hs (by rw [← ef, hx])
  unfold F_spec_l29Matchings_l2
  rw [if_pos (by rw [rowTo_len]; omega), getD_idx hi]
  have rlen : s < (rowTo 2 (B.getD i []) (mval g K V B C i) s).length := by rw [rowTo_len]; exact hs
  have hget : ∀ {β : Type} (y : Int) (q : Int → Option β), idx ((rowTo 2 (B.getD i []) (mval g K V B C i) s).set s y) (s : Int) q = q y := fun y q => idx_of (by omega) (by rw [Int.toNat_natCast, List.getElem?_set_self rlen])
  have set0 : (rowTo 2 (B.getD i []) (mval g K V B C i) s).set s 0 = rowTo 2 (B.getD i []) (mval g K V B C i) s := by
    refine List.ext_getElem? fun t => ?_
    rw [List.getElem?_set]
    by_cases e : s = t
    · subst e; rw [if_pos rfl, if_pos rlen, List.getElem?_eq_getElem rlen]; unfold rowTo; simp
    · rw [if_neg e]
  have e1 : (s : Int) + 1 = ((s + 1 : Nat) : Int) := by omega
  have hin := mval_in h hi hd1
  cases h.node hi with
  | leaf hk hb hc =>
    rw [if_pos hk, idx_nat rlen, ck_of (inI (by omega) (by omega)), Int.toNat_natCast, fin (by rw [mval_leaf hk]), e1]
  | add hk j hj hc hv b1 b2 hb hbk =>
    have hnd := h.nodup hi
    rw [hb] at hnd
    have hb1 : ∀ u ∈ b1, u ≠ V.getD i 0 := fun u hu e => (List.pairwise_append.1 hnd).2.2 u hu (V.getD i 0) (by simp) (by rw [e])
    have hl1 : b1.length ≤ 8 := by have := hb8 hi; rw [hb, List.length_append] at this; omega
    have hat : F_spec_l29At (B.getD i []) (V.getD i 0) = some ((b1.length : Nat) : Int) := by rw [hb]; exact l29At_eq hb1 hl1
    have hdg : F_spec_l29Digit (s : Int) 2 ((b1.length : Nat) : Int) = some ((f (V.getD i 0).toNat : Nat) : Int) := by
      have := l29Digit_eq (k := 2) (s := s) (a := b1.length) (by decide) (by decide) hl1
      rw [show ((2 : Nat) : Int) = 2 from rfl] at this
      rw [this, ← hd2, hb, cod_digit (by rw [← hb]; exact hd1)]
    have hout : F_spec_l29Out (s : Int) 2 ((b1.length : Nat) : Int) = some ((cod 2 (B.getD j []) f : Nat) : Int) := by
      have := l29Out_eq (k := 2) (s := s) (a := b1.length) (by decide) (by decide) hl1 hs2
      rw [show ((2 : Nat) : Int) = 2 from rfl] at this
      rw [this, ← hd2, hb, cod_out (by rw [← hb]; exact hd1), hbk]
    have hfk : ∀ x ∈ B.getD j [], f x.toNat < 2 := fun x hx => hd1 x (by rw [hb]; rw [hbk] at hx; simp at hx ⊢; rcases hx with h | h; exact .inl h; exact .inr (.inr h))
    have hrow : ∀ {β : Type} (q : Int → Option β), idx (rowOf 2 (B.getD j []) (mval g K V B C j)) ((cod 2 (B.getD j []) f : Nat) : Int) q = q (mval g K V B C j f) := fun q => rowOf_idx (h.nodup (by omega)) (fun x y hx => hci (by omega) hx) hfk q
    have hkid : ∀ {β : Type} (q : List Int → Option β), idx C (i : Int) q = q [(j : Int)] := fun q => by rw [getL_idx (by omega), hc]
    have h0 : ∀ {β : Type} (q : Int → Option β), idx [(j : Int)] 0 q = q (j : Int) := fun q => rfl
    have hval := mval_add (g := g) (V := V) (B := B) hk hj hc f
    rw [if_neg (by omega), if_pos hk, cal_of hat, cal_of hdg]
    by_cases c1 : f (V.getD i 0).toNat = 0
    · rw [if_pos (by omega), hkid, h0, rows_idx hj, cal_of hout, hrow, idx_nat rlen, ck_of (inI (by omega) (by omega)), Int.toNat_natCast, fin (by rw [hval, if_pos c1]), e1]
    · rw [if_neg (by omega), ck_of (inI (by omega) (by omega)), rowTo_skip (s := s) (by rw [← ef, hval, if_neg c1]), e1]
  | drop hk j hj hc hv b1 b2 hbk hb =>
    have hnd := h.nodup (i := j) (by omega)
    have hndi := h.nodup hi
    have hbj8 := hb8 (j := j) (by omega)
    rw [hbk] at hnd hbj8
    have hb1 : ∀ u ∈ b1, u ≠ V.getD i 0 := fun u hu e => (List.pairwise_append.1 hnd).2.2 u hu (V.getD i 0) (by simp) (by rw [e])
    have hl1 : b1.length ≤ 8 := by rw [List.length_append] at hbj8; omega
    have hat : F_spec_l29At (B.getD j []) (V.getD i 0) = some ((b1.length : Nat) : Int) := by rw [hbk]; exact l29At_eq hb1 hl1
    have hne := nodup_split hnd
    have hkid : ∀ {β : Type} (q : List Int → Option β), idx C (i : Int) q = q [(j : Int)] := fun q => by rw [getL_idx (by omega), hc]
    have h0 : ∀ {β : Type} (q : Int → Option β), idx [(j : Int)] 0 q = q (j : Int) := fun q => rfl
    have hval := mval_drop (g := g) (V := V) (B := B) hk hj hc f
    have hin2 : ∀ (h' : Nat → Nat) (c : Nat), (∀ v ∈ B.getD i [], h' v.toNat < 2) → c < 2 → F_spec_l29In ((cod 2 (B.getD i []) h' : Nat) : Int) 2 ((b1.length : Nat) : Int) (c : Int) = some ((cod 2 (B.getD j []) (upd1 h' (V.getD i 0).toNat c) : Nat) : Int) := fun h' c hh hc2 => by
      have hlt := cod_lt hh
      have hpw := pow_in (show 2 ≤ 4 by decide) (show (B.getD i []).length ≤ 9 by have := hb8 hi; omega)
      have := l29In_eq (k := 2) (s := cod 2 (B.getD i []) h') (a := b1.length) (c := c) (by decide) (by decide) hl1 (by omega) (by omega)
      rw [show ((2 : Nat) : Int) = 2 from rfl] at this
      rw [this, hb, cod_in (by decide) (by rw [← hb]; exact hh) hne, hbk]
    have hrow : ∀ (h' : Nat → Nat) (c : Nat), (∀ v ∈ B.getD i [], h' v.toNat < 2) → c < 2 → ∀ {β : Type} (q : Int → Option β), idx (rowOf 2 (B.getD j []) (mval g K V B C j)) ((cod 2 (B.getD j []) (upd1 h' (V.getD i 0).toNat c) : Nat) : Int) q = q (mval g K V B C j (upd1 h' (V.getD i 0).toNat c)) := fun h' c hh hc2 {β} q =>
      rowOf_idx (h.nodup (by omega)) (fun x y hx => hci (by omega) hx) (by rw [hbk]; rw [hb] at hh; exact valid_more hh hc2) q
    have i0 : F_spec_l29In (s : Int) 2 ((b1.length : Nat) : Int) 0 = some ((cod 2 (B.getD j []) (upd1 f (V.getD i 0).toNat 0) : Nat) : Int) := by have := hin2 f 0 hd1 (by decide); rw [hd2] at this; exact this
    have i1 : F_spec_l29In (s : Int) 2 ((b1.length : Nat) : Int) 1 = some ((cod 2 (B.getD j []) (upd1 f (V.getD i 0).toNat 1) : Nat) : Int) := by have := hin2 f 1 hd1 (by decide); rw [hd2] at this; exact this
    have n0 := mval_nonneg h j (by omega)
    let T : Int → Int := fun u => if u ∈ g.getD (V.getD i 0).toNat [] ∧ f u.toNat = 1 then mval g K V B C j (upd1 (upd1 f u.toNat 0) (V.getD i 0).toNat 0) else 0
    have hT0 : ∀ u, 0 ≤ T u := fun u => by show 0 ≤ ite _ _ _; split; exact n0 _; exact Int.le_refl _
    let M := mval g K V B C j (upd1 f (V.getD i 0).toNat 0) + mval g K V B C j (upd1 f (V.getD i 0).toNat 1)
    let S : Nat → Int := fun k => M + (((B.getD i []).take k).map T).sum
    have hSb : ∀ k, M ≤ S k ∧ S k ≤ mval g K V B C i f := fun k => by
      have hsplit : ((B.getD i []).map T).sum = (((B.getD i []).take k).map T).sum + (((B.getD i []).drop k).map T).sum := by rw [← List.sum_append, ← List.map_append, List.take_append_drop]
      have ha := sumI_nonneg (f := T) (l := (B.getD i []).take k) fun u _ => hT0 u
      have hb := sumI_nonneg (f := T) (l := (B.getD i []).drop k) fun u _ => hT0 u
      have hv : mval g K V B C i f = M + ((B.getD i []).map T).sum := hval
      show M ≤ M + _ ∧ M + _ ≤ _
      rw [hv]; omega
    have m0 := n0 (upd1 f (V.getD i 0).toNat 0)
    have m1 := n0 (upd1 f (V.getD i 0).toNat 1)
    have hM0 := hSb 0
    rw [if_neg (by omega), if_neg (by omega), if_pos hk, hkid, h0, rows_idx hj, hkid, h0, getL_idx (by omega), cal_of hat, cal_of i0, hrow f 0 hd1 (by decide), cal_of i1, hrow f 1 hd1 (by decide), ck_of (show InI M from inI (by show _ ≤ M; omega) (by omega)), idx_nat rlen, Int.toNat_natCast]
    have key := lp_upto (step := fun s1 => F_spec_l29Matchings_l3 g (B.getD i []) (V.getD i 0) (s : Int) (rowOf 2 (B.getD j []) (mval g K V B C j)) ((b1.length : Nat) : Int) s1.1 s1.2.1 s1.2.2)
      (fun k => (rows 2 B (mval g K V B C) i, (rowTo 2 (B.getD i []) (mval g K V B C i) s).set s (S k), (k : Int))) (B.getD i []).length
      (o := Sum.inl (rows 2 B (mval g K V B C) i, rowTo 2 (B.getD i []) (mval g K V B C i) (s + 1))) (s := (rows 2 B (mval g K V B C) i, (rowTo 2 (B.getD i []) (mval g K V B C i) s).set s M, (0 : Int)))
      (by
        have : S 0 = M := Int.add_zero _
        show _ = (_, List.set _ _ (S 0), _)
        rw [this]; rfl)
      (fun k hk2 => by
        have hb8i := hb8 hi
        have hu : (B.getD i [])[k] ∈ B.getD i [] := List.getElem_mem hk2
        have hS1 := hSb (k + 1)
        have hS0 := hSb k
        have es : S (k + 1) = S k + T (B.getD i [])[k] := by
          show M + _ = M + _ + _
          rw [List.take_succ_eq_append_getElem hk2, List.map_append, List.sum_append]; simp [Int.add_assoc]
        have hdig := digit_at hd1 hb8i hk2
        rw [hd2] at hdig
        simp only [F_spec_l29Matchings_l3]
        rw [if_pos (by omega), idx_nat hk2, cal_of (edge_eq hl hv.1 hv.2 _)]
        by_cases c1 : (B.getD i [])[k] ∈ g.getD (V.getD i 0).toNat []
        · rw [if_pos (by simp only [decide_eq_true_eq]; exact c1), cal_of hdig]
          by_cases c2 : f ((B.getD i [])[k]).toNat = 1
          · have eT : T (B.getD i [])[k] = mval g K V B C j (upd1 (upd1 f ((B.getD i [])[k]).toNat 0) (V.getD i 0).toNat 0) := if_pos ⟨c1, c2⟩
            have hless := cod_less hk2 hndi f
            rw [c2, Nat.mul_one, hd2] at hless
            have hle := Nat.le.intro hless.symm
            have hvf : ∀ v ∈ B.getD i [], upd1 f ((B.getD i [])[k]).toNat 0 v.toNat < 2 := fun v hv => by
              unfold upd1; split
              · decide
              · exact hd1 v hv
            have hpw : F_spec_l29Power 2 (k : Int) = some ((2 ^ k : Nat) : Int) := l29Power_eq (k := 2) (by decide) (by omega)
            have e3 : (s : Int) - ((2 ^ k : Nat) : Int) = ((cod 2 (B.getD i []) (upd1 f ((B.getD i [])[k]).toNat 0) : Nat) : Int) := by omega
            have hi3 := hin2 (upd1 f ((B.getD i [])[k]).toNat 0) 0 hvf (by decide)
            rw [show ((0 : Nat) : Int) = 0 from rfl] at hi3
            have h3 := @hrow (upd1 f ((B.getD i [])[k]).toNat 0) 0 hvf (by decide)
            rw [if_pos (by omega), hget, cal_of hpw, e3, ck_of (inI (by omega) (by omega)), cal_of hi3, h3, ← eT, ← es, ck_of (inI (by omega) (by omega)), hget, ck_of (inI (by omega) (by omega)), Int.toNat_natCast, List.set_set]; rfl
          · have eT : T (B.getD i [])[k] = 0 := if_neg (fun h => c2 h.2)
            rw [if_neg (by omega), ck_of (inI (by omega) (by omega)), es, eT, Int.add_zero]; rfl
        · have eT : T (B.getD i [])[k] = 0 := if_neg (fun h => c1 h.1)
          rw [if_neg (by simp only [decide_eq_true_eq]; exact c1), ck_of (inI (by omega) (by omega)), es, eT, Int.add_zero]; rfl)
      (by
        simp only [F_spec_l29Matchings_l3]
        have : S (B.getD i []).length = mval g K V B C i f := by
          show M + _ = _
          rw [List.take_length, hval]; rfl
        rw [if_neg (by omega), fin this])
    rw [key, bnd_inl_eq]
    unfold F_spec_l29Matchings_k4
    rw [ck_of (inI (by omega) (by omega)), e1]
  | meet hk j l hj hl' hc hbk hbl =>
    have hkid : ∀ {β : Type} (q : List Int → Option β), idx C (i : Int) q = q [(j : Int), (l : Int)] := fun q => by rw [getL_idx (by omega), hc]
    have h0 : ∀ {β : Type} (q : Int → Option β), idx [(j : Int), (l : Int)] 0 q = q (j : Int) := fun q => rfl
    have h1 : ∀ {β : Type} (q : Int → Option β), idx [(j : Int), (l : Int)] 1 q = q (l : Int) := fun q => rfl
    have hrow : ∀ {m : Nat} (hm : m < i) (hbm : B.getD m [] = B.getD i []) (a : Nat), a < 2 ^ (B.getD i []).length → ∀ {β : Type} (q : Int → Option β), idx (rowOf 2 (B.getD m []) (mval g K V B C m)) (a : Int) q = q (mval g K V B C m (dec 2 (B.getD i []) a)) := fun {m} hm hbm a ha {β} q => by
      unfold rowOf
      rw [hbm, idx_range ha]
    have hval := mval_meet (g := g) (V := V) (B := B) hk hj hl' hc f
    have n0 := mval_nonneg h j (by omega)
    have n1 := mval_nonneg h l (by omega)
    let T : Nat → Int := fun a => if a &&& s = a then mval g K V B C j (dec 2 (B.getD i []) a) * mval g K V B C l (dec 2 (B.getD i []) (s - a)) else 0
    have hT0 : ∀ a, 0 ≤ T a := fun a => by show 0 ≤ ite _ _ _; split; exact Int.mul_nonneg (n0 _) (n1 _); exact Int.le_refl _
    have hv2 : mval g K V B C i f = rs (s + 1) T := by rw [hval]; unfold cvS; rw [hd2]
    have hSb : ∀ a, a ≤ s + 1 → 0 ≤ rs a T ∧ rs a T ≤ mval g K V B C i f := fun a ha => ⟨rs_nonneg hT0, by rw [hv2]; exact rs_mono hT0 ha⟩
    rw [if_neg (by omega), if_neg (by omega), if_neg (by omega), if_pos hk]
    have key := lp_upto (step := fun s1 => F_spec_l29Matchings_l5 C (i : Int) (s : Int) s1.1 s1.2.1 s1.2.2)
      (fun a => (rows 2 B (mval g K V B C) i, (rowTo 2 (B.getD i []) (mval g K V B C i) s).set s (rs a T), (a : Int))) (s + 1)
      (o := Sum.inl (rows 2 B (mval g K V B C) i, rowTo 2 (B.getD i []) (mval g K V B C i) (s + 1))) (s := (rows 2 B (mval g K V B C) i, rowTo 2 (B.getD i []) (mval g K V B C i) s, (0 : Int)))
      (by show _ = (_, List.set _ _ (0 : Int), _); rw [set0]; rfl)
      (fun a ha => by
        have hp0 := hSb a (by omega)
        have hp1 := hSb (a + 1) (by omega)
        have es := rs_succ a T
        have hTa := hT0 a
        have hpw := pow_in (show 2 ≤ 4 by decide) (show (B.getD i []).length ≤ 9 by have := hb8 hi; omega)
        simp only [F_spec_l29Matchings_l5]
        rw [if_pos (by omega)]
        by_cases c : a &&& s = a
        · have eT : T a = mval g K V B C j (dec 2 (B.getD i []) a) * mval g K V B C l (dec 2 (B.getD i []) (s - a)) := if_pos c
          have e3 : (s : Int) - (a : Int) = ((s - a : Nat) : Int) := by omega
          rw [if_pos ((andn0_iff (by omega) (by omega)).2 c), hget, hkid, h0, rows_idx hj, hrow hj hbk a (by omega), hkid, h1, rows_idx hl', e3, ck_of (inI (by omega) (by omega)), hrow hl' hbl (s - a) (by omega), ← eT, ck_of (inI (by omega) (by omega)), ← es, ck_of (inI (by omega) (by omega)), hget, ck_of (inI (by omega) (by omega)), Int.toNat_natCast, List.set_set]; rfl
        · have eT : T a = 0 := if_neg c
          rw [if_neg (fun h => c ((andn0_iff (by omega) (by omega)).1 h)), ck_of (inI (by omega) (by omega)), es, eT, Int.add_zero]; rfl)
      (by
        simp only [F_spec_l29Matchings_l5]
        rw [if_neg (by omega), fin hv2.symm])
    rw [key, bnd_inl_eq]
    unfold F_spec_l29Matchings_k6
    rw [ck_of (inI (by omega) (by omega)), e1]
theorem l29Matchings_eq (h : NiceIs g K V B C) (hl : ∀ x ∈ g, x.length ≤ 1048576) : F_spec_l29Matchings g K V B C = some (mval g K V B C (K.length - 1) fun _ => 0) := by
  have hm := h.2.1
  have hV : V.length = K.length := h.2.2.1
  have hB : B.length = K.length := h.2.2.2.1
  unfold F_spec_l29Matchings
  have key := lp_upto (step := fun s => F_spec_l29Matchings_l1 g K V B C s.1 s.2) (fun i => (rows 2 B (mval g K V B C) i, (i : Int))) K.length (o := Sum.inl (rows 2 B (mval g K V B C) K.length)) (s := (([] : List (List Int)), (0 : Int))) rfl (fun i hi => by
    simp only [F_spec_l29Matchings_l1]
    have hb := (h.bag hi).1
    have hp := pow_in (show 2 ≤ 4 by decide) (show (B.getD i []).length ≤ 9 by omega)
    have hpw : F_spec_l29Power 2 ((B.getD i []).length : Int) = some ((2 ^ (B.getD i []).length : Nat) : Int) := l29Power_eq (k := 2) (by decide) (by omega)
    rw [if_pos (by omega), getL_idx (by omega), getD_idx (by omega), cal_of hpw, mkS_of (Int.natCast_nonneg _) (Int.le_trans (Int.ofNat_le.2 hp) (by decide)), Int.toNat_natCast, ← rowTo_zero 2 (B.getD i []) (mval g K V B C i)]
    have k2 := lp_upto (step := fun s => F_spec_l29Matchings_l2 g K B C (i : Int) (B.getD i []) (V.getD i 0) s.1 s.2.1 s.2.2) (fun s => (rows 2 B (mval g K V B C) i, rowTo 2 (B.getD i []) (mval g K V B C i) s, (s : Int))) (2 ^ (B.getD i []).length)
      (o := Sum.inl (rows 2 B (mval g K V B C) i, rowOf 2 (B.getD i []) (mval g K V B C i))) (s := (rows 2 B (mval g K V B C) i, rowTo 2 (B.getD i []) (mval g K V B C i) 0, (0 : Int))) rfl (fun s hs => l29Matchings_row h hl hi hs) (by
        simp only [F_spec_l29Matchings_l2]
        rw [if_neg (by rw [rowTo_len]; omega), rowTo_all])
    rw [k2, bnd_inl_eq]
    unfold F_spec_l29Matchings_k7
    rw [app1_s (by rw [rows_len]; omega), ck_of (inI (by omega) (by omega)), rows_succ]; rfl) (by
    simp only [F_spec_l29Matchings_l1]
    rw [if_neg (by omega)])
  rw [key, bnd_inl_eq]
  unfold F_spec_l29Matchings_k8
  rw [rows_len, ck_of (inI (by omega) (by omega)), show (K.length : Int) - 1 = ((K.length - 1 : Nat) : Int) by omega, rows_idx (by omega)]
  have e : ((0 : Nat) : Int) = ((cod 2 (B.getD (K.length - 1) []) (fun _ => 0) : Nat) : Int) := by rw [h.last]; rfl
  show idx _ ((0 : Nat) : Int) _ = _
  rw [e, rowOf_idx (h.nodup (by omega)) (fun x y hx => mval_congr h _ (by omega) _ _ hx) (fun x hx => by rw [h.last] at hx; cases hx)]
end
end Go.Proofs.YtnebbhginakaiaaDoor

/- Laws whose arguments hold a nice tree: its size, its copies. -/
namespace Go.Proofs.YtnebbhginakaiaaDoor
abbrev NiceD := List Int × List Int × List (List Int) × List (List Int)
structure NiceLen (d : NiceD) : Prop where
  l0 : d.1.length ≤ 1048576
  l1 : d.2.1.length ≤ 1048576
  l2 : d.2.2.1.length ≤ 1048576
  l3 : d.2.2.2.length ≤ 1048576
  r2 : ∀ x ∈ d.2.2.1, x.length ≤ 1048576
  r3 : ∀ x ∈ d.2.2.2, x.length ≤ 1048576
theorem szNice_ex (d : NiceD) (m0 : Int) (h0 : 0 ≤ m0) (h1 : m0 ≤ 1048576) (hd : Sz.ok d) : ∃ m, F_laws_szNice d.1 d.2.1 d.2.2.1 d.2.2.2 m0 = some m ∧ (m < 0 ∨ (0 ≤ m ∧ m ≤ m0 ∧ NiceLen d ∧ True)) := by
  unfold F_laws_szNice
  rw [cal_of (szInt64S_eq d.1 m0 (by omega) (by omega) hd.1)]
  obtain ⟨m1, hm1⟩ : ∃ m1, less m0 d.1.length = m1 := ⟨_, rfl⟩
  rw [hm1]
  by_cases c1 : m1 < 0
  · rw [if_pos c1]; exact ⟨_, rfl, .inl (by decide)⟩
  rw [if_neg c1]
  have b1 : m1 ≤ m0 ∧ (d.1.length : Int) ≤ 1048576 := by unfold less at hm1; split at hm1 <;> omega
  rw [cal_of (szInt64S_eq d.2.1 m1 (by omega) (by omega) hd.2.1)]
  obtain ⟨m2, hm2⟩ : ∃ m2, less m1 d.2.1.length = m2 := ⟨_, rfl⟩
  rw [hm2]
  by_cases c2 : m2 < 0
  · rw [if_pos c2]; exact ⟨_, rfl, .inl (by decide)⟩
  rw [if_neg c2]
  have b2 : m2 ≤ m1 ∧ (d.2.1.length : Int) ≤ 1048576 := by unfold less at hm2; split at hm2 <;> omega
  obtain ⟨m3, hm3, h3⟩ := szInt64SS_eq d.2.2.1 m2 (by omega) (by omega) hd.2.2.1
  rw [cal_of hm3]
  rcases h3 with h3 | ⟨b3, e3, l3, r3⟩
  · rw [if_pos h3]; exact ⟨_, rfl, .inl (by decide)⟩
  rw [if_neg (by omega)]
  obtain ⟨m4, hm4, h4⟩ := szInt64SS_eq d.2.2.2 m3 (by omega) (by omega) hd.2.2.2
  rw [cal_of hm4]
  rcases h4 with h4 | ⟨b4, e4, l4, r4⟩
  · rw [if_pos h4]; exact ⟨_, rfl, .inl (by decide)⟩
  rw [if_neg (by omega)]
  exact ⟨_, rfl, .inr ⟨by omega, by omega, ⟨by omega, by omega, by omega, by omega, fun x hx => by have := r3 x hx; omega, fun x hx => by have := r4 x hx; omega⟩, trivial⟩⟩
theorem toNice_eq (d : NiceD) (h : NiceLen d) : F_laws_toNice d.1 d.2.1 d.2.2.1 d.2.2.2 = some (d.1, d.2.1, d.2.2.1, d.2.2.2) := by
  obtain ⟨l0, l1, l2, l3, r2, r3⟩ := h
  unfold F_laws_toNice
  rw [cal_of (toInt64S_eq d.1 (by omega)), cal_of (toInt64S_eq d.2.1 (by omega)), cal_of (toInt64SS_eq d.2.2.1 (by omega) (fun x hx => by have := r2 x hx; omega)), cal_of (toInt64SS_eq d.2.2.2 (by omega) (fun x hx => by have := r3 x hx; omega))]
theorem eqNice_self (d : NiceD) (h : NiceLen d) : F_laws_eqNice d.1 d.2.1 d.2.2.1 d.2.2.2 d.1 d.2.1 d.2.2.1 d.2.2.2 = some true := by
  obtain ⟨l0, l1, l2, l3, r2, r3⟩ := h
  unfold F_laws_eqNice
  rw [cal_of (eqInt64S_eq d.1 d.1 (by omega)), if_neg (by simp), cal_of (eqInt64S_eq d.2.1 d.2.1 (by omega)), if_neg (by simp), cal_of (eqInt64SS_eq d.2.2.1 d.2.2.1 (by omega) (fun x hx => by have := r2 x hx; omega)), if_neg (by simp), cal_of (eqInt64SS_eq d.2.2.2 d.2.2.2 (by omega) (fun x hx => by have := r3 x hx; omega)), if_neg (by simp)]
end Go.Proofs.YtnebbhginakaiaaDoor
