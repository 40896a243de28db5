/- What the run over tables finds, for rules that count: as many as the reference. -/
import Derived.Test.YtnebbhginakaiaaTreeS
namespace Go.Proofs.Ytnebbhginakaiaa
def valid (k : Nat) (b : List Int) (f : Nat → Nat) : Prop := ∀ v ∈ b, f v.toNat < k
open Classical in
noncomputable def mayC (g : List (List Int)) (k : Nat) (st : Bool) (b : List Int) (v : Int) (f : Nat → Nat) : List Nat := (List.range k).filter fun c => decide ((st = true ∧ c = 0) ∨ ¬ nearC g b (upd1 f v.toNat c) v c)
structure Lin (κ : Type) [DecidableEq κ] (g : List (List Int)) (k : Nat) (st : Bool) (mask : List Int → Option (BitVec 32)) (R : Ru κ) (key : List Int → (Nat → Nat) → κ) : Prop where
  same : ∀ {b f f'}, Rises b g.length → valid k b f → valid k b f' → (key b f = key b f' ↔ ∀ v ∈ b, f v.toNat = f' v.toNat)
  msk : ∀ {b}, Rises b g.length → ∃ mb, mask b = some mb
  add : ∀ {b1 b2 v f mb}, Rises (b1 ++ v :: b2) g.length → Rises (b1 ++ b2) g.length → mask (b1 ++ b2) = some mb → valid k (b1 ++ b2) f →
    R.add (key (b1 ++ b2) f) v mb = some ((mayC g k st (b1 ++ v :: b2) v f).map fun c => key (b1 ++ v :: b2) (upd1 f v.toNat c))
  drop : ∀ {b1 b2 v f mb n}, Rises (b1 ++ v :: b2) g.length → Rises (b1 ++ b2) g.length → mask (b1 ++ b2) = some mb → valid k (b1 ++ v :: b2) f → InI n → R.drop (key (b1 ++ v :: b2) f) v mb n = some (putT noT (key (b1 ++ b2) f) n)
  meet : ∀ s t, R.meet s t = (s, decide (s = t))
  both : ∀ x y, R.both x y = wr (x * y)
  pick : R.pick = pSum
section
variable {κ : Type} [DecidableEq κ] {g : List (List Int)} {K V : List Int} {B C : List (List Int)} {k : Nat} {st : Bool} {mask : List Int → Option (BitVec 32)} {R : Ru κ} {key : List Int → (Nat → Nat) → κ}
structure TJ (g : List (List Int)) (K V : List Int) (B C : List (List Int)) (k : Nat) (st : Bool) (key : List Int → (Nat → Nat) → κ) (j : Nat) (T : Tf κ) : Prop where
  fin : finT T
  ok : okT T
  supp : ∀ a n, T a = some n → ∃ f, valid k (B.getD j []) f ∧ a = key (B.getD j []) f
  val : ∀ f, valid k (B.getD j []) f → eqv ((T (key (B.getD j []) f)).getD 0) (cval g K V B C k st j f)
theorem sumAt_sing (a a' : κ) (n : Int) : sumAt [(a, n)] a' = if a = a' then n else 0 := by simp [sumAt]
theorem sumAt_map {α : Type} (l : List α) (h : α → κ) (n : Int) (a : κ) : sumAt (l.map fun c => (h c, n)) a = (l.map fun c => if h c = a then n else 0).sum := by unfold sumAt; rw [List.map_map]; rfl
theorem sum_pick {α : Type} [DecidableEq α] {n : Int} (x : α) : ∀ {l : List α}, l.Nodup → (l.map fun c => if c = x then n else 0).sum = if x ∈ l then n else 0
  | [], _ => by simp
  | c :: l, h => by
    rw [List.nodup_cons] at h
    rw [List.map_cons, List.sum_cons, sum_pick x h.2]
    by_cases e : c = x
    · subst e; rw [if_pos rfl, if_neg h.1, if_pos (by simp)]; omega
    · rw [if_neg e]
      by_cases hx : x ∈ l
      · rw [if_pos hx, if_pos (by simp [hx])]; omega
      · rw [if_neg hx, if_neg (by simp [hx]; exact fun h => e h.symm)]; omega
theorem lst_put (a : κ) (n : Int) : lst (putT noT a n) = [(a, n)] := by
  have h : IsL [(a, n)] (putT (noT : Tf κ) a n) := by have := (IsL.empty (κ := κ)).push (a := a) (n := n) rfl; simpa using this
  exact List.perm_singleton.1 ((lst_is h).perm h)
theorem upd_self {b1 b2 : List Int} {v : Int} (hne : ∀ u ∈ b1 ++ b2, u.toNat ≠ v.toNat) (f : Nat → Nat) (c : Nat) : ∀ u ∈ b1 ++ b2, upd1 f v.toNat c u.toNat = f u.toNat := fun u hu => by unfold upd1; rw [if_neg (hne u hu)]
theorem valid_less {b1 b2 : List Int} {v : Int} {f : Nat → Nat} (h : valid k (b1 ++ v :: b2) f) : valid k (b1 ++ b2) f := fun u hu => h u (by simp at hu ⊢; rcases hu with h | h; exact .inl h; exact .inr (.inr h))
theorem valid_more {b1 b2 : List Int} {v : Int} {f : Nat → Nat} {c : Nat} (h : valid k (b1 ++ b2) f) (hc : c < k) : valid k (b1 ++ v :: b2) (upd1 f v.toNat c) := fun u hu => by
  unfold upd1
  split
  · exact hc
  · rename_i hn
    refine h u ?_
    simp only [List.mem_append, List.mem_cons] at hu ⊢
    rcases hu with h | h | h
    · exact .inl h
    · subst h; exact absurd rfl hn
    · exact .inr h
theorem nodup_split {b1 b2 : List Int} {v : Int} (h : (b1 ++ v :: b2).Pairwise (fun u v => u.toNat ≠ v.toNat)) : ∀ u ∈ b1 ++ b2, u.toNat ≠ v.toNat := fun u hu => by
  rcases List.mem_append.1 hu with g1 | g1
  · exact (List.pairwise_append.1 h).2.2 u g1 v (by simp)
  · exact fun e => (List.pairwise_cons.1 (List.pairwise_append.1 h).2.1).1 u g1 e.symm
open Classical in
theorem mayC_upd {b1 b2 : List Int} {v : Int} {f : Nat → Nat} (hn : ∀ u ∈ b1 ++ b2, u.toNat ≠ v.toNat) (hc : f v.toNat < k) :
    f v.toNat ∈ mayC g k st (b1 ++ v :: b2) v f ↔ ((st = true ∧ f v.toNat = 0) ∨ ¬ nearC g (b1 ++ v :: b2) f v (f v.toNat)) := by
  have e : upd1 f v.toNat (f v.toNat) = f := by funext x; unfold upd1; split; rename_i h; rw [h]; rfl
  unfold mayC
  rw [List.mem_filter, List.mem_range, decide_eq_true_iff, e]
  exact ⟨fun h => h.2, fun h => ⟨hc, h⟩⟩
theorem node_add (hL : Lin κ g k st mask R key) (h : NiceIs g K V B C) {i : Nat} (hi : i < K.length) (hk : K.getD i 0 = 2) {j : Nat} (hj : j < i) (hc : C.getD i [] = [(j : Int)]) {b1 b2 : List Int} (hb : B.getD i [] = b1 ++ V.getD i 0 :: b2) (hbk : B.getD j [] = b1 ++ b2)
    {T : Tf κ} (hT : TJ g K V B C k st key j T) {mb : BitVec 32} (hmb : mask (B.getD j []) = some mb) : ∃ T', gatF R T (cAdd R (V.getD i 0) mb) = some T' ∧ TJ g K V B C k st key i T' := by
  have hr := (h.bag hi).2
  have hrk := (h.bag (i := j) (by omega)).2
  have hnd := nodup_split (by rw [← hb]; exact h.nodup hi)
  rw [hb] at hr; rw [hbk] at hrk hmb
  have hadd : ∀ {f : Nat → Nat} (n : Int), valid k (b1 ++ b2) f → cAdd R (V.getD i 0) mb (key (b1 ++ b2) f, n) = some ((mayC g k st (b1 ++ V.getD i 0 :: b2) (V.getD i 0) f).map fun c => (key (b1 ++ V.getD i 0 :: b2) (upd1 f (V.getD i 0).toNat c), n)) := fun {f} n hf => by
    unfold cAdd
    rw [hL.add hr hrk hmb hf, Option.map_some, List.map_map]; rfl
  have hsupp : ∀ a n, T a = some n → ∃ f, valid k (b1 ++ b2) f ∧ a = key (b1 ++ b2) f := fun a n ha => by have := hT.supp a n ha; rwa [hbk] at this
  have hG : ∀ a n, T a = some n → cAdd R (V.getD i 0) mb (a, n) = some ((cAdd R (V.getD i 0) mb (a, n)).getD []) := fun a n ha => by
    obtain ⟨f, hf, rfl⟩ := hsupp a n ha
    rw [hadd n hf]; rfl
  have hcs : ∀ {f : Nat → Nat} {c : Nat}, c ∈ mayC g k st (b1 ++ V.getD i 0 :: b2) (V.getD i 0) f → c < k := fun hc => by
    unfold mayC at hc; rw [List.mem_filter] at hc; simpa using hc.1
  obtain ⟨T', hT', hfin, hs, hok, hsum⟩ := gatF_sum hL.pick hT.fin (fun p => (cAdd R (V.getD i 0) mb p).getD []) hG
  refine ⟨T', hT', hfin, hok fun s n hn p hp => ?_, fun a n ha => ?_, fun f hf => ?_⟩
  · obtain ⟨f, hf, rfl⟩ := hsupp s n hn
    rw [hadd n hf] at hp
    obtain ⟨c, _, rfl⟩ := List.mem_map.1 hp
    exact hT.ok _ _ hn
  · obtain ⟨s, m, m', hsm, hm⟩ := hs a (by rw [ha]; simp)
    obtain ⟨f, hf, rfl⟩ := hsupp s m hsm
    rw [hadd m hf] at hm
    obtain ⟨c, hc', e⟩ := List.mem_map.1 hm
    have e1 := congrArg Prod.fst e
    exact ⟨upd1 f (V.getD i 0).toNat c, by rw [hb]; exact valid_more hf (hcs hc'), by rw [hb]; exact e1.symm⟩
  · rw [hb] at hf ⊢
    have hfk : valid k (b1 ++ b2) f := valid_less hf
    have hval : ∀ {f' : Nat → Nat} (n : Int), valid k (b1 ++ b2) f' → sumAt ((cAdd R (V.getD i 0) mb (key (b1 ++ b2) f', n)).getD []) (key (b1 ++ V.getD i 0 :: b2) f) = if (∀ u ∈ b1 ++ b2, f' u.toNat = f u.toNat) ∧ f (V.getD i 0).toNat ∈ mayC g k st (b1 ++ V.getD i 0 :: b2) (V.getD i 0) f' then n else 0 := fun {f'} n hf' => by
      rw [hadd n hf', Option.getD_some, sumAt_map]
      by_cases ce : ∀ u ∈ b1 ++ b2, f' u.toNat = f u.toNat
      · have : ((mayC g k st (b1 ++ V.getD i 0 :: b2) (V.getD i 0) f').map fun c => if key (b1 ++ V.getD i 0 :: b2) (upd1 f' (V.getD i 0).toNat c) = key (b1 ++ V.getD i 0 :: b2) f then n else 0) = (mayC g k st (b1 ++ V.getD i 0 :: b2) (V.getD i 0) f').map fun c => if c = f (V.getD i 0).toNat then n else 0 := by
          refine List.map_congr_left fun c hc' => ?_
          have hiff : key (b1 ++ V.getD i 0 :: b2) (upd1 f' (V.getD i 0).toNat c) = key (b1 ++ V.getD i 0 :: b2) f ↔ c = f (V.getD i 0).toNat := by
            rw [hL.same hr (valid_more hf' (hcs hc')) hf]
            constructor
            · intro hx; have := hx (V.getD i 0) (by simp); rwa [show upd1 f' (V.getD i 0).toNat c (V.getD i 0).toNat = c by unfold upd1; rw [if_pos rfl]] at this
            · intro hx u hu
              simp only [List.mem_append, List.mem_cons] at hu
              by_cases eu : u.toNat = (V.getD i 0).toNat
              · rw [eu, hx]; unfold upd1; rw [if_pos rfl]
              · have hu' : u ∈ b1 ++ b2 := by
                  rcases hu with h | h | h
                  · simp [h]
                  · subst h; exact absurd rfl eu
                  · simp [h]
                rw [upd_self hnd f' c u hu', ce u hu']
          by_cases c1 : c = f (V.getD i 0).toNat
          · rw [if_pos (hiff.2 c1), if_pos c1]
          · rw [if_neg (fun h => c1 (hiff.1 h)), if_neg c1]
        rw [this, sum_pick _ (by unfold mayC; exact List.nodup_range.filter _)]
        by_cases c2 : f (V.getD i 0).toNat ∈ mayC g k st (b1 ++ V.getD i 0 :: b2) (V.getD i 0) f'
        · rw [if_pos c2, if_pos ⟨ce, c2⟩]
        · rw [if_neg c2, if_neg (fun h => c2 h.2)]
      · rw [if_neg (fun h => ce h.1)]
        refine sumI_zero fun c hc' => if_neg fun hx => ce fun u hu => ?_
        have := (hL.same hr (valid_more hf' (hcs hc')) hf).1 hx u (by simp at hu ⊢; rcases hu with h | h; exact .inl h; exact .inr (.inr h))
        rwa [upd_self hnd f' c u hu] at this
    refine (hsum _ [key (b1 ++ b2) f] (by simp) (fun s n hn hx => ?_)).trans ?_
    · obtain ⟨f', hf', rfl⟩ := hsupp s n hn
      rw [hval n hf', if_neg]
      rintro ⟨h1, _⟩
      exact hx (by rw [(hL.same hrk hf' hfk).2 h1]; simp)
    · have hih := hT.val f (by rw [hbk]; exact hfk)
      rw [hbk] at hih
      have hmay := mayC_upd (g := g) (st := st) hnd (hf (V.getD i 0) (by simp))
      rw [cval_add hk hj hc, hb]
      simp only [List.map_cons, List.map_nil, List.sum_cons, List.sum_nil, Int.add_zero]
      by_cases cm : f (V.getD i 0).toNat ∈ mayC g k st (b1 ++ V.getD i 0 :: b2) (V.getD i 0) f
      · rw [if_pos (hmay.1 cm)]
        refine eqv.trans ?_ hih
        cases hTk : T (key (b1 ++ b2) f) with
        | none => exact eqv.refl _
        | some n => simp only; rw [hval n hfk, if_pos ⟨fun _ _ => rfl, cm⟩]; exact eqv.refl _
      · rw [if_neg (fun h => cm (hmay.2 h))]
        cases hTk : T (key (b1 ++ b2) f) with
        | none => exact eqv.refl _
        | some n => simp only; rw [hval n hfk, if_neg (fun h => cm h.2)]; exact eqv.refl _
theorem node_drop (hL : Lin κ g k st mask R key) (h : NiceIs g K V B C) {i : Nat} (hi : i < K.length) (hk : K.getD i 0 = 3) {j : Nat} (hj : j < i) (hc : C.getD i [] = [(j : Int)]) {b1 b2 : List Int} (hbk : B.getD j [] = b1 ++ V.getD i 0 :: b2) (hb : B.getD i [] = b1 ++ b2)
    {T : Tf κ} (hT : TJ g K V B C k st key j T) {mb : BitVec 32} (hmb : mask (B.getD i []) = some mb) : ∃ T', gatF R T (cDrop R (V.getD i 0) mb) = some T' ∧ TJ g K V B C k st key i T' := by
  have hr := (h.bag hi).2
  have hrk := (h.bag (i := j) (by omega)).2
  have hnd := nodup_split (by rw [← hbk]; exact h.nodup (i := j) (by omega))
  rw [hb] at hr hmb; rw [hbk] at hrk
  have hdrop : ∀ {f : Nat → Nat} {n : Int}, valid k (b1 ++ V.getD i 0 :: b2) f → InI n → cDrop R (V.getD i 0) mb (key (b1 ++ V.getD i 0 :: b2) f, n) = some [(key (b1 ++ b2) f, n)] := fun {f n} hf hn => by
    unfold cDrop
    rw [hL.drop hrk hr hmb hf hn, Option.map_some, lst_put]
  have hsupp : ∀ a n, T a = some n → ∃ f, valid k (b1 ++ V.getD i 0 :: b2) f ∧ a = key (b1 ++ V.getD i 0 :: b2) f := fun a n ha => by have := hT.supp a n ha; rwa [hbk] at this
  have hG : ∀ a n, T a = some n → cDrop R (V.getD i 0) mb (a, n) = some ((cDrop R (V.getD i 0) mb (a, n)).getD []) := fun a n ha => by
    obtain ⟨f, hf, rfl⟩ := hsupp a n ha
    rw [hdrop hf (hT.ok _ _ ha)]; rfl
  obtain ⟨T', hT', hfin, hs, hok, hsum⟩ := gatF_sum hL.pick hT.fin (fun p => (cDrop R (V.getD i 0) mb p).getD []) hG
  refine ⟨T', hT', hfin, hok fun s n hn p hp => ?_, fun a n ha => ?_, fun f hf => ?_⟩
  · obtain ⟨f, hf, rfl⟩ := hsupp s n hn
    rw [hdrop hf (hT.ok _ _ hn), Option.getD_some, List.mem_singleton] at hp
    subst hp
    exact hT.ok _ _ hn
  · obtain ⟨s, m, m', hsm, hm⟩ := hs a (by rw [ha]; simp)
    obtain ⟨f, hf, rfl⟩ := hsupp s m hsm
    rw [hdrop hf (hT.ok _ _ hsm), Option.getD_some, List.mem_singleton] at hm
    exact ⟨f, by rw [hb]; exact valid_less hf, by rw [hb]; exact congrArg Prod.fst hm⟩
  · rw [hb] at hf ⊢
    have hval : ∀ {f' : Nat → Nat} {n : Int}, valid k (b1 ++ V.getD i 0 :: b2) f' → InI n → sumAt ((cDrop R (V.getD i 0) mb (key (b1 ++ V.getD i 0 :: b2) f', n)).getD []) (key (b1 ++ b2) f) = if ∀ u ∈ b1 ++ b2, f' u.toNat = f u.toNat then n else 0 := fun {f' n} hf' hn => by
      rw [hdrop hf' hn, Option.getD_some, sumAt_sing]
      have := hL.same hr (valid_less hf') hf
      by_cases c : ∀ u ∈ b1 ++ b2, f' u.toNat = f u.toNat
      · rw [if_pos (this.2 c), if_pos c]
      · rw [if_neg (fun h => c (this.1 h)), if_neg c]
    have hself : ∀ c, upd1 f (V.getD i 0).toNat c (V.getD i 0).toNat = c := fun c => by unfold upd1; rw [if_pos rfl]
    have hcand : ((List.range k).map fun c => key (b1 ++ V.getD i 0 :: b2) (upd1 f (V.getD i 0).toNat c)).Nodup := by
      have : ∀ (l : List Nat), l.Nodup → (∀ x ∈ l, x < k) → (l.map fun c => key (b1 ++ V.getD i 0 :: b2) (upd1 f (V.getD i 0).toNat c)).Nodup := by
        intro l
        induction l with
        | nil => intro _ _; exact List.nodup_nil
        | cons c l ih =>
          intro hn hl
          rw [List.nodup_cons] at hn
          rw [List.map_cons, List.nodup_cons]
          refine ⟨fun hm => ?_, ih hn.2 fun x hx => hl x (by simp [hx])⟩
          obtain ⟨c', hc', e⟩ := List.mem_map.1 hm
          have := (hL.same hrk (valid_more hf (hl c' (by simp [hc']))) (valid_more hf (hl c (by simp)))).1 e (V.getD i 0) (by simp)
          rw [hself, hself] at this
          exact hn.1 (this ▸ hc')
      exact this _ List.nodup_range (by simp)
    refine (hsum _ _ hcand (fun s n hn hx => ?_)).trans ?_
    · obtain ⟨f', hf', rfl⟩ := hsupp s n hn
      rw [hval hf' (hT.ok _ _ hn), if_neg]
      intro hce
      refine hx (List.mem_map.2 ⟨f' (V.getD i 0).toNat, List.mem_range.2 (hf' _ (by simp)), ?_⟩)
      refine (hL.same hrk (valid_more hf (hf' _ (by simp))) hf').2 fun u hu => ?_
      simp only [List.mem_append, List.mem_cons] at hu
      by_cases eu : u.toNat = (V.getD i 0).toNat
      · rw [eu, hself]
      · have hu' : u ∈ b1 ++ b2 := by
          rcases hu with h | h | h
          · simp [h]
          · subst h; exact absurd rfl eu
          · simp [h]
        rw [upd_self hnd f _ u hu', hce u hu']
    · rw [cval_drop hk hj hc, List.map_map]
      refine eqv.sum fun c hc' => ?_
      have hck : c < k := by simpa using hc'
      have hv' := valid_more (v := V.getD i 0) hf hck
      have hih := hT.val (upd1 f (V.getD i 0).toNat c) (by rw [hbk]; exact hv')
      rw [hbk] at hih
      refine eqv.trans ?_ hih
      simp only [Function.comp]
      cases hTk : T (key (b1 ++ V.getD i 0 :: b2) (upd1 f (V.getD i 0).toNat c)) with
      | none => exact eqv.refl _
      | some n => simp only; rw [hval hv' (hT.ok _ _ hTk), if_pos (fun u hu => upd_self hnd f c u hu)]; exact eqv.refl _
theorem node_meet (hL : Lin κ g k st mask R key) (h : NiceIs g K V B C) {i : Nat} (hi : i < K.length) (hk : K.getD i 0 = 4) {j l : Nat} (hj : j < i) (hl : l < i) (hc : C.getD i [] = [(j : Int), (l : Int)]) (hbk : B.getD j [] = B.getD i []) (hbl : B.getD l [] = B.getD i [])
    {T U : Tf κ} (hT : TJ g K V B C k st key j T) (hU : TJ g K V B C k st key l U) : ∃ T', gatF R T (cMeet R U) = some T' ∧ TJ g K V B C k st key i T' := by
  have hlU := lst_is (hU.fin.choose_spec)
  have hone : ∀ (p q : κ × Int), cMeet1 R p q = if p.1 = q.1 then [(p.1, wr (p.2 * q.2))] else [] := fun p q => by
    unfold cMeet1
    rw [hL.meet, hL.both]
    by_cases c : p.1 = q.1
    · rw [if_pos (decide_eq_true c), if_pos c]
    · rw [if_neg (by simp [c]), if_neg c]
  have hsumU : ∀ (p : κ × Int) (a : κ), sumAt ((lst U).flatMap (cMeet1 R p)) a = if p.1 = a then (match U p.1 with | some m => wr (p.2 * m) | none => 0) else 0 := fun p a => by
    rw [sumAt_flatMap, lsum hlU [p.1] (fun q => sumAt (cMeet1 R p q) a) (by simp) (fun q hq hx => by
      show sumAt (cMeet1 R p q) a = 0
      rw [hone, if_neg (fun e => hx (by simp [e]))]; rfl)]
    simp only [List.map_cons, List.map_nil, List.sum_cons, List.sum_nil, Int.add_zero]
    cases hp : U p.1 with
    | none => simp
    | some m => simp only; rw [hone, if_pos rfl, sumAt_sing]
  obtain ⟨T', hT', hfin, hs, hok, hsum⟩ := gatF_sum hL.pick hT.fin (f := cMeet R U) (fun p => (lst U).flatMap (cMeet1 R p)) (fun a n _ => rfl)
  refine ⟨T', hT', hfin, hok fun s n hn p hp => ?_, fun a n ha => ?_, fun f hf => ?_⟩
  · obtain ⟨q, hq, hp⟩ := List.mem_flatMap.1 hp
    rw [hone] at hp
    split at hp
    · rw [List.mem_singleton] at hp; subst hp; exact wr_in _
    · cases hp
  · obtain ⟨s, m, m', hsm, hm⟩ := hs a (by rw [ha]; simp)
    obtain ⟨q, hq, hp⟩ := List.mem_flatMap.1 hm
    rw [hone] at hp
    split at hp
    · rw [List.mem_singleton] at hp
      have e : a = s := congrArg Prod.fst hp
      subst e
      obtain ⟨f, hf, e⟩ := hT.supp _ _ hsm
      rw [hbk] at hf e
      exact ⟨f, hf, e⟩
    · cases hp
  · have h1 := hT.val f (by rw [hbk]; exact hf)
    have h2 := hU.val f (by rw [hbl]; exact hf)
    rw [hbk] at h1; rw [hbl] at h2
    refine (hsum _ [key (B.getD i []) f] (by simp) (fun s n hn hx => by rw [hsumU, if_neg (fun e => hx (List.mem_singleton.2 e))])).trans ?_
    rw [cval_meet hk hj hl hc]
    refine eqv.trans ?_ (h1.mul h2)
    simp only [List.map_cons, List.map_nil, List.sum_cons, List.sum_nil, Int.add_zero]
    cases hTk : T (key (B.getD i []) f) with
    | none => simp only [Option.getD_none, Int.zero_mul]; exact eqv.refl _
    | some n =>
      simp only
      rw [hsumU, if_pos rfl]
      cases hUk : U (key (B.getD i []) f) with
      | none => simp only [hUk, Option.getD_none, Int.mul_zero]; exact eqv.refl _
      | some m => simp only [hUk, Option.getD_some]; exact eqv.wr _
theorem runF_eq (hL : Lin κ g k st mask R key) (h : NiceIs g K V B C) : ∃ T, runF mask R (putT noT (key [] fun _ => 0) 1) K V B C = some T ∧ okT T ∧ eqv ((T (key [] fun _ => 0)).getD 0) (cval g K V B C k st (K.length - 1) fun _ => 0) := by
  have hm := h.2.1
  have hV : V.length = K.length := h.2.2.1
  have hB : B.length = K.length := h.2.2.2.1
  have hC : C.length = K.length := h.2.2.2.2.1
  have hnil : Rises [] (g.length : Int) := fun k hk => by simp at hk
  obtain ⟨o, ho, hlen, hAll⟩ := lp_ex (step := fun s => runL mask R (putT noT (key [] fun _ => 0) 1) K V B C s.1 s.2) (fun i (ts : List (Tf κ)) => (ts, (i : Int))) K.length
    (fun i ts => ts.length = i ∧ ∀ j, j < i → ∃ T, ts[j]? = some T ∧ TJ g K V B C k st key j T) (fun o => o.length = K.length ∧ ∀ j, j < K.length → ∃ T, o[j]? = some T ∧ TJ g K V B C k st key j T) (fun i ts hi hI => by
      obtain ⟨hlen, hAll⟩ := hI
      have node : ∃ T', nodeT mask R (putT noT (key [] fun _ => 0) 1) B ts (i : Int) (K.getD i 0) (V.getD i 0) (C.getD i []) = some T' ∧ TJ g K V B C k st key i T' := by
        unfold nodeT
        have tsx : ∀ {j : Nat} {T : Tf κ} {β : Type} (q : Tf κ → Option β), ts[j]? = some T → idx ts (j : Int) q = q T := fun q h => idx_of (by omega) (by rw [Int.toNat_natCast]; exact h)
        cases h.node hi with
        | leaf hk hb hc =>
          rw [if_pos hk]
          refine ⟨_, rfl, put_fin fin_no _ _, fun a n ha => ?_, fun a n ha => ?_, fun f hf => ?_⟩
          · unfold putT at ha; split at ha
            · obtain rfl := Option.some.inj ha; decide
            · cases ha
          · unfold putT at ha; split at ha
            · rename_i e; exact ⟨fun _ => 0, by rw [hb]; exact (fun v hv => nomatch hv), by rw [hb]; exact e⟩
            · cases ha
          · rw [hb] at hf ⊢
            have e : key [] f = key [] fun _ => 0 := (hL.same hnil hf (fun v hv => by cases hv)).2 (fun v hv => by cases hv)
            rw [e, cval_leaf hk]
            unfold putT; rw [if_pos rfl]; exact eqv.refl _
        | add hk j hj hc hv b1 b2 hb hbk =>
          obtain ⟨T, hTj, hT⟩ := hAll j hj
          obtain ⟨mb, hmb⟩ := hL.msk (h.bag (i := j) (by omega)).2
          obtain ⟨T', h1, h2⟩ := node_add hL h hi hk hj hc hb hbk hT hmb
          refine ⟨T', ?_, h2⟩
          rw [if_neg (by omega), if_pos hk, hc]
          show idx ts (j : Int) _ = _
          rw [tsx _ hTj, getL_idx (by omega), cal_of hmb, h1]
        | drop hk j hj hc hv b1 b2 hbk hb =>
          obtain ⟨T, hTj, hT⟩ := hAll j hj
          obtain ⟨mb, hmb⟩ := hL.msk (h.bag hi).2
          obtain ⟨T', h1, h2⟩ := node_drop hL h hi hk hj hc hbk hb hT hmb
          refine ⟨T', ?_, h2⟩
          rw [if_neg (by omega), if_neg (by omega), if_pos hk, hc]
          show idx ts (j : Int) _ = _
          rw [tsx _ hTj, getL_idx (by omega), cal_of hmb, h1]
        | meet hk j l hj hl hc hbk hbl =>
          obtain ⟨T, hTj, hT⟩ := hAll j hj
          obtain ⟨U, hUl, hU⟩ := hAll l hl
          obtain ⟨T', h1, h2⟩ := node_meet hL h hi hk hj hl hc hbk hbl hT hU
          refine ⟨T', ?_, h2⟩
          rw [if_neg (by omega), if_neg (by omega), if_neg (by omega), if_pos hk, hc]
          show idx ts (j : Int) _ = _
          rw [tsx _ hTj]
          show idx ts (l : Int) _ = _
          rw [tsx _ hUl, h1]
      obtain ⟨T', hn, hTJ⟩ := node
      refine ⟨ts ++ [T'], ?_, by rw [List.length_append, hlen]; rfl, fun j hj => ?_⟩
      · simp only [runL]
        rw [if_pos (by omega), getD_idx hi, getD_idx (by omega), getL_idx (by omega), cal_of hn, app1_s (by omega), ck_of (inI (by omega) (by omega))]; rfl
      · by_cases e : j < i
        · obtain ⟨T, h1, h2⟩ := hAll j e
          exact ⟨T, by rw [List.getElem?_append_left (by omega)]; exact h1, h2⟩
        · have e2 : j = i := by omega
          subst e2
          exact ⟨T', by rw [← hlen, List.getElem?_append_right (Nat.le_refl _)]; simp, hTJ⟩)
    (fun ts hI => ⟨ts, by simp only [runL]; rw [if_neg (by omega)], hI⟩) K.length 0 [] (by omega) ⟨rfl, fun j hj => by omega⟩
  rw [show ((0 : Nat) : Int) = 0 from rfl] at ho
  obtain ⟨T, hT, hJ⟩ := hAll (K.length - 1) (by omega)
  refine ⟨T, ?_, hJ.ok, ?_⟩
  · unfold runF
    rw [cal_of ho, hlen, ck_of (inI (by omega) (by omega)), show (K.length : Int) - 1 = ((K.length - 1 : Nat) : Int) by omega, idx_of (by omega) (by rw [Int.toNat_natCast]; exact hT)]
  · have := hJ.val (fun _ => 0) (by rw [h.last]; intro v hv; cases hv)
    rwa [h.last] at this
end
end Go.Proofs.Ytnebbhginakaiaa
