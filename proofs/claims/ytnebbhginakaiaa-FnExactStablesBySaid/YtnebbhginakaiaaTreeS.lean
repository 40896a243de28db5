/- How many colourings there are below each node: what the reference's rows hold. -/
import Derived.Test.YtnebbhginakaiaaTree
import Derived.Test.YtnebbhginakaiaaGat
namespace Go.Proofs.Ytnebbhginakaiaa
section
variable {g : List (List Int)} {K V : List Int} {B C : List (List Int)}
open Classical in
noncomputable def cval (g : List (List Int)) (K V : List Int) (B C : List (List Int)) (k : Nat) (st : Bool) (i : Nat) (f : Nat → Nat) : Int :=
  if K.getD i 0 = 1 then 1
  else if K.getD i 0 = 2 then (if (st = true ∧ f (V.getD i 0).toNat = 0) ∨ ¬ nearC g (B.getD i []) f (V.getD i 0) (f (V.getD i 0).toNat) then (if h : kidAt C i 0 < i then cval g K V B C k st (kidAt C i 0) f else 0) else 0)
  else if K.getD i 0 = 3 then ((List.range k).map fun c => if h : kidAt C i 0 < i then cval g K V B C k st (kidAt C i 0) (upd1 f (V.getD i 0).toNat c) else 0).sum
  else if h : kidAt C i 0 < i ∧ kidAt C i 1 < i then cval g K V B C k st (kidAt C i 0) f * cval g K V B C k st (kidAt C i 1) f else 0
termination_by i
decreasing_by
  · exact h
  · exact h
  · exact h.1
  · exact h.2
theorem kidAt0 {i k : Nat} {r : List Int} (hc : C.getD i [] = (k : Int) :: r) : kidAt C i 0 = k := by unfold kidAt; rw [hc]; rfl
theorem kidAt1 {i k l : Nat} {r : List Int} (hc : C.getD i [] = (k : Int) :: (l : Int) :: r) : kidAt C i 1 = l := by unfold kidAt; rw [hc]; rfl
variable {k : Nat} {st : Bool} {i : Nat}
theorem cval_leaf (hk : K.getD i 0 = 1) (f : Nat → Nat) : cval g K V B C k st i f = 1 := by rw [cval, if_pos hk]
open Classical in
theorem cval_add (hk : K.getD i 0 = 2) {j : Nat} (hj : j < i) (hc : C.getD i [] = [(j : Int)]) (f : Nat → Nat) :
    cval g K V B C k st i f = if (st = true ∧ f (V.getD i 0).toNat = 0) ∨ ¬ nearC g (B.getD i []) f (V.getD i 0) (f (V.getD i 0).toNat) then cval g K V B C k st j f else 0 := by
  rw [cval, if_neg (by omega), if_pos hk, dif_pos (by rw [kidAt0 hc]; exact hj), kidAt0 hc]
theorem cval_drop (hk : K.getD i 0 = 3) {j : Nat} (hj : j < i) (hc : C.getD i [] = [(j : Int)]) (f : Nat → Nat) :
    cval g K V B C k st i f = ((List.range k).map fun c => cval g K V B C k st j (upd1 f (V.getD i 0).toNat c)).sum := by
  rw [cval, if_neg (by omega), if_neg (by omega), if_pos hk]
  refine congrArg List.sum (List.map_congr_left fun c _ => ?_)
  rw [dif_pos (by rw [kidAt0 hc]; exact hj), kidAt0 hc]
theorem cval_meet (hk : K.getD i 0 = 4) {j l : Nat} (hj : j < i) (hl : l < i) (hc : C.getD i [] = [(j : Int), (l : Int)]) (f : Nat → Nat) :
    cval g K V B C k st i f = cval g K V B C k st j f * cval g K V B C k st l f := by
  rw [cval, if_neg (by omega), if_neg (by omega), if_neg (by omega), dif_pos (by rw [kidAt0 hc, kidAt1 hc]; exact ⟨hj, hl⟩), kidAt0 hc, kidAt1 hc]
theorem nearC_congr {b : List Int} {f f' : Nat → Nat} (h : ∀ v ∈ b, f v.toNat = f' v.toNat) (v : Int) (c : Nat) : nearC g b f v c ↔ nearC g b f' v c := by
  unfold nearC
  exact ⟨fun ⟨u, h1, h2, h3⟩ => ⟨u, h1, h2, by rw [← h u h1]; exact h3⟩, fun ⟨u, h1, h2, h3⟩ => ⟨u, h1, h2, by rw [h u h1]; exact h3⟩⟩
theorem cval_congr (h : NiceIs g K V B C) : ∀ (i : Nat), i < K.length → ∀ {f f' : Nat → Nat}, (∀ v ∈ B.getD i [], f v.toNat = f' v.toNat) → cval g K V B C k st i f = cval g K V B C k st i f' := by
  intro i
  induction i using Nat.strongRecOn with
  | _ i ih =>
    intro hi f f' hf
    cases h.node hi with
    | leaf hk hb hc => rw [cval_leaf hk, cval_leaf hk]
    | add hk j hj hc hv b1 b2 hb hbk =>
      have e : f (V.getD i 0).toNat = f' (V.getD i 0).toNat := hf _ (by rw [hb]; simp)
      rw [cval_add hk hj hc, cval_add hk hj hc, ih j hj (by omega) (f' := f') (fun v hv' => hf v (by rw [hb]; rw [hbk] at hv'; simp at hv' ⊢; rcases hv' with h | h; exact .inl h; exact .inr (.inr h))), e]
      have hn := nearC_congr (g := g) hf (V.getD i 0) (f' (V.getD i 0).toNat)
      by_cases c : (st = true ∧ f' (V.getD i 0).toNat = 0) ∨ ¬ nearC g (B.getD i []) f (V.getD i 0) (f' (V.getD i 0).toNat)
      · rw [if_pos c, if_pos (c.imp id fun h1 h2 => h1 (hn.2 h2))]
      · rw [if_neg c, if_neg (fun h1 => c (h1.imp id fun h2 h3 => h2 (hn.1 h3)))]
    | drop hk j hj hc hv b1 b2 hbk hb =>
      rw [cval_drop hk hj hc, cval_drop hk hj hc]
      refine congrArg List.sum (List.map_congr_left fun c _ => ih j hj (by omega) fun v hv' => ?_)
      unfold upd1
      split
      · rfl
      · rename_i hne
        refine hf v ?_
        rw [hbk] at hv'; rw [hb]
        simp only [List.mem_append, List.mem_cons] at hv' ⊢
        rcases hv' with h | h | h
        · exact .inl h
        · subst h; exact absurd rfl hne
        · exact .inr h
    | meet hk j l hj hl hc hbk hbl =>
      rw [cval_meet hk hj hl hc, cval_meet hk hj hl hc, ih j hj (by omega) (f' := f') (fun v hv => hf v (by rw [← hbk]; exact hv)), ih l hl (by omega) (f' := f') (fun v hv => hf v (by rw [← hbl]; exact hv))]
theorem sumI_le {α : Type} {f : α → Int} {M : Int} : ∀ {l : List α}, (∀ x ∈ l, 0 ≤ f x ∧ f x ≤ M) → 0 ≤ (l.map f).sum ∧ (l.map f).sum ≤ l.length * M
  | [], _ => by simp
  | x :: l, h => by
    have h1 := h x (by simp)
    have h2 := sumI_le (l := l) fun y hy => h y (by simp [hy])
    rw [List.map_cons, List.sum_cons, List.length_cons]
    have e : ((l.length + 1 : Nat) : Int) * M = l.length * M + M := by rw [Int.natCast_add, Int.add_mul]; simp
    rw [e]; omega
theorem cval_le (h : NiceIs g K V B C) : ∀ (i : Nat), i < K.length → ∀ (f : Nat → Nat), 0 ≤ cval g K V B C k st i f ∧ cval g K V B C k st i f ≤ ((k ^ dn K C i : Nat) : Int) := by
  intro i
  induction i using Nat.strongRecOn with
  | _ i ih =>
    intro hi f
    cases h.node hi with
    | leaf hk hb hc => rw [cval_leaf hk, dn_none hc, if_neg (by omega)]; simp
    | add hk j hj hc hv b1 b2 hb hbk =>
      have h1 := ih j hj (by omega) f
      rw [cval_add hk hj hc, dn_one hj hc, if_neg (show ¬ K.getD i 0 = 3 by omega), Nat.zero_add]
      split
      · exact h1
      · omega
    | drop hk j hj hc hv b1 b2 hbk hb =>
      rw [cval_drop hk hj hc, dn_one hj hc, if_pos hk, Nat.pow_add, Nat.pow_one]
      have := sumI_le (l := List.range k) (f := fun c => cval g K V B C k st j (upd1 f (V.getD i 0).toNat c)) (M := ((k ^ dn K C j : Nat) : Int)) fun c _ => ih j hj (by omega) _
      rw [List.length_range] at this
      rw [Int.natCast_mul]; exact this
    | meet hk j l hj hl hc hbk hbl =>
      have h1 := ih j hj (by omega) f
      have h2 := ih l hl (by omega) f
      rw [cval_meet hk hj hl hc, dn_two hj hl hc, if_neg (by omega), Nat.zero_add, Nat.pow_add, Int.natCast_mul]
      exact ⟨Int.mul_nonneg h1.1 h2.1, Int.mul_le_mul h1.2 h2.2 h2.1 (Int.natCast_nonneg _)⟩
theorem cval_in (h : NiceIs g K V B C) (hk4 : k ≤ 4) (hi : i < K.length) (f : Nat → Nat) : 0 ≤ cval g K V B C k st i f ∧ cval g K V B C k st i f ≤ 4294967296 := by
  have h1 := cval_le (k := k) (st := st) h i hi f
  refine ⟨h1.1, Int.le_trans h1.2 ?_⟩
  have : k ^ dn K C i ≤ 4294967296 := by
    have hd := h.dn_le hi
    rcases Nat.eq_zero_or_pos k with e | e
    · subst e
      rcases Nat.eq_zero_or_pos (dn K C i) with e | e
      · rw [e]; decide
      · rw [Nat.zero_pow e]; omega
    · calc k ^ dn K C i ≤ 4 ^ dn K C i := Nat.pow_le_pow_left hk4 _
        _ ≤ 4 ^ 16 := Nat.pow_le_pow_right (by decide) hd
        _ ≤ 4294967296 := by decide
  omega
/-! ## rows -/
noncomputable def dec (k : Nat) (b : List Int) (s : Nat) : Nat → Nat := open Classical in
  if h : ∃ f : Nat → Nat, (∀ v ∈ b, f v.toNat < k) ∧ cod k b f = s then h.choose else fun _ => 0
theorem dec_spec {k : Nat} {b : List Int} (hb : b.Pairwise (fun u v => u.toNat ≠ v.toNat)) {s : Nat} (hs : s < k ^ b.length) : (∀ v ∈ b, dec k b s v.toNat < k) ∧ cod k b (dec k b s) = s := by
  obtain ⟨f, h1, _, h3⟩ := cod_surj b hb s hs
  have e : ∃ f : Nat → Nat, (∀ v ∈ b, f v.toNat < k) ∧ cod k b f = s := ⟨f, h1, h3⟩
  unfold dec
  rw [dif_pos e]
  exact e.choose_spec
theorem cod_inj {k : Nat} : ∀ {b : List Int} {f f' : Nat → Nat}, (∀ v ∈ b, f v.toNat < k) → (∀ v ∈ b, f' v.toNat < k) → cod k b f = cod k b f' → ∀ v ∈ b, f v.toNat = f' v.toNat
  | [], _, _, _, _, _ => by simp
  | u :: b, f, f', h, h', e => by
    rw [cod_cons, cod_cons] at e
    have h1 := h u (by simp)
    have h2 := h' u (by simp)
    have e1 : f u.toNat = f' u.toNat := by
      have := congrArg (· % k) e
      simp only [Nat.add_mul_mod_self_left, Nat.mod_eq_of_lt h1, Nat.mod_eq_of_lt h2] at this
      exact this
    have e2 : cod k b f = cod k b f' := Nat.eq_of_mul_eq_mul_left (show 0 < k by omega) (by omega)
    intro v hv
    rcases List.mem_cons.1 hv with rfl | hv
    · exact e1
    · exact cod_inj (fun v hv => h v (by simp [hv])) (fun v hv => h' v (by simp [hv])) e2 v hv
noncomputable def rowOf (k : Nat) (b : List Int) (v : (Nat → Nat) → Int) : List Int := (List.range (k ^ b.length)).map fun s => v (dec k b s)
theorem rowOf_idx {β : Type} {b : List Int} (hb : b.Pairwise (fun u v => u.toNat ≠ v.toNat)) {v : (Nat → Nat) → Int} (hv : ∀ f f', (∀ x ∈ b, f x.toNat = f' x.toNat) → v f = v f') {f : Nat → Nat} (hf : ∀ x ∈ b, f x.toNat < k) (q : Int → Option β) :
    idx (rowOf k b v) ((cod k b f : Nat) : Int) q = q (v f) := by
  have hs := cod_lt hf
  unfold rowOf
  rw [idx_range hs]
  have hd := dec_spec hb hs
  rw [hv _ f (cod_inj hd.1 hf hd.2)]
noncomputable def rowTo (k : Nat) (b : List Int) (v : (Nat → Nat) → Int) (s : Nat) : List Int := (List.range (k ^ b.length)).map fun t => if t < s then v (dec k b t) else 0
theorem rowTo_all (k : Nat) (b : List Int) (v : (Nat → Nat) → Int) : rowTo k b v (k ^ b.length) = rowOf k b v := List.map_congr_left fun t ht => if_pos (by simpa using ht)
theorem rowTo_zero (k : Nat) (b : List Int) (v : (Nat → Nat) → Int) : rowTo k b v 0 = List.replicate (k ^ b.length) 0 := by
  unfold rowTo
  rw [List.eq_replicate_iff]
  exact ⟨by simp, fun x hx => by obtain ⟨t, _, rfl⟩ := List.mem_map.1 hx; exact if_neg (by omega)⟩
theorem rowTo_len (k : Nat) (b : List Int) (v : (Nat → Nat) → Int) (s : Nat) : (rowTo k b v s).length = k ^ b.length := by simp [rowTo]
theorem rowTo_set {b : List Int} {v : (Nat → Nat) → Int} {s : Nat} (hs : s < k ^ b.length) {x : Int} (hx : v (dec k b s) = x) : (rowTo k b v s).set s x = rowTo k b v (s + 1) := by
  unfold rowTo
  refine range_set hs ?_ fun t ht => ?_
  · rw [if_pos (by omega)]; exact hx
  · by_cases c : t < s
    · rw [if_pos c, if_pos (by omega)]
    · rw [if_neg c, if_neg (by omega)]
theorem rowTo_skip {b : List Int} {v : (Nat → Nat) → Int} {s : Nat} (hx : v (dec k b s) = 0) : rowTo k b v s = rowTo k b v (s + 1) := by
  unfold rowTo
  refine List.map_congr_left fun t _ => ?_
  by_cases c : t < s
  · rw [if_pos c, if_pos (by omega)]
  · rw [if_neg c]
    by_cases e : t = s
    · subst e; rw [if_pos (by omega), hx]
    · rw [if_neg (by omega)]
theorem getD_idx {β : Type} {l : List Int} {i : Nat} (h : i < l.length) (q : Int → Option β) : idx l (i : Int) q = q (l.getD i 0) := by
  rw [idx_nat h, List.getD_eq_getElem?_getD, List.getElem?_eq_getElem h]; rfl
theorem getL_idx {α β : Type} {l : List (List α)} {i : Nat} (h : i < l.length) (q : List α → Option β) : idx l (i : Int) q = q (l.getD i []) := by
  rw [idx_nat h, List.getD_eq_getElem?_getD, List.getElem?_eq_getElem h]; rfl
noncomputable def rows (k : Nat) (B : List (List Int)) (v : Nat → (Nat → Nat) → Int) (i : Nat) : List (List Int) := (List.range i).map fun j => rowOf k (B.getD j []) (v j)
theorem rows_len (k : Nat) (B : List (List Int)) (v : Nat → (Nat → Nat) → Int) (i : Nat) : (rows k B v i).length = i := by simp [rows]
theorem rows_idx {β : Type} {v : Nat → (Nat → Nat) → Int} {i j : Nat} (h : j < i) (q : List Int → Option β) : idx (rows k B v i) (j : Int) q = q (rowOf k (B.getD j []) (v j)) := by
  rw [idx_nat (by rw [rows_len]; exact h)]
  simp [rows]
theorem rows_succ (v : Nat → (Nat → Nat) → Int) (i : Nat) : rows k B v (i + 1) = rows k B v i ++ [rowOf k (B.getD i []) (v i)] := by unfold rows; rw [List.range_succ, List.map_append]; rfl
open Classical in
theorem l29Colours_row (h : NiceIs g K V B C) (hl : ∀ x ∈ g, x.length ≤ 1048576) (hk4 : k ≤ 4) (hi : i < K.length) {s : Nat} (hs : s < k ^ (B.getD i []).length) :
    F_spec_l29Colours_l2 g K V B C (k : Int) (i : Int) (B.getD i []) st (rows k B (cval g K V B C k st) i) (rowTo k (B.getD i []) (cval g K V B C k st i) s) (s : Int)
      = some (.inl (st, rows k B (cval g K V B C k st) i, rowTo k (B.getD i []) (cval g K V B C k st i) (s + 1), ((s + 1 : Nat) : Int))) := by
  have hm : K.length ≤ 200 := h.2.1.2
  have hV : V.length = K.length := h.2.2.1
  have hB : B.length = K.length := h.2.2.2.1
  have hC : C.length = K.length := h.2.2.2.2.1
  have hb8 : ∀ {j}, j < K.length → (B.getD j []).length ≤ 8 := fun hj => (h.bag hj).1
  have hs2 : s ≤ 262144 := by have := pow_in hk4 (show (B.getD i []).length ≤ 9 by have := hb8 hi; omega); omega
  obtain ⟨hd1, hd2⟩ := dec_spec (h.nodup hi) hs
  have hf : ∃ f, f = dec k (B.getD i []) s := ⟨_, rfl⟩
  obtain ⟨f, ef⟩ := hf
  rw [← ef] at hd1 hd2
  have hci : ∀ {j : Nat} {x y : Nat → Nat}, j < K.length → (∀ v ∈ B.getD j [], x v.toNat = y v.toNat) → cval g K V B C k st j x = cval g K V B C k st j y := fun hj hx => cval_congr h _ hj hx
  have fin : ∀ {x : Int}, x = cval g K V B C k st i f → (rowTo k (B.getD i []) (cval g K V B C k st i) s).set s x = rowTo k (B.getD i []) (cval g K V B C k st i) (s + 1) := fun hx => rowTo_set hs (by rw [← ef, hx])
  unfold F_spec_l29Colours_l2
  rw [if_pos (by rw [rowTo_len]; omega), getD_idx hi]
  have rlen : s < (rowTo k (B.getD i []) (cval g K V B C k st i) s).length := by rw [rowTo_len]; exact hs
  have e1 : (s : Int) + 1 = ((s + 1 : Nat) : Int) := by omega
  cases h.node hi with
  | leaf hk hb hc =>
    rw [if_pos hk, idx_nat rlen, ck_of (inI (by omega) (by omega)), Int.toNat_natCast, fin (by rw [cval_leaf hk]), e1]
  | add hk j hj hc hv b1 b2 hb hbk =>
    have hk0 : 0 < k := by have := hd1 (V.getD i 0) (by rw [hb]; simp); omega
    have hnd := h.nodup hi
    rw [hb] at hnd
    have hb1 : ∀ u ∈ b1, u ≠ V.getD i 0 := fun u hu e => (List.pairwise_append.1 hnd).2.2 u hu (V.getD i 0) (by simp) (by rw [e])
    have hl1 : b1.length ≤ 8 := by have := hb8 hi; rw [hb, List.length_append] at this; omega
    have hat : F_spec_l29At (B.getD i []) (V.getD i 0) = some ((b1.length : Nat) : Int) := by rw [hb]; exact l29At_eq hb1 hl1
    have hdg : F_spec_l29Digit (s : Int) (k : Int) ((b1.length : Nat) : Int) = some ((f (V.getD i 0).toNat : Nat) : Int) := by
      rw [l29Digit_eq hk4 hk0 hl1, ← hd2, hb, cod_digit (by rw [← hb]; exact hd1)]
    have hout : F_spec_l29Out (s : Int) (k : Int) ((b1.length : Nat) : Int) = some ((cod k (B.getD j []) f : Nat) : Int) := by
      rw [l29Out_eq hk4 hk0 hl1 hs2, ← hd2, hb, cod_out (by rw [← hb]; exact hd1), hbk]
    have hnear : F_spec_l29Near g (B.getD i []) (s : Int) (k : Int) (V.getD i 0) ((f (V.getD i 0).toNat : Nat) : Int) = some (decide (nearC g (B.getD i []) f (V.getD i 0) (f (V.getD i 0).toNat))) := by
      rw [← hd2]; exact l29Near_eq hl hk4 hk0 (hb8 hi) hd1 hv.1 hv.2 _
    have hfk : ∀ x ∈ B.getD j [], f x.toNat < k := fun x hx => hd1 x (by rw [hb]; rw [hbk] at hx; simp at hx ⊢; rcases hx with h | h; exact .inl h; exact .inr (.inr h))
    have hrow : ∀ {β : Type} (q : Int → Option β), idx (rowOf k (B.getD j []) (cval g K V B C k st j)) ((cod k (B.getD j []) f : Nat) : Int) q = q (cval g K V B C k st j f) := fun q => rowOf_idx (h.nodup (by omega)) (fun x y hx => hci (by omega) hx) hfk q
    have hkid : ∀ {β : Type} (q : List Int → Option β), idx C (i : Int) q = q [(j : Int)] := fun q => by rw [getL_idx (by omega), hc]
    have h0 : ∀ {β : Type} (q : Int → Option β), idx [(j : Int)] 0 q = q (j : Int) := fun q => rfl
    rw [if_neg (by omega), if_pos hk, getD_idx (by omega), cal_of hat, cal_of hdg]
    have hval := cval_add (g := g) (V := V) (B := B) (k := k) (st := st) hk hj hc f
    cases st with
    | true =>
      rw [if_pos rfl]
      by_cases c0 : f (V.getD i 0).toNat = 0
      · rw [if_pos (by omega), hkid, h0, rows_idx hj, cal_of hout, hrow, idx_nat rlen, ck_of (inI (by omega) (by omega)), Int.toNat_natCast, fin (by rw [hval, if_pos (.inl ⟨rfl, c0⟩)]), e1]
      · rw [if_neg (by omega), getD_idx (by omega), cal_of hnear]
        by_cases cn : nearC g (B.getD i []) f (V.getD i 0) (f (V.getD i 0).toNat)
        · rw [if_neg (by rw [decide_eq_true cn]; simp), ck_of (inI (by omega) (by omega)), rowTo_skip (s := s) (by rw [← ef, hval, if_neg (by rintro (h | h); exact c0 h.2; exact h cn)]), e1]
        · rw [if_pos (by rw [decide_eq_false cn]; simp), hkid, h0, rows_idx hj, cal_of hout, hrow, idx_nat rlen, ck_of (inI (by omega) (by omega)), Int.toNat_natCast, fin (by rw [hval, if_pos (.inr cn)]), e1]
    | false =>
      rw [if_neg (by simp), getD_idx (by omega), cal_of hnear]
      by_cases cn : nearC g (B.getD i []) f (V.getD i 0) (f (V.getD i 0).toNat)
      · rw [if_neg (by rw [decide_eq_true cn]; simp), ck_of (inI (by omega) (by omega)), rowTo_skip (s := s) (by rw [← ef, hval, if_neg (by rintro (h | h); cases h.1; exact h cn)]), e1]
      · rw [if_pos (by rw [decide_eq_false cn]; simp), hkid, h0, rows_idx hj, cal_of hout, hrow, idx_nat rlen, ck_of (inI (by omega) (by omega)), Int.toNat_natCast, fin (by rw [hval, if_pos (.inr cn)]), e1]
  | drop hk j hj hc hv b1 b2 hbk hb =>
    have hnd := h.nodup (i := j) (by omega)
    have hbj8 := hb8 (j := j) (by omega)
    rw [hbk] at hnd hbj8
    have hb1 : ∀ u ∈ b1, u ≠ V.getD i 0 := fun u hu e => (List.pairwise_append.1 hnd).2.2 u hu (V.getD i 0) (by simp) (by rw [e])
    have hl1 : b1.length ≤ 8 := by rw [List.length_append] at hbj8; omega
    have hat : F_spec_l29At (B.getD j []) (V.getD i 0) = some ((b1.length : Nat) : Int) := by rw [hbk]; exact l29At_eq hb1 hl1
    have hne : ∀ u ∈ b1 ++ b2, u.toNat ≠ (V.getD i 0).toNat := fun u hu => by
      rcases List.mem_append.1 hu with g1 | g1
      · exact (List.pairwise_append.1 hnd).2.2 u g1 (V.getD i 0) (by simp)
      · exact fun e => (List.pairwise_cons.1 (List.pairwise_append.1 hnd).2.1).1 u g1 e.symm
    have hkid : ∀ {β : Type} (q : List Int → Option β), idx C (i : Int) q = q [(j : Int)] := fun q => by rw [getL_idx (by omega), hc]
    have h0 : ∀ {β : Type} (q : Int → Option β), idx [(j : Int)] 0 q = q (j : Int) := fun q => rfl
    rw [if_neg (by omega), if_neg (by omega), if_pos hk, hkid, h0, getL_idx (by omega), getD_idx (by omega), cal_of hat]
    have hval := cval_drop (g := g) (V := V) (B := B) (k := k) (st := st) hk hj hc f
    let w := fun c => cval g K V B C k st j (upd1 f (V.getD i 0).toNat c)
    have part : ∀ c, c ≤ k → 0 ≤ ((List.range c).map w).sum ∧ ((List.range c).map w).sum ≤ 17179869184 := fun c hc' => by
      have := sumI_le (l := List.range c) (f := w) (M := 4294967296) fun x _ => cval_in h hk4 (by omega) _
      rw [List.length_range] at this
      have : (c : Int) * 4294967296 ≤ 4 * 4294967296 := Int.mul_le_mul_of_nonneg_right (by omega) (by omega)
      omega
    have key := lp_upto (step := fun s1 => F_spec_l29Colours_l3 C (k : Int) (i : Int) (s : Int) ((b1.length : Nat) : Int) s1.1 s1.2.1 s1.2.2)
      (fun c => (rows k B (cval g K V B C k st) i, (rowTo k (B.getD i []) (cval g K V B C k st i) s).set s ((List.range c).map w).sum, (c : Int))) k
      (o := Sum.inl (rows k B (cval g K V B C k st) i, rowTo k (B.getD i []) (cval g K V B C k st i) (s + 1))) (s := (rows k B (cval g K V B C k st) i, rowTo k (B.getD i []) (cval g K V B C k st i) s, (0 : Int)))
      (by
        have : (rowTo k (B.getD i []) (cval g K V B C k st i) s).set s 0 = rowTo k (B.getD i []) (cval g K V B C k st i) s := by
          refine List.ext_getElem? fun t => ?_
          rw [List.getElem?_set]
          by_cases e : s = t
          · subst e; rw [if_pos rfl, if_pos rlen, List.getElem?_eq_getElem rlen]; unfold rowTo; simp
          · rw [if_neg e]
        show _ = (_, List.set _ _ (0 : Int), _)
        rw [this]; rfl)
      (fun c hck => by
        simp only [F_spec_l29Colours_l3]
        have hk0 : 0 < k := by omega
        have hin : F_spec_l29In (s : Int) (k : Int) ((b1.length : Nat) : Int) (c : Int) = some ((cod k (B.getD j []) (upd1 f (V.getD i 0).toNat c) : Nat) : Int) := by
          rw [l29In_eq hk4 hk0 hl1 (by omega) hs2, ← hd2, hb, cod_in hk0 (by rw [← hb]; exact hd1) hne, hbk]
        have hfk : ∀ x ∈ B.getD j [], upd1 f (V.getD i 0).toNat c x.toNat < k := fun x hx => by
          unfold upd1; split
          · exact hck
          · rename_i hxn
            refine hd1 x ?_
            rw [hbk] at hx; rw [hb]
            simp only [List.mem_append, List.mem_cons] at hx ⊢
            rcases hx with h | h | h
            · exact .inl h
            · subst h; exact absurd rfl hxn
            · exact .inr h
        have hrow : ∀ {β : Type} (q : Int → Option β), idx (rowOf k (B.getD j []) (cval g K V B C k st j)) ((cod k (B.getD j []) (upd1 f (V.getD i 0).toNat c) : Nat) : Int) q = q (w c) := fun q => rowOf_idx (h.nodup (by omega)) (fun x y hx => hci (by omega) hx) hfk q
        have hget : ∀ {β : Type} (y : Int) (q : Int → Option β), idx ((rowTo k (B.getD i []) (cval g K V B C k st i) s).set s y) (s : Int) q = q y := fun y q => idx_of (by omega) (by rw [Int.toNat_natCast, List.getElem?_set_self rlen])
        have p1 := part c (by omega)
        have p2 := part (c + 1) (by omega)
        have es : ((List.range (c + 1)).map w).sum = ((List.range c).map w).sum + w c := by rw [List.range_succ, List.map_append, List.sum_append]; simp
        rw [if_pos (by omega), hget, hkid, h0, rows_idx hj, cal_of hin, hrow, ck_of (inI (by omega) (by omega)), hget, ck_of (inI (by omega) (by omega)), Int.toNat_natCast, List.set_set, ← es]; rfl)
      (by
        simp only [F_spec_l29Colours_l3]
        rw [if_neg (by omega), fin (by rw [hval])])
    rw [key, bnd_inl_eq]
    unfold F_spec_l29Colours_k4
    rw [ck_of (inI (by omega) (by omega)), e1]
  | meet hk j l hj hl' hc hbk hbl =>
    have hkid : ∀ {β : Type} (q : List Int → Option β), idx C (i : Int) q = q [(j : Int), (l : Int)] := fun q => by rw [getL_idx (by omega), hc]
    have h0 : ∀ {β : Type} (q : Int → Option β), idx [(j : Int), (l : Int)] 0 q = q (j : Int) := fun q => rfl
    have h1 : ∀ {β : Type} (q : Int → Option β), idx [(j : Int), (l : Int)] 1 q = q (l : Int) := fun q => rfl
    have hrow : ∀ {β : Type} (q : Int → Option β), idx (rowOf k (B.getD j []) (cval g K V B C k st j)) (s : Int) q = q (cval g K V B C k st j f) := fun q => by
      rw [← hd2, hbk]; exact rowOf_idx (h.nodup hi) (fun x y hx => hci (by omega) (by rw [hbk]; exact hx)) hd1 q
    have hrow2 : ∀ {β : Type} (q : Int → Option β), idx (rowOf k (B.getD l []) (cval g K V B C k st l)) (s : Int) q = q (cval g K V B C k st l f) := fun q => by
      rw [← hd2, hbl]; exact rowOf_idx (h.nodup hi) (fun x y hx => hci (by omega) (by rw [hbl]; exact hx)) hd1 q
    have hval := cval_meet (g := g) (V := V) (B := B) (k := k) (st := st) hk hj hl' hc f
    have hin := cval_in (k := k) (st := st) h hk4 hi f
    rw [hval] at hin
    rw [if_neg (by omega), if_neg (by omega), if_neg (by omega), if_pos hk, hkid, h0, rows_idx hj, hrow, hkid, h1, rows_idx hl', hrow2, ck_of (inI (by omega) (by omega)), idx_nat rlen, ck_of (inI (by omega) (by omega)), Int.toNat_natCast, fin hval.symm, e1]
theorem l29Colours_eq (h : NiceIs g K V B C) (hl : ∀ x ∈ g, x.length ≤ 1048576) (hk4 : k ≤ 4) : F_spec_l29Colours g K V B C (k : Int) st = some (cval g K V B C k st (K.length - 1) fun _ => 0) := by
  have hm := h.2.1
  have hB : B.length = K.length := h.2.2.2.1
  unfold F_spec_l29Colours
  have key := lp_upto (step := fun s => F_spec_l29Colours_l1 g K V B C (k : Int) s.1 s.2.1 s.2.2) (fun i => (st, rows k B (cval g K V B C k st) i, (i : Int))) K.length (o := Sum.inl (rows k B (cval g K V B C k st) K.length)) (s := (st, ([] : List (List Int)), (0 : Int))) rfl (fun i hi => by
    simp only [F_spec_l29Colours_l1]
    have hb := (h.bag hi).1
    have hp := pow_in hk4 (show (B.getD i []).length ≤ 9 by omega)
    rw [if_pos (by omega), getL_idx (by omega), cal_of (l29Power_eq hk4 (by omega)), mkS_of (by omega) (by simp only [lim]; omega), Int.toNat_natCast, ← rowTo_zero k (B.getD i []) (cval g K V B C k st i)]
    have k2 := lp_upto (step := fun s => F_spec_l29Colours_l2 g K V B C (k : Int) (i : Int) (B.getD i []) s.1 s.2.1 s.2.2.1 s.2.2.2) (fun s => (st, rows k B (cval g K V B C k st) i, rowTo k (B.getD i []) (cval g K V B C k st i) s, (s : Int))) (k ^ (B.getD i []).length)
      (o := Sum.inl (st, rows k B (cval g K V B C k st) i, rowOf k (B.getD i []) (cval g K V B C k st i))) (s := (st, rows k B (cval g K V B C k st) i, rowTo k (B.getD i []) (cval g K V B C k st i) 0, (0 : Int))) rfl (fun s hs => l29Colours_row h hl hk4 hi hs) (by
        simp only [F_spec_l29Colours_l2]
        rw [if_neg (by rw [rowTo_len]; omega), rowTo_all])
    rw [k2, bnd_inl_eq]
    unfold F_spec_l29Colours_k5
    rw [app1_s (by rw [rows_len]; omega), ck_of (inI (by omega) (by omega)), rows_succ]; rfl) (by
    simp only [F_spec_l29Colours_l1]
    rw [if_neg (by omega)])
  rw [key, bnd_inl_eq]
  unfold F_spec_l29Colours_k6
  rw [rows_len, ck_of (inI (by omega) (by omega)), show (K.length : Int) - 1 = ((K.length - 1 : Nat) : Int) by omega, rows_idx (by omega)]
  have e : ((0 : Nat) : Int) = ((cod k (B.getD (K.length - 1) []) (fun _ => 0) : Nat) : Int) := by rw [h.last]; rfl
  show idx _ ((0 : Nat) : Int) _ = _
  rw [e, rowOf_idx (h.nodup (by omega)) (fun x y hx => cval_congr h _ (by omega) hx) (fun x hx => by rw [h.last] at hx; cases hx)]
end
end Go.Proofs.Ytnebbhginakaiaa
