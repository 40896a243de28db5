/- Dice, and graphs made edge by edge: what they give, in plain Lean. -/
import Derived.Test.YtadjcnllmkdgiaaDoorF
import Derived.Test.YtadjcnllmkdgiaaDoorParts
import Derived.Test.YtadjcnllmkdgiaaDoorGraph
namespace Go.Proofs.YtadjcnllmkdgiaaDoor
/-- dice that stand within their bytes -/
structure DOk (d : List (BitVec 8) × Int × Int) : Prop where
  len : d.1.length ≤ 4096
  lo : 0 ≤ d.2.1
  hi : d.2.1 ≤ d.1.length
theorem and_le (a : BitVec 64) : ((a &&& BitVec.ofInt 64 16777215).toNat : Int) ≤ 16777215 := by
  have : (a &&& BitVec.ofInt 64 16777215).toNat ≤ 16777215 := by
    rw [BitVec.toNat_and]; exact Nat.le_trans Nat.and_le_right (by decide)
  omega
theorem below_ex {d : List (BitVec 8) × Int × Int} (h : DOk d) {n : Int} (hn : 0 < n) : ∃ x d', F_laws_dice_below d n = some (x, d') ∧ 0 ≤ x ∧ x < n ∧ DOk d' := by
  obtain ⟨h1, h2, h3⟩ := h
  unfold F_laws_dice_below
  generalize ((((d.2.2 * 6364136223846793005) % 18446744073709551616) + 1442695040888963407) % 18446744073709551616) = hh
  generalize hy : ((BitVec.ofInt 64 (hh / 2 ^ (33 : Int).toNat) &&& BitVec.ofInt 64 16777215).toNat : Int) = y
  have hy1 : 0 ≤ y := by rw [← hy]; exact Int.natCast_nonneg _
  have hy2 : y ≤ 16777215 := by rw [← hy]; exact and_le _
  rw [ck_of (inI (by omega) (by omega))]
  by_cases h : d.2.1 < d.1.length
  · obtain ⟨k, hk⟩ := Int.eq_ofNat_of_zero_le h2
    rw [if_pos h, hk, idx_nat (by omega)]
    have hb := (d.1[k]'(by omega)).isLt
    generalize (d.1[k]'(by omega)) = b at hb ⊢
    rw [ck_of (inI (by omega) (by omega)), ck_of (inI (by omega) (by omega)), grd_of ⟨by omega, hn⟩]
    exact ⟨_, _, rfl, Int.emod_nonneg _ (by omega), Int.emod_lt_of_pos _ hn, h1, by show (0 : Int) ≤ (k : Int) + 1; omega, by show (k : Int) + 1 ≤ (d.1.length : Int); omega⟩
  · rw [if_neg h, grd_of ⟨hy1, hn⟩]
    exact ⟨_, _, rfl, Int.emod_nonneg _ (by omega), Int.emod_lt_of_pos _ hn, h1, h2, h3⟩
theorem roll_ex {code : List (BitVec 8)} (h : code.length ≤ 4096) (seed : Int) : ∃ d, F_laws_roll code seed = some d ∧ DOk d := by
  unfold F_laws_roll
  rw [grd_of (Int.natCast_nonneg _)]
  obtain ⟨o, h1, j, rfl⟩ : ∃ o, lp (fun s => F_laws_roll_l1 code s.1 s.2) ((((seed * 7919) % 18446744073709551616) + (code.length : Int)) % 18446744073709551616, 0) = some o ∧ ∃ j, o = .inl j := by
    refine lp_rule (step := fun s => F_laws_roll_l1 code s.1 s.2) (fun s => ∃ k : Nat, s.2 = (k : Int) ∧ k ≤ code.length) (fun s => code.length - s.2.toNat) (fun o => ∃ j, o = .inl j) ?_ _ ⟨0, rfl, Nat.zero_le _⟩
    rintro ⟨a, b⟩ ⟨k, hk, hl⟩
    dsimp only at hk; subst hk
    simp only [F_laws_roll_l1]
    by_cases h2 : k < code.length
    · rw [if_pos (by omega), idx_nat h2, ck_of (inI (by omega) (by omega))]
      exact .inl ⟨_, rfl, ⟨k + 1, by simp, by omega⟩, by show code.length - ((k : Int) + 1).toNat < code.length - (k : Int).toNat; omega⟩
    · rw [if_neg (by omega)]; exact .inr ⟨_, rfl, _, rfl⟩
  rw [bnd_l h1]
  exact ⟨_, rfl, h, by show (0 : Int) ≤ 0; omega, by show (0 : Int) ≤ _; omega⟩
theorem l1Copy_eqD {l : List Int} (h : l.length ≤ 1048576) : F_spec_l1Copy l = some l := by
  unfold F_spec_l1Copy
  rw [app_s (by simp; omega)]; rfl
/-- put into a list that rises: it rises still -/
theorem into_any {l : List Int} (x : Int) (hl : l.length ≤ 1000000) (hs : l.Pairwise (· < ·)) : ∃ r, F_spec_l1Into l x = some r ∧ (∀ y, y ∈ r ↔ y ∈ l ∨ y = x) ∧ r.Pairwise (· < ·) := by
  obtain ⟨o, h1, i, rfl, hi, hlt, hge⟩ : ∃ o, lp (fun s => F_spec_l1Into_l1 l x s) 0 = some o ∧ ∃ i : Nat, o = .inl (i : Int) ∧ i ≤ l.length ∧ (∀ j (hj : j < l.length), j < i → l[j] < x) ∧ (∀ h : i < l.length, ¬ l[i] < x) := by
    refine lp_rule (step := fun s => F_spec_l1Into_l1 l x s) (fun s => ∃ k : Nat, s = (k : Int) ∧ k ≤ l.length ∧ ∀ j (hj : j < l.length), j < k → l[j] < x) (fun s => l.length - s.toNat) (fun o => ∃ i : Nat, o = .inl (i : Int) ∧ i ≤ l.length ∧ (∀ j (hj : j < l.length), j < i → l[j] < x) ∧ (∀ h : i < l.length, ¬ l[i] < x)) ?_ 0 ⟨0, rfl, Nat.zero_le _, fun j _ h => by omega⟩
    rintro s ⟨k, rfl, hk, hb⟩
    simp only [F_spec_l1Into_l1]
    by_cases h : k < l.length
    · rw [if_pos (by omega), idx_nat h]
      by_cases h2 : l[k] < x
      · rw [if_pos h2, ck_of (inI (by omega) (by omega))]
        refine .inl ⟨_, rfl, ⟨k + 1, by omega, by omega, fun j hj hjk => ?_⟩, by omega⟩
        by_cases e : j = k
        · subst e; exact h2
        · exact hb j hj (by omega)
      · rw [if_neg h2]; exact .inr ⟨_, rfl, k, rfl, hk, hb, fun _ => h2⟩
    · rw [if_neg (by omega)]; exact .inr ⟨_, rfl, k, rfl, hk, hb, fun h' => absurd h' h⟩
  unfold F_spec_l1Into
  rw [bnd_l h1]
  unfold F_spec_l1Into_k2
  have hput : ∀ {β : Type} (q : List Int → Option β), slc l 0 (i : Int) (fun _ => cal (F_spec_l1Copy ((l.drop (0 : Int).toNat).take ((i : Int).toNat - (0 : Int).toNat))) (fun x95 => app x95 ([x]) (fun _ => slc l (i : Int) (l.length : Int) (fun _ =>
      app (x95 ++ ([x])) ((l.drop (i : Int).toNat).take (((l.length : Int) : Int).toNat - (i : Int).toNat)) (fun _ => q ((x95 ++ ([x])) ++ ((l.drop (i : Int).toNat).take (((l.length : Int) : Int).toNat - (i : Int).toNat)))))))) = q ((l.take i ++ [x]) ++ l.drop i) := by
    intro β q
    have e : (l.drop i).take (l.length - i) = l.drop i := List.take_of_length_le (by simp)
    rw [slc_of ⟨by decide, by omega, by omega⟩, show (0 : Int).toNat = 0 from rfl, List.drop_zero, Int.toNat_natCast, Nat.sub_zero, cal_of (l1Copy_eqD (by rw [List.length_take]; omega)), app1_s (by rw [List.length_take]; omega), slc_of ⟨by omega, by omega, by omega⟩, Int.toNat_natCast, e, app_s (by simp; omega)]
  have hmem : ∀ y, y ∈ (l.take i ++ [x]) ++ l.drop i ↔ y ∈ l ∨ y = x := by
    intro y
    have e : y ∈ l ↔ y ∈ l.take i ∨ y ∈ l.drop i := by rw [← List.mem_append, List.take_append_drop]
    rw [e]
    simp only [List.mem_append, List.mem_singleton]
    constructor
    · rintro ((h | h) | h)
      · exact .inl (.inl h)
      · exact .inr h
      · exact .inl (.inr h)
    · rintro ((h | h) | h)
      · exact .inl (.inl h)
      · exact .inr h
      · exact .inl (.inr h)
  have htake : ∀ y ∈ l.take i, y < x := fun y hy => by
    rw [List.mem_take_iff_getElem] at hy
    obtain ⟨j, hj, rfl⟩ := hy
    exact hlt j (by omega) (by omega)
  have hsort : (∀ h : i < l.length, l[i] ≠ x) → ((l.take i ++ [x]) ++ l.drop i).Pairwise (· < ·) := by
    intro hne
    have hdrop : ∀ y ∈ l.drop i, x < y := fun y hy => by
      rw [List.mem_drop_iff_getElem] at hy
      obtain ⟨j, hj, rfl⟩ := hy
      have h3 := hge (by omega)
      have h4 := hne (by omega)
      rcases Nat.eq_zero_or_pos j with e | e
      · subst e; simp only [Nat.add_zero]; omega
      · have := List.pairwise_iff_getElem.1 hs i (i + j) (by omega) (by omega) (by omega); omega
    rw [List.pairwise_append, List.pairwise_append]
    refine ⟨⟨hs.sublist (List.take_sublist ..), by simp, fun a ha b hb => by rw [List.mem_singleton.1 hb]; exact htake a ha⟩, hs.sublist (List.drop_sublist ..), fun a ha b hb => ?_⟩
    have hb2 := hdrop b hb
    rcases List.mem_append.1 ha with h | h
    · have := htake a h; omega
    · rw [List.mem_singleton.1 h]; exact hb2
  by_cases h : i < l.length
  · rw [if_pos (by omega), idx_nat h]
    by_cases h2 : l[i] = x
    · rw [if_pos h2]
      exact ⟨l, rfl, fun y => ⟨.inl, fun h => h.elim id fun e => by rw [e, ← h2]; exact List.getElem_mem _⟩, hs⟩
    · rw [if_neg h2, hput]; exact ⟨_, rfl, hmem, hsort fun _ => h2⟩
  · rw [if_neg (by omega), hput]; exact ⟨_, rfl, hmem, hsort fun h' => absurd h' h⟩
/-- a graph of n vertices whose edges are E -/
structure Has (g : List (List Int)) (n : Nat) (E : Nat → Nat → Prop) : Prop where
  len : g.length = n
  srt : ∀ v (h : v < g.length), g[v].Pairwise (· < ·)
  mem : ∀ v (h : v < g.length) (y : Int), y ∈ g[v] ↔ ∃ u : Nat, y = u ∧ E v u
  rng : ∀ u v, E u v → u < n ∧ v < n ∧ u ≠ v ∧ E v u
theorem rises_of {s : List Int} {n : Nat} (hs : s.Pairwise (· < ·)) (hm : ∀ y ∈ s, 0 ≤ y ∧ y < n) : Rises s n := fun k hk => by
  have := hm _ (List.getElem_mem hk)
  refine ⟨this.1, by omega, fun h => ?_⟩
  exact List.pairwise_iff_getElem.1 hs (k - 1) k (by omega) hk (by omega)
theorem Has.row {g : List (List Int)} {n : Nat} {E : Nat → Nat → Prop} (h : Has g n E) {v : Nat} (hv : v < g.length) : Rises g[v] n :=
  rises_of (h.srt v hv) fun y hy => by
    obtain ⟨u, rfl, hu⟩ := (h.mem v hv y).1 hy
    have := h.rng _ _ hu
    omega
theorem Has.gok {g : List (List Int)} {n : Nat} {E : Nat → Nat → Prop} (h : Has g n E) (h1 : 1 ≤ n) (h16 : n ≤ 16) : GOk g := by
  have hl := h.len
  refine ⟨by omega, by omega, fun v hv => ⟨?_, fun hm => ?_⟩, fun v hv w hw hwl => ?_⟩
  · have := h.row hv; rwa [← hl] at this
  · obtain ⟨u, e, hu⟩ := (h.mem v hv _).1 hm
    have := h.rng _ _ hu; omega
  · obtain ⟨u, rfl, hu⟩ := (h.mem v hv w).1 hw
    simp only [Int.toNat_natCast] at hwl ⊢
    exact (h.mem u hwl _).2 ⟨v, rfl, (h.rng _ _ hu).2.2.2⟩
theorem link_ex {g : List (List Int)} {n : Nat} {E : Nat → Nat → Prop} (h : Has g n E) (h16 : n ≤ 16) {u v : Nat} (hu : u < n) (hv : v < n) (huv : u ≠ v) :
    ∃ g', F_spec_l1Link g (u : Int) (v : Int) = some g' ∧ Has g' n (fun a b => E a b ∨ (a = u ∧ b = v) ∨ (a = v ∧ b = u)) := by
  have hl := h.len
  have hru := (h.row (v := u) (by omega)).len (by omega)
  have hrv := (h.row (v := v) (by omega)).len (by omega)
  obtain ⟨r1, e1, m1, s1⟩ := into_any (l := g[u]) (v : Int) (by omega) (h.srt u (by omega))
  obtain ⟨r2, e2, m2, s2⟩ := into_any (l := g[v]) (u : Int) (by omega) (h.srt v (by omega))
  have hg1 : (g.set u r1).length = n := by simp [hl]
  have hv1 : (g.set u r1)[v]'(by omega) = g[v] := by rw [List.getElem_set_ne (by omega)]
  refine ⟨(g.set u r1).set v r2, ?_, by simp [hl], fun w hw => ?_, fun w hw y => ?_, fun a b hab => ?_⟩
  · unfold F_spec_l1Link
    rw [idx_nat (by omega), cal_of e1, idx_nat (by omega), Int.toNat_natCast, idx_nat (by omega), hv1, cal_of e2, idx_nat (by omega), Int.toNat_natCast]
  · simp only [List.length_set] at hw
    rw [List.getElem_set]
    split
    · exact s2
    · rw [List.getElem_set]
      split
      · exact s1
      · exact h.srt w hw
  · simp only [List.length_set] at hw
    rw [List.getElem_set]
    split
    · rename_i e
      subst e
      rw [m2, h.mem v hw]
      constructor
      · rintro (⟨x, rfl, hx⟩ | e)
        · exact ⟨x, rfl, .inl hx⟩
        · exact ⟨u, e, .inr (.inr ⟨rfl, rfl⟩)⟩
      · rintro ⟨x, rfl, hx | ⟨e, rfl⟩ | ⟨_, rfl⟩⟩
        · exact .inl ⟨x, rfl, hx⟩
        · omega
        · exact .inr rfl
    · rename_i e1
      rw [List.getElem_set]
      split
      · rename_i e
        subst e
        rw [m1, h.mem u hw]
        constructor
        · rintro (⟨x, rfl, hx⟩ | e)
          · exact ⟨x, rfl, .inl hx⟩
          · exact ⟨v, e, .inr (.inl ⟨rfl, rfl⟩)⟩
        · rintro ⟨x, rfl, hx | ⟨_, rfl⟩ | ⟨e, rfl⟩⟩
          · exact .inl ⟨x, rfl, hx⟩
          · exact .inr rfl
          · omega
      · rename_i e2
        rw [h.mem w hw]
        constructor
        · rintro ⟨x, rfl, hx⟩; exact ⟨x, rfl, .inl hx⟩
        · rintro ⟨x, rfl, hx | ⟨e, rfl⟩ | ⟨e, rfl⟩⟩
          · exact ⟨x, rfl, hx⟩
          · omega
          · omega
  · rcases hab with h1 | ⟨rfl, rfl⟩ | ⟨rfl, rfl⟩
    · have := h.rng _ _ h1; exact ⟨this.1, this.2.1, this.2.2.1, .inl this.2.2.2⟩
    · exact ⟨hu, hv, huv, .inr (.inr ⟨rfl, rfl⟩)⟩
    · exact ⟨hv, hu, fun e => huv e.symm, .inr (.inl ⟨rfl, rfl⟩)⟩
theorem has_empty (n : Nat) : Has (List.replicate n []) n (fun _ _ => False) :=
  ⟨by simp, fun v h => by simp, fun v h y => by simp, fun u v h => h.elim⟩
theorem Has.congr {g : List (List Int)} {n : Nat} {E E' : Nat → Nat → Prop} (h : Has g n E) (he : ∀ a b, E a b ↔ E' a b) : Has g n E' :=
  ⟨h.len, h.srt, fun v hv y => by rw [h.mem v hv y]; exact ⟨fun ⟨u, e, q⟩ => ⟨u, e, (he _ _).1 q⟩, fun ⟨u, e, q⟩ => ⟨u, e, (he _ _).2 q⟩⟩, fun u v huv => by
    have := h.rng u v ((he _ _).2 huv); exact ⟨this.1, this.2.1, this.2.2.1, (he _ _).1 this.2.2.2⟩⟩
/-- two graphs with the same edges are one -/
theorem Has.eq {g g' : List (List Int)} {n : Nat} {E : Nat → Nat → Prop} (h : Has g n E) (h' : Has g' n E) : g = g' := by
  refine List.ext_getElem (by rw [h.len, h'.len]) fun v h1 h2 => ?_
  refine List.Perm.eq_of_pairwise (le := (· < ·)) (fun a b _ _ _ _ => by omega) (h.srt v h1) (h'.srt v h2) ?_
  refine (List.perm_ext_iff_of_nodup ((h.srt v h1).imp fun h => by omega) ((h'.srt v h2).imp fun h => by omega)).2 fun y => ?_
  rw [h.mem v h1, h'.mem v h2]
theorem l1Empty_eqD {n : Nat} (h : n ≤ 1048576) : F_spec_l1Empty (n : Int) = some (List.replicate n []) := by
  unfold F_spec_l1Empty
  have : lp (fun s => F_spec_l1Empty_l1 (n : Int) s.1 s.2) (([] : List (List Int)), 0) = some (.inl (List.replicate n [])) := by
    refine lp_nums n (fun k => List.replicate k []) (fun k hk => ?_) ?_
    · simp only [F_spec_l1Empty_l1]
      rw [if_pos (by omega), app1_s (by simp; omega), ck_of (inI (by omega) (by omega)), List.replicate_succ']; rfl
    · simp only [F_spec_l1Empty_l1]
      rw [if_neg (by omega)]
  rw [bnd_l this]; rfl
theorem graphOf_ex {n : Nat} (h1 : 1 ≤ n) (h16 : n ≤ 16) {es : List (List Int)} (hl : es.length ≤ 120) (hes : ∀ e ∈ es, ∃ a b : Nat, e = [(a : Int), (b : Int)] ∧ a < b ∧ b < n) :
    ∃ g, F_spec_GraphOf (n : Int) es = some (g, true) ∧ Has g n (fun a b => [(a : Int), (b : Int)] ∈ es ∨ [(b : Int), (a : Int)] ∈ es) := by
  have := lp_ex (step := fun s => F_spec_GraphOf_l1 (n : Int) es s.1 s.2) (fun (k : Nat) (g : List (List Int)) => (g, (k : Int))) es.length
    (fun k g => Has g n (fun a b => [(a : Int), (b : Int)] ∈ es.take k ∨ [(b : Int), (a : Int)] ∈ es.take k)) (fun o => ∃ g, o = .inl g ∧ Has g n (fun a b => [(a : Int), (b : Int)] ∈ es ∨ [(b : Int), (a : Int)] ∈ es)) ?_ ?_ es.length 0 (List.replicate n []) (by omega)
    ((has_empty n).congr fun a b => by simp)
  · obtain ⟨o, e1, g, rfl, hg⟩ := this
    refine ⟨g, ?_, hg⟩
    unfold F_spec_GraphOf
    rw [cal_of (l1In_eq _ _ _), if_neg (by simp; omega), if_neg (by omega), cal_of (l1Empty_eqD (by omega))]
    rw [show ((0 : Nat) : Int) = 0 from rfl] at e1
    rw [bnd_l e1]; rfl
  · intro k g hk hg
    obtain ⟨a, b, e, hab, hb⟩ := hes _ (List.getElem_mem hk)
    obtain ⟨g', e2, hg'⟩ := link_ex hg h16 (u := a) (v := b) (by omega) hb (by omega)
    refine ⟨g', ?_, hg'.congr fun x y => ?_⟩
    · simp only [F_spec_GraphOf_l1]
      have hr : Rises [(a : Int), (b : Int)] n := rises_of (by simp; omega) (by simp; omega)
      have i0 : ∀ {β : Type} (q : Int → Option β), idx [(a : Int), (b : Int)] 0 q = q a := fun q => rfl
      have i1 : ∀ {β : Type} (q : Int → Option β), idx [(a : Int), (b : Int)] 1 q = q b := fun q => rfl
      rw [if_pos (by omega), idx_nat hk, e, if_neg (by simp), idx_nat hk, e, cal_of (l1Set_eq _ _ (by simp) (by omega) (by omega)), if_neg (by simp [hr]), idx_nat hk, e, i0, idx_nat hk, e, i1, cal_of e2, ck_of (inI (by omega) (by omega))]
      simp
    · rw [take_succ_of hk, e]
      simp only [List.mem_append, List.mem_singleton, List.cons.injEq, and_true]
      constructor
      · rintro ((h | h) | ⟨rfl, rfl⟩ | ⟨rfl, rfl⟩)
        · exact .inl (.inl h)
        · exact .inr (.inl h)
        · exact .inl (.inr ⟨rfl, rfl⟩)
        · exact .inr (.inr ⟨rfl, rfl⟩)
      · rintro ((h | h) | (h | h))
        · exact .inl (.inl h)
        · exact .inr (.inl ⟨by omega, by omega⟩)
        · exact .inl (.inr h)
        · exact .inr (.inr ⟨by omega, by omega⟩)
  · intro g hg
    simp only [F_spec_GraphOf_l1]
    rw [if_neg (by omega)]
    rw [List.take_length] at hg
    exact ⟨_, rfl, g, rfl, hg⟩
def tri : Nat → Nat
  | 0 => 0
  | v + 1 => tri v + v
theorem tri_le : ∀ n, n ≤ 16 → tri n ≤ 120 := by decide
theorem w6Graph_ex {d : List (BitVec 8) × Int × Int} (h : DOk d) {most : Int} (h0 : 0 < most) (h16 : most ≤ 16) : ∃ g d', F_laws_w6Graph d most = some (g, d') ∧ GOk g ∧ (g.length : Int) ≤ most ∧ DOk d' := by
  obtain ⟨x, d1, e1, x0, x1, k1⟩ := below_ex h h0
  obtain ⟨y, d2, e2, y0, y1, k2⟩ := below_ex k1 (n := 3) (by omega)
  unfold F_laws_w6Graph
  rw [cal_of e1, ck_of (inI (by dsimp only; omega) (by dsimp only; omega)), cal_of e2, ck_of (inI (by dsimp only; omega) (by dsimp only; omega))]
  dsimp only
  obtain ⟨m, hm⟩ := Int.eq_ofNat_of_zero_le x0
  subst hm
  let Good : List (List Int) → Prop := fun es => ∀ e ∈ es, ∃ a b : Nat, e = [(a : Int), (b : Int)] ∧ a < b ∧ b < 1 + m
  have := lp_ex (step := fun s => F_laws_w6Graph_l1 ((m : Int), d1) (y, d2) s.1 s.2.1 s.2.2) (fun (k : Nat) (a : (List (BitVec 8) × Int × Int) × List (List Int)) => (a.1, a.2, (1 : Int) + (k : Int))) m
    (fun k a => DOk a.1 ∧ a.2.length ≤ tri (k + 1) ∧ Good a.2) (fun o => ∃ es d', o = .inl (es, d') ∧ DOk d' ∧ es.length ≤ 120 ∧ Good es) ?_ ?_ m 0 (d2, []) (by omega) ⟨k2, by simp, fun e he => nomatch he⟩
  · obtain ⟨o, e3, es, d', rfl, k3, hl, hg⟩ := this
    obtain ⟨g, e4, hg4⟩ := graphOf_ex (n := 1 + m) (by omega) (by omega) hl hg
    have e3' : lp (fun s => F_laws_w6Graph_l1 ((m : Int), d1) (y, d2) s.1 s.2.1 s.2.2) (d2, ([] : List (List Int)), 1) = some (.inl (es, d')) := by
      rw [← e3]; rfl
    rw [bnd_l e3']
    unfold F_laws_w6Graph_k4
    dsimp only
    rw [show (1 : Int) + (m : Int) = ((1 + m : Nat) : Int) by omega, cal_of e4]
    refine ⟨g, d', rfl, hg4.gok (by omega) (by omega), ?_, k3⟩
    have h1 := hg4.len
    omega
  · rintro k ⟨da, es⟩ hk ⟨kd, hl, hg⟩
    dsimp only at kd hl hg
    have hm16 : m < 16 := by omega
    have inner := lp_ex (step := fun s => F_laws_w6Graph_l2 (y, d2) ((1 : Int) + (k : Int)) s.1 s.2.1 s.2.2) (fun (j : Nat) (a : (List (BitVec 8) × Int × Int) × List (List Int)) => (a.1, a.2, (j : Int))) (k + 1)
      (fun j a => DOk a.1 ∧ a.2.length ≤ tri (k + 1) + j ∧ Good a.2) (fun o => ∃ es d', o = .inl (d', es) ∧ DOk d' ∧ es.length ≤ tri (k + 2) ∧ Good es) ?_ ?_ (k + 1) 0 (da, es) (by omega) ⟨kd, by simpa using hl, hg⟩
    · obtain ⟨o, e3, es', d', rfl, k3, hl3, hg3⟩ := inner
      refine ⟨(d', es'), ?_, k3, hl3, hg3⟩
      simp only [F_laws_w6Graph_l1]
      rw [if_pos (by omega), show (0 : Int) = ((0 : Nat) : Int) from rfl, bnd_l e3]
      unfold F_laws_w6Graph_k3
      rw [ck_of (inI (by omega) (by omega))]
      dsimp only
      rw [show (1 : Int) + (k : Int) + 1 = 1 + ((k + 1 : Nat) : Int) by omega]
    · rintro j ⟨db, es⟩ hj ⟨kb, hlb, hgb⟩
      dsimp only at kb hlb hgb
      obtain ⟨z, d3, e5, z0, z1, k5⟩ := below_ex kb (n := 4) (by omega)
      have ht := tri_le (k + 1) (by omega)
      simp only [F_laws_w6Graph_l2]
      rw [if_pos (by omega), cal_of e5]
      dsimp only
      by_cases hz : z < 1 + y
      · rw [if_pos hz, app1_s (by omega), ck_of (inI (by omega) (by omega))]
        refine ⟨(d3, es ++ [[(j : Int), 1 + (k : Int)]]), by simp, k5, by simp; omega, fun e he => ?_⟩
        rcases List.mem_append.1 he with g | g
        · exact hgb e g
        · exact ⟨j, 1 + k, by rw [List.mem_singleton.1 g]; simp, by omega, by omega⟩
      · rw [if_neg hz, ck_of (inI (by omega) (by omega))]
        exact ⟨(d3, es), by simp, k5, by show es.length ≤ tri (k + 1) + (j + 1); omega, hgb⟩
    · rintro ⟨db, es⟩ ⟨kb, hlb, hgb⟩
      simp only [F_laws_w6Graph_l2]
      rw [if_neg (by omega)]
      exact ⟨_, rfl, es, db, rfl, kb, hlb, hgb⟩
  · rintro ⟨da, es⟩ ⟨kd, hl, hg⟩
    have hm16 : m < 16 := by omega
    simp only [F_laws_w6Graph_l1]
    rw [if_neg (by omega)]
    exact ⟨_, rfl, es, da, rfl, kd, Nat.le_trans hl (tri_le _ (by omega)), hg⟩
end Go.Proofs.YtadjcnllmkdgiaaDoor
