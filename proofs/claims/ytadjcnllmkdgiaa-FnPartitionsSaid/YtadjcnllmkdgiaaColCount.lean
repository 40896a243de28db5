/- How many colourings: out of the ways to part the vertices, and with an edge less. -/
import Derived.Test.YtadjcnllmkdgiaaTFnExactColourWays
import Derived.Test.YtadjcnllmkdgiaaCritical
namespace Go.Proofs.Ytadjcnllmkdgiaa
/-- k colours to s different sets -/
def fallN (k : Nat) : Nat → Nat
  | 0 => 1
  | s + 1 => fallN k s * (k - s)
theorem fall_nat (k : Nat) : ∀ s, fall (k : Int) s = (fallN k s : Int)
  | 0 => rfl
  | s + 1 => by
    rw [fall, fallN, fall_nat k s, Int.natCast_mul]
    congr 1; omega
theorem fallN_zero {k : Nat} : ∀ {s : Nat}, k < s → fallN k s = 0
  | 0, h => by omega
  | s + 1, h => by
    rw [fallN]
    by_cases e : k = s
    · subst e; simp
    · rw [fallN_zero (show k < s by omega), Nat.zero_mul]
/-- how many colourings take the vertices that are left -/
def col (a : List Nat) (k : Nat) : Nat → List Nat → Nat
  | 0, _ => 1
  | m + 1, p => ((List.range k).map fun c => if fits a p c = true then col a k m (p ++ [c]) else 0).sum
/-- the same, told by the sets that there are -/
def cnt (a : List Nat) (k : Nat) : Nat → List Nat → Nat
  | 0, L => fallN k L.length
  | m + 1, L => ((List.range L.length).map fun i => if L.getD i 0 &&& a.getD (a.length - (m + 1)) 0 = 0 then cnt a k m (L.set i (L.getD i 0 ||| 2 ^ (a.length - (m + 1)))) else 0).sum + cnt a k m (L ++ [2 ^ (a.length - (m + 1))])
theorem sum_zeroC {l : List Nat} (h : ∀ x ∈ l, x = 0) : l.sum = 0 := by
  induction l with
  | nil => rfl
  | cons x l ih => rw [List.sum_cons, h x (List.mem_cons_self ..), ih fun y hy => h y (List.mem_cons_of_mem _ hy)]
theorem cnt_zero {a : List Nat} {k : Nat} : ∀ {m : Nat} {L : List Nat}, k < L.length → cnt a k m L = 0
  | 0, L, h => fallN_zero h
  | m + 1, L, h => by
    rw [cnt, cnt_zero (by simp; omega), Nat.add_zero]
    refine sum_zeroC fun x hx => ?_
    obtain ⟨i, _, rfl⟩ := List.mem_map.1 hx
    split
    · exact cnt_zero (by simpa using h)
    · rfl
theorem cls_none {p : List Nat} {c : Nat} (h : c ∉ p) : cls p c = 0 := by
  refine Nat.eq_of_testBit_eq fun j => ?_
  rw [cls_bit, Nat.zero_testBit]
  exact decide_eq_false fun e => h (List.mem_of_getElem? e)
theorem sum_mul (n : Nat) : ∀ l : List Nat, n * l.sum = (l.map fun x => n * x).sum
  | [] => rfl
  | x :: l => by rw [List.sum_cons, Nat.mul_add, sum_mul n l, List.map_cons, List.sum_cons]
theorem sum_const {α : Type} (f : α → Nat) (n : Nat) : ∀ l : List α, (∀ x ∈ l, f x = n) → (l.map f).sum = l.length * n
  | [], _ => by simp
  | x :: l, h => by
    rw [List.map_cons, List.sum_cons, h x (List.mem_cons_self ..), sum_const f n l fun y hy => h y (List.mem_cons_of_mem _ hy), List.length_cons, Nat.add_mul]; omega
theorem cnt_col {a : List Nat} {k : Nat} : ∀ {m : Nat} {p q : List Nat}, p.length + m = a.length → q.Nodup → (∀ c ∈ q, c < k) → (∀ c ∈ p, c ∈ q) → cnt a k m (q.map (cls p)) = fallN k q.length * col a k m p
  | 0, p, q, _, _, _, _ => by rw [cnt, col, List.length_map, Nat.mul_one]
  | m + 1, p, q, hp, hn, hk, hq => by
    have hv : a.length - (m + 1) = p.length := by omega
    have hperm : (List.range k).Perm (q ++ (List.range k).filter fun c => decide (c ∉ q)) := by
      refine (List.perm_ext_iff_of_nodup List.nodup_range ?_).2 fun c => ?_
      · rw [List.nodup_append]
        refine ⟨hn, List.nodup_range.filter _, fun x hx y hy e => ?_⟩
        have := of_decide_eq_true (List.mem_filter.1 hy).2
        exact this (e ▸ hx)
      · rw [List.mem_append, List.mem_filter, List.mem_range]
        constructor
        · intro h
          by_cases hc : c ∈ q
          · exact .inl hc
          · exact .inr ⟨h, decide_eq_true hc⟩
        · rintro (h | h)
          · exact hk c h
          · exact h.1
    have hU : ((List.range k).filter fun c => decide (c ∉ q)).length = k - q.length := by
      have := hperm.length_eq
      rw [List.length_range, List.length_append] at this; omega
    have hsum : col a k (m + 1) p = (q.map fun c => if fits a p c = true then col a k m (p ++ [c]) else 0).sum + (((List.range k).filter fun c => decide (c ∉ q)).map fun c => if fits a p c = true then col a k m (p ++ [c]) else 0).sum := by
      rw [col, (hperm.map _).sum_nat, List.map_append, List.sum_append]
    rw [hsum, Nat.mul_add, cnt, hv]
    congr 1
    · rw [sum_mul, List.map_map]
      congr 1
      refine List.ext_getElem (by simp) fun i h1 h2 => ?_
      simp only [List.length_map, List.length_range] at h1 h2
      have hi : (q.map (cls p)).getD i 0 = cls p q[i] := by simp [h2]
      simp only [List.getElem_map, List.getElem_range, Function.comp_apply]
      rw [hi]
      have hf : fits a p q[i] = true ↔ cls p q[i] &&& a.getD p.length 0 = 0 := by unfold fits; simp
      by_cases h : cls p q[i] &&& a.getD p.length 0 = 0
      · rw [if_pos h, if_pos (hf.2 h), ← cnt_col (m := m) (p := p ++ [q[i]]) (q := q) (by simp; omega) hn hk (fun c hc => by
          rcases List.mem_append.1 hc with g | g
          · exact hq c g
          · rw [List.mem_singleton.1 g]; exact List.getElem_mem _)]
        congr 1
        refine List.ext_getElem (by simp) fun j h3 h4 => ?_
        rw [List.length_map] at h4
        rw [List.getElem_set, List.getElem_map, List.getElem_map, cls_snoc]
        by_cases e : i = j
        · subst e; rw [if_pos rfl, if_pos rfl]
        · rw [if_neg e, if_neg fun e' => e ((List.getElem_inj hn).1 e'.symm)]
      · rw [if_neg h, if_neg fun h' => h (hf.1 h'), Nat.mul_zero]
    · have hX : ∀ c ∈ (List.range k).filter fun c => decide (c ∉ q), (if fits a p c = true then col a k m (p ++ [c]) else 0) = col a k m (p ++ [c]) ∧ cnt a k m (q.map (cls p) ++ [2 ^ p.length]) = fallN k (q.length + 1) * col a k m (p ++ [c]) := by
        intro c hc
        have hcq : c ∉ q := of_decide_eq_true (List.mem_filter.1 hc).2
        have hck := List.mem_range.1 (List.mem_filter.1 hc).1
        have hcp : c ∉ p := fun h => hcq (hq c h)
        refine ⟨if_pos (by unfold fits; rw [cls_none hcp]; simp), ?_⟩
        have := cnt_col (a := a) (k := k) (m := m) (p := p ++ [c]) (q := q ++ [c]) (by simp; omega) (by rw [List.nodup_append]; exact ⟨hn, by simp, fun x hx y hy e => by rw [List.mem_singleton.1 hy] at e; exact hcq (e ▸ hx)⟩) (fun d hd => by
          rcases List.mem_append.1 hd with g | g
          · exact hk d g
          · rw [List.mem_singleton.1 g]; exact hck) (fun d hd => by
          rcases List.mem_append.1 hd with g | g
          · exact List.mem_append_left _ (hq d g)
          · exact List.mem_append_right _ g)
        rw [List.length_append, List.length_singleton] at this
        rw [← this]
        congr 1
        rw [List.map_append]
        congr 1
        · refine List.map_congr_left fun d hd => ?_
          rw [cls_snoc, if_neg fun (e : d = c) => hcq (e ▸ hd)]
        · rw [List.map_singleton, cls_snoc, if_pos rfl, cls_none hcp, Nat.zero_or]
      by_cases h : k ≤ q.length
      · have hnil : ((List.range k).filter fun c => decide (c ∉ q)) = [] := List.eq_nil_of_length_eq_zero (by omega)
        rw [hnil, cnt_zero (by simp; omega)]; simp
      · refine Nat.eq_of_mul_eq_mul_left (show 0 < k - q.length by omega) ?_
        rw [← hU, ← sum_const (fun c => cnt a k m (q.map (cls p) ++ [2 ^ p.length])) _ ((List.range k).filter fun c => decide (c ∉ q)) (fun x _ => rfl), hU, ← Nat.mul_assoc, sum_mul, List.map_map]
        congr 1
        refine List.map_congr_left fun c hc => ?_
        obtain ⟨h1, h2⟩ := hX c hc
        simp only [Function.comp_apply]
        rw [h2, h1, fallN, Nat.mul_comm (k - q.length)]
/-- what the ways add -/
theorem cwTo_set {o : List Int} {k : Int} {s : Nat} {x : Int} : ∀ {N : Nat}, s < N → s < o.length → cwTo (o.set s (o.getD s 0 + x)) k N = cwTo o k N + x * fall k s
  | 0, h, _ => by omega
  | N + 1, h, hl => by
    rw [cwTo, cwTo]
    by_cases e : s = N
    · subst e
      have h1 : ∀ M, M ≤ s → cwTo (o.set s (o.getD s 0 + x)) k M = cwTo o k M := by
        intro M
        induction M with
        | zero => intro _; rfl
        | succ M ih => intro hM; rw [cwTo, cwTo, ih (by omega)]; congr 2; simp [List.getElem?_set, show s ≠ M by omega]
      rw [h1 s (Nat.le_refl _), show (o.set s (o.getD s 0 + x)).getD s 0 = o.getD s 0 + x by simp [hl], Int.add_mul, Int.add_assoc]
    · rw [cwTo_set (by omega) hl, show (o.set s (o.getD s 0 + x)).getD N 0 = o.getD N 0 by simp [List.getElem?_set, e]]
      omega
theorem waysF_len {a : List Nat} : ∀ {m : Nat} {L : List Nat} {o : List Int}, (waysF a m L o).length = o.length
  | 0, L, o => by simp [waysF]
  | m + 1, L, o => by
    rw [waysF, waysF_len]
    generalize List.range L.length = l
    induction l generalizing o with
    | nil => rfl
    | cons x l ih => rw [List.foldl_cons, ih]; split <;> simp [waysF_len]
theorem waysF_sum {a : List Nat} {k N : Nat} : ∀ {m : Nat} {L : List Nat} {o : List Int}, L.length + m < N → o.length = N → cwTo (waysF a m L o) (k : Int) N = cwTo o (k : Int) N + (cnt a k m L : Int)
  | 0, L, o, h, ho => by
    rw [waysF, cwTo_set (by omega) (by omega), cnt, fall_nat, Int.one_mul]
  | m + 1, L, o, h, ho => by
    have key : ∀ (l : List Nat) (o : List Int), o.length = N → (l.foldl (fun o i => if L.getD i 0 &&& a.getD (a.length - (m + 1)) 0 = 0 then waysF a m (L.set i (L.getD i 0 ||| 2 ^ (a.length - (m + 1)))) o else o) o).length = N ∧
        cwTo (l.foldl (fun o i => if L.getD i 0 &&& a.getD (a.length - (m + 1)) 0 = 0 then waysF a m (L.set i (L.getD i 0 ||| 2 ^ (a.length - (m + 1)))) o else o) o) (k : Int) N = cwTo o (k : Int) N + ((l.map fun i => if L.getD i 0 &&& a.getD (a.length - (m + 1)) 0 = 0 then cnt a k m (L.set i (L.getD i 0 ||| 2 ^ (a.length - (m + 1)))) else 0).sum : Nat) := by
      intro l
      induction l with
      | nil => intro o ho; exact ⟨ho, by simp⟩
      | cons x l ih =>
        intro o ho
        rw [List.foldl_cons, List.map_cons, List.sum_cons]
        by_cases hx : L.getD x 0 &&& a.getD (a.length - (m + 1)) 0 = 0
        · rw [if_pos hx, if_pos hx]
          obtain ⟨h1, h2⟩ := ih (waysF a m (L.set x (L.getD x 0 ||| 2 ^ (a.length - (m + 1)))) o) (by rw [waysF_len, ho])
          refine ⟨h1, ?_⟩
          rw [h2, waysF_sum (by rw [List.length_set]; omega) ho]; omega
        · rw [if_neg hx, if_neg hx]
          obtain ⟨h1, h2⟩ := ih o ho
          refine ⟨h1, ?_⟩
          rw [h2]; omega
    obtain ⟨h1, h2⟩ := key (List.range L.length) o ho
    rw [waysF, waysF_sum (by simp; omega) h1, h2, cnt]; omega
theorem cwTo_none (N : Nat) (k : Int) (n : Nat) : cwTo (List.replicate n 0) k N = 0 := by
  induction N with
  | zero => rfl
  | succ N ih =>
    rw [cwTo, ih, show (List.replicate n (0 : Int)).getD N 0 = 0 by rw [List.getD_eq_getElem?_getD, List.getElem?_replicate]; split <;> rfl]; simp
/-- all the ways together: the number of colourings -/
theorem ways_col (a : List Nat) (k : Nat) : cwTo (waysF a a.length [] (List.replicate (a.length + 1) 0)) (k : Int) (a.length + 1) = (col a k a.length [] : Int) := by
  rw [waysF_sum (by simp) (by simp), cwTo_none, Int.zero_add]
  have := cnt_col (a := a) (k := k) (m := a.length) (p := []) (q := []) (by simp) List.nodup_nil (by simp) (by simp)
  rw [List.map_nil] at this
  rw [this]; simp [fallN]
/-- all lists that go on by m colours -/
def ext (k : Nat) : Nat → List Nat → List (List Nat)
  | 0, p => [p]
  | m + 1, p => (List.range k).flatMap fun c => ext k m (p ++ [c])
theorem mem_ext {k : Nat} : ∀ {m : Nat} {p r : List Nat}, r ∈ ext k m p ↔ r.length = p.length + m ∧ r.take p.length = p ∧ ∀ i (h : i < r.length), p.length ≤ i → r[i] < k
  | 0, p, r => by
    rw [ext, List.mem_singleton]
    constructor
    · rintro rfl; exact ⟨rfl, List.take_length, fun i h1 h2 => by omega⟩
    · rintro ⟨h1, h2, _⟩; rw [← h2, List.take_of_length_le (by omega)]
  | m + 1, p, r => by
    rw [ext, List.mem_flatMap]
    constructor
    · rintro ⟨c, hc, hr⟩
      obtain ⟨h1, h2, h3⟩ := mem_ext.1 hr
      rw [List.length_append, List.length_singleton] at h1 h2 h3
      have hp : r.take p.length = p := by
        have := congrArg (List.take p.length) h2
        rw [List.take_take, Nat.min_eq_left (by omega)] at this
        simpa using this
      refine ⟨by omega, hp, fun i hi hpi => ?_⟩
      by_cases e : i = p.length
      · subst e
        have : (r.take (p.length + 1))[p.length]? = some c := by rw [h2]; simp
        rw [List.getElem?_take, if_pos (by omega), List.getElem?_eq_getElem hi] at this
        rw [Option.some.inj this]; exact List.mem_range.1 hc
      · exact h3 i hi (by omega)
    · rintro ⟨h1, h2, h3⟩
      have hpl : p.length < r.length := by omega
      refine ⟨r[p.length], List.mem_range.2 (h3 _ hpl (Nat.le_refl _)), mem_ext.2 ⟨by simp; omega, ?_, fun i hi hpi => h3 i hi (by simp at hpi; omega)⟩⟩
      rw [List.length_append, List.length_singleton, take_succ_of hpl, h2]
theorem nodup_ext {k : Nat} : ∀ {m : Nat} {p : List Nat}, (ext k m p).Nodup
  | 0, p => by simp [ext]
  | m + 1, p => by
    rw [ext, List.nodup_iff_pairwise_ne, List.pairwise_flatMap]
    refine ⟨fun c _ => nodup_ext, ?_⟩
    refine (List.nodup_range (n := k)).imp fun {c d} hcd x hx y hy e => ?_
    subst e
    have h1 := (mem_ext.1 hx).2.1
    have h2 := (mem_ext.1 hy).2.1
    simp only [List.length_append, List.length_singleton] at h1 h2
    rw [h1] at h2
    exact hcd (by simpa using h2)
/-- a colouring that is right from s on -/
def Right (a : List Nat) (s : Nat) (r : List Nat) : Prop := ∀ w, w < r.length → s ≤ w → fits a (r.take w) (r.getD w 0) = true
open Classical in
theorem col_count {a : List Nat} {k : Nat} : ∀ {m : Nat} {p : List Nat}, col a k m p = (ext k m p).countP fun r => decide (Right a p.length r)
  | 0, p => by
    rw [col, ext, List.countP_singleton, if_pos]
    exact decide_eq_true fun w h1 h2 => by omega
  | m + 1, p => by
    rw [col, ext, List.countP_flatMap]
    congr 1
    refine List.map_congr_left fun c hc => ?_
    have hat : ∀ r ∈ ext k m (p ++ [c]), r.take p.length = p ∧ r.getD p.length 0 = c ∧ p.length < r.length := by
      intro r hr
      obtain ⟨h1, h2, _⟩ := mem_ext.1 hr
      simp only [List.length_append, List.length_singleton] at h1 h2
      refine ⟨?_, ?_, by omega⟩
      · have := congrArg (List.take p.length) h2
        rw [List.take_take, Nat.min_eq_left (by omega)] at this
        simpa using this
      · have : (r.take (p.length + 1))[p.length]? = some c := by rw [h2]; simp
        rw [List.getElem?_take, if_pos (by omega)] at this
        rw [List.getD_eq_getElem?_getD, this]; rfl
    simp only [Function.comp_apply]
    by_cases hf : fits a p c = true
    · rw [if_pos hf, col_count]
      refine List.countP_congr fun r hr => ?_
      obtain ⟨h1, h2, h3⟩ := hat r hr
      simp only [decide_eq_true_eq, List.length_append, List.length_singleton]
      constructor
      · intro h w hw hs
        by_cases e : w = p.length
        · subst e; rw [h1, h2]; exact hf
        · exact h w hw (by omega)
      · exact fun h w hw hs => h w hw (by omega)
    · rw [if_neg hf]
      refine (List.countP_eq_zero.2 fun r hr => ?_).symm
      obtain ⟨h1, h2, h3⟩ := hat r hr
      simp only [decide_eq_true_eq]
      intro h
      have := h p.length h3 (Nat.le_refl _)
      rw [h1, h2] at this; exact hf this
/-- no two vertices of an edge alike -/
def Apart (E : Nat → Nat → Prop) (r : List Nat) : Prop := ∀ x y, x < r.length → y < r.length → E x y → r.getD x 0 ≠ r.getD y 0
theorem right_apart {a : List Nat} {E : Nat → Nat → Prop} {r : List Nat} (hs : ∀ x y, E x y → E y x) (hi : ∀ x, ¬ E x x) (hE : ∀ w u, w < r.length → u < w → ((a.getD w 0).testBit u = true ↔ E w u)) : Right a 0 r ↔ Apart E r := by
  have hf : ∀ w, w < r.length → (fits a (r.take w) (r.getD w 0) = true ↔ ∀ u, u < w → E w u → r.getD u 0 ≠ r.getD w 0) := by
    intro w hw
    rw [fits_iff]
    have hl : (r.take w).length = w := by rw [List.length_take]; omega
    constructor
    · intro h u hu he
      have := h u (by omega) (by rw [hl]; exact (hE w u hw hu).2 he)
      rw [List.getElem_take] at this
      rwa [show r.getD u 0 = r[u] by simp [show u < r.length by omega]]
    · intro h u hu hb
      rw [hl] at hb
      have := h u (by omega) ((hE w u hw (by omega)).1 hb)
      rw [List.getElem_take]
      rwa [show r.getD u 0 = r[u]'(by omega) by simp [show u < r.length by omega]] at this
  constructor
  · intro h x y hx hy he
    rcases Nat.lt_trichotomy x y with g | g | g
    · exact (hf y hy).1 (h y hy (Nat.zero_le _)) x g (hs _ _ he)
    · subst g; exact absurd he (hi x)
    · exact fun e => (hf x hx).1 (h x hx (Nat.zero_le _)) y g he e.symm
  · exact fun h w hw _ => (hf w hw).2 fun u hu he => h u w (by omega) hw (hs _ _ he)
open Classical in
/-- so many right colourings of n vertices with edges E -/
noncomputable def many (E : Nat → Nat → Prop) (k n : Nat) : Nat := (ext k n []).countP fun r => decide (Apart E r)
open Classical in
theorem col_many {a : List Nat} {E : Nat → Nat → Prop} {n k : Nat} (hs : ∀ x y, E x y → E y x) (hi : ∀ x, ¬ E x x) (hE : ∀ w u, w < n → u < w → ((a.getD w 0).testBit u = true ↔ E w u)) : col a k n [] = many E k n := by
  rw [col_count, many]
  refine List.countP_congr fun r hr => ?_
  have hl := (mem_ext.1 hr).1
  simp only [List.length_nil, Nat.zero_add] at hl
  simp only [decide_eq_true_eq, List.length_nil]
  exact right_apart hs hi fun w u hw hu => hE w u (by omega) hu
open Classical in
/-- one edge less: the right colourings, and those in which its ends are alike -/
theorem many_cut {E : Nat → Nat → Prop} {k n u v : Nat} (hs : ∀ x y, E x y → E y x) (hi : ∀ x, ¬ E x x) (hu : u < v) (hv : v < n) (he : E u v) :
    many (fun a b => E a b ∧ ¬ (a = u ∧ b = v) ∧ ¬ (a = v ∧ b = u)) k n = many E k n + many (fun i j => E (past v i) (past v j) ∨ (past v i = u ∧ past v j ≠ u ∧ E v (past v j)) ∨ (past v j = u ∧ past v i ≠ u ∧ E v (past v i))) k (n - 1) := by
  have hlen : ∀ r ∈ ext k n [], r.length = n ∧ ∀ i (h : i < r.length), r[i] < k := fun r hr => by
    obtain ⟨h1, _, h3⟩ := mem_ext.1 hr
    exact ⟨by simpa using h1, fun i h => h3 i h (Nat.zero_le _)⟩
  rw [many, List.countP_eq_countP_filter_add _ _ (fun r => decide (r.getD u 0 ≠ r.getD v 0))]
  congr 1
  · rw [List.countP_filter, many]
    refine List.countP_congr fun r hr => ?_
    obtain ⟨hl, _⟩ := hlen r hr
    simp only [Bool.and_eq_true, decide_eq_true_eq]
    constructor
    · rintro ⟨h1, h2⟩ x y hx hy hxy
      by_cases e1 : x = u ∧ y = v
      · rw [e1.1, e1.2]; exact h2
      · by_cases e2 : x = v ∧ y = u
        · rw [e2.1, e2.2]; exact fun e => h2 e.symm
        · exact h1 x y hx hy ⟨hxy, e1, e2⟩
    · exact fun h => ⟨fun x y hx hy hxy => h x y hx hy hxy.1, h u v (by omega) (by omega) he⟩
  · rw [List.countP_filter, List.countP_eq_length_filter, many, List.countP_eq_length_filter]
    have hget : ∀ (r : List Nat), r.length = n → ∀ i, i < n - 1 → (r.eraseIdx v).getD i 0 = r.getD (past v i) 0 := by
      intro r hl i hi
      have h1 : i < (r.eraseIdx v).length := by rw [List.length_eraseIdx]; split <;> omega
      rw [show (r.eraseIdx v).getD i 0 = (r.eraseIdx v)[i] by simp [h1], List.getElem_eraseIdx]
      unfold past
      split
      · simp [show i < r.length by omega]
      · simp [show i + 1 < r.length by omega]
    have hel : ∀ (r : List Nat), r.length = n → (r.eraseIdx v).length = n - 1 := fun r hl => by rw [List.length_eraseIdx, if_pos (by omega)]; omega
    rw [← List.length_map (f := fun r : List Nat => r.eraseIdx v)]
    refine List.Perm.length_eq ((List.perm_ext_iff_of_nodup ?_ (nodup_ext.filter _)).2 fun r' => ?_)
    · rw [List.nodup_iff_pairwise_ne, List.pairwise_map]
      refine ((nodup_ext (k := k) (m := n) (p := [])).filter _).imp_of_mem fun {r s} hr hs' hne e => hne ?_
      obtain ⟨hr1, hr2⟩ := List.mem_filter.1 hr
      obtain ⟨hs1, hs2⟩ := List.mem_filter.1 hs'
      simp only [Bool.and_eq_true, decide_eq_true_eq, Bool.not_eq_true', decide_eq_false_iff_not, Classical.not_not] at hr2 hs2
      obtain ⟨l1, _⟩ := hlen r hr1
      obtain ⟨l2, _⟩ := hlen s hs1
      have hoth : ∀ w, w < n → w ≠ v → r.getD w 0 = s.getD w 0 := by
        intro w hw hwv
        have h1 := hget r l1 (if w < v then w else w - 1) (by split <;> omega)
        have h2 := hget s l2 (if w < v then w else w - 1) (by split <;> omega)
        rw [past_back hw hwv] at h1 h2
        rw [← h1, ← h2, e]
      refine List.ext_getElem (by omega) fun w h1 h2 => ?_
      have e1 : r.getD w 0 = r[w] := by simp [h1]
      have e2 : s.getD w 0 = s[w] := by simp [h2]
      rw [← e1, ← e2]
      by_cases hw : w = v
      · subst hw; rw [← hr2.2, ← hs2.2]; exact hoth u (by omega) (by omega)
      · exact hoth w (by omega) hw
    · rw [List.mem_map, List.mem_filter]
      constructor
      · rintro ⟨r, hr, rfl⟩
        obtain ⟨hr1, hr2⟩ := List.mem_filter.1 hr
        simp only [Bool.and_eq_true, decide_eq_true_eq, Bool.not_eq_true', decide_eq_false_iff_not, Classical.not_not] at hr2
        obtain ⟨l1, lk⟩ := hlen r hr1
        obtain ⟨hA, hE⟩ := hr2
        refine ⟨mem_ext.2 ⟨by rw [hel r l1]; simp, by simp, fun i hi _ => ?_⟩, decide_eq_true fun i j hi hj hij => ?_⟩
        · have hm := List.getElem_mem hi
          obtain ⟨w, hw, e⟩ := List.getElem_of_mem (List.mem_of_mem_eraseIdx hm)
          rw [← e]; exact lk w hw
        · rw [hel r l1] at hi hj
          rw [hget r l1 i hi, hget r l1 j hj]
          have pi : past v i < n ∧ past v i ≠ v := by unfold past; split <;> omega
          have pj : past v j < n ∧ past v j ≠ v := by unfold past; split <;> omega
          rcases hij with h | ⟨h1, h2, h3⟩ | ⟨h1, h2, h3⟩
          · exact hA _ _ (by omega) (by omega) ⟨h, by omega, by omega⟩
          · rw [h1, hE]; exact hA _ _ (by omega) (by omega) ⟨h3, by omega, by omega⟩
          · rw [h1, hE]; exact fun e => hA _ _ (by omega) (by omega) ⟨h3, by omega, by omega⟩ e.symm
      · rintro ⟨h1, h2⟩
        obtain ⟨l1, _, lk⟩ := mem_ext.1 h1
        simp only [List.length_nil, Nat.zero_add] at l1
        have hA := of_decide_eq_true h2
        let r : List Nat := (List.range n).map fun w => if w = v then r'.getD u 0 else r'.getD (if w < v then w else w - 1) 0
        have hl : r.length = n := by simp [r]
        have hr : ∀ w, w < n → r.getD w 0 = if w = v then r'.getD u 0 else r'.getD (if w < v then w else w - 1) 0 := fun w hw => by simp [r, hw]
        have hlt : ∀ i, i < n - 1 → r'.getD i 0 < k := fun i hi => by
          rw [show r'.getD i 0 = r'[i]'(by omega) by simp [show i < r'.length by omega]]; exact lk i (by omega) (Nat.zero_le _)
        have back : ∀ i, i < n - 1 → r.getD (past v i) 0 = r'.getD i 0 := by
          intro i hi
          have pi : past v i < n ∧ past v i ≠ v := by unfold past; split <;> omega
          rw [hr _ pi.1, if_neg pi.2]
          congr 1
          unfold past
          by_cases g : i < v
          · rw [if_pos g, if_pos g]
          · rw [if_neg g, if_neg (by omega)]; omega
        have huv : r.getD u 0 = r.getD v 0 := by rw [hr u (by omega), hr v hv, if_neg (by omega), if_pos rfl, if_pos hu]
        refine ⟨r, List.mem_filter.2 ⟨mem_ext.2 ⟨by simp [hl], by simp, fun w hw _ => ?_⟩, ?_⟩, ?_⟩
        · rw [show r[w] = r.getD w 0 by simp [hw], hr w (by omega)]
          split
          · exact hlt u (by omega)
          · exact hlt _ (by split <;> omega)
        · simp only [Bool.and_eq_true, decide_eq_true_eq, Bool.not_eq_true', decide_eq_false_iff_not, Classical.not_not]
          refine ⟨fun x y hx hy hxy => ?_, huv⟩
          rw [hl] at hx hy
          obtain ⟨h3, h4, h5⟩ := hxy
          have low : ∀ w, w < n → w ≠ v → ∃ i, i < n - 1 ∧ past v i = w := fun w hw hwv => ⟨if w < v then w else w - 1, by split <;> omega, past_back hw hwv⟩
          by_cases ex : x = v
          · subst ex
            have hyv : y ≠ x := fun e => hi x (by rw [e] at h3; exact h3)
            obtain ⟨i, hi1, hi2⟩ := low u (by omega) (by omega)
            obtain ⟨j, hj1, hj2⟩ := low y hy hyv
            have := hA i j (by omega) (by omega) (.inr (.inl ⟨hi2, by omega, by rw [hj2]; exact h3⟩))
            rw [← back i hi1, ← back j hj1, hi2, hj2, huv] at this; exact this
          · by_cases ey : y = v
            · subst ey
              obtain ⟨i, hi1, hi2⟩ := low u (by omega) (by omega)
              obtain ⟨j, hj1, hj2⟩ := low x hx ex
              have := hA i j (by omega) (by omega) (.inr (.inl ⟨hi2, by omega, by rw [hj2]; exact hs _ _ h3⟩))
              rw [← back i hi1, ← back j hj1, hi2, hj2, huv] at this; exact fun e => this e.symm
            · obtain ⟨i, hi1, hi2⟩ := low x hx ex
              obtain ⟨j, hj1, hj2⟩ := low y hy ey
              have := hA i j (by omega) (by omega) (.inl (by rw [hi2, hj2]; exact h3))
              rw [← back i hi1, ← back j hj1, hi2, hj2] at this; exact this
        · refine List.ext_getElem (by rw [hel r hl]; omega) fun i h3 h4 => ?_
          have h5 := hget r hl i (by omega)
          rw [back i (by omega)] at h5
          rw [show (r.eraseIdx v)[i] = (r.eraseIdx v).getD i 0 by simp [h3], h5]; simp [h4]
end Go.Proofs.Ytadjcnllmkdgiaa
