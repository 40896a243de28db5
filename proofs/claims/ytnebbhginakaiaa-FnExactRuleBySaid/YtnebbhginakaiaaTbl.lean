/- Tables in memory: maps from states to numbers; loops over them, in whatever order. Program-free. -/
import Derived.Test.YtnebbhginakaiaaMp
import Derived.Test.YtnebbhginakaiaaRul
import Derived.Maps.RangeRun
namespace Go.Proofs.Ytnebbhginakaiaa
open Go Go.RowKit
open Go.ChangeMaps (setBlock)
structure Ky (P : Program) (k : TypeId) (κ : Type) where
  kv : κ → Value
  inj : ∀ a b, kv a = kv b → a = b
  check : ∀ (w : World) (em : Bool) (a : κ), (Instr.checkKey em 10000 k (kv a)).run P w = .ok () w
  find : ∀ (w : World) (a : κ) (es : List MapEntry), (∀ e ∈ es, ∃ b, e.key = kv b) →
    ((Instr.findKey k (kv a) es).run P w = .ok none w ∧ ∀ e ∈ es, e.key ≠ kv a) ∨ ∃ j e, (Instr.findKey k (kv a) es).run P w = .ok (some (j, e.val)) w ∧ es[j]? = some e ∧ e.key = kv a
  stays : ∀ (w : World) (a : κ), (Instr.keyThatStays (kv a) (kv a)).run P w = .ok (kv a) w
def Ky.ofLaw {P : Program} {k : TypeId} {κ : Type} (kv : κ → Value) (inj : ∀ a b, kv a = kv b → a = b) (key : ∀ a, ∃ l, keyOf P k (kv a) = some l) (law : WideMaps.KeyLaw P k) : Ky P k κ where
  kv := kv
  inj := inj
  check w em a := by obtain ⟨l, hl⟩ := key a; exact law.check w em hl
  find w a es he := by
    obtain ⟨l, hl⟩ := key a
    exact law.find w hl es fun e h => by obtain ⟨b, hb⟩ := he e h; rw [hb]; exact key b
  stays w a := by obtain ⟨l, hl⟩ := key a; exact law.stays w hl
open Go.MapKept in
def Ky.u32 {P : Program} {k : TypeId} (hk : P.underlying k = some (.int .u32)) : Ky P k (BitVec 32) where
  kv := fun s => .int .u32 (BitVec.toNat s : Int)
  inj := fun a b h => by simp only [Value.int.injEq, true_and] at h; exact BitVec.eq_of_toNat_eq (by omega)
  check w em a := run_checkKey hk (d := .int .u32) (k := .int .u32 (BitVec.toNat a : Int)) rfl em 9999
  find w a es he := by
    have hks : ∀ x ∈ es, IsKey (.int .u32) x.key := fun x hx => by obtain ⟨b, hb⟩ := he x hx; rw [hb]; exact rfl
    rcases findNow_spec (d := .int .u32) (k := .int .u32 (BitVec.toNat a : Int)) rfl es 0 hks with ⟨h1, h2⟩ | ⟨j, e0, h1, h2, h3⟩
    · exact Or.inl ⟨run_findKey hk h1, h2⟩
    · exact Or.inr ⟨j, e0, by simpa using run_findKey hk h1, h2, h3⟩
  stays w a := run_keyThatStays (d := .int .u32) (k := .int .u32 (BitVec.toNat a : Int)) rfl
section
variable {P : Program} {k : TypeId} {κ : Type}
def Ky.pv (K : Ky P k κ) (p : κ × Int) : Value × Value := (K.kv p.1, .int .i64 p.2)
def ePair (e : MapEntry) : Value × Value := (e.key, e.val)
def Mt (K : Ky P k κ) (w : World) (m : Nat) (T : Tf κ) : Prop :=
  ∃ (es : Array MapEntry) (clock : Nat) (l : List (κ × Int)), w.heap[m]? = some (.map es clock) ∧ es.toList.map ePair = l.map K.pv ∧ (es.toList.map (·.born)).Nodup ∧ (∀ e ∈ es.toList, e.born < clock) ∧ IsL l T ∧ ∀ p ∈ l, InI p.2
variable {K : Ky P k κ} {w w' : World} {m : Nat} {T : Tf κ}
theorem Mt.lt (h : Mt K w m T) : m < w.heap.size := by
  obtain ⟨es, clock, l, h1, _⟩ := h
  exact (Array.getElem?_eq_some_iff.1 h1).1
theorem Mt.chg {D : List Nat} (h : Mt K w m T) (hc : Chg D w w') (hm : m ∉ D) : Mt K w' m T := by
  have hl := h.lt
  obtain ⟨es, clock, l, h1, h2⟩ := h
  exact ⟨es, clock, l, (hc.block m hl hm).trans h1, h2⟩
theorem Mt.ext (h : Mt K w m T) (hc : Ext w w') : Mt K w' m T := h.chg hc (by simp)
theorem Mt.inI (h : Mt K w m T) {a : κ} {n : Int} (ht : T a = some n) : InI n := by
  obtain ⟨_, _, l, _, _, _, _, hl, hi⟩ := h
  exact hi _ ((hl.mem a n).1 ht)
theorem ent_of {es : List MapEntry} {l : List (κ × Int)} (h : es.map ePair = l.map K.pv) {j : Nat} {e : MapEntry} (he : es[j]? = some e) : ∃ p, l[j]? = some p ∧ e.key = K.kv p.1 ∧ e.val = .int .i64 p.2 := by
  have h1 : (es.map ePair)[j]? = some (ePair e) := by rw [List.getElem?_map, he]; rfl
  rw [h, List.getElem?_map] at h1
  cases hp : l[j]? with
  | none => rw [hp] at h1; cases h1
  | some p =>
    rw [hp] at h1
    have e1 := Option.some.inj h1
    exact ⟨p, rfl, (congrArg Prod.fst e1).symm, (congrArg Prod.snd e1).symm⟩
theorem of_ent {es : List MapEntry} {l : List (κ × Int)} (h : es.map ePair = l.map K.pv) {j : Nat} {p : κ × Int} (hp : l[j]? = some p) : ∃ e, es[j]? = some e ∧ e.key = K.kv p.1 ∧ e.val = .int .i64 p.2 := by
  have h1 : (l.map K.pv)[j]? = some (K.pv p) := by rw [List.getElem?_map, hp]; rfl
  rw [← h, List.getElem?_map] at h1
  cases he : es[j]? with
  | none => rw [he] at h1; cases h1
  | some e =>
    rw [he] at h1
    have e1 := Option.some.inj h1
    exact ⟨e, rfl, congrArg Prod.fst e1, congrArg Prod.snd e1⟩
theorem ent_keys {es : List MapEntry} {l : List (κ × Int)} (h : es.map ePair = l.map K.pv) : ∀ x ∈ es, ∃ b, x.key = K.kv b := fun x hx => by
  obtain ⟨j, hj⟩ := List.getElem?_of_mem hx
  obtain ⟨p, _, h2, _⟩ := ent_of h hj
  exact ⟨p.1, h2⟩
variable {t e : TypeId}
theorem Mt.find (h : Mt K w m T) (a : κ) : ∃ (es : Array MapEntry) (clock : Nat), w.heap[m]? = some (.map es clock) ∧ ((T a = none ∧ ∀ w, (Instr.findKey k (K.kv a) es.toList).run P w = .ok none w) ∨ ∃ n j, T a = some n ∧ InI n ∧ ∀ w, (Instr.findKey k (K.kv a) es.toList).run P w = .ok (some (j, .int .i64 n)) w) := by
  obtain ⟨es, clock, l, hb, hm, hnd, hbn, hl, hi⟩ := h
  refine ⟨es, clock, hb, ?_⟩
  have hno : (∀ x ∈ es.toList, x.key ≠ K.kv a) → T a = none := fun h => by
    cases ht : T a with
    | none => rfl
    | some n =>
      obtain ⟨j, hj⟩ := List.getElem?_of_mem ((hl.mem a n).1 ht)
      obtain ⟨x, hx, hk, _⟩ := of_ent hm hj
      exact absurd hk (h x (List.mem_of_getElem? hx))
  have hyes : ∀ (j : Nat) (x : MapEntry), es.toList[j]? = some x → x.key = K.kv a → ∃ n, T a = some n ∧ InI n ∧ x.val = .int .i64 n := fun j x hx hk => by
    obtain ⟨p, hp, h1, h2⟩ := ent_of hm hx
    have e1 := K.inj _ _ (h1.symm.trans hk)
    exact ⟨p.2, (hl.mem a p.2).2 (by rw [← e1]; exact List.mem_of_getElem? hp), hi p (List.mem_of_getElem? hp), h2⟩
  have hall : ∀ w0, (T a = none ∧ (Instr.findKey k (K.kv a) es.toList).run P w0 = .ok none w0) ∨ ∃ (n : Int) (j : Nat) (x : MapEntry), T a = some n ∧ InI n ∧ es.toList[j]? = some x ∧ x.key = K.kv a ∧ (Instr.findKey k (K.kv a) es.toList).run P w0 = .ok (some (j, .int .i64 n)) w0 := fun w0 => by
    rcases K.find w0 a es.toList (ent_keys hm) with ⟨h1, h2⟩ | ⟨j, e0, h1, h2, h3⟩
    · exact .inl ⟨hno h2, h1⟩
    · obtain ⟨n, hn, hin, hv⟩ := hyes j e0 h2 h3
      exact .inr ⟨n, j, e0, hn, hin, h2, h3, by rw [← hv]; exact h1⟩
  rcases hall w with ⟨h1, h2⟩ | ⟨n, j, x, h1, hin, h2, h3, h4⟩
  · refine .inl ⟨h1, fun w0 => ?_⟩
    rcases hall w0 with ⟨_, g⟩ | ⟨n, j, x, g, _⟩
    · exact g
    · rw [h1] at g; cases g
  · refine .inr ⟨n, j, h1, hin, fun w0 => ?_⟩
    rcases hall w0 with ⟨g, _⟩ | ⟨n', j', x', g1, _, g2, g3, g4⟩
    · rw [h1] at g; cases g
    · rw [h1] at g1
      obtain rfl := Option.some.inj g1
      have ejj : j' = j := by
        obtain ⟨p, hp, q1, _⟩ := ent_of hm h2
        obtain ⟨p', hp', q1', _⟩ := ent_of hm g2
        have e1 := K.inj _ _ (q1.symm.trans h3)
        have e2 := K.inj _ _ (q1'.symm.trans g3)
        have l1 : (l.map (·.1))[j]? = some a := by rw [List.getElem?_map, hp, ← e1]; rfl
        have l2 : (l.map (·.1))[j']? = some a := by rw [List.getElem?_map, hp', ← e2]; rfl
        exact ((List.getElem?_inj (List.getElem?_eq_some_iff.1 l2).1 hl.nd).1 (l2.trans l1.symm))
      rw [ejj] at g4
      exact g4
theorem Mt.look2 (ht : P.underlying t = some (.map k e)) (hz : ∀ w, (zeroValue e).run P w = .ok (.int .i64 0) w) (h : Mt K w m T) (a : κ) :
    (T a = none ∧ ∀ w', Ext w w' → (Instr.lookup t (.map (some m)) (K.kv a) true).run P w' = .ok (.tuple #[.int .i64 0, .bool false]) w') ∨
    ∃ n, T a = some n ∧ InI n ∧ ∀ w', Ext w w' → (Instr.lookup t (.map (some m)) (K.kv a) true).run P w' = .ok (.tuple #[.int .i64 n, .bool true]) w' := by
  have hl := h.lt
  obtain ⟨es, clock, hb, hh⟩ := h.find a
  have hb' : ∀ w', Ext w w' → w'.heap[m]? = some (.map es clock) := fun w' hx => (hx.block m hl (by simp)).trans hb
  rcases hh with ⟨h1, h2⟩ | ⟨n, j, h1, hin, h2⟩
  · exact .inl ⟨h1, fun w' hx => by simp [Instr.lookup, run_underlying ht, MapKept.run_getObj_map (hb' w' hx), K.check w' _ a, h2, hz, Result.andThen]⟩
  · exact .inr ⟨n, h1, hin, fun w' hx => by simp [Instr.lookup, run_underlying ht, MapKept.run_getObj_map (hb' w' hx), K.check w' _ a, h2, Result.andThen]⟩
theorem Mt.look1 (ht : P.underlying t = some (.map k e)) (hz : ∀ w, (zeroValue e).run P w = .ok (.int .i64 0) w) (h : Mt K w m T) (a : κ) :
    ∀ w', Ext w w' → (Instr.lookup t (.map (some m)) (K.kv a) false).run P w' = .ok (.int .i64 ((T a).getD 0)) w' := by
  have hl := h.lt
  obtain ⟨es, clock, hb, hh⟩ := h.find a
  have hb' : ∀ w', Ext w w' → w'.heap[m]? = some (.map es clock) := fun w' hx => (hx.block m hl (by simp)).trans hb
  intro w' hx
  rcases hh with ⟨h1, h2⟩ | ⟨n, j, h1, hin, h2⟩
  · simp [Instr.lookup, run_underlying ht, MapKept.run_getObj_map (hb' w' hx), K.check w' _ a, h2, hz, h1, Result.andThen]
  · simp [Instr.lookup, run_underlying ht, MapKept.run_getObj_map (hb' w' hx), K.check w' _ a, h2, h1, Result.andThen]
theorem Mt.upd [DecidableEq κ] (ht : P.underlying t = some (.map k e)) (h : Mt K w m T) (a : κ) {n : Int} (hn : InI n) :
    ∃ w', (Instr.mapUpdate t (.map (some m)) (K.kv a) (.int .i64 n)).run P w = .ok () w' ∧ Mt K w' m (putT T a n) ∧ Chg [m] w w' := by
  have hl := h.lt
  obtain ⟨es, clock, l, hb, hm, hnd, hbn, hL, hi⟩ := h
  have hget : ∀ o : Obj, (w.heap.setIfInBounds m o)[m]? = some o := fun o => by simp [hl]
  rcases K.find w a es.toList (ent_keys hm) with ⟨h1, h2⟩ | ⟨j, e0, h1, h2, h3⟩
  · have ha : T a = none := by
      cases hT : T a with
      | none => rfl
      | some y =>
        obtain ⟨j, hj⟩ := List.getElem?_of_mem ((hL.mem a y).1 hT)
        obtain ⟨x, hx, hk, _⟩ := of_ent hm hj
        exact absurd hk (h2 x (List.mem_of_getElem? hx))
    refine ⟨{ w with heap := w.heap.setIfInBounds m (.map (es.push ⟨K.kv a, .int .i64 n, clock⟩) (clock + 1)) }, ?_, ⟨_, _, l ++ [(a, n)], hget _, ?_, ?_, ?_, hL.push ha, ?_⟩, Chg.setObj w m _⟩
    · simp [Instr.mapUpdate, run_underlying ht, MapKept.run_getObj_map hb, K.check w false a, h1, MapKept.run_setObj_map _ hb, Result.andThen]
    · rw [Array.toList_push, List.map_append, List.map_append, hm]; rfl
    · rw [Array.toList_push, List.map_append, List.nodup_append]
      refine ⟨hnd, by simp, fun x hx y hy e => ?_⟩
      simp only [List.map_cons, List.map_nil, List.mem_singleton] at hy
      obtain ⟨z, hz, rfl⟩ := List.mem_map.1 hx
      have := hbn z hz; omega
    · intro x hx
      simp only [Array.toList_push, List.mem_append, List.mem_singleton] at hx
      rcases hx with hx | rfl
      · have := hbn x hx; omega
      · exact Nat.lt_succ_self _
    · intro p hp
      rcases List.mem_append.1 hp with hp | hp
      · exact hi p hp
      · rw [List.mem_singleton] at hp; subst hp; exact hn
  · have hj : es[j]? = some e0 := by simpa using h2
    obtain ⟨p0, hp0, q1, q2⟩ := ent_of hm h2
    have ea : p0.1 = a := K.inj _ _ (q1.symm.trans h3)
    have hp0' : l[j]? = some (a, p0.2) := by rw [hp0, ← ea]
    have hml : (es.modify j (fun e' => { e' with key := K.kv a, val := .int .i64 n })).toList = es.toList.modify j (fun e' => { e' with key := K.kv a, val := .int .i64 n }) := by simp
    refine ⟨{ w with heap := w.heap.setIfInBounds m (.map (es.modify j (fun e' => { e' with key := K.kv a, val := .int .i64 n })) clock) }, ?_, ⟨_, _, l.set j (a, n), hget _, ?_, ?_, ?_, hL.set hp0', ?_⟩, Chg.setObj w m _⟩
    · simp [Instr.mapUpdate, run_underlying ht, MapKept.run_getObj_map hb, K.check w false a, h1, hj, h3, K.stays w a, MapKept.run_setObj_map _ hb, Result.andThen]
    · rw [hml]
      refine List.ext_getElem? fun i => ?_
      have hi2 : (es.toList.map ePair)[i]? = (l.map K.pv)[i]? := by rw [hm]
      rw [List.getElem?_map, List.getElem?_map] at hi2
      rw [List.getElem?_map, List.getElem?_map, List.getElem?_modify, List.getElem?_set]
      by_cases e : j = i
      · subst e
        rw [if_pos rfl, h2, if_pos (List.getElem?_eq_some_iff.1 hp0).1]; simp [ePair, Ky.pv]
      · rw [if_neg e]; simpa [e] using hi2
    · have : (es.modify j (fun e' => { e' with key := K.kv a, val := .int .i64 n })).toList.map (·.born) = es.toList.map (·.born) := by
        rw [hml]
        refine List.ext_getElem? fun i => ?_
        rw [List.getElem?_map, List.getElem?_map, List.getElem?_modify]
        by_cases e : j = i
        · subst e; rw [h2]; simp
        · simp [e]
      rw [this]; exact hnd
    · intro x hx
      rcases MapFrom.mem_modify hx with hx | ⟨e', he', rfl⟩
      · exact hbn x hx
      · exact hbn e' (by simpa using Array.mem_of_getElem? he')
    · intro p hp
      rcases List.mem_or_eq_of_mem_set hp with hp | rfl
      · exact hi p hp
      · exact hn
/-! ## a loop over a table -/
def Rg (K : Ky P k κ) (w : World) (r : Nat) (mo : Option Nat) (rest : List (κ × Int)) : Prop :=
  (mo = none ∧ rest = [] ∧ ∃ a b c, w.heap[r]? = some (.mapIter none a b c)) ∨
  ∃ (m : Nat) (es : Array MapEntry) (clock since : Nat) (seen : Array Nat) (c0 : Nat), mo = some m ∧ w.heap[m]? = some (.map es clock) ∧ w.heap[r]? = some (.mapIter (some m) since seen c0) ∧ (∀ x ∈ es.toList, x.born < since) ∧ since ≤ c0 ∧ since ≤ clock ∧ (es.toList.map (·.born)).Nodup ∧
    (es.toList.filter fun e => !seen.contains e.born).map ePair = rest.map K.pv ∧ ∀ p ∈ rest, InI p.2
variable {r : Nat} {mo : Option Nat} {rest : List (κ × Int)}
theorem Rg.lt (h : Rg K w r mo rest) : r < w.heap.size := by
  rcases h with ⟨_, _, _, _, _, h⟩ | ⟨_, _, _, _, _, _, _, _, h, _⟩
  · exact (Array.getElem?_eq_some_iff.1 h).1
  · exact (Array.getElem?_eq_some_iff.1 h).1
theorem Rg.chg {D : List Nat} (h : Rg K w r mo rest) (hc : Chg D w w') (hr : r ∉ D) (hm : ∀ m, mo = some m → m ∉ D) : Rg K w' r mo rest := by
  have hl := h.lt
  rcases h with ⟨h1, h2, a, b, c, h3⟩ | ⟨m, es, clock, since, seen, c0, rfl, h1, h2, h3⟩
  · exact .inl ⟨h1, h2, a, b, c, (hc.block r hl hr).trans h3⟩
  · exact .inr ⟨m, es, clock, since, seen, c0, rfl, (hc.block m (Array.getElem?_eq_some_iff.1 h1).1 (hm m rfl)).trans h1, (hc.block r hl hr).trans h2, h3⟩
theorem Rg.ext (h : Rg K w r mo rest) (hc : Ext w w') : Rg K w' r mo rest := h.chg hc (by simp) (fun _ _ => by simp)
def Mv (K : Ky P k κ) (w : World) (mo : Option Nat) (T : Tf κ) : Prop := (mo = none ∧ T = noT) ∨ ∃ m, mo = some m ∧ Mt K w m T
theorem Mv.range (h : Mv K w mo T) (ht : P.underlying t = some (.map k e)) :
    ∃ l w', IsL l T ∧ (Instr.range t (.map mo)).run P w = .ok (.pointer (some ⟨w.heap.size, 0, none⟩)) w' ∧ Rg K w' w.heap.size mo l ∧ Ext w w' := by
  rcases h with ⟨rfl, rfl⟩ | ⟨m, rfl, h⟩
  · exact ⟨[], _, IsL.empty, run_range_nilMap w t k e ht, .inl ⟨rfl, rfl, _, _, _, heap_alloc_new w _⟩, Ext.alloc w _⟩
  · have hl := h.lt
    obtain ⟨es, clock, l, hb, hm, hnd, hbn, hL, hi⟩ := h
    refine ⟨l, _, hL, run_range_map w t k e m es clock ht hb, .inr ⟨m, es, clock, clock, #[], clock, rfl, ((Ext.alloc w _).block m hl (by simp)).trans hb, heap_alloc_new w _, hbn, Nat.le_refl _, Nat.le_refl _, hnd, ?_, hi⟩, Ext.alloc w _⟩
    rw [← hm]; simp only [Array.contains_empty, Bool.not_false]; rw [List.filter_eq_self.2 (fun _ _ => rfl)]
theorem Chg.setBlock' (w : World) (r : Nat) (o : Obj) : Chg [r] w (setBlock w r o) := by
  have := Chg.setObj w r o
  exact this
theorem Rg.next (h : Rg K w r mo rest) (ty : TypeId) :
    (rest = [] ∧ (Instr.next (.pointer (some ⟨r, 0, none⟩)) false ty).run P w = .ok (.tuple #[.bool false]) w) ∨
    ∃ p rest' w', rest.Perm (p :: rest') ∧ InI p.2 ∧ (Instr.next (.pointer (some ⟨r, 0, none⟩)) false ty).run P w = .ok (.tuple #[.bool true, K.kv p.1, .int .i64 p.2]) w' ∧ Rg K w' r mo rest' ∧ Chg [r] w w' ∧
      (Instr.entry (.pointer (some ⟨r, 0, none⟩))).run P w' = .ok (.tuple #[K.kv p.1, .int .i64 p.2]) w' := by
  have hlr := h.lt
  rcases h with ⟨rfl, rfl, a, b, c, hr⟩ | ⟨m, es, clock, since, seen, c0, rfl, hb, hr, hold, hsc, hsc2, hnd, hrest, hi⟩
  · refine .inl ⟨rfl, ?_⟩
    simp [Instr.next, getObj, Sem.run, hr, Result.andThen]
  · rcases run_next_at (P := P) w ty r m since c0 seen es clock hr hb hold hsc with ⟨h0, hrun⟩ | ⟨e, he, w1, hal, hrun⟩
    · refine .inl ⟨?_, hrun⟩
      have : (es.toList.filter fun e => !seen.contains e.born).length = 0 := by
        rw [← h0, leftOf, ← Array.length_toList, Array.toList_filter]
      have h2 := congrArg List.length hrest
      rw [List.length_map, List.length_map, this] at h2
      exact List.eq_nil_of_length_eq_zero h2.symm
    · refine .inr ?_
      have heL : e ∈ es.toList.filter fun e => !seen.contains e.born := by simpa [leftOf] using he
      have hees : e ∈ es.toList := (List.mem_filter.1 heL).1
      obtain ⟨A, B, hAB⟩ := List.append_of_mem heL
      rw [hAB, List.map_append, List.map_cons] at hrest
      obtain ⟨A', B0, hr1, hA, hB0⟩ := List.map_eq_append_iff.1 hrest.symm
      obtain ⟨p, B', hr2, hp, hB⟩ := List.map_eq_cons_iff.1 hB0
      subst hr1 hr2
      have hpk : K.kv p.1 = e.key := congrArg Prod.fst hp
      have hpv : Value.int .i64 p.2 = e.val := congrArg Prod.snd hp
      have hm0 : w1.heap[m]? = some (.map es clock) := by rcases hal with rfl | rfl <;> exact hb
      have hne : r ≠ m := fun e => by rw [e, hb] at hr; cases hr
      have hlr1 : r < w1.heap.size := by rcases hal with rfl | rfl <;> exact hlr
      have hm1 : (setBlock w1 r (.mapIter (some m) since (seen.push e.born) clock)).heap[m]? = some (.map es clock) := by
        rw [← hm0]; exact (Chg.setBlock' w1 r _).block m (Array.getElem?_eq_some_iff.1 hm0).1 (by simp [Ne.symm hne])
      have hr1 : (setBlock w1 r (.mapIter (some m) since (seen.push e.born) clock)).heap[r]? = some (.mapIter (some m) since (seen.push e.born) clock) := by
        simp [setBlock, hlr1]
      have hc : Chg [r] w w1 := by rcases hal with rfl | rfl; exact Chg.refl _ _; exact (Ext.drew w).chg
      refine ⟨p, A' ++ B', _, List.perm_middle, hi p (by simp), by rw [hpk, hpv]; exact hrun, .inr ⟨m, es, clock, since, seen.push e.born, clock, rfl, hm1, hr1, hold, hsc2, hsc2, hnd, ?_, fun q hq => hi q ?_⟩, Chg.trans hc (Chg.setBlock' w1 r _) (fun i hi => .inl hi), ?_⟩
      · have hq : (es.toList.filter fun x => !(seen.push e.born).contains x.born) = (es.toList.filter fun x => !seen.contains x.born).filter fun x => !(x.born == e.born) := by
          rw [List.filter_filter]
          refine List.filter_congr fun x _ => ?_
          rw [contains_push]
          cases seen.contains x.born <;> cases (x.born == e.born) <;> rfl
        rw [hq, hAB]
        have hn2 : ((A ++ e :: B).map (·.born)).Nodup := by rw [← hAB]; exact hnd.sublist ((List.filter_sublist).map _)
        rw [List.map_append, List.map_cons, List.nodup_append] at hn2
        obtain ⟨_, n2, n3⟩ := hn2
        rw [List.nodup_cons] at n2
        rw [List.filter_append, List.filter_cons_of_neg (by simp), List.filter_eq_self.2, List.filter_eq_self.2, List.map_append, List.map_append, hA, hB]
        · intro x hx
          have : x.born ≠ e.born := fun h => n2.1 (by rw [← h]; exact List.mem_map.2 ⟨x, hx, rfl⟩)
          simpa using this
        · intro x hx
          have : x.born ≠ e.born := fun h => n3 _ (List.mem_map.2 ⟨x, hx, rfl⟩) e.born (by simp) h
          simpa using this
      · rcases List.mem_append.1 hq with h | h
        · simp [h]
        · simp [h]
      · rw [hpk, hpv]; exact run_entry_at _ r m since seen es clock e hr1 hm1 hees hnd
def Rp.mp : Rp Nat where
  sz := 1
  pos := by decide
  rep := fun _ _ fp cs x => cs = [.map (some x)] ∧ fp = []
  len := fun h => by simp [h.1]
  one := fun h c hc => by rw [h.1] at hc; simp at hc; simp [hc, Value.oneCell']
  keep := fun h _ => h
  bnd := fun h => by simp [h.2]
  weak := fun h => h
section walk
variable {ops : Array Oper} {Q : Exit → Act → World → Prop} {a : Act} {pre : List Oper} {N d : Nat} {σ : Slots} {ty : TypeId} {pos : String} {af : Array Edge} {t e : TypeId}
theorem o_mapT [DecidableEq κ] {x y z : Operand} {s : κ} {n : Int} (ha : Fr N σ a) (ht : P.underlying t = some (.map k e)) (h : Mt K w m T) (hn : InI n)
    (hx : ev σ x = some (.map (some m))) (hy : ev σ y = some (K.kv s)) (hz : ev σ z = some (.int .i64 n))
    (C : ∀ w', Mt K w' m (putT T s n) → Chg [m] w w' → wpList P ops Q pre a w') : wpList P ops Q (⟨none, .mapUpdate t x y z, ty, pos, af, none⟩ :: pre) a w := by
  obtain ⟨w', h1, h2, h3⟩ := Mt.upd ht h s hn
  refine wl_skip (w' := w') rfl ?_ (C w' h2 h3)
  simp [execOp, ha.eq hx, ha.eq hy, ha.eq hz, h1]
theorem o_insT [DecidableEq κ] {x y z : Operand} {s : κ} {n : Int} (ha : Fr N σ a) (ht : P.underlying t = some (.map k e)) (h : Mt K w m T) (hn : InI n)
    (hx : ev σ x = some (.map (some m))) (hy : ev σ y = some (K.kv s)) (hz : ev σ z = some (.int .i64 n))
    (C : ∀ w', Mt K w' m (putT T s n) → Chg [m] w w' → wpList P ops Q pre a w') : wpList P ops Q (⟨none, .insert t x y z, ty, pos, af, none⟩ :: pre) a w := by
  obtain ⟨w', h1, h2, h3⟩ := Mt.upd ht h s hn
  refine wl_skip (w' := w') rfl ?_ (C w' h2 h3)
  simp [execOp, ha.eq hx, ha.eq hy, ha.eq hz, h1]
theorem o_newT (K : Ky P k κ) (ha : Fr N σ a) (hd : Nat.ble (d + 1) N = true)
    (C : ∀ m w', Mt K w' m noT → Ext w w' → w.heap.size ≤ m → ∀ a, Fr N ((d, .map (some m)) :: σ) a → wpList P ops Q pre a w') :
    wpList P ops Q (⟨some d, .makeMap t none, ty, pos, af, none⟩ :: pre) a w := by
  refine o_runw (v := .map (some w.heap.size)) (w' := w.alloc (.map #[] 0)) ha hd (fun g => ?_) (C _ _ ⟨#[], 0, [], heap_alloc_new w _, rfl, by simp, by simp, IsL.empty, by simp⟩ (Ext.alloc _ _) (Nat.le_refl _))
  simp [execOp, Instr.makeMap]
theorem o_rangeT {x : Operand} (ha : Fr N σ a) (hd : Nat.ble (d + 1) N = true) (ht : P.underlying t = some (.map k e)) (h : Mv K w mo T) (hx : ev σ x = some (.map mo))
    (C : ∀ l r w', IsL l T → Rg K w' r mo l → Ext w w' → w.heap.size ≤ r → ∀ a, Fr N ((d, .pointer (some ⟨r, 0, none⟩)) :: σ) a → wpList P ops Q pre a w') :
    wpList P ops Q (⟨some d, .range t x, ty, pos, af, none⟩ :: pre) a w := by
  obtain ⟨l, w', h1, h2, h3, h4⟩ := h.range ht
  exact o_runw ha hd (fun g => by simp [execOp, ha.eq hx, h2]) (C l _ w' h1 h3 h4 (Nat.le_refl _))
theorem o_nextT {x : Operand} (ha : Fr N σ a) (hd : Nat.ble (d + 1) N = true) (h : Rg K w r mo rest) (hx : ev σ x = some (.pointer (some ⟨r, 0, none⟩)))
    (C0 : rest = [] → ∀ a, Fr N ((d, .tuple #[.bool false]) :: σ) a → wpList P ops Q pre a w)
    (C1 : ∀ p rest' w', rest.Perm (p :: rest') → InI p.2 → Rg K w' r mo rest' → Chg [r] w w' → (Instr.entry (.pointer (some ⟨r, 0, none⟩))).run P w' = .ok (.tuple #[K.kv p.1, .int .i64 p.2]) w' →
      ∀ a, Fr N ((d, .tuple #[.bool true, K.kv p.1, .int .i64 p.2]) :: σ) a → wpList P ops Q pre a w') :
    wpList P ops Q (⟨some d, .next x false, ty, pos, af, none⟩ :: pre) a w := by
  rcases h.next ty with ⟨h1, h2⟩ | ⟨p, rest', w', h1, h2, h3, h4, h5, h6⟩
  · exact o_run ha hd (fun g => by simp [execOp, ha.eq hx, h2]) (C0 h1)
  · exact o_runw ha hd (fun g => by simp [execOp, ha.eq hx, h3]) (C1 p rest' w' h1 h2 h4 h5 h6)
theorem o_entryT {x : Operand} {v : Value} (ha : Fr N σ a) (hd : Nat.ble (d + 1) N = true) (hx : ev σ x = some (.pointer (some ⟨r, 0, none⟩))) (h : (Instr.entry (.pointer (some ⟨r, 0, none⟩))).run P w = .ok v w)
    (C : ∀ a, Fr N ((d, v) :: σ) a → wpList P ops Q pre a w) : wpList P ops Q (⟨some d, .entry x, ty, pos, af, none⟩ :: pre) a w :=
  o_run ha hd (fun g => by simp [execOp, ha.eq hx, h]) C
theorem g_lookup1 {x y : Operand} {mv key r : Value} (hx : ev σ x = some mv) (hy : ev σ y = some key) (h : ∀ w', Ext w w' → (Instr.lookup t mv key false).run P w' = .ok r w') :
    Gives P (Ext w) σ (.lookup t x y false) r :=
  fun N a w' ha he d ty pos af g => by simp [execOp, ha.eq hx, ha.eq hy, h w' he]
end walk
/-! ## numbers that go round -/
theorem i64_wr (x : Int) : IntKind.i64.wrap x = wr x := by
  have e : IntKind.i64.wrap x = if x % 18446744073709551616 ≥ 9223372036854775808 then x % 18446744073709551616 - 18446744073709551616 else x % 18446744073709551616 := by
    simp [IntKind.wrap, IntKind.bits, IntKind.signed]
  rw [e]
  unfold wr Int.bmod
  show _ = if x % 18446744073709551616 < (18446744073709551616 + 1) / 2 then x % 18446744073709551616 else x % 18446744073709551616 - 18446744073709551616
  split <;> split <;> omega
section
variable {C : World → Prop} {σ : Slots}
theorem g_addw {x y : Operand} {m n : Int} {T U : TypeId} (hx : ev σ x = some (.int .i64 m)) (hy : ev σ y = some (.int .i64 n)) : Gives P C σ (.binOp .add T x y U) (.int .i64 (wr (m + n))) :=
  fun N a w ha _ d ty pos af g => by simp [execOp, ha.eq hx, ha.eq hy, eqGuard, binOp, Op.intArith, i64_wr]
end
/-! ## a rule in memory -/
def rvOf (fa fd fm fb fp : FuncId) (ca cd cm cb cp : List Value) : List Value := [.func (.func fa) #[] ca.toArray, .func (.func fd) #[] cd.toArray, .func (.func fm) #[] cm.toArray, .func (.func fb) #[] cb.toArray, .func (.func fp) #[] cp.toArray]
structure RuW (P : Program) {k : TypeId} {κ : Type} (K : Ky P k κ) (rp : Rp κ) (R : Ru κ) (W0 : World) (fa fd fm fb fp : FuncId) (ca cd cm cb cp : List Value) : Prop where
  ea : ∀ args w, (callFunc fa args).run P w = .ok (.enter fa args) w
  ed : ∀ args w, (callFunc fd args).run P w = .ok (.enter fd args) w
  em : ∀ args w, (callFunc fm args).run P w = .ok (.enter fm args) w
  eb : ∀ args w, (callFunc fb args).run P w = .ok (.enter fb args) w
  ep : ∀ args w, (callFunc fp args).run P w = .ok (.enter fp args) w
  add : ∀ {w : World}, Ext W0 w → ∀ (s : κ) {v : Int}, InI v → ∀ (m : BitVec 32) {r : List κ}, R.add s v m = some r →
    Calls P fa ([K.kv s, .int .i64 v, .int .u32 (BitVec.toNat m : Int)] ++ ca).toArray w (Ret fun u w' => ∃ f, Ro rp w' f u r ∧ (∀ k ∈ f, w.heap.size ≤ k) ∧ Ext w w')
  drop : ∀ {w : World}, Ext W0 w → ∀ (s : κ) {v : Int}, InI v → ∀ (m : BitVec 32) {n : Int}, InI n → ∀ {T : Tf κ}, R.drop s v m n = some T →
    Calls P fd ([K.kv s, .int .i64 v, .int .u32 (BitVec.toNat m : Int), .int .i64 n] ++ cd).toArray w (Ret fun u w' => ∃ mo, u = .map mo ∧ Mv K w' mo T ∧ (∀ b, mo = some b → w.heap.size ≤ b) ∧ Ext w w')
  meet : ∀ {w : World}, Ext W0 w → ∀ (s t : κ), Calls P fm ([K.kv s, K.kv t] ++ cm).toArray w (Ret fun u w' => u = .tuple #[K.kv (R.meet s t).1, .bool (R.meet s t).2] ∧ Ext w w')
  both : ∀ {w : World}, Ext W0 w → ∀ {x y : Int}, InI x → InI y → InI (R.both x y) ∧ Calls P fb ([Value.int .i64 x, .int .i64 y] ++ cb).toArray w (Ret fun u w' => u = .int .i64 (R.both x y) ∧ Ext w w')
  pick : ∀ {w : World}, Ext W0 w → ∀ {x y : Int}, InI x → InI y → InI (R.pick x y) ∧ Calls P fp ([Value.int .i64 x, .int .i64 y] ++ cp).toArray w (Ret fun u w' => u = .int .i64 (R.pick x y) ∧ Ext w w')
  picks : Picks R.pick
structure RunI {P : Program} {k : TypeId} {κ : Type} (K : Ky P k κ) (tX tR tM : TypeId) (W0 : World) (bX bR : Nat) (xs rs : List Value) (b7 : Int) (v7 : Value) (ms : List Nat) (ts : List (Tf κ)) (w : World) : Prop where
  ext : Ext W0 w
  bx : Bx w bX xs tX
  br : Bx w bR rs tR
  ow : Ow Rp.mp tM true w [] b7 v7 ms
  z : Zn W0 b7
  nX : (bX : Int) ≠ b7
  nR : (bR : Int) ≠ b7
  len : ms.length = ts.length
  mt : ∀ (i : Nat) (m : Nat) (T : Tf κ), ms[i]? = some m → ts[i]? = some T → Mt K w m T
section
variable {tX tR tM : TypeId} {W0 : World} {bX bR : Nat} {xs rs : List Value} {b7 : Int} {v7 : Value} {ms : List Nat} {ts : List (Tf κ)}
theorem RunI.chg {D : List Nat} (h : RunI K tX tR tM W0 bX bR xs rs b7 v7 ms ts w) (hc : Chg D w w') (hD : ∀ i ∈ D, W0.heap.size ≤ i ∧ i ≠ bX ∧ i ≠ bR ∧ (i : Int) ≠ b7 ∧ i ∉ ms) : RunI K tX tR tM W0 bX bR xs rs b7 v7 ms ts w' :=
  ⟨h.ext.then hc (fun i hi => (hD i hi).1), h.bx.chg hc (fun hi => (hD _ hi).2.1 rfl), h.br.chg hc (fun hi => (hD _ hi).2.2.1 rfl),
    h.ow.chg hc (fun i hi hm => (hD i hi).2.2.2.1 hm) (fun i hi => by cases hi), h.z, h.nX, h.nR, h.len, fun i m T hm hT => (h.mt i m T hm hT).chg hc (fun hi => (hD m hi).2.2.2.2 (List.mem_of_getElem? hm))⟩
theorem RunI.up (h : RunI K tX tR tM W0 bX bR xs rs b7 v7 ms ts w) (hc : Ext w w') : RunI K tX tR tM W0 bX bR xs rs b7 v7 ms ts w' := h.chg hc (by simp)
theorem RunI.mapAt (h : RunI K tX tR tM W0 bX bR xs rs b7 v7 ms ts w) {b : Nat} (hb : b ∈ ms) : ∃ T, Mt K w b T := by
  obtain ⟨i, hi⟩ := List.getElem?_of_mem hb
  have hl := (List.getElem?_eq_some_iff.1 hi).1
  rw [h.len] at hl
  exact ⟨ts[i], h.mt i b _ hi (List.getElem?_eq_getElem hl)⟩
theorem RunI.old (h : RunI K tX tR tM W0 bX bR xs rs b7 v7 ms ts w) : ∀ i ∈ ms, i < w.heap.size := fun i hi => by
  obtain ⟨T, hT⟩ := h.mapAt hi; exact hT.lt
theorem RunI.tblk (h : RunI K tX tR tM W0 bX bR xs rs b7 v7 ms ts w) {i : Nat} (hi : (i : Int) = b7) : ∃ c e o, w.heap[i]? = some (.cells c e o) := by
  rcases h.ow with ⟨h1, _⟩ | ⟨g, _, cur, _, hg, _, hh, _⟩
  · omega
  · have : i = g := by omega
    subst this; exact ⟨_, _, _, hh⟩
theorem RunI.offMap (h : RunI K tX tR tM W0 bX bR xs rs b7 v7 ms ts w) (hM : Mt K w m T) (h0 : W0.heap.size ≤ m) (hm : m ∉ ms) : ∀ i ∈ [m], W0.heap.size ≤ i ∧ i ≠ bX ∧ i ≠ bR ∧ (i : Int) ≠ b7 ∧ i ∉ ms := fun i hi => by
  rw [List.mem_singleton] at hi; subst hi
  obtain ⟨es, cl, _, hh, _⟩ := hM
  refine ⟨h0, fun e => ?_, fun e => ?_, fun e => ?_, hm⟩
  · have := h.bx; unfold Bx at this; rw [← e, hh] at this; cases this
  · have := h.br; unfold Bx at this; rw [← e, hh] at this; cases this
  · obtain ⟨_, _, _, h2⟩ := h.tblk e; rw [hh] at h2; cases h2
theorem RunI.push (h : RunI K tX tR tM W0 bX bR xs rs b7 v7 ms ts w) {b' : Int} {v' : Value} {mm : Nat} (hc : Chg (bl b7) w w') (h' : Ow Rp.mp tM true w' [] b' v' (ms ++ [mm])) (hb : b' = b7 ∨ (w.heap.size : Int) = b') (hM : Mt K w mm T) :
    RunI K tX tR tM W0 bX bR xs rs b' v' (ms ++ [mm]) (ts ++ [T]) w' := by
  have hm : ∀ {i T}, Mt K w i T → i ∉ bl b7 := fun {i T} hi hm => by
    obtain ⟨_, _, _, h1, _⟩ := hi
    obtain ⟨_, _, _, h2⟩ := h.tblk (mem_bl.1 hm)
    rw [h1] at h2; cases h2
  have s1 := h.bx.blt
  have s2 := h.br.blt
  have n1 := h.nX
  have n2 := h.nR
  have s3 := h.ext.size
  have hz := h.z
  refine ⟨h.ext.then hc (Zn.bl h.z), h.bx.chg hc (fun hi => h.nX (mem_bl.1 hi)), h.br.chg hc (fun hi => h.nR (mem_bl.1 hi)), h', ?_, by rcases hb with e | e <;> omega, by rcases hb with e | e <;> omega, by rw [List.length_append, List.length_append, h.len]; rfl, fun i m T' hi hT => ?_⟩
  · rcases hb with e | e
    · rw [e]; exact hz
    · exact .inr (by omega)
  · by_cases c : i < ms.length
    · rw [List.getElem?_append_left c] at hi
      rw [List.getElem?_append_left (by rw [← h.len]; exact c)] at hT
      have := h.mt i m T' hi hT
      exact this.chg hc (hm this)
    · have hl := (List.getElem?_eq_some_iff.1 hi).1
      rw [List.length_append, List.length_singleton] at hl
      have e : i = ms.length := by omega
      subst e
      rw [List.getElem?_append_right (Nat.le_refl _)] at hi
      rw [List.getElem?_append_right (by rw [h.len]; exact Nat.le_refl _)] at hT
      simp only [Nat.sub_self, List.getElem?_cons_zero, Option.some.injEq, h.len] at hi hT
      subst hi hT
      exact hM.chg hc (hm hM)
theorem Rg.obj (h : Rg K w r mo rest) : ∃ a b c d, w.heap[r]? = some (.mapIter a b c d) := by
  rcases h with ⟨_, _, _, _, _, h⟩ | ⟨_, _, _, _, _, _, _, _, h, _⟩
  · exact ⟨_, _, _, _, h⟩
  · exact ⟨_, _, _, _, h⟩
theorem Rg.neMap (h : Rg K w r mo rest) (hM : Mt K w m T) : r ≠ m := fun e => by
  obtain ⟨_, _, _, _, h1⟩ := h.obj
  obtain ⟨_, _, _, h2, _⟩ := hM
  rw [e, h2] at h1; cases h1
theorem RunI.offIt (h : RunI K tX tR tM W0 bX bR xs rs b7 v7 ms ts w) (hR : Rg K w r mo rest) (h0 : W0.heap.size ≤ r) : ∀ i ∈ [r], W0.heap.size ≤ i ∧ i ≠ bX ∧ i ≠ bR ∧ (i : Int) ≠ b7 ∧ i ∉ ms := fun i hi => by
  rw [List.mem_singleton] at hi; subst hi
  obtain ⟨_, _, _, _, hh⟩ := hR.obj
  refine ⟨h0, fun e => ?_, fun e => ?_, fun e => ?_, fun e => ?_⟩
  · have := h.bx; unfold Bx at this; rw [← e, hh] at this; cases this
  · have := h.br; unfold Bx at this; rw [← e, hh] at this; cases this
  · obtain ⟨_, _, _, h2⟩ := h.tblk e; rw [hh] at h2; cases h2
  · obtain ⟨T, hT⟩ := h.mapAt e; exact hR.neMap hT rfl
end
end
end Go.Proofs.Ytnebbhginakaiaa
