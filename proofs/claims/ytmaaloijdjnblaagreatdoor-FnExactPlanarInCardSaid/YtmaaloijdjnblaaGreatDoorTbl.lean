/- Tables in memory: maps from states to numbers; loops over them, in whatever order. Program-free. -/
import Derived.Test.YtmaaloijdjnblaaGreatDoorMp
import Derived.Test.YtmaaloijdjnblaaGreatDoorRul
import Derived.Maps.RangeRun
namespace Go.Proofs.YtmaaloijdjnblaaGreatDoor
open Go Go.RowKit
open Go.ChangeMaps (setBlock)
structure Ky (P : Program) (k : TypeId) (κ : Type) where
  kv : κ → Value
  inj : ∀ a b, kv a = kv b → a = b
  check : ∀ (w : World) (em : Bool) (a : κ), (Instr.checkKey em 10000 k (kv a)).run P w = .ok () w
  find : ∀ (w : World) (a : κ) (es : List MapEntry), (∀ e ∈ es, ∃ b, e.key = kv b) →
    ((Instr.findKey k (kv a) es).run P w = .ok none w ∧ ∀ e ∈ es, e.key ≠ kv a) ∨ ∃ j e, (Instr.findKey k (kv a) es).run P w = .ok (some (j, e.val)) w ∧ es[j]? = some e ∧ e.key = kv a
  stays : ∀ (w : World) (a : κ), (Instr.keyThatStays (kv a) (kv a)).run P w = .ok (kv a) w
def Ky.ofLaw {P : Program} {k : TypeId} {κ : Type} (kv : κ → Value) (inj : ∀ a b, kv a = kv b → a = b) (key : ∀ a, ∃ l, keyOf P k (kv a) = some l) (law : WideMaps.KeyLaw P k) : Ky P k κ where
  kv := kv
  inj := inj
  check w em a := by obtain ⟨l, hl⟩ := key a; exact law.check w em hl
  find w a es he := by
    obtain ⟨l, hl⟩ := key a
    exact law.find w hl es fun e h => by obtain ⟨b, hb⟩ := he e h; rw [hb]; exact key b
  stays w a := by obtain ⟨l, hl⟩ := key a; exact law.stays w hl
open Go.MapKept in
def Ky.u32 {P : Program} {k : TypeId} (hk : P.underlying k = some (.int .u32)) : Ky P k (BitVec 32) where
  kv := fun s => .int .u32 (BitVec.toNat s : Int)
  inj := fun a b h => by simp only [Value.int.injEq, true_and] at h; exact BitVec.eq_of_toNat_eq (by omega)
  check w em a := run_checkKey hk (d := .int .u32) (k := .int .u32 (BitVec.toNat a : Int)) rfl em 9999
  find w a es he := by
    have hks : ∀ x ∈ es, IsKey (.int .u32) x.key := fun x hx => by obtain ⟨b, hb⟩ := he x hx; rw [hb]; exact rfl
    rcases findNow_spec (d := .int .u32) (k := .int .u32 (BitVec.toNat a : Int)) rfl es 0 hks with ⟨h1, h2⟩ | ⟨j, e0, h1, h2, h3⟩
    · exact Or.inl ⟨run_findKey hk h1, h2⟩
    · exact Or.inr ⟨j, e0, by simpa using run_findKey hk h1, h2, h3⟩
  stays w a := run_keyThatStays (d := .int .u32) (k := .int .u32 (BitVec.toNat a : Int)) rfl
section
variable {P : Program} {k : TypeId} {κ : Type}
def Ky.pv (K : Ky P k κ) (p : κ × Int) : Value × Value := (K.kv p.1, .int .i64 p.2)
def ePair (e : MapEntry) : Value × Value := (e.key, e.val)
def Mt (K : Ky P k κ) (w : World) (m : Nat) (T : Tf κ) : Prop :=
  ∃ (es : Array MapEntry) (clock : Nat) (l : List (κ × Int)), w.heap[m]? = some (.map es clock) ∧ es.toList.map ePair = l.map K.pv ∧ (es.toList.map (·.born)).Nodup ∧ (∀ e ∈ es.toList, e.born < clock) ∧ IsL l T ∧ ∀ p ∈ l, InI p.2
variable {K : Ky P k κ} {w w' : World} {m : Nat} {T : Tf κ}
theorem Mt.lt (h : Mt K w m T) : m < w.heap.size := by
  obtain ⟨es, clock, l, h1, _⟩ := h
  exact (Array.getElem?_eq_some_iff.1 h1).1
theorem Mt.chg {D : List Nat} (h : Mt K w m T) (hc : Chg D w w') (hm : m ∉ D) : Mt K w' m T := by
  have hl := h.lt
  obtain ⟨es, clock, l, h1, h2⟩ := h
  exact ⟨es, clock, l, (hc.block m hl hm).trans h1, h2⟩
theorem Mt.ext (h : Mt K w m T) (hc : Ext w w') : Mt K w' m T := h.chg hc (by simp)
theorem Mt.inI (h : Mt K w m T) {a : κ} {n : Int} (ht : T a = some n) : InI n := by
  obtain ⟨_, _, l, _, _, _, _, hl, hi⟩ := h
  exact hi _ ((hl.mem a n).1 ht)
theorem ent_of {es : List MapEntry} {l : List (κ × Int)} (h : es.map ePair = l.map K.pv) {j : Nat} {e : MapEntry} (he : es[j]? = some e) : ∃ p, l[j]? = some p ∧ e.key = K.kv p.1 ∧ e.val = .int .i64 p.2 := by
  have h1 : (es.map ePair)[j]? = some (ePair e) := by rw [List.getElem?_map, he]; rfl
  rw [h, List.getElem?_map] at h1
  cases hp : l[j]? with
  | none => rw [hp] at h1; cases h1
  | some p =>
    rw [hp] at h1
    have e1 := Option.some.inj h1
    exact ⟨p, rfl, (congrArg Prod.fst e1).symm, (congrArg Prod.snd e1).symm⟩
theorem of_ent {es : List MapEntry} {l : List (κ × Int)} (h : es.map ePair = l.map K.pv) {j : Nat} {p : κ × Int} (hp : l[j]? = some p) : ∃ e, es[j]? = some e ∧ e.key = K.kv p.1 ∧ e.val = .int .i64 p.2 := by
  have h1 : (l.map K.pv)[j]? = some (K.pv p) := by rw [List.getElem?_map, hp]; rfl
  rw [← h, List.getElem?_map] at h1
  cases he : es[j]? with
  | none => rw [he] at h1; cases h1
  | some e =>
    rw [he] at h1
    have e1 := Option.some.inj h1
    exact ⟨e, rfl, congrArg Prod.fst e1, congrArg Prod.snd e1⟩
theorem ent_keys {es : List MapEntry} {l : List (κ × Int)} (h : es.map ePair = l.map K.pv) : ∀ x ∈ es, ∃ b, x.key = K.kv b := fun x hx => by
  obtain ⟨j, hj⟩ := List.getElem?_of_mem hx
  obtain ⟨p, _, h2, _⟩ := ent_of h hj
  exact ⟨p.1, h2⟩
variable {t e : TypeId}
theorem Mt.find (h : Mt K w m T) (a : κ) : ∃ (es : Array MapEntry) (clock : Nat), w.heap[m]? = some (.map es clock) ∧ ((T a = none ∧ ∀ w, (Instr.findKey k (K.kv a) es.toList).run P w = .ok none w) ∨ ∃ n j, T a = some n ∧ InI n ∧ ∀ w, (Instr.findKey k (K.kv a) es.toList).run P w = .ok (some (j, .int .i64 n)) w) := by
  obtain ⟨es, clock, l, hb, hm, hnd, hbn, hl, hi⟩ := h
  refine ⟨es, clock, hb, ?_⟩
  have hno : (∀ x ∈ es.toList, x.key ≠ K.kv a) → T a = none := fun h => by
    cases ht : T a with
    | none => rfl
    | some n =>
      obtain ⟨j, hj⟩ := List.getElem?_of_mem ((hl.mem a n).1 ht)
      obtain ⟨x, hx, hk, _⟩ := of_ent hm hj
      exact absurd hk (h x (List.mem_of_getElem? hx))
  have hyes : ∀ (j : Nat) (x : MapEntry), es.toList[j]? = some x → x.key = K.kv a → ∃ n, T a = some n ∧ InI n ∧ x.val = .int .i64 n := fun j x hx hk => by
    obtain ⟨p, hp, h1, h2⟩ := ent_of hm hx
    have e1 := K.inj _ _ (h1.symm.trans hk)
    exact ⟨p.2, (hl.mem a p.2).2 (by rw [← e1]; exact List.mem_of_getElem? hp), hi p (List.mem_of_getElem? hp), h2⟩
  have hall : ∀ w0, (T a = none ∧ (Instr.findKey k (K.kv a) es.toList).run P w0 = .ok none w0) ∨ ∃ (n : Int) (j : Nat) (x : MapEntry), T a = some n ∧ InI n ∧ es.toList[j]? = some x ∧ x.key = K.kv a ∧ (Instr.findKey k (K.kv a) es.toList).run P w0 = .ok (some (j, .int .i64 n)) w0 := fun w0 => by
    rcases K.find w0 a es.toList (ent_keys hm) with ⟨h1, h2⟩ | ⟨j, e0, h1, h2, h3⟩
    · exact .inl ⟨hno h2, h1⟩
    · obtain ⟨n, hn, hin, hv⟩ := hyes j e0 h2 h3
      exact .inr ⟨n, j, e0, hn, hin, h2, h3, by rw [← hv]; exact h1⟩
  rcases hall w with ⟨h1, h2⟩ | ⟨n, j, x, h1, hin, h2, h3, h4⟩
  · refine .inl ⟨h1, fun w0 => ?_⟩
    rcases hall w0 with ⟨_, g⟩ | ⟨n, j, x, g, _⟩
    · exact g
    · rw [h1] at g; cases g
  · refine .inr ⟨n, j, h1, hin, fun w0 => ?_⟩
    rcases hall w0 with ⟨g, _⟩ | ⟨n', j', x', g1, _, g2, g3, g4⟩
    · rw [h1] at g; cases g
    · rw [h1] at g1
      obtain rfl := Option.some.inj g1
      have ejj : j' = j := by
        obtain ⟨p, hp, q1, _⟩ := ent_of hm h2
        obtain ⟨p', hp', q1', _⟩ := ent_of hm g2
        have e1 := K.inj _ _ (q1.symm.trans h3)
        have e2 := K.inj _ _ (q1'.symm.trans g3)
        have l1 : (l.map (·.1))[j]? = some a := by rw [List.getElem?_map, hp, ← e1]; rfl
        have l2 : (l.map (·.1))[j']? = some a := by rw [List.getElem?_map, hp', ← e2]; rfl
        exact ((List.getElem?_inj (List.getElem?_eq_some_iff.1 l2).1 hl.nd).1 (l2.trans l1.symm))
      rw [ejj] at g4
      exact g4
theorem Mt.look2 (ht : P.underlying t = some (.map k e)) (hz : ∀ w, (zeroValue e).run P w = .ok (.int .i64 0) w) (h : Mt K w m T) (a : κ) :
    (T a = none ∧ ∀ w', Ext w w' → (Instr.lookup t (.map (some m)) (K.kv a) true).run P w' = .ok (.tuple #[.int .i64 0, .bool false]) w') ∨
    ∃ n, T a = some n ∧ InI n ∧ ∀ w', Ext w w' → (Instr.lookup t (.map (some m)) (K.kv a) true).run P w' = .ok (.tuple #[.int .i64 n, .bool true]) w' := by
  have hl := h.lt
  obtain ⟨es, clock, hb, hh⟩ := h.find a
  have hb' : ∀ w', Ext w w' → w'.heap[m]? = some (.map es clock) := fun w' hx => (hx.block m hl (by simp)).trans hb
  rcases hh with ⟨h1, h2⟩ | ⟨n, j, h1, hin, h2⟩
  · exact .inl ⟨h1, fun w' hx => by simp [Instr.lookup, run_underlying ht, MapKept.run_getObj_map (hb' w' hx), K.check w' _ a, h2, hz, Result.andThen]⟩
  · exact .inr ⟨n, h1, hin, fun w' hx => by simp [Instr.lookup, run_underlying ht, MapKept.run_getObj_map (hb' w' hx), K.check w' _ a, h2, Result.andThen]⟩
theorem Mt.look1 (ht : P.underlying t = some (.map k e)) (hz : ∀ w, (zeroValue e).run P w = .ok (.int .i64 0) w) (h : Mt K w m T) (a : κ) :
    ∀ w', Ext w w' → (Instr.lookup t (.map (some m)) (K.kv a) false).run P w' = .ok (.int .i64 ((T a).getD 0)) w' := by
  have hl := h.lt
  obtain ⟨es, clock, hb, hh⟩ := h.find a
  have hb' : ∀ w', Ext w w' → w'.heap[m]? = some (.map es clock) := fun w' hx => (hx.block m hl (by simp)).trans hb
  intro w' hx
  rcases hh with ⟨h1, h2⟩ | ⟨n, j, h1, hin, h2⟩
  · simp [Instr.lookup, run_underlying ht, MapKept.run_getObj_map (hb' w' hx), K.check w' _ a, h2, hz, h1, Result.andThen]
  · simp [Instr.lookup, run_underlying ht, MapKept.run_getObj_map (hb' w' hx), K.check w' _ a, h2, h1, Result.andThen]
theorem Mt.upd [DecidableEq κ] (ht : P.underlying t = some (.map k e)) (h : Mt K w m T) (a : κ) {n : Int} (hn : InI n) :
    ∃ w', (Instr.mapUpdate t (.map (some m)) (K.kv a) (.int .i64 n)).run P w = .ok () w' ∧ Mt K w' m (putT T a n) ∧ Chg [m] w w' := by
  have hl := h.lt
  obtain ⟨es, clock, l, hb, hm, hnd, hbn, hL, hi⟩ := h
  have hget : ∀ o : Obj, (w.heap.setIfInBounds m o)[m]? = some o := fun o => by simp [hl]
  rcases K.find w a es.toList (ent_keys hm) with ⟨h1, h2⟩ | ⟨j, e0, h1, h2, h3⟩
  · have ha : T a = none := by
      cases hT : T a with
      | none => rfl
      | some y =>
        obtain ⟨j, hj⟩ := List.getElem?_of_mem ((hL.mem a y).1 hT)
        obtain ⟨x, hx, hk, _⟩ := of_ent hm hj
        exact absurd hk (h2 x (List.mem_of_getElem? hx))
    refine ⟨{ w with heap := w.heap.setIfInBounds m (.map (es.push ⟨K.kv a, .int .i64 n, clock⟩) (clock + 1)) }, ?_, ⟨_, _, l ++ [(a, n)], hget _, ?_, ?_, ?_, hL.push ha, ?_⟩, Chg.setObj w m _⟩
    · simp [Instr.mapUpdate, run_underlying ht, MapKept.run_getObj_map hb, K.check w false a, h1, MapKept.run_setObj_map _ hb, Result.andThen]
    · rw [Array.toList_push, List.map_append, List.map_append, hm]; rfl
    · rw [Array.toList_push, List.map_append, List.nodup_append]
      refine ⟨hnd, by simp, fun x hx y hy e => ?_⟩
      simp only [List.map_cons, List.map_nil, List.mem_singleton] at hy
      obtain ⟨z, hz, rfl⟩ := List.mem_map.1 hx
      have := hbn z hz; omega
    · intro x hx
      simp only [Array.toList_push, List.mem_append, List.mem_singleton] at hx
      rcases hx with hx | rfl
      · have := hbn x hx; omega
      · exact Nat.lt_succ_self _
    · intro p hp
      rcases List.mem_append.1 hp with hp | hp
      · exact hi p hp
      · rw [List.mem_singleton] at hp; subst hp; exact hn
  · have hj : es[j]? = some e0 := by simpa using h2
    obtain ⟨p0, hp0, q1, q2⟩ := ent_of hm h2
    have ea : p0.1 = a := K.inj _ _ (q1.symm.trans h3)
    have hp0' : l[j]? = some (a, p0.2) := by rw [hp0, ← ea]
    have hml : (es.modify j (fun e' => { e' with key := K.kv a, val := .int .i64 n })).toList = es.toList.modify j (fun e' => { e' with key := K.kv a, val := .int .i64 n }) := by simp
    refine ⟨{ w with heap := w.heap.setIfInBounds m (.map (es.modify j (fun e' => { e' with key := K.kv a, val := .int .i64 n })) clock) }, ?_, ⟨_, _, l.set j (a, n), hget _, ?_, ?_, ?_, hL.set hp0', ?_⟩, Chg.setObj w m _⟩
    · simp [Instr.mapUpdate, run_underlying ht, MapKept.run_getObj_map hb, K.check w false a, h1, hj, h3, K.stays w a, MapKept.run_setObj_map _ hb, Result.andThen]
    · rw [hml]
      refine List.ext_getElem? fun i => ?_
      have hi2 : (es.toList.map ePair)[i]? = (l.map K.pv)[i]? := by rw [hm]
      rw [List.getElem?_map, List.getElem?_map] at hi2
      rw [List.getElem?_map, List.getElem?_map, List.getElem?_modify, List.getElem?_set]
      by_cases e : j = i
      · subst e
        rw [if_pos rfl, h2, if_pos (List.getElem?_eq_some_iff.1 hp0).1]; simp [ePair, Ky.pv]
      · rw [if_neg e]; simpa [e] using hi2
    · have : (es.modify j (fun e' => { e' with key := K.kv a, val := .int .i64 n })).toList.map (·.born) = es.toList.map (·.born) := by
        rw [hml]
        refine List.ext_getElem? fun i => ?_
        rw [List.getElem?_map, List.getElem?_map, List.getElem?_modify]
        by_cases e : j = i
        · subst e; rw [h2]; simp
        · simp [e]
      rw [this]; exact hnd
    · intro x hx
      rcases MapFrom.mem_modify hx with hx | ⟨e', he', rfl⟩
      · exact hbn x hx
      · exact hbn e' (by simpa using Array.mem_of_getElem? he')
    · intro p hp
      rcases List.mem_or_eq_of_mem_set hp with hp | rfl
      · exact hi p hp
      · exact hn
/-! ## a loop over a table -/
variable {r : Nat} {mo : Option Nat} {rest : List (κ × Int)}
section walk
variable {ops : Array Oper} {Q : Exit → Act → World → Prop} {a : Act} {pre : List Oper} {N d : Nat} {σ : Slots} {ty : TypeId} {pos : String} {af : Array Edge} {t e : TypeId}
theorem o_mapT [DecidableEq κ] {x y z : Operand} {s : κ} {n : Int} (ha : Fr N σ a) (ht : P.underlying t = some (.map k e)) (h : Mt K w m T) (hn : InI n)
    (hx : ev σ x = some (.map (some m))) (hy : ev σ y = some (K.kv s)) (hz : ev σ z = some (.int .i64 n))
    (C : ∀ w', Mt K w' m (putT T s n) → Chg [m] w w' → wpList P ops Q pre a w') : wpList P ops Q (⟨none, .mapUpdate t x y z, ty, pos, af, none⟩ :: pre) a w := by
  obtain ⟨w', h1, h2, h3⟩ := Mt.upd ht h s hn
  refine wl_skip (w' := w') rfl ?_ (C w' h2 h3)
  simp [execOp, ha.eq hx, ha.eq hy, ha.eq hz, h1]
theorem o_newT (K : Ky P k κ) (ha : Fr N σ a) (hd : Nat.ble (d + 1) N = true)
    (C : ∀ m w', Mt K w' m noT → Ext w w' → w.heap.size ≤ m → ∀ a, Fr N ((d, .map (some m)) :: σ) a → wpList P ops Q pre a w') :
    wpList P ops Q (⟨some d, .makeMap t none, ty, pos, af, none⟩ :: pre) a w := by
  refine o_runw (v := .map (some w.heap.size)) (w' := w.alloc (.map #[] 0)) ha hd (fun g => ?_) (C _ _ ⟨#[], 0, [], heap_alloc_new w _, rfl, by simp, by simp, IsL.empty, by simp⟩ (Ext.alloc _ _) (Nat.le_refl _))
  simp [execOp, Instr.makeMap]
theorem g_lookup1 {x y : Operand} {mv key r : Value} (hx : ev σ x = some mv) (hy : ev σ y = some key) (h : ∀ w', Ext w w' → (Instr.lookup t mv key false).run P w' = .ok r w') :
    Gives P (Ext w) σ (.lookup t x y false) r :=
  fun N a w' ha he d ty pos af g => by simp [execOp, ha.eq hx, ha.eq hy, h w' he]
end walk
/-! ## numbers that go round -/
section
variable {C : World → Prop} {σ : Slots}
end
/-! ## a rule in memory -/
section
variable {tX tR tM : TypeId} {W0 : World} {bX bR : Nat} {xs rs : List Value} {b7 : Int} {v7 : Value} {ms : List Nat} {ts : List (Tf κ)}
end
end
end Go.Proofs.YtmaaloijdjnblaaGreatDoor
