/- A row of an owned slice of rows is appended to, and put back into its place. -/
import Derived.Test.YtbefgidkaepmmaaGreatDoorDice
namespace Go.Proofs.YtbefgidkaepmmaaGreatDoor
open Go Go.RowKit
section
variable {α : Type} {r : Rp α} {o : Bool} {w w' : World}
theorem RepL.split : ∀ {xs : List α} {fp cs}, RepL r o w fp cs xs → ∀ {i : Nat} {x : α}, xs[i]? = some x → ∃ pre f post c1 c c2, fp = pre ++ f ++ post ∧ cs = c1 ++ c ++ c2 ∧ RepL r o w pre c1 (xs.take i) ∧ r.rep o w f c x ∧ RepL r o w post c2 (xs.drop (i + 1))
  | [], _, _, _, i, x, h => by simp at h
  | x0 :: xs, _, _, ⟨f, fs, c, cs', hf, hc, hx, hr⟩, 0, x, h => by
    simp at h; subst h
    exact ⟨[], f, fs, [], c, cs', by rw [hf]; rfl, by rw [hc]; rfl, ⟨rfl, rfl⟩, hx, by simpa using hr⟩
  | x0 :: xs, _, _, ⟨f, fs, c, cs', hf, hc, hx, hr⟩, i + 1, x, h => by
    simp only [List.getElem?_cons_succ] at h
    obtain ⟨pre, f1, post, c1, c', c2, h1, h2, h3, h4, h5⟩ := hr.split h
    exact ⟨f ++ pre, f1, post, c ++ c1, c', c2, by rw [hf, h1]; simp, by rw [hc, h2]; simp, ⟨f, pre, c, c1, rfl, rfl, hx, h3⟩, h4, by simpa using h5⟩
end
def PendRow {α : Type} (r1 : Rp α) (E1 e : TypeId) (w : World) (fs : List Nat) (n0 : Nat) (b : Int) (v : Value) (xs : List (List α)) (i : Nat) (u : Value) (y : List α) : Prop :=
  ∃ (g cap : Nat) (cur : Array Value) (pre post : List Nat) (c1 c2 : List Value) (c0 : Value) (b' : Int), b = (g : Int) ∧ v = .slice (some ⟨g, 0, none⟩) xs.length cap ∧ w.heap[g]? = some (.cells cur e (0, 0)) ∧ xs.length ≤ cap ∧ cap ≤ maxLen ∧ cur.size = cap ∧
    cur.toList.take xs.length = c1 ++ [c0] ++ c2 ∧ c1.length = i ∧ i < xs.length ∧ RepL (Rp.sl E1 r1) true w pre c1 (xs.take i) ∧ RepL (Rp.sl E1 r1) true w post c2 (xs.drop (i + 1)) ∧ Ow r1 E1 true w [] b' u y ∧
    (bl b ++ (pre ++ bl b' ++ post)).Nodup ∧ ∀ k ∈ pre ++ bl b' ++ post, k ∈ fs ∨ n0 ≤ k
section
variable {α : Type} {r1 : Rp α} {E1 e : TypeId} {w w' : World} {fs : List Nat} {n0 : Nat} {b : Int} {v : Value} {xs : List (List α)} {i : Nat} {u : Value} {y : List α}
theorem PendRow.ext (h : PendRow r1 E1 e w fs n0 b v xs i u y) (hx : Ext w w') : PendRow r1 E1 e w' fs n0 b v xs i u y := by
  obtain ⟨g, cap, cur, pre, post, c1, c2, c0, b', h1, h2, h3, h4, h5, h6, h7, h8, h9, h10, h11, h12, h13, h14⟩ := h
  refine ⟨g, cap, cur, pre, post, c1, c2, c0, b', h1, h2, ?_, h4, h5, h6, h7, h8, h9, h10.keep fun k hk => hx.block k (h10.bnd k hk) (by simp), h11.keep fun k hk => hx.block k (h11.bnd k hk) (by simp), h12.ext hx, h13, h14⟩
  rw [hx.block g (lt_size h3) (by simp), h3]
variable {P : Program} {ops : Array Oper} {Q : Exit → Act → World → Prop} {a : Act} {rest : List Oper} {N : Nat} {σ : Slots} {d : Nat}
variable {ty : TypeId} {pos : String} {af : Array Edge}
theorem o_appendRow {T bytes : Nat} {z vr uy : Value} {x yo : Operand} {b i : Int} {xs : List (List α)} {row ys : List α} {p : Addr} (hr1 : Scal r1) (ha : Fr N σ a) (hd : Nat.ble (d + 1) N = true) (hT : SlT P T E1 r1.sz bytes z) (hby : Nat.ble bytes 128 = true)
    (hx : ev σ x = some vr) (hy : ev σ yo = some uy) (h : Ow (Rp.sl E1 r1) e true w fs b v xs) (hi : IdxAt 1 v i p) (hat : At w p [vr]) (hxo : xs[i.toNat]? = some row) (hn : (bl b ++ fs).Nodup)
    (hs : Src r1 true w [] uy ys) (hlim : row.length + ys.length ≤ lim)
    (K : ∀ v' w', PendRow r1 E1 e w' fs w.heap.size b v xs i.toNat v' (row ++ ys) → Chg fs w w' → ∀ a, Fr N ((d, v') :: σ) a → wpList P ops Q rest a w') :
    wpList P ops Q (⟨some d, .call { callee := .builtin .append, args := #[x, yo], argTypes := #[T, T] }, ty, pos, af, none⟩ :: rest) a w := by
  obtain ⟨b0, len, cap0, hv0, h0, hlt, hp⟩ := hi
  rcases h with ⟨_, hv, hxs, _⟩ | ⟨g, cap, cur, cs, hg, hv, hh, hlc, hcm, hcs, htake, hrl, hne⟩
  · rw [hv] at hv0; cases hv0
  · rw [hv0] at hv; injection hv with e1 e2 e3
    injection e1 with e1
    subst e1 e2 e3
    have hsz : (Rp.sl E1 r1).sz = 1 := rfl
    rw [hsz, Nat.mul_one] at hcs htake
    obtain ⟨pre, f, post, c1, c, c2, hfs, hcc, hpre, hrow, hpost⟩ := hrl.split hxo
    have hil : i.toNat < xs.length := by
      rcases Nat.lt_or_ge i.toNat xs.length with q | q
      · exact q
      · rw [List.getElem?_eq_none q] at hxo; cases hxo
    have hc1 : c1.length = i.toNat := by have := hpre.len; rw [hsz, Nat.mul_one, List.length_take] at this; omega
    obtain ⟨vr', hc, hrow'⟩ := hrow
    simp only [if_true] at hrow'
    obtain ⟨f', br, hO, hf⟩ := hrow'
    have hf0 := hO.noFs hr1
    subst hf0
    rw [List.append_nil] at hf
    subst hc
    have hpa : p = ⟨g, i.toNat, none⟩ := by rw [hp, Addr.add_lit']; simp
    subst hpa
    have evr : vr = vr' := by
      have h5 := hat.one
      simp [World.cell?, hh] at h5
      have h6 : cur.toList[i.toNat]? = some vr' := by
        have h7 : (cur.toList.take xs.length)[i.toNat]? = some vr' := by rw [htake, hcc, List.append_assoc, List.getElem?_append_right (by omega)]; simp [hc1]
        rwa [List.getElem?_take, if_pos hil] at h7
      rw [Array.getElem?_toList, h5] at h6
      exact Option.some.inj h6
    subst evr
    obtain ⟨v', w', b', hr, q1, q2, q3⟩ := run_append_Ow (ty := ty) hT (Nat.le_of_ble_eq_true hby) hO hs (fun k hk => by cases hk) hlim
    rw [List.append_nil] at q1
    have hnd : ∀ k ∈ bl br, k ∉ bl b ∧ k ∉ pre ∧ k ∉ post := fun k hk => by
      rw [hfs, hf] at hn
      refine ⟨fun hk2 => ?_, fun hk2 => ?_, fun hk2 => ?_⟩
      · exact (List.nodup_append.1 hn).2.2 k hk2 k (by simp [hk]) rfl
      · have := (List.nodup_append.1 hn).2.1
        rw [List.append_assoc] at this
        exact (List.nodup_append.1 this).2.2 k hk2 k (by simp [hk]) rfl
      · have := (List.nodup_append.1 hn).2.1
        exact (List.nodup_append.1 this).2.2 k (by simp [hk]) k hk2 rfl
    have hbk : ∀ k, k < w.heap.size → k ∉ bl br → w'.heap[k]? = w.heap[k]? := fun k h1 h2 => q2.block k h1 h2
    have hgb : g ∉ bl br := fun hm => (hnd g hm).1 (by rw [mem_bl]; exact hg.symm)
    refine o_runw ha hd (fun _ => by simp [execOp, resolve, invoke, builtin, ha.eq hx, ha.eq hy, hr]) (K v' w' ⟨g, cap0, cur, pre, post, c1, c2, vr, b', hg, by rw [hv0], ?_, hlc, hcm, hcs, by rw [htake, hcc], hc1, hil, hpre.keep fun k hk => hbk k (hpre.bnd k hk) (fun h => (hnd k h).2.1 hk), hpost.keep fun k hk => hbk k (hpost.bnd k hk) (fun h => (hnd k h).2.2 hk), q1, ?_, ?_⟩ ?_)
    · rw [hbk g (lt_size hh) hgb, hh]
    · rcases q3 with e | e
      · rw [e]; rw [hfs, hf] at hn; exact hn
      · rw [hfs, hf] at hn
        have hold : ∀ k ∈ bl b ++ (pre ++ post), k < w.heap.size := fun k hk => by
          rcases List.mem_append.1 hk with h1 | h1
          · rw [mem_bl] at h1; have := lt_size hh; omega
          · rcases List.mem_append.1 h1 with h1 | h1
            · exact hpre.bnd k h1
            · exact hpost.bnd k h1
        have hb' : bl b' = [w.heap.size] := by unfold bl; rw [if_pos (by omega), ← e]; simp
        rw [hb']
        have hsub : (bl b ++ (pre ++ post)).Nodup := hn.sublist (by
          refine List.Sublist.append (List.Sublist.refl _) ?_
          rw [List.append_assoc]
          exact List.Sublist.append (List.Sublist.refl _) (List.sublist_append_right _ _))
        have hperm : (bl b ++ (pre ++ [w.heap.size] ++ post)).Perm (w.heap.size :: (bl b ++ (pre ++ post))) := by
          have : bl b ++ (pre ++ [w.heap.size] ++ post) = (bl b ++ pre) ++ w.heap.size :: post := by simp
          rw [this]
          refine List.perm_middle.trans ?_
          rw [List.append_assoc]
        exact hperm.nodup_iff.2 (List.nodup_cons.2 ⟨fun hm => by have := hold _ hm; omega, hsub⟩)
    · intro k hk
      rw [List.append_assoc, List.mem_append, List.mem_append] at hk
      rcases hk with h1 | h1 | h1
      · left; rw [hfs]; simp [h1]
      · rcases q3 with e | e
        · left; rw [hfs, hf, ← e]; simp [h1]
        · right; rw [mem_bl] at h1; omega
      · left; rw [hfs]; simp [h1]
    · refine ⟨q2.os, q2.tape, q2.output, q2.size, fun k h1 h2 => q2.block k h1 fun h3 => h2 ?_⟩
      rw [hfs, hf]; simp [h3]
theorem o_storePend {T : TypeId} {x yo : Operand} {b i : Int} {p : Addr} {u : Value} (ha : Fr N σ a) (hsz : ∀ w, (sizeOf T).run P w = .ok 1 w) (hx : ev σ x = some (.pointer (some p))) (hy : ev σ yo = some u) (hi : IdxAt 1 v i p)
    (h : PendRow r1 E1 e w fs n0 b v xs i.toNat u y)
    (K : ∀ w' fs', Ow (Rp.sl E1 r1) e true w' fs' b v (xs.set i.toNat y) → Chg (bl b) w w' → Pv fs n0 fs' → (bl b ++ fs').Nodup → wpList P ops Q rest a w') :
    wpList P ops Q (⟨none, .store T x yo, ty, pos, af, none⟩ :: rest) a w := by
  obtain ⟨g, cap, cur, pre, post, c1, c2, c0, b', h1, h2, h3, h4, h5, h6, h7, h8, h9, h10, h11, h12, h13, h14⟩ := h
  obtain ⟨b0, len, cap0, hv0, h0, hlt, hp⟩ := hi
  rw [h2] at hv0
  injection hv0 with e1 e2 e3
  injection e1 with e1
  subst e1 e2 e3
  have hpa : p = ⟨g, i.toNat, none⟩ := by rw [hp, Addr.add_lit']; simp
  subst hpa
  have hu : u.cells = #[u] := h12.cells
  have hu1 : ∀ c ∈ [u], c.oneCell' = true := fun c hc => by rw [List.mem_singleton.1 hc]; exact h12.oneC
  have hst := run_storeCells_at P g i.toNat e [u] 0 cur w h3 (by simp; omega) hu1
  simp only [Nat.add_zero] at hst
  have hgb : ∀ k ∈ pre ++ bl b' ++ post, (k : Int) ≠ b := fun k hk e => (List.nodup_append.1 h13).2.2 k (by rw [mem_bl]; exact e) k hk rfl
  have hk : ∀ k : Nat, (k : Int) ≠ b → (w.setRow g (cur.toList.take i.toNat ++ [u] ++ cur.toList.drop (i.toNat + [u].length)).toArray).heap[k]? = w.heap[k]? :=
    fun k hk => setRow_other w g k _ (fun e' => hk (by omega))
  have hchg : Chg (bl b) w (w.setRow g (cur.toList.take i.toNat ++ [u] ++ cur.toList.drop (i.toNat + [u].length)).toArray) := by
    have := Chg.setRow w g (cur.toList.take i.toNat ++ [u] ++ cur.toList.drop (i.toNat + [u].length)).toArray
    have eb : bl b = [g] := by rw [h1]; unfold bl; rw [if_pos (by simp)]; simp
    rw [eb]; exact this
  have hsplit : xs.set i.toNat y = xs.take i.toNat ++ [y] ++ xs.drop (i.toNat + 1) := by
    rw [List.set_eq_take_append_cons_drop, if_pos h9]; simp
  have hlist : cur.toList.take xs.length = c1 ++ [c0] ++ c2 := h7
  refine wl_skip (w' := _) rfl (by
    simp only [execOp, ha.eq hx, ha.eq hy, Instr.storeAt, Instr.sureAddr, storeVar, hsz, hu, Sem.run_bind, Sem.run_pure, Result.andThen_ok, List.size_toArray, List.length_singleton, ne_eq, not_true_eq_false, if_false, hst]) (K _ (pre ++ bl b' ++ post) ?_ hchg h14 h13)
  refine .inr ⟨g, cap, (cur.toList.take i.toNat ++ [u] ++ cur.toList.drop (i.toNat + [u].length)).toArray, c1 ++ [u] ++ c2, h1, by rw [h2]; simp, setRow_heap w g cur _ e _ h3, by simpa using h4, h5, ?_, ?_, ?_, hgb⟩
  · show _ = cap * 1
    have hcl : cur.toList.length = cap := by simpa using h6
    simp only [List.size_toArray, List.length_append, List.length_take, List.length_drop, List.length_singleton]
    omega
  · have hsz : (Rp.sl E1 r1).sz = 1 := rfl
    rw [List.length_set, hsz, Nat.mul_one]
    have t1 : cur.toList.take i.toNat = c1 := by
      have := congrArg (List.take i.toNat) hlist
      rw [List.take_take, Nat.min_eq_left (Nat.le_of_lt h9), List.append_assoc] at this
      exact this.trans (List.take_left' h8)
    have t2 : (cur.toList.take xs.length).drop (i.toNat + 1) = c2 := by
      rw [hlist, List.drop_append, List.drop_of_length_le (by simp; omega)]
      simp [h8]
    show ((cur.toList.take i.toNat ++ [u] ++ cur.toList.drop (i.toNat + 1)).take xs.length) = _
    rw [t1, List.take_append, List.take_of_length_le (by simp; omega), ← t2]
    congr 1
    rw [List.drop_take]
    congr 1
    simp; omega
  · rw [hsplit]
    have k1 : RepL (Rp.sl E1 r1) true (w.setRow g (cur.toList.take i.toNat ++ [u] ++ cur.toList.drop (i.toNat + [u].length)).toArray) pre c1 (xs.take i.toNat) := h10.keep fun k hk' => hk k (hgb k (by simp [hk']))
    have k2 : RepL (Rp.sl E1 r1) true (w.setRow g (cur.toList.take i.toNat ++ [u] ++ cur.toList.drop (i.toNat + [u].length)).toArray) post c2 (xs.drop (i.toNat + 1)) := h11.keep fun k hk' => hk k (hgb k (by simp [hk']))
    have k3 : Ow r1 E1 true (w.setRow g (cur.toList.take i.toNat ++ [u] ++ cur.toList.drop (i.toNat + [u].length)).toArray) [] b' u y := h12.keep (fun k hk' => hk k (hgb k (by simp [mem_bl, hk']))) (fun k hk' => by cases hk')
    have k4 := RepL.sing (r := Rp.sl E1 r1) (Rp.mkO k3)
    rw [List.append_nil] at k4
    have := (k1.append k4).append k2
    exact this
end
end Go.Proofs.YtbefgidkaepmmaaGreatDoor
