/- Small numbers with a sign; equality of keys of several cells. Program-free. -/
import Derived.Test.YtnebbhginakaiaaDoorTblA
import Derived.Test.YtnebbhginakaiaaDoorKeyTwo
import Derived.Test.YtnebbhginakaiaaDoorBoxI
import Derived.Laws.StructEq
namespace Go.Proofs.YtnebbhginakaiaaDoor
open Go Go.RowKit
section
variable {P : Program} {C : World → Prop} {σ : Slots}
theorem i8_wrap {n : Int} (h : -128 ≤ n ∧ n ≤ 127) : IntKind.i8.wrap n = n := by
  have e : IntKind.i8.wrap n = if n % 256 ≥ 128 then n % 256 - 256 else n % 256 := by simp [IntKind.wrap, IntKind.bits, IntKind.signed]
  rw [e]; split <;> omega
theorem gi8_add {x y : Operand} {m n : Int} {T U : TypeId} (hx : ev σ x = some (.int .i8 m)) (hy : ev σ y = some (.int .i8 n)) (h : -128 ≤ m + n ∧ m + n ≤ 127) : Gives P C σ (.binOp .add T x y U) (.int .i8 (m + n)) :=
  fun N a w ha _ d ty pos af g => by simp [execOp, ha.eq hx, ha.eq hy, eqGuard, binOp, Op.intArith, i8_wrap h]
theorem gi8_conv {x : Operand} {m : Int} {T U : TypeId} (hT : P.underlying T = some (.int .i8)) (hU : P.underlying U = some (.int .i64)) (hx : ev σ x = some (.int .i8 m)) (h : -128 ≤ m ∧ m ≤ 127) :
    Gives P C σ (.convert T U x) (.int .i64 m) :=
  fun N a w ha _ d ty pos af g => by
    have e : IntKind.i64.wrap m = m := i64_wrap (by unfold InI; omega)
    simp [execOp, ha.eq hx, convert, run_underlying hT, run_underlying hU, Conv.intToInt, e]
theorem g_eqlK {k : TypeId} {κ : Type} [DecidableEq κ] {K : Ky P k κ} {kc : κ → List Value} {zc : List Value} (hA : KAgg K kc zc) {m : Nat} (hm : m ≤ 10000) (hk : P.keyTypeAt m k = true) (hwide : (match P.underlying k with | some (.array _ _) | some (.struct _) => true | _ => false) = true)
    (hkey : ∀ a, ∃ l, keyOf P k (K.kv a) = some l) (law : WideMaps.KeyLaw P k) (hgd : P.eqGuardType P.depth k = false) {x y : Operand} {a b : κ} {U : TypeId} (hx : ev σ x = some (K.kv a)) (hy : ev σ y = some (K.kv b)) :
    Gives P C σ (.binOp .eql k x y U) (.bool (decide (a = b))) :=
  fun N act w ha _ d ty pos af g => by
    obtain ⟨la, hla⟩ := hkey a
    obtain ⟨lb, hlb⟩ := hkey b
    obtain ⟨r, hr, hiff⟩ := run_equal_deep w hm hk hwide hla hlb
    have e : r = decide (a = b) := by
      by_cases c : a = b
      · subst c
        rw [hla] at hlb
        rw [decide_eq_true rfl]; exact hiff.2 (Option.some.inj hlb)
      · rw [decide_eq_false c]
        cases r with
        | false => rfl
        | true =>
          have e := hiff.1 rfl
          subst e
          exact absurd (K.inj _ _ (law.inj hla hlb)) c
    have h1 := ha.eq hx
    have h2 := ha.eq hy
    rw [hA.kv] at h1 h2
    rw [hA.kv, hA.kv] at hr
    have hg := run_eqGuard_agg (P := P) w .eql k x y (kc a).toArray (kc b).toArray hgd
    have hb : (binOp .eql k (.agg (kc a).toArray) (.agg (kc b).toArray)).run P w = .ok (.bool (decide (a = b))) w := by
      show (do pure (.bool (← Op.equal k (.agg (kc a).toArray) (.agg (kc b).toArray))) : Sem Value).run P w = _
      simp [hr, e]
    simp only [execOp, h1, h2, Sem.run_bind, hg]
    simp [hb]
end
end Go.Proofs.YtnebbhginakaiaaDoor
