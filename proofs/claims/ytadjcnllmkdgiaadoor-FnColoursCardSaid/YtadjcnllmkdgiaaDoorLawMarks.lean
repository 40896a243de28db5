/- The laws' helpers: numbers written into memory and found again. -/
import Derived.Test.YtadjcnllmkdgiaaDoorF
import Derived.Test.YtadjcnllmkdgiaaDoorLawSz
import Derived.Test.YtadjcnllmkdgiaaDoorLawCopy
namespace Go.Proofs.YtadjcnllmkdgiaaDoor
/-- the numbers from k on -/
def marks (k : Int) (n : Nat) : List Int := (List.range n).map fun (i : Nat) => k + (i : Int)
theorem marks_length (k : Int) (n : Nat) : (marks k n).length = n := by simp [marks]
theorem marks_get (k : Int) (n i : Nat) (h : i < (marks k n).length) : (marks k n)[i] = k + i := by simp [marks]
theorem marks_succ (k : Int) (n : Nat) : marks k (n + 1) = marks k n ++ [k + (n : Int)] := by simp [marks, List.range_succ]
/-- how many numbers in rows -/
def sumLen (a : List (List Int)) : Nat := (a.map List.length).sum
theorem sumLen_le {n : Nat} : ∀ {a : List (List Int)}, (∀ x ∈ a, x.length ≤ n) → sumLen a ≤ a.length * n
  | [], _ => by simp [sumLen]
  | r :: a, h => by
    have h1 := h r (List.mem_cons_self ..)
    have h2 := sumLen_le (a := a) (fun x hx => h x (List.mem_cons_of_mem _ hx))
    simp only [sumLen, List.map_cons, List.sum_cons, List.length_cons, Nat.add_mul, Nat.one_mul] at *
    omega
def marksSS (k : Int) : List (List Int) → List (List Int)
  | [] => []
  | r :: a => marks k r.length :: marksSS (k + r.length) a
theorem marksSS_length : ∀ (k : Int) (a : List (List Int)), (marksSS k a).length = a.length
  | _, [] => rfl
  | k, r :: a => by simp [marksSS, marksSS_length]
/-- parts: two numbers and a row each -/
def lenPs (a : List (Int × Int × List Int)) : Nat := (a.map fun x => x.2.2.length + 2).sum
def marksPS (k : Int) : List (Int × Int × List Int) → List (Int × Int × List Int)
  | [] => []
  | r :: a => (k, k + 1, marks (k + 1 + 1) r.2.2.length) :: marksPS (k + 1 + 1 + r.2.2.length) a
theorem lenPs_le {n : Nat} : ∀ {a : List (Int × Int × List Int)}, (∀ x ∈ a, x.2.2.length ≤ n) → lenPs a ≤ a.length * (n + 2)
  | [], _ => by simp [lenPs]
  | r :: a, h => by
    have h1 := h r (List.mem_cons_self ..)
    have h2 := lenPs_le (a := a) (fun x hx => h x (List.mem_cons_of_mem _ hx))
    simp only [lenPs, List.map_cons, List.sum_cons, List.length_cons, Nat.add_mul, Nat.one_mul] at *
    omega
end Go.Proofs.YtadjcnllmkdgiaaDoor
