/- Keys that are structs of two numbers, or arrays of small numbers, can be told. -/
import Derived.Test.YtmaaloijdjnblaaGreatDoorTbl
import Derived.DeepKeys4
namespace Go.Proofs.YtmaaloijdjnblaaGreatDoor
open Go Go.RowKit
theorem keyLits_one {P : Program} {t : TypeId} {q : IntKind} {n : Int} (d : Nat) (hu : P.underlying t = some (.int q)) (hw : (Lit.int q n).wf = true) : P.keyLits (d + 1) t [.int q n] = some [.int q n] := by
  simp [Program.keyLits, hu, hw]
end Go.Proofs.YtmaaloijdjnblaaGreatDoor
