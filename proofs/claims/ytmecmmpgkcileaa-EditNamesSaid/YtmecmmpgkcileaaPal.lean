/- The chapter-18 statements' own example holds. -/
import Derived.Test.YtmecmmpgkcileaaZ12
namespace Go.Proofs.Ytmecmmpgkcileaa.Z
open Go.RowKit
theorem alive18_true : regletlaw18_alive.f = some true := by decide +kernel
end Go.Proofs.Ytmecmmpgkcileaa.Z
