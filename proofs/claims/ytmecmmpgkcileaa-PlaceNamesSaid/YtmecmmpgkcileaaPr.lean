/- The chapter-20 statements' own example holds. -/
import Derived.Test.YtmecmmpgkcileaaPr1
import Derived.Test.YtmecmmpgkcileaaZ22
namespace Go.Proofs.Ytmecmmpgkcileaa.Z
open Go.RowKit Go.Proofs.YtmecmmpgkcileaaW.PrintWords
theorem alive20_true : regletlaw20_alive.f = some true := by decide +kernel
end Go.Proofs.Ytmecmmpgkcileaa.Z
