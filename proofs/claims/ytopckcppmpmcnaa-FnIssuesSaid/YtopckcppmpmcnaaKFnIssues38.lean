/- What the copies, comparisons and marks of lists of slots in the laws come to. -/
import Derived.Test.YtopckcppmpmcnaaKFnIssues37
namespace Go.Proofs.Ytopckcppmpmcnaa.Q
open Go.RowKit Go.Proofs.YtopckcppmpmcnaaW.PrintWords Go.Proofs.YtopckcppmpmcnaaW.PrintLast Go.Proofs.YtopckcppmpmcnaaW.PrintMore
set_option linter.unusedVariables false
set_option linter.unusedSimpArgs false

end Go.Proofs.Ytopckcppmpmcnaa.Q
