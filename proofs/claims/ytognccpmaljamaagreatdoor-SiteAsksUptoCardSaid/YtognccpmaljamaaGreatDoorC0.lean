/- SiteAsks answers true for every input whose arguments hold together at most 1048576 values and letters, and leaves its arguments as they were; the listed package-level tables hold what the program's text lays. -/
import Derived.Test.YtognccpmaljamaaGreatDoorB5
set_option linter.unusedVariables false
set_option linter.unusedSimpArgs false
set_option linter.unusedSectionVars false
set_option linter.unnecessarySimpa false
set_option linter.constructorNameAsVariable false
set_option maxRecDepth 1000000
/- The law's first(), reckoned. -/
namespace Go.Proofs.YtognccpmaljamaaGreatDoor.Sa
open Go

theorem first_run (K : AVal → List (List AVal) → Option Res) : acall cx ftt.find act Sp0 400 5 [] [] K = K (.bool true) [] := by kernel_rfl

end Go.Proofs.YtognccpmaljamaaGreatDoor.Sa
