import Derived.Test.YtepmllodaoanmaaK30
import Derived.Test.YtepmllodaoanmaaK27
import Derived.Test.YtepmllodaoanmaaAx0
set_option linter.unusedVariables false
namespace Go.Proofs.Ytepmllodaoanmaa
open Go Go.AX
/-- The whole walk of CertBits. -/
theorem bits6 (t : Typ) (hw : t.wt ≤ 1048576) : Fun Try.prog 6 [.agg t.cells] (bool true) :=
  bitsLaw6 t hw (Least24 t hw fun hok p => least48 _ t (Nat.le_refl _) hw hok p 4000 (by omega)) (Least25 t hw fun hok => least50 _ t (Nat.le_refl _) hw hok)
end Go.Proofs.Ytepmllodaoanmaa
