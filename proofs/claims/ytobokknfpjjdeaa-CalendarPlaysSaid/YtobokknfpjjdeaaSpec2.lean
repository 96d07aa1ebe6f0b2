/- IsQty, InBand, Sub: plain readings. Conditions: the numbers fit int64. -/
import Derived.Test.YtobokknfpjjdeaaSpec
namespace Go.Proofs.Ytobokknfpjjdeaa
set_option linter.unusedVariables false
set_option linter.unusedSimpArgs false
open Go.RowKit



theorem wrap64_hi (x : Int) (h : 9223372036854775807 < x) (h2 : x < 27670116110564327424) : wrap64 x = x - 18446744073709551616 := by unfold wrap64; omega
theorem wrap64_lo (x : Int) (h : x < -9223372036854775808) (h2 : -27670116110564327424 < x) : wrap64 x = x + 18446744073709551616 := by unfold wrap64; omega


end Go.Proofs.Ytobokknfpjjdeaa
