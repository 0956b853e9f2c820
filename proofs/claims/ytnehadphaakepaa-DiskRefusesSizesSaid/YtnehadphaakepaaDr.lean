
/- dioramalaw41.DiskRefusesSizes. -/
import Derived.Test.YtnehadphaakepaaDo
import Derived.Test.YtnehadphaakepaaDp
import Derived.Test.YtnehadphaakepaaDq
set_option linter.unusedSimpArgs false
set_option linter.unusedVariables false
namespace Go.Proofs.Ytnehadphaakepaa
open Go.V Go.RowKit Go.L Go.Dk
theorem lawRefuses_ok (s : Int) (hs : i64B s) (i : Int) (hi : i64B i) (x : Bs) (hx : x.length ≤ 9223372036854775807) : Ok Try.prog 4 [] [] (.pair (.int .i64 s) (.pair (.int .i64 i) (.pair (.str x) .nul))) (fun r h' => r = .bool true ∧ h' = []) := by
  by_cases h1 : s < 1
  · by_cases h2 : i < 0 ∨ 2 < i <;> by_cases h3 : x.length = 64
    · exact lawRa10 s hs h1 i hi h2 x hx h3
    · exact lawRa11 s hs h1 i hi h2 x hx h3
    · exact lawRa00 s hs h1 i hi (by omega) x hx h3
    · exact lawRa01 s hs h1 i hi (by omega) x hx h3
  · by_cases h4 : 4096 < s
    · by_cases h2 : i < 0 ∨ 2 < i <;> by_cases h3 : x.length = 64
      · exact lawRb10 s hs h4 i hi h2 x hx h3
      · exact lawRb11 s hs h4 i hi h2 x hx h3
      · exact lawRb00 s hs h4 i hi (by omega) x hx h3
      · exact lawRb01 s hs h4 i hi (by omega) x hx h3
    · have h5 : 1 ≤ s ∧ s ≤ 4096 := by omega
      by_cases h2 : i < 0 ∨ 2 < i <;> by_cases h3 : x.length = 64
      · exact lawRc10 s hs h5 i hi h2 x hx h3
      · exact lawRc11 s hs h5 i hi h2 x hx h3
      · exact lawRc00 s hs h5 i hi (by omega) x hx h3
      · exact lawRc01 s hs h5 i hi (by omega) x hx h3
end Go.Proofs.Ytnehadphaakepaa
