
/- Books of consent: what is made anew. -/
import Derived.Test.YtnjchlggjdoboaaCo
set_option linter.unusedSimpArgs false
set_option linter.unusedVariables false
namespace Go.Cs
structure AnI (b o : Bk) (M : List (List Int × List Int)) (R : List Int) (i : Nat) : Prop where
  gb : BOk b
  inv : Inv b M
  r : b.R = R
  us : ∀ j, j < i → (b.E.getD j entZ).U = true
  go : BOk o
  ol : o.E.length = i
  or : o.R = []
  ou : ∀ j, j < i → (o.E.getD j entZ).U = true
  ob : ∀ j, j < i → (o.E.getD j entZ).B = (b.E.getD j entZ).B
end Go.Cs
