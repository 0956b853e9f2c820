
/- Budgets: the documented example, plain; scripts, plain. -/
import Derived.Test.YtkhlmicogdjmlaaRu
set_option linter.unusedSimpArgs false
set_option linter.unusedVariables false
namespace Go.Bg
open Go.Rt Go.Lx
abbrev two : Rq := ⟨2, 1⟩
abbrev lv0 : Bk := newB [two, two, two] [0, 0, 1] [⟨3, 1⟩, ⟨1, 1⟩]
abbrev lv1 : Bk := ⟨[⟨two, ⟨3, 2⟩⟩, ⟨two, ⟨3, 2⟩⟩, ⟨two, ⟨3, 2⟩⟩], [⟨⟨3, 1⟩, ⟨1, 1⟩⟩, ⟨⟨1, 1⟩, ⟨1, 2⟩⟩], [0, 0, 1], [false, false, false]⟩
abbrev lv2 : Bk := ⟨[⟨two, ⟨3, 2⟩⟩, ⟨two, ⟨3, 2⟩⟩, ⟨two, ⟨2, 1⟩⟩], [⟨⟨3, 1⟩, ⟨1, 1⟩⟩, ⟨⟨1, 1⟩, ⟨1, 1⟩⟩], [0, 0, 1], [false, false, false]⟩
theorem lv_new : newE [two, two, two] [0, 0, 1] [⟨3, 1⟩, ⟨1, 1⟩] = 0 := by decide +kernel
theorem lv_e1 : askE lv0 [0, 1, 2] ⟨3, 2⟩ = 0 := by decide +kernel
theorem lv_e2 : askE lv1 [2] ⟨1, 2⟩ = 0 := by decide +kernel
theorem lv_e3 : askE lv2 [2] ⟨1, 100⟩ = 22 := by decide +kernel
deriving instance DecidableEq for Acc
deriving instance DecidableEq for Bk
theorem lv_b1 : askB lv0 [0, 1, 2] ⟨3, 2⟩ = lv1 := by decide +kernel
theorem lv_b2 : askB lv1 [2] ⟨1, 2⟩ = lv2 := by decide +kernel
/-- Scripts of acts, made of numbers. -/
def scPer (l : List Int) (n : Int) (i k : Nat) : Int := (atI l (6 * (i : Int) + 3) (n + 1) + (k : Int) * (1 + atI l (6 * (i : Int) + 4) 2)) % (n + 1)
def scAct (l : List Int) (n : Int) (i : Nat) : ActS := ⟨decide (atI l (6 * (i : Int)) 8 = 0), (List.range (atI l (6 * (i : Int) + 2) 4).toNat).map (scPer l n i), costV (atI l (6 * (i : Int) + 1) 200)⟩
def scN (l : List Int) : Nat := if 120 ≤ l.length then 20 else (l.length + 5) / 6
def script (l : List Int) (n : Int) : List ActS := (List.range (scN l)).map (scAct l n)
end Go.Bg
