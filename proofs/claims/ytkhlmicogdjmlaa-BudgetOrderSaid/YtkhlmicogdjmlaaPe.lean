
/- Budgets: scripts of acts on books, one after the other. -/
import Derived.Test.YtkhlmicogdjmlaaPd
import Derived.Test.YtkhlmicogdjmlaaRz
set_option linter.unusedSimpArgs false
set_option linter.unusedVariables false
namespace Go.Bg
open Go.Rt Go.Lx
def runTo (A : List ActS) (b : Bk) : Nat → Bk
  | 0 => b
  | k + 1 => doB (runTo A b k) (A.getD k actZ)
theorem run_bok {A : List ActS} {b : Bk} (hb : BOk b) (hA : ∀ k, (A.getD k actZ).P.length ≤ 256) : ∀ k, BOk (runTo A b k)
  | 0 => hb
  | k + 1 => do_bok (run_bok hb hA k) (hA k)
end Go.Bg
namespace Go.Proofs.Ytkhlmicogdjmlaa
open Go.V Go.RowKit Go.L Go.Lx Go.Rt Go.Bg
set_option maxRecDepth 10000
set_option maxHeartbeats 4000000
theorem bg_len (l : List Int) : ((bg l).A.length = (1 + atI l 0 6).toNat) ∧ (bg l).O.length = (1 + atI l 1 3).toNat := by
  constructor
  · show (accs (bgP l)).length = _
    rw [accs_len, costs_len]
  · show (accs (bgO l)).length = _
    rw [accs_len, costs_len]
theorem bg_small (l : List Int) : (1 ≤ (bg l).A.length ∧ (bg l).A.length ≤ 6) ∧ 1 ≤ (bg l).O.length ∧ (bg l).O.length ≤ 3 := by
  have h1 := at_lt l 0 6 (by decide)
  have h2 := at_lt l 1 3 (by decide)
  rw [(bg_len l).1, (bg_len l).2]
  omega
theorem costV_cost (n : Int) : isCost (costV n) = true := by
  have h1 := around_lt (Int.tdiv n 5) 7 (by decide)
  have h2 := around_lt n 5 (by decide)
  have h3 := qs_le (i := (aroundI n 5).toNat) (by omega)
  exact (mk_cost (by omega) (by omega)).2
theorem script_fit (s : List Int) (n : Int) (k : Nat) : ((script s n).getD k actZ).P.length ≤ 3 ∧ R64 ((script s n).getD k actZ).C := by
  rcases Nat.lt_or_ge k (scN s) with h | h
  · rw [script_get h]
    exact ⟨scAct_len s n k, valid_r64 (cost_iff.1 (costV_cost _)).1⟩
  · rw [List.getD_eq_getElem?_getD, List.getElem?_eq_none (by rw [script_len]; exact h)]
    exact ⟨by decide, ⟨by decide, by decide⟩⟩
end Go.Proofs.Ytkhlmicogdjmlaa
