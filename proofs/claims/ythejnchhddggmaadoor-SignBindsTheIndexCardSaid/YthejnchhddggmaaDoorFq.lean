
/- == of structs of two numbers. -/
import Derived.Test.YthejnchhddggmaaDoorFp
import Derived.Test.YthejnchhddggmaaDoorFn
import Derived.Laws.StructEq
set_option linter.unusedSimpArgs false
set_option linter.unusedVariables false
namespace Go.V
open Go.RowKit Go.L
structure TwoInts (P : Program) (t : TypeId) : Prop where
  und : ∃ f0 f1 : Field, P.underlying t = some (.struct #[f0, f1]) ∧ f0.name ≠ "_" ∧ f1.name ≠ "_" ∧ f0.offset = 0 ∧ f1.offset = 1 ∧ P.underlying f0.type = some (.int .i64) ∧ P.underlying f1.type = some (.int .i64)
  st : P.stoodInHeld t = false
  gd : P.eqGuardType P.depth t = false
variable {P : Program} {t yt ty : TypeId} {g e h : Asc} {x y : Operand} {d : Option Tmp} {pos : String} {af : Array Edge} {gd : Option (Nat × Bool)}
/-! A region that draws its order, behind whose plan several orders are left. -/
def allJ (p : Nat → Prop) : List Nat → Prop
  | [] => True
  | j :: r => p j ∧ allJ p r
def SeqT (F : Fr) (ops : Array Oper) (K : St → Prop) : Nat → Array Bool → St → Prop
  | 0, listed, s => Region.ready .any ops listed = [] ∧ K s
  | n + 1, listed, s => Region.ready .any ops listed ≠ [] ∧ allJ (fun j => ∃ o, ops[j]? = some o ∧ Seq F ops [o] s (SeqT F ops K n (listed.setIfInBounds j true))) (Region.ready .any ops listed)
theorem SeqT.one {F : Fr} {ops : Array Oper} {K : St → Prop} {n : Nat} {listed : Array Bool} {s : St} (j : Nat) {o : Oper} (hr : Region.ready .any ops listed = [j]) (ho : ops[j]? = some o) (h : Seq F ops [o] s (SeqT F ops K n (listed.setIfInBounds j true))) : SeqT F ops K (n + 1) listed s := by
  refine ⟨by rw [hr]; simp, ?_⟩
  rw [hr]; exact ⟨⟨o, ho, h⟩, trivial⟩
theorem SeqT.drawn {F : Fr} {ops : Array Oper} {K : St → Prop} {n : Nat} {listed : Array Bool} {its : List It} {e0 h0 g e' h' : Asc} {N : Nat} (hE : selEO allB e0 its some = some e') (hH : selHO allB h0 its some = some h') (h : SeqT F ops K n listed ⟨e', h', g, N⟩) : SeqT F ops K n listed (V.drawn its e0 h0 g N) := by
  rw [selEO_eq] at hE
  rw [selHO_eq] at hH
  cases hE; cases hH
  exact h
end Go.V
