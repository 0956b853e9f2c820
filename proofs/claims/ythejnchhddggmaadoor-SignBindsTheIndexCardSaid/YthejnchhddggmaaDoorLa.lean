
/- Lists of numbers; Around, At. -/
import Derived.Test.YthejnchhddggmaaDoorFp
import Derived.Test.YthejnchhddggmaaDoorTy
set_option linter.unusedSimpArgs false
set_option linter.unusedVariables false
namespace Go.Lx
open Go.V
theorem take_snoc {α : Type} {l : List α} {k : Nat} {d : α} (h : k < l.length) : l.take (k + 1) = l.take k ++ [l.getD k d] := by
  rw [List.take_add_one, List.getD_eq_getElem?_getD, List.getElem?_eq_getElem h]; rfl
theorem app_lt {α : Type} {l m : List α} {d : α} {i : Nat} (h : i < l.length) : (l ++ m).getD i d = l.getD i d := by
  rw [List.getD_eq_getElem?_getD, List.getD_eq_getElem?_getD, List.getElem?_append_left h]
/-- Where the first element is for which a test holds; -1: nowhere. -/
def idx {α : Type} (q : α → Bool) (k : Nat) : List α → Int
  | [] => -1
  | v :: r => if q v = true then (k : Int) else idx q (k + 1) r
def I64 (n : Int) : Prop := -9223372036854775808 ≤ n ∧ n ≤ 9223372036854775807
def IOk (l : List Int) : Prop := l.length ≤ 9223372036854775807 ∧ ∀ x ∈ l, -9223372036854775808 ≤ x ∧ x ≤ 9223372036854775807
theorem IOk.get {l : List Int} (h : IOk l) (i : Nat) : -9223372036854775808 ≤ l.getD i 0 ∧ l.getD i 0 ≤ 9223372036854775807 := by
  rcases Nat.lt_or_ge i l.length with hi | hi
  · rw [List.getD_eq_getElem?_getD, List.getElem?_eq_getElem hi]; exact h.2 _ (List.getElem_mem hi)
  · rw [List.getD_eq_getElem?_getD, List.getElem?_eq_none hi]; exact ⟨by decide, by decide⟩
end Go.Lx
namespace Go.V
open Go.Lx
/-- A list of numbers: read-only, own. -/
abbrev liV (l : List Int) : AV := .rsl false l.length 1 (fun i => .int .i64 (l.getD i 0))
theorem retC_conv' {F : Fr} {T : List (Option TI)} {fn : Func} {R : AV → Asc → Prop} {x : Exit} {s s' : St} (h : ∀ a w, Sim F s a w → Sim F s' a w) (h2 : retC F T fn R x s') : retC F T fn R x s := by
  obtain ⟨s2, h3, h4⟩ := h2
  exact ⟨s2, fun a w hs => h3 a w (h a w hs), h4⟩
end Go.V
namespace Go.Proofs.YthejnchhddggmaaDoor
open Go.V Go.RowKit Go.L Go.Lx
set_option maxRecDepth 10000
set_option maxHeartbeats 2000000
end Go.Proofs.YthejnchhddggmaaDoor
