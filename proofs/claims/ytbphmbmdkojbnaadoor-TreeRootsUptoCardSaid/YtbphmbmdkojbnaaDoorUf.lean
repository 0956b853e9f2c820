
/- dioramalaw39.TreeChecks. -/
import Derived.Test.YtbphmbmdkojbnaaDoorUe
import Derived.Test.YtbphmbmdkojbnaaDoorFe
set_option linter.unusedSimpArgs false
set_option linter.unusedVariables false
namespace Go.Proofs.YtbphmbmdkojbnaaDoor
open Go.V Go.RowKit Go.U Go.L
theorem proveR_DOk (x : List (List UInt8)) (hx : x.length ≤ 1073741824) (p q : Int) : DOk (proveR x p q).R ∧ (proveR x p q).R.length ≤ 1000 := by
  unfold proveR
  split
  · exact ⟨⟨by decide, fun d hd => by cases hd⟩, by decide⟩
  · rename_i h
    have hs := Tree.rest_short p.toNat q.toNat x.length (by omega) (by omega) (by omega) hx
    exact ⟨rootsD_DOk x _ hs fun z hz => (Tree.rest_mem 0 x.length (by omega) z hz).2.1, by show (rootsD x _).length ≤ _; unfold rootsD; rw [List.length_map]; exact hs⟩
theorem viewS_of {H : Asc} {a u : AV} (h : Imp a u) (hn : NoId u) : ViewS H a u := .imp h (.self hn)
end Go.Proofs.YtbphmbmdkojbnaaDoor
