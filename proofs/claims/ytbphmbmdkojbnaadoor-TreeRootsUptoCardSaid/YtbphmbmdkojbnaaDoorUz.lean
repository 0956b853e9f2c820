
/- What Leaves, Prove and Longer return, as memory that stays. -/
import Derived.Test.YtbphmbmdkojbnaaDoorTz
import Derived.Test.YtbphmbmdkojbnaaDoorFe
set_option linter.unusedSimpArgs false
set_option linter.unusedVariables false
namespace Go.Proofs.YtbphmbmdkojbnaaDoor
open Go.V Go.RowKit Go.U Go.L
def strsT (l : List (List UInt8)) : AV := .rsl true l.length 1 (fun i => .str (l.getD i []))
def digsT (L : List (List UInt8)) : AV := .rsl true L.length 16 (fun i => digA (L.getD i []))
def resPT (r : PR) : AV := .tup (.pair (.pair (.int .i64 r.n) (.pair (.int .i64 r.p) (.pair (digsT r.R) .nul))) (.pair (.int .i64 r.e) .nul))
def resLT (r : List (List UInt8) × Int) : AV := .tup (.pair (digsT r.1) (.pair (.int .i64 r.2) .nul))
theorem viewT_digs {H : Asc} {id : Nat} {L : List (List UInt8)} (h : get? H id = some (digsO L.length L)) : ViewT H (digsT L) (.sl id [] 16 0 L.length) :=
  ViewT.sl h rfl trivial (by omega) rfl fun i hi => ViewT.rel (by rw [Nat.zero_add]; exact digA_self)
theorem viewT_strs {H : Asc} {id : Nat} {L : List (List UInt8)} (h : get? H id = some (strsO L.length L)) : ViewT H (strsT L) (.sl id [] 1 0 L.length) :=
  ViewT.sl h rfl trivial (by omega) rfl fun i hi => ViewT.rel (by rw [Nat.zero_add]; exact rfl)
theorem leaves_st (l : List Int) (hl : IOk l) : Ok Tryd.prog 9 [] [] (.pair (intsV l) .nul) (fun r h' => r = strsT (leavesR l) ∧ h' = []) :=
  (leaves_ok l hl).still fun r h' h => by
    obtain ⟨rfl, rfl⟩ := h
    exact ⟨_, viewT_strs rfl, rfl, rfl⟩
theorem viewT_P (r : PR) : ViewT [(9, digsO r.R.length r.R)] (resPT r) (resP r.n r.p r.R.length r.e) :=
  .tup (.pair (.pair (.rel rfl) (.pair (.rel rfl) (.pair (viewT_digs rfl) (.rel rfl)))) (.pair (.rel rfl) (.rel rfl)))
theorem viewT_L (r : List (List UInt8) × Int) : ViewT [(9, digsO r.1.length r.1)] (resLT r) (resL r.1.length r.2) :=
  .tup (.pair (viewT_digs rfl) (.pair (.rel rfl) (.rel rfl)))
theorem prove_st (l : List (List UInt8)) (hl : LOk l) (hl2 : l.length ≤ 1000000000) (p q : Int) : Ok Tryd.prog 13 gK [] (.pair (strs l) (.pair (.int .i64 p) (.pair (.int .i64 q) .nul))) (fun r h' => r = resPT (proveR l p q) ∧ h' = []) :=
  (prove_ok l hl hl2 p q).still fun r h' h => by
    obtain ⟨rfl, rfl⟩ := h
    exact ⟨_, viewT_P _, rfl, rfl⟩
theorem refProve_st (l : List (List UInt8)) (hl : LOk l) (hl2 : l.length ≤ 1000000000) (p q : Int) : Ok Tryd.prog 14 gR [] (.pair (strs l) (.pair (.int .i64 p) (.pair (.int .i64 q) .nul))) (fun r h' => r = resPT (proveR l p q) ∧ h' = []) :=
  (refProve_ok l hl hl2 p q).still fun r h' h => by
    obtain ⟨rfl, rfl⟩ := h
    exact ⟨_, viewT_P _, rfl, rfl⟩
theorem longer_st (l : List (List UInt8)) (hl : LOk l) (hl2 : l.length ≤ 1000000000) (n : Int) : Ok Tryd.prog 15 gK [] (.pair (strs l) (.pair (.int .i64 n) .nul)) (fun r h' => r = resLT (longerR l n) ∧ h' = []) :=
  (longer_ok l hl hl2 n).still fun r h' h => by
    obtain ⟨rfl, rfl⟩ := h
    exact ⟨_, viewT_L _, rfl, rfl⟩
theorem refLonger_st (l : List (List UInt8)) (hl : LOk l) (hl2 : l.length ≤ 1000000000) (n : Int) : Ok Tryd.prog 16 gR [] (.pair (strs l) (.pair (.int .i64 n) .nul)) (fun r h' => r = resLT (longerR l n) ∧ h' = []) :=
  (refLonger_ok l hl hl2 n).still fun r h' h => by
    obtain ⟨rfl, rfl⟩ := h
    exact ⟨_, viewT_L _, rfl, rfl⟩
end Go.Proofs.YtbphmbmdkojbnaaDoor
