
/- dioramalaw41.sanity: the example, step by step. -/
import Derived.Test.YtnehadphaakepaaDk
set_option linter.unusedSimpArgs false
set_option linter.unusedVariables false
namespace Go.Proofs.Ytnehadphaakepaa
open Go.V Go.RowKit Go.L Go.Dk
def sA : Bs := fullS 97
def sB : Bs := fullS 98
def sT : Bs := tear 3 sA zs
def sX : Bs := Dk.flip sA 0
theorem w1 : Ok Try.prog 17 [] (dH 2 [zs, zs] [] [] false (-1)) (.pair (.ptr 0 []) (.pair (.int .i64 0) (.pair (.str sA) .nul))) (fun r h' => r = .int .i64 0 ∧ h' = dH 2 [zs, zs] [(0, sA)] [] false (-1)) := by
  have h := write_ok (n := 2) (B := [zs, zs]) (P := []) (W := []) (off := false) (left := -1) (by constructor <;> decide) 0 sA
  rw [show wrE 2 false (-1) 0 sA = 0 by decide, show wrGo 2 false 0 sA = true by decide] at h
  exact h
theorem r1 : Ok Try.prog 16 [] (dH 2 [zs, zs] [(0, sA)] [] false (-1)) (.pair (.ptr 0 []) (.pair (.int .i64 0) .nul)) (fun r h' => r = .tup (.pair (.str sA) (.pair (.int .i64 0) .nul)) ∧ h' = dH 2 [zs, zs] [(0, sA)] [] false (-1)) :=
  read_ok (n := 2) (B := [zs, zs]) (P := [(0, sA)]) (W := []) (off := false) (left := -1) 0 rfl (by decide) (by decide)
theorem p1 : Ok Try.prog 22 [] (dH 2 [zs, zs] [(0, sA)] [] false (-1)) (.pair (.ptr 0 []) .nul) (fun r h' => r = intsT [0] ∧ h' = dH 2 [zs, zs] [(0, sA)] [] false (-1)) := by
  have h := pending_ok (n := 2) (B := [zs, zs]) (P := [(0, sA)]) (W := []) (off := false) (left := -1) (by decide) (fun q hq => by rw [List.mem_singleton.1 hq]; constructor <;> decide) (by decide)
  rw [show sortI (List.map (·.1) [((0 : Int), sA)]) = [0] from sortI_eq (List.Perm.refl _) (by decide)] at h
  exact h
theorem good1 : Good 2 [zs, zs] [(0, sA)] [] (-1) := ⟨by decide, by decide, rfl, by decide, by decide, by decide, by decide, by decide, by decide, by constructor <;> decide⟩
theorem m1 : Ok Try.prog 26 [] (dH 2 [zs, zs] [(0, sA)] [] false (-1)) (.pair (.ptr 0 []) (.pair (.rsl false 1 1 (fun i => .int .i64 (([3] : List Int).getD i 0))) .nul)) (fun r h' => r = .tup .nul ∧ h' = dH 2 [sT, zs] [] [] false (-1)) := by
  have h := mount_ok (off := false) good1 [3] (by decide)
  have e : allB [3] [zs, zs] [(0, sA)] [] = ([sT, zs], []) := by
    unfold allB
    rw [show sortI (List.map (·.1) [((0 : Int), sA)]) = [0] from sortI_eq (List.Perm.refl _) (by decide)]
    rfl
  rw [e] at h
  exact h
theorem r2 : Ok Try.prog 16 [] (dH 2 [sT, zs] [] [] false (-1)) (.pair (.ptr 0 []) (.pair (.int .i64 0) .nul)) (fun r h' => r = .tup (.pair (.str sT) (.pair (.int .i64 0) .nul)) ∧ h' = dH 2 [sT, zs] [] [] false (-1)) :=
  read_ok (n := 2) (B := [sT, zs]) (P := []) (W := []) (off := false) (left := -1) 0 rfl (by decide) (by decide)
theorem w2 : Ok Try.prog 17 [] (dH 2 [sT, zs] [] [] false (-1)) (.pair (.ptr 0 []) (.pair (.int .i64 1) (.pair (.str sA) .nul))) (fun r h' => r = .int .i64 0 ∧ h' = dH 2 [sT, zs] [(1, sA)] [] false (-1)) := by
  have h := write_ok (n := 2) (B := [sT, zs]) (P := []) (W := []) (off := false) (left := -1) (by constructor <;> decide) 1 sA
  rw [show wrE 2 false (-1) 1 sA = 0 by decide, show wrGo 2 false 1 sA = true by decide] at h
  exact h
theorem good2 : Good 2 [sT, zs] [(1, sA)] [] (-1) := ⟨by decide, by decide, rfl, by decide, by decide, by decide, by decide, by decide, by decide, by constructor <;> decide⟩
theorem f1 : Ok Try.prog 25 [] (dH 2 [sT, zs] [(1, sA)] [] false (-1)) (.pair (.ptr 0 []) .nul) (fun r h' => r = .int .i64 0 ∧ h' = dH 2 [sT, sA] [] [] false (-1)) := by
  have h := flush_go (off := false) good2 rfl (by decide)
  have e : allB [] [sT, zs] [(1, sA)] [] = ([sT, sA], []) := by
    unfold allB
    rw [show sortI (List.map (·.1) [((1 : Int), sA)]) = [1] from sortI_eq (List.Perm.refl _) (by decide)]
    rfl
  rw [e] at h
  exact h
theorem t1 : Ok Try.prog 19 [] (dH 2 [sT, sA] [] [] false (-1)) (.pair (.ptr 0 []) (.pair (.int .i64 1) (.pair (.int .i64 0) .nul))) (fun r h' => r = .int .i64 0 ∧ h' = dH 2 [sT, sX] [] [] false (-1)) := by
  have h := rot_ok (n := 2) (B := [sT, sA]) (P := []) (W := []) (off := false) (left := -1) 1 0 rfl (by decide)
  rw [if_neg (by decide), if_neg (by decide)] at h
  exact h
theorem r3 : Ok Try.prog 16 [] (dH 2 [sT, sX] [] [] false (-1)) (.pair (.ptr 0 []) (.pair (.int .i64 1) .nul)) (fun r h' => r = .tup (.pair (.str sX) (.pair (.int .i64 0) .nul)) ∧ h' = dH 2 [sT, sX] [] [] false (-1)) :=
  read_ok (n := 2) (B := [sT, sX]) (P := []) (W := []) (off := false) (left := -1) 1 rfl (by decide) (by decide)
theorem e1 : Ok Try.prog 20 [] (dH 2 [sT, sX] [] [] false (-1)) (.pair (.ptr 0 []) (.pair (.int .i64 0) .nul)) (fun r h' => r = .int .i64 0 ∧ h' = dH 2 [sT, sX] [] [(0, true)] false (-1)) := by
  have h := wear_ok (n := 2) (B := [sT, sX]) (P := []) (W := []) (off := false) (left := -1) 0
  rw [if_neg (by decide), if_neg (by decide)] at h
  exact h
theorem w3 : Ok Try.prog 17 [] (dH 2 [sT, sX] [] [(0, true)] false 1) (.pair (.ptr 0 []) (.pair (.int .i64 0) (.pair (.str sB) .nul))) (fun r h' => r = .int .i64 0 ∧ h' = dH 2 [sT, sX] [(0, sB)] [(0, true)] false 0) := by
  have h := write_ok (n := 2) (B := [sT, sX]) (P := []) (W := [(0, true)]) (off := false) (left := 1) (by constructor <;> decide) 0 sB
  rw [show wrE 2 false 1 0 sB = 0 by decide, show wrGo 2 false 0 sB = true by decide] at h
  exact h
theorem f2 : Ok Try.prog 25 [] (dH 2 [sT, sX] [(0, sB)] [(0, true)] false 0) (.pair (.ptr 0 []) .nul) (fun r h' => r = .int .i64 20 ∧ h' = dH 2 [sT, sX] [(0, sB)] [(0, true)] true 0) := flush_trip (by decide) rfl rfl
theorem r4 : Ok Try.prog 16 [] (dH 2 [sT, sX] [(0, sB)] [(0, true)] true 0) (.pair (.ptr 0 []) (.pair (.int .i64 0) .nul)) (fun r h' => r = .tup (.pair (.str []) (.pair (.int .i64 20) .nul)) ∧ h' = dH 2 [sT, sX] [(0, sB)] [(0, true)] true 0) :=
  read_ok (n := 2) (B := [sT, sX]) (P := [(0, sB)]) (W := [(0, true)]) (off := true) (left := 0) 0 rfl (by decide) (by decide)
theorem q1 : Ok Try.prog 23 [] (dH 2 [sT, sX] [(0, sB)] [(0, true)] true 0) (.pair (.ptr 0 []) .nul) (fun r h' => r = intsT [0] ∧ h' = dH 2 [sT, sX] [(0, sB)] [(0, true)] true 0) := by
  have h := worn_ok (n := 2) (B := [sT, sX]) (P := [(0, sB)]) (W := [(0, true)]) (off := true) (left := 0) (by decide) (fun q hq => by rw [List.mem_singleton.1 hq]; constructor <;> decide) (by decide)
  rw [show sortI (List.map (·.1) [((0 : Int), true)]) = [0] from sortI_eq (List.Perm.refl _) (by decide)] at h
  exact h
end Go.Proofs.Ytnehadphaakepaa
