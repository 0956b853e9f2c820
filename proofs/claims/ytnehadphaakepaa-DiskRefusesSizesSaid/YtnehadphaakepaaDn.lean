
/- dioramalaw41.DiskRefusesSizes: what its calls give. -/
import Derived.Test.YtnehadphaakepaaDm
set_option linter.unusedSimpArgs false
set_option linter.unusedVariables false
namespace Go.Proofs.Ytnehadphaakepaa
open Go.V Go.RowKit Go.L Go.Dk
def z3 : List Bs := List.replicate 3 zs
theorem z3_64 : ∀ b ∈ z3, b.length = 64 := by decide
abbrev D3 (Z : List Bs) : Asc := dH 3 Z [] [] false (-1)
theorem n1_3 : Ok Try.prog 14 [] [] (.pair (.int .i64 3) .nul) (fun r h' => r = .tup (.pair (.ptr 3 []) (.pair (.int .i64 0) .nul)) ∧ h' = [(3, dskA 3 0 1 2 false (-1)), (0, blksA 3 z3), (1, pendA []), (2, wornA [])]) := new_ok 3 (by decide) (by decide)
theorem i1_3 : Ok Try.prog 15 [] (D3 z3) (.pair (.ptr 0 []) .nul) (fun r h' => r = .sl 4 [] 1 0 3 ∧ h' = (4, strO 3 z3) :: D3 z3) := image_ok rfl z3_64 (by decide)
theorem q1_3 : Ok Try.prog 22 [] (D3 z3) (.pair (.ptr 0 []) .nul) (fun r h' => r = intsT [] ∧ h' = D3 z3) := by
  have h := pending_ok (n := 3) (B := z3) (P := []) (W := []) (off := false) (left := -1) (by decide) (fun q hq => by cases hq) (by decide)
  rw [show sortI (List.map (·.1) ([] : PM)) = [] from sortI_eq (List.Perm.refl _) List.Pairwise.nil] at h
  exact h
theorem q2_3 : Ok Try.prog 23 [] (D3 z3) (.pair (.ptr 0 []) .nul) (fun r h' => r = intsT [] ∧ h' = D3 z3) := by
  have h := worn_ok (n := 3) (B := z3) (P := []) (W := []) (off := false) (left := -1) (by decide) (fun q hq => by cases hq) (by decide)
  rw [show sortI (List.map (·.1) ([] : WM)) = [] from sortI_eq (List.Perm.refl _) List.Pairwise.nil] at h
  exact h
theorem st_3 : Ok Try.prog 21 [] [] (.pair (.rsl false 3 1 (fun i => .str (z3.getD i []))) (.pair (.rsl false 3 1 (fun i => .str (z3.getD i []))) .nul)) (fun r h' => r = .bool true ∧ h' = []) := by
  have h := sameT_ok false false z3 z3 (by decide) (by decide)
  rw [decide_eq_true rfl] at h
  exact h
theorem rd_3 (i : Int) (hb : bad 3 i) : Ok Try.prog 16 [] (D3 z3) (.pair (.ptr 0 []) (.pair (.int .i64 i) .nul)) (fun r h' => r = .tup (.pair (.str []) (.pair (.int .i64 1) .nul)) ∧ h' = D3 z3) := by
  have h := read_ok (n := 3) (B := z3) (P := []) (W := []) (off := false) (left := -1) i rfl z3_64 (by decide)
  have e : chk 3 false i = 1 := by unfold chk; simp [hb]
  rw [show rdS 3 false z3 [] i = [] by unfold rdS; rw [e]; rfl, e] at h
  exact h
theorem wr_3 (i : Int) (hb : bad 3 i) : Ok Try.prog 17 [] (D3 z3) (.pair (.ptr 0 []) (.pair (.int .i64 i) (.pair (.str (fullS 120)) .nul))) (fun r h' => r = .int .i64 1 ∧ h' = D3 z3) := by
  have h := write_ok (n := 3) (B := z3) (P := []) (W := []) (off := false) (left := -1) (by constructor <;> decide) i (fullS 120)
  have e : chk 3 false i = 1 := by unfold chk; simp [hb]
  rw [show wrE 3 false (-1) i (fullS 120) = 1 by unfold wrE; rw [e]; rfl, show wrGo 3 false i (fullS 120) = false by unfold wrGo; rw [e]; rfl] at h
  exact h
theorem wx_3 (x : Bs) (hb : x.length ≠ 64) : Ok Try.prog 17 [] (D3 z3) (.pair (.ptr 0 []) (.pair (.int .i64 0) (.pair (.str x) .nul))) (fun r h' => r = .int .i64 1 ∧ h' = D3 z3) := by
  have h := write_ok (n := 3) (B := z3) (P := []) (W := []) (off := false) (left := -1) (by constructor <;> decide) 0 x
  have e : chk 3 false 0 = 0 := by decide
  rw [show wrE 3 false (-1) 0 x = 1 by unfold wrE; rw [e]; simp [hb], show wrGo 3 false 0 x = false by unfold wrGo; simp [hb]] at h
  exact h
theorem rt_3 (i : Int) (hb : bad 3 i) : Ok Try.prog 19 [] (D3 z3) (.pair (.ptr 0 []) (.pair (.int .i64 i) (.pair (.int .i64 0) .nul))) (fun r h' => r = .int .i64 1 ∧ h' = D3 z3) := by
  have h := rot_ok (n := 3) (B := z3) (P := []) (W := []) (off := false) (left := -1) i 0 rfl z3_64
  rw [if_pos (.inl hb), if_pos (.inl hb)] at h
  exact h
theorem we_3 (i : Int) (hb : bad 3 i) : Ok Try.prog 20 [] (D3 z3) (.pair (.ptr 0 []) (.pair (.int .i64 i) .nul)) (fun r h' => r = .int .i64 1 ∧ h' = D3 z3) := by
  have h := wear_ok (n := 3) (B := z3) (P := []) (W := []) (off := false) (left := -1) i
  rw [if_pos hb, if_pos hb] at h
  exact h
end Go.Proofs.Ytnehadphaakepaa
