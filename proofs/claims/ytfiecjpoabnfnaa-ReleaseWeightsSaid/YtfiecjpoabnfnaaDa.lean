
/- The plain law of disks: what each method does, in lists. No program in sight. -/
import Derived.Test.YtfiecjpoabnfnaaFe
set_option linter.unusedSimpArgs false
set_option linter.unusedVariables false
namespace Go.Dk
open Go.V (mFind mSet mDel)
abbrev Bs := List UInt8
abbrev PM := List (Int × Bs)
abbrev WM := List (Int × Bool)
structure Disk where
  B : List Bs
  P : PM
  W : WM
  off : Bool
  left : Int
/-- Is there no such sector? -/
def bad (n : Nat) (i : Int) : Prop := i < 0 ∨ (n : Int) ≤ i
instance (n : Nat) (i : Int) : Decidable (bad n i) := by unfold bad; infer_instance
def check (D : Disk) (i : Int) : Int := if D.off = true then 20 else if bad D.B.length i then 1 else 0
def step (D : Disk) : Disk × Int := if D.left = 0 then ({ D with off := true }, 20) else if 0 < D.left then ({ D with left := D.left - 1 }, 0) else (D, 0)
def write (D : Disk) (i : Int) (s : Bs) : Disk × Int :=
  if check D i ≠ 0 then (D, check D i) else if s.length ≠ 64 then (D, 1) else if (step D).2 ≠ 0 then step D else ({ (step D).1 with P := mSet (step D).1.P i s }, 0)
def sortI (l : List Int) : List Int := l.mergeSort (fun x y => decide (x ≤ y))
def pending (D : Disk) : List Int := sortI (D.P.map (·.1))
def rotBad (n : Nat) (i bit : Int) : Prop := bad n i ∨ bit < 0 ∨ 512 ≤ bit
instance (n : Nat) (i bit : Int) : Decidable (rotBad n i bit) := by unfold rotBad; infer_instance
/-- What a disk is always. -/
structure WF (D : Disk) : Prop where
  n0 : 0 < D.B.length
  n1 : D.B.length ≤ 4096
  b64 : ∀ b ∈ D.B, b.length = 64
  p64 : ∀ q ∈ D.P, q.2.length = 64
  pin : ∀ q ∈ D.P, ¬ bad D.B.length q.1
  pnd : (D.P.map (·.1)).Nodup
  win : ∀ q ∈ D.W, ¬ bad D.B.length q.1
  wnd : (D.W.map (·.1)).Nodup
  wt : ∀ q ∈ D.W, q.2 = true
  l64 : -9223372036854775808 ≤ D.left ∧ D.left ≤ 9223372036854775807
section
variable {κ ν : Type} [DecidableEq κ]
theorem mFind_mSet {l : List (κ × ν)} {k k' : κ} {v : ν} : mFind (mSet l k v) k' = if k = k' then some v else mFind l k' := by
  induction l with
  | nil => rw [mSet, mFind]; rfl
  | cons p r ih =>
    rw [mSet]
    by_cases h : p.1 = k
    · rw [if_pos h, mFind, mFind]
      by_cases h2 : k = k'
      · simp [h2]
      · simp only [h2, if_false]; rw [h]; simp only [h2, if_false]
    · rw [if_neg h, mFind, mFind, ih]
      by_cases h2 : k = k'
      · subst h2; simp [h]
      · simp [h2]
end
end Go.Dk
