
/- Disks as abstract values; the small methods. -/
import Derived.Test.YtnjchlggjdoboaaDa
import Derived.Test.YtnjchlggjdoboaaTy
set_option linter.unusedSimpArgs false
set_option linter.unusedVariables false
namespace Go.Proofs.Ytnjchlggjdoboaa
open Go.V Go.RowKit Go.L Go.Dk
def KI (n : Int) : AV := .int .i64 n
def kvI (n : Int) : Value := .int .i64 n
def blkA (b : Bs) : AV := .arr 64 1 (fun i => .int .u8 ((b.getD i 0).toNat : Nat))
def VB (b : Bool) : AV := .bool b
def pendA (P : PM) : AV := moL KI blkA (0, []) P
def wornA (W : WM) : AV := moL KI VB (0, false) W
abbrev blksA (n : Nat) (B : List Bs) : AV := .arr n 64 (fun i => blkA (B.getD i []))
abbrev dskA (n : Nat) (a b c : Nat) (off : Bool) (left : Int) : AV := .pair (.sl a [] 64 0 n) (.pair (.mp b) (.pair (.mp c) (.pair (.bool off) (.pair (.int .i64 left) .nul))))
/-- A disk in the objects 0 to 3. -/
abbrev dH (n : Nat) (B : List Bs) (P : PM) (W : WM) (off : Bool) (left : Int) : Asc := [(0, dskA n 1 2 3 off left), (1, blksA n B), (2, pendA P), (3, wornA W)]
/-- The error of a sector's number. -/
def chk (n : Nat) (off : Bool) (i : Int) : Int := if off = true then 20 else if bad n i then 1 else 0
theorem chk_eq (D : Disk) (i : Int) : chk D.B.length D.off i = check D i := rfl
/-- The error of a step. -/
def stpE (left : Int) : Int := if left = 0 then 20 else 0
def stpO (off : Bool) (left : Int) : Bool := if left = 0 then true else off
def stpL (left : Int) : Int := if 0 < left then left - 1 else left
def i64B (n : Int) : Prop := -9223372036854775808 ≤ n ∧ n ≤ 9223372036854775807
theorem u_int : Try.prog.underlying 3 = some (.int .i64) := by kernel_rfl
theorem u_worn : Try.prog.underlying 73 = some (.map 3 4) := by kernel_rfl
theorem z_bool : ∀ ti, tget TT 4 = some ti → zB Try.prog 4 ti = true := by
  intro ti h
  cases h
  kernel_rfl
theorem keyI : KeyK Try.prog 3 KI kvI := key_int u_int
variable {n : Nat} {B : List Bs} {P : PM} {W : WM} {off : Bool} {left : Int}
end Go.Proofs.Ytnjchlggjdoboaa
