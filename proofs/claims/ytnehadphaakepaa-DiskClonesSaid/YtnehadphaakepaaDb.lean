
/- Disks as abstract values; the small methods. -/
import Derived.Test.YtnehadphaakepaaDa
import Derived.Test.YtnehadphaakepaaTy
set_option linter.unusedSimpArgs false
set_option linter.unusedVariables false
namespace Go.Proofs.Ytnehadphaakepaa
open Go.V Go.RowKit Go.L Go.Dk
def KI (n : Int) : AV := .int .i64 n
def kvI (n : Int) : Value := .int .i64 n
def blkA (b : Bs) : AV := .arr 64 1 (fun i => .int .u8 ((b.getD i 0).toNat : Nat))
def VB (b : Bool) : AV := .bool b
def pendA (P : PM) : AV := moL KI blkA (0, []) P
def wornA (W : WM) : AV := moL KI VB (0, false) W
abbrev blksA (n : Nat) (B : List Bs) : AV := .arr n 64 (fun i => blkA (B.getD i []))
abbrev dskA (n : Nat) (a b c : Nat) (off : Bool) (left : Int) : AV := .pair (.sl a [] 64 0 n) (.pair (.mp b) (.pair (.mp c) (.pair (.bool off) (.pair (.int .i64 left) .nul))))
/-- A disk in the objects 0 to 3. -/
abbrev dH (n : Nat) (B : List Bs) (P : PM) (W : WM) (off : Bool) (left : Int) : Asc := [(0, dskA n 1 2 3 off left), (1, blksA n B), (2, pendA P), (3, wornA W)]
/-- The error of a sector's number. -/
def chk (n : Nat) (off : Bool) (i : Int) : Int := if off = true then 20 else if bad n i then 1 else 0
theorem chk_eq (D : Disk) (i : Int) : chk D.B.length D.off i = check D i := rfl
/-- The error of a step. -/
def stpE (left : Int) : Int := if left = 0 then 20 else 0
def stpO (off : Bool) (left : Int) : Bool := if left = 0 then true else off
def stpL (left : Int) : Int := if 0 < left then left - 1 else left
def i64B (n : Int) : Prop := -9223372036854775808 ≤ n ∧ n ≤ 9223372036854775807
theorem u_int : Try.prog.underlying 3 = some (.int .i64) := by kernel_rfl
theorem u_pend : Try.prog.underlying 68 = some (.map 3 74) := by kernel_rfl
theorem u_worn : Try.prog.underlying 69 = some (.map 3 4) := by kernel_rfl
theorem z_blk : ∀ ti, tget TT 74 = some ti → zB Try.prog 74 ti = true := by
  intro ti h
  cases h
  kernel_rfl
theorem z_bool : ∀ ti, tget TT 4 = some ti → zB Try.prog 4 ti = true := by
  intro ti h
  cases h
  kernel_rfl
theorem keyI : KeyK Try.prog 3 KI kvI := key_int u_int
variable {n : Nat} {B : List Bs} {P : PM} {W : WM} {off : Bool} {left : Int}
theorem check_ok (i : Int) : Ok Try.prog 46 [] (dH n B P W off left) (.pair (.ptr 0 []) (.pair (.int .i64 i) .nul)) (fun r h' => r = .int .i64 (chk n off i) ∧ h' = dH n B P W off left) := by
  refine Ok.of_vc tt_ok Try.func46 rfl rfl (by show 2 ≤ _; decide) 4 (hlt_ok (by rfl)) fun c0 => ?_
  repeat' (first | (refine SS_ ?_) | (done) | (refine Seq.lit (by rfl) (by rfl) LT2_ ?_) | (refine VC.litT (by rfl) LTR_ ?_) | (refine VC.litF (by rfl) LFA_ ?_) | (refine DD_ ?_) | (refine DSeq.lit2 (by rfl) (by rfl) (by rfl) LT2_ (by rfl) ?_) | ((refine retQ_ok (by rfl) [] nil_sub ⟨?_, rfl⟩); try rfl) | (refine Seq.litC (by rfl) (by rfl) (fun hb => ?_) (fun hb => ?_) <;> (fail_if_success (with_reducible have := litT_ hb)) <;> (fail_if_success (with_reducible have := litF_ hb)) <;> (try simp only [decide_eq_true_eq, decide_eq_false_iff_not, Bool.not_eq_true', Bool.not_eq_false', Bool.or_eq_true, Bool.or_eq_false_iff, Bool.and_eq_true, Bool.and_eq_false_iff] at hb) <;> (try (exfalso; first | omega | (cases hb; done)))) | (refine VC.cond (by rfl) (fun hb => ?_) (fun hb => ?_) <;> (fail_if_success (with_reducible have := litT_ hb)) <;> (fail_if_success (with_reducible have := litF_ hb)) <;> (try simp only [decide_eq_true_eq, decide_eq_false_iff_not, Bool.not_eq_true', Bool.not_eq_false', Bool.or_eq_true, Bool.or_eq_false_iff, Bool.and_eq_true, Bool.and_eq_false_iff] at hb) <;> (try (exfalso; first | omega | (cases hb; done)))) | (refine DSeq.litC2 (by rfl) (by rfl) (by rfl) (by rfl) (by rfl) (fun hb => ?_) (fun hb => ?_) <;> (fail_if_success (with_reducible have := litT_ hb)) <;> (fail_if_success (with_reducible have := litF_ hb)) <;> (try simp only [decide_eq_true_eq, decide_eq_false_iff_not, Bool.not_eq_true', Bool.not_eq_false', Bool.or_eq_true, Bool.or_eq_false_iff, Bool.and_eq_true, Bool.and_eq_false_iff] at hb) <;> (try (exfalso; first | omega | (cases hb; done)))))
  all_goals (refine retQ_ok (by rfl) (dH n B P W off left) (subL_ok ⟨rfl, rfl, rfl, rfl, trivial⟩) ⟨congrArg (AV.int .i64) ?_, rfl⟩; unfold chk bad)
  · rw [if_pos hb]
  · rename_i h1; simp [h1, hb]
  · rename_i h1 h2; simp [h1, hb]
  · rename_i h1 h2; simp [h1]; omega
theorem step_ok (hl : i64B left) : Ok Try.prog 47 [] (dH n B P W off left) (.pair (.ptr 0 []) .nul) (fun r h' => r = .int .i64 (stpE left) ∧ h' = dH n B P W (stpO off left) (stpL left)) := by
  obtain ⟨hl1, hl2⟩ := hl
  refine Ok.of_vc tt_ok Try.func47 rfl rfl (by show 1 ≤ _; decide) 4 (hlt_ok (by rfl)) fun c0 => ?_
  repeat' (first | (refine SS_ ?_) | (done) | (refine Seq.lit (by rfl) (by rfl) LT2_ ?_) | (refine VC.litT (by rfl) LTR_ ?_) | (refine VC.litF (by rfl) LFA_ ?_) | (refine DD_ ?_) | (refine DSeq.lit2 (by rfl) (by rfl) (by rfl) LT2_ (by rfl) ?_) | ((refine retQ_ok (by rfl) [] nil_sub ⟨?_, rfl⟩); try rfl) | (refine Seq.litC (by rfl) (by rfl) (fun hb => ?_) (fun hb => ?_) <;> (fail_if_success (with_reducible have := litT_ hb)) <;> (fail_if_success (with_reducible have := litF_ hb)) <;> (try simp only [decide_eq_true_eq, decide_eq_false_iff_not, Bool.not_eq_true', Bool.not_eq_false', Bool.or_eq_true, Bool.or_eq_false_iff, Bool.and_eq_true, Bool.and_eq_false_iff] at hb) <;> (try (exfalso; first | omega | (cases hb; done)))) | (refine VC.cond (by rfl) (fun hb => ?_) (fun hb => ?_) <;> (fail_if_success (with_reducible have := litT_ hb)) <;> (fail_if_success (with_reducible have := litF_ hb)) <;> (try simp only [decide_eq_true_eq, decide_eq_false_iff_not, Bool.not_eq_true', Bool.not_eq_false', Bool.or_eq_true, Bool.or_eq_false_iff, Bool.and_eq_true, Bool.and_eq_false_iff] at hb) <;> (try (exfalso; first | omega | (cases hb; done)))) | (refine DSeq.litC2 (by rfl) (by rfl) (by rfl) (by rfl) (by rfl) (fun hb => ?_) (fun hb => ?_) <;> (fail_if_success (with_reducible have := litT_ hb)) <;> (fail_if_success (with_reducible have := litF_ hb)) <;> (try simp only [decide_eq_true_eq, decide_eq_false_iff_not, Bool.not_eq_true', Bool.not_eq_false', Bool.or_eq_true, Bool.or_eq_false_iff, Bool.and_eq_true, Bool.and_eq_false_iff] at hb) <;> (try (exfalso; first | omega | (cases hb; done)))))
  · refine retQ_ok (by rfl) (dH n B P W true left) (subL_ok ⟨rfl, rfl, rfl, rfl, trivial⟩) ⟨congrArg (AV.int .i64) ?_, ?_⟩
    · rw [stpE, if_pos hb]
    · rw [stpO, if_pos hb, stpL, if_neg (by omega)]
  · refine retQ_ok (by rfl) (dH n B P W off (left - 1)) (subL_ok ⟨rfl, rfl, rfl, rfl, trivial⟩) ⟨congrArg (AV.int .i64) ?_, ?_⟩
    · rw [stpE, if_neg (by omega)]
    · rw [stpO, if_neg (by omega), stpL, if_pos hb]
  · refine retQ_ok (by rfl) (dH n B P W off left) (subL_ok ⟨rfl, rfl, rfl, rfl, trivial⟩) ⟨congrArg (AV.int .i64) ?_, ?_⟩
    · rw [stpE, if_neg (by omega)]
    · rw [stpO, if_neg (by omega), stpL, if_neg hb]
theorem len_ok' : Ok Try.prog 31 [] (dH n B P W off left) (.pair (.ptr 0 []) .nul) (fun r h' => r = .int .i64 n ∧ h' = dH n B P W off left) := by
  refine Ok.of_vc tt_ok Try.func31 rfl rfl (by show 1 ≤ _; decide) 4 (hlt_ok (by rfl)) fun c0 => ?_
  repeat' (first | (refine SS_ ?_) | (done) | (refine Seq.lit (by rfl) (by rfl) LT2_ ?_) | (refine VC.litT (by rfl) LTR_ ?_) | (refine VC.litF (by rfl) LFA_ ?_) | (refine DD_ ?_) | (refine DSeq.lit2 (by rfl) (by rfl) (by rfl) LT2_ (by rfl) ?_) | ((refine retQ_ok (by rfl) [] nil_sub ⟨?_, rfl⟩); try rfl) | (refine Seq.litC (by rfl) (by rfl) (fun hb => ?_) (fun hb => ?_) <;> (fail_if_success (with_reducible have := litT_ hb)) <;> (fail_if_success (with_reducible have := litF_ hb)) <;> (try simp only [decide_eq_true_eq, decide_eq_false_iff_not, Bool.not_eq_true', Bool.not_eq_false', Bool.or_eq_true, Bool.or_eq_false_iff, Bool.and_eq_true, Bool.and_eq_false_iff] at hb) <;> (try (exfalso; first | omega | (cases hb; done)))) | (refine VC.cond (by rfl) (fun hb => ?_) (fun hb => ?_) <;> (fail_if_success (with_reducible have := litT_ hb)) <;> (fail_if_success (with_reducible have := litF_ hb)) <;> (try simp only [decide_eq_true_eq, decide_eq_false_iff_not, Bool.not_eq_true', Bool.not_eq_false', Bool.or_eq_true, Bool.or_eq_false_iff, Bool.and_eq_true, Bool.and_eq_false_iff] at hb) <;> (try (exfalso; first | omega | (cases hb; done)))) | (refine DSeq.litC2 (by rfl) (by rfl) (by rfl) (by rfl) (by rfl) (fun hb => ?_) (fun hb => ?_) <;> (fail_if_success (with_reducible have := litT_ hb)) <;> (fail_if_success (with_reducible have := litF_ hb)) <;> (try simp only [decide_eq_true_eq, decide_eq_false_iff_not, Bool.not_eq_true', Bool.not_eq_false', Bool.or_eq_true, Bool.or_eq_false_iff, Bool.and_eq_true, Bool.and_eq_false_iff] at hb) <;> (try (exfalso; first | omega | (cases hb; done)))))
  exact retQ_ok (by rfl) (dH n B P W off left) (subL_ok ⟨rfl, rfl, rfl, rfl, trivial⟩) ⟨rfl, rfl⟩
theorem up_ok : Ok Try.prog 27 [] (dH n B P W off left) (.pair (.ptr 0 []) .nul) (fun r h' => r = .bool (!off) ∧ h' = dH n B P W off left) := by
  refine Ok.of_vc tt_ok Try.func27 rfl rfl (by show 1 ≤ _; decide) 4 (hlt_ok (by rfl)) fun c0 => ?_
  repeat' (first | (refine SS_ ?_) | (done) | (refine Seq.lit (by rfl) (by rfl) LT2_ ?_) | (refine VC.litT (by rfl) LTR_ ?_) | (refine VC.litF (by rfl) LFA_ ?_) | (refine DD_ ?_) | (refine DSeq.lit2 (by rfl) (by rfl) (by rfl) LT2_ (by rfl) ?_) | ((refine retQ_ok (by rfl) [] nil_sub ⟨?_, rfl⟩); try rfl) | (refine Seq.litC (by rfl) (by rfl) (fun hb => ?_) (fun hb => ?_) <;> (fail_if_success (with_reducible have := litT_ hb)) <;> (fail_if_success (with_reducible have := litF_ hb)) <;> (try simp only [decide_eq_true_eq, decide_eq_false_iff_not, Bool.not_eq_true', Bool.not_eq_false', Bool.or_eq_true, Bool.or_eq_false_iff, Bool.and_eq_true, Bool.and_eq_false_iff] at hb) <;> (try (exfalso; first | omega | (cases hb; done)))) | (refine VC.cond (by rfl) (fun hb => ?_) (fun hb => ?_) <;> (fail_if_success (with_reducible have := litT_ hb)) <;> (fail_if_success (with_reducible have := litF_ hb)) <;> (try simp only [decide_eq_true_eq, decide_eq_false_iff_not, Bool.not_eq_true', Bool.not_eq_false', Bool.or_eq_true, Bool.or_eq_false_iff, Bool.and_eq_true, Bool.and_eq_false_iff] at hb) <;> (try (exfalso; first | omega | (cases hb; done)))) | (refine DSeq.litC2 (by rfl) (by rfl) (by rfl) (by rfl) (by rfl) (fun hb => ?_) (fun hb => ?_) <;> (fail_if_success (with_reducible have := litT_ hb)) <;> (fail_if_success (with_reducible have := litF_ hb)) <;> (try simp only [decide_eq_true_eq, decide_eq_false_iff_not, Bool.not_eq_true', Bool.not_eq_false', Bool.or_eq_true, Bool.or_eq_false_iff, Bool.and_eq_true, Bool.and_eq_false_iff] at hb) <;> (try (exfalso; first | omega | (cases hb; done)))))
  exact retQ_ok (by rfl) (dH n B P W off left) (subL_ok ⟨rfl, rfl, rfl, rfl, trivial⟩) ⟨rfl, rfl⟩
theorem trip_ok (m : Int) : Ok Try.prog 30 [] (dH n B P W off left) (.pair (.ptr 0 []) (.pair (.int .i64 m) .nul)) (fun r h' => r = .tup .nul ∧ h' = dH n B P W off m) := by
  refine Ok.of_vc tt_ok Try.func30 rfl rfl (by show 2 ≤ _; decide) 4 (hlt_ok (by rfl)) fun c0 => ?_
  repeat' (first | (refine SS_ ?_) | (done) | (refine Seq.lit (by rfl) (by rfl) LT2_ ?_) | (refine VC.litT (by rfl) LTR_ ?_) | (refine VC.litF (by rfl) LFA_ ?_) | (refine DD_ ?_) | (refine DSeq.lit2 (by rfl) (by rfl) (by rfl) LT2_ (by rfl) ?_) | ((refine retQ_ok (by rfl) [] nil_sub ⟨?_, rfl⟩); try rfl) | (refine Seq.litC (by rfl) (by rfl) (fun hb => ?_) (fun hb => ?_) <;> (fail_if_success (with_reducible have := litT_ hb)) <;> (fail_if_success (with_reducible have := litF_ hb)) <;> (try simp only [decide_eq_true_eq, decide_eq_false_iff_not, Bool.not_eq_true', Bool.not_eq_false', Bool.or_eq_true, Bool.or_eq_false_iff, Bool.and_eq_true, Bool.and_eq_false_iff] at hb) <;> (try (exfalso; first | omega | (cases hb; done)))) | (refine VC.cond (by rfl) (fun hb => ?_) (fun hb => ?_) <;> (fail_if_success (with_reducible have := litT_ hb)) <;> (fail_if_success (with_reducible have := litF_ hb)) <;> (try simp only [decide_eq_true_eq, decide_eq_false_iff_not, Bool.not_eq_true', Bool.not_eq_false', Bool.or_eq_true, Bool.or_eq_false_iff, Bool.and_eq_true, Bool.and_eq_false_iff] at hb) <;> (try (exfalso; first | omega | (cases hb; done)))) | (refine DSeq.litC2 (by rfl) (by rfl) (by rfl) (by rfl) (by rfl) (fun hb => ?_) (fun hb => ?_) <;> (fail_if_success (with_reducible have := litT_ hb)) <;> (fail_if_success (with_reducible have := litF_ hb)) <;> (try simp only [decide_eq_true_eq, decide_eq_false_iff_not, Bool.not_eq_true', Bool.not_eq_false', Bool.or_eq_true, Bool.or_eq_false_iff, Bool.and_eq_true, Bool.and_eq_false_iff] at hb) <;> (try (exfalso; first | omega | (cases hb; done)))))
  exact retQ_ok (by rfl) (dH n B P W off m) (subL_ok ⟨rfl, rfl, rfl, rfl, trivial⟩) ⟨rfl, rfl⟩
set_option maxRecDepth 10000 in
theorem wear_ok (i : Int) : Ok Try.prog 20 [] (dH n B P W off left) (.pair (.ptr 0 []) (.pair (.int .i64 i) .nul)) (fun r h' => r = .int .i64 (if bad n i then 1 else 0) ∧ h' = dH n B P (if bad n i then W else mSet W i true) off left) := by
  refine Ok.of_vc tt_ok Try.func20 rfl rfl (by show 2 ≤ _; decide) 4 (hlt_ok (by rfl)) fun c0 => ?_
  repeat' (first | (refine SS_ ?_) | (refine Seq.eff (mapUpdate_ok (K := KI) (V := VB) (u := true) (l := W) (k := i) u_worn keyI (by rfl) (by rfl) (by rfl) (by rfl)) (by rfl) (by rfl) ?_) | (refine Seq.lit (by rfl) (by rfl) LT2_ ?_) | (refine VC.litT (by rfl) LTR_ ?_) | (refine VC.litF (by rfl) LFA_ ?_) | (refine DD_ ?_) | (refine DSeq.lit2 (by rfl) (by rfl) (by rfl) LT2_ (by rfl) ?_) | ((refine retQ_ok (by rfl) [] nil_sub ⟨?_, rfl⟩); try rfl) | (refine Seq.litC (by rfl) (by rfl) (fun hb => ?_) (fun hb => ?_) <;> (fail_if_success (with_reducible have := litT_ hb)) <;> (fail_if_success (with_reducible have := litF_ hb)) <;> (try simp only [decide_eq_true_eq, decide_eq_false_iff_not, Bool.not_eq_true', Bool.not_eq_false', Bool.or_eq_true, Bool.or_eq_false_iff, Bool.and_eq_true, Bool.and_eq_false_iff] at hb) <;> (try (exfalso; first | omega | (cases hb; done)))) | (refine VC.cond (by rfl) (fun hb => ?_) (fun hb => ?_) <;> (fail_if_success (with_reducible have := litT_ hb)) <;> (fail_if_success (with_reducible have := litF_ hb)) <;> (try simp only [decide_eq_true_eq, decide_eq_false_iff_not, Bool.not_eq_true', Bool.not_eq_false', Bool.or_eq_true, Bool.or_eq_false_iff, Bool.and_eq_true, Bool.and_eq_false_iff] at hb) <;> (try (exfalso; first | omega | (cases hb; done)))) | (refine DSeq.litC2 (by rfl) (by rfl) (by rfl) (by rfl) (by rfl) (fun hb => ?_) (fun hb => ?_) <;> (fail_if_success (with_reducible have := litT_ hb)) <;> (fail_if_success (with_reducible have := litF_ hb)) <;> (try simp only [decide_eq_true_eq, decide_eq_false_iff_not, Bool.not_eq_true', Bool.not_eq_false', Bool.or_eq_true, Bool.or_eq_false_iff, Bool.and_eq_true, Bool.and_eq_false_iff] at hb) <;> (try (exfalso; first | omega | (cases hb; done)))))
  · refine retQ_ok (by rfl) (dH n B P W off left) (subL_ok ⟨rfl, rfl, rfl, rfl, trivial⟩) ⟨congrArg (AV.int .i64) ?_, ?_⟩
    · rw [if_pos (.inl hb)]
    · rw [if_pos (.inl hb)]
  · refine retQ_ok (by rfl) (dH n B P W off left) (subL_ok ⟨rfl, rfl, rfl, rfl, trivial⟩) ⟨congrArg (AV.int .i64) ?_, ?_⟩
    · rw [if_pos (.inr hb)]
    · rw [if_pos (.inr hb)]
  · rename_i h1
    refine retQ_ok (by rfl) (dH n B P (mSet W i true) off left) (subL_ok ⟨rfl, rfl, rfl, rfl, trivial⟩) ⟨congrArg (AV.int .i64) ?_, ?_⟩
    · rw [if_neg (by unfold bad; omega)]
    · rw [if_neg (by unfold bad; omega)]
end Go.Proofs.Ytnehadphaakepaa
