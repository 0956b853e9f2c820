
/- The word functions of SHA-256: RotateLeft32, mix, rotr. -/
import Derived.Test.YthejnchhddggmaaDoorProg
import Derived.Test.YthejnchhddggmaaDoorGa
import Derived.Test.YthejnchhddggmaaDoorGb
import Derived.Deep.QuietTactic
import Derived.BigQuiet
set_option linter.unusedSimpArgs false
set_option linter.unusedVariables false
namespace Go.Proofs.YthejnchhddggmaaDoor
open Go.RowKit Go.U

theorem rot_mask : ∀ k : Fin 32, bits BinOp.and IntKind.u64 (IntKind.u64.wrap (-((k.val : Nat) : Int))) 31 = if k.val = 0 then 0 else 32 - ((k.val : Nat) : Int) := by decide
theorem rot_fold (x : UInt32) (k : Nat) (h0 : 0 < k) (hk : k < 32) :
    bits BinOp.or IntKind.u32 (x.toNat * 2 ^ (32 - k) % 4294967296) (x.toNat / 2 ^ (32 - (32 - k))) = ((Sha.rotr x (UInt32.ofNat k)).toNat : Int) := by
  have e : 32 - (32 - k) = k := by omega
  rw [e, shl32 x (32 - k) (by omega), shr32 x k hk, or32]
  have e2 : UInt32.ofNat (32 - k) = 32 - UInt32.ofNat k := by
    apply UInt32.toNat_inj.1
    rw [UInt32.toNat_sub_of_le]
    · simp [UInt32.toNat_ofNat']; omega
    · rw [UInt32.le_iff_toNat_le]; simp [UInt32.toNat_ofNat']; omega
  rw [e2]
  unfold Sha.rotr
  rw [UInt32.or_comm]

theorem rot_fold2 (x : UInt32) (k : Nat) (h0 : 0 < k) (hk : k < 32) :
    bits BinOp.or IntKind.u32 (x.toNat / 2 ^ k) (x.toNat * 2 ^ (32 - k) % 4294967296) = ((Sha.rotr x (UInt32.ofNat k)).toNat : Int) := by
  rw [shl32 x (32 - k) (by omega), shr32 x k hk, or32]
  have e2 : UInt32.ofNat (32 - k) = 32 - UInt32.ofNat k := by
    apply UInt32.toNat_inj.1
    rw [UInt32.toNat_sub_of_le]
    · simp [UInt32.toNat_ofNat']; omega
    · rw [UInt32.le_iff_toNat_le]; simp [UInt32.toNat_ofNat']; omega
  rw [e2]
  rfl
theorem ret_int {k : IntKind} {a b : Int} (h : a = b) : Ending.returned (.int k a) = .returned (.int k b) := by rw [h]

set_option maxHeartbeats 400000 in
theorem rotl_any (x : UInt32) (k : Nat) (w : World) (h0 : 0 < k) (hk : k < 32) :
    Calls Tryd.prog 74 #[.int .u32 x.toNat, .int .i64 (-k)] w fun e w' => e = .returned (.int .u32 (Sha.rotr x (UInt32.ofNat k)).toNat) ∧ w = w' := by
  have h := rot_mask ⟨k, hk⟩
  simp only [if_neg (show ¬ k = 0 by omega)] at h
  have hx : (x.toNat : Int) < 4294967296 := by have := x.toNat_lt; omega
  have hx : 0 ≤ (x.toNat : Int) := by omega
  have h1 : (0 : Int) ≤ 32 - k := by omega
  have h2 : 32 - (k : Int) ≤ 32 := by omega
  go_enter Tryd.func74, Tryd.ntmps74
  go_wp2
  go_ret
  exact ⟨ret_int (rot_fold x k h0 hk), rfl⟩

set_option maxHeartbeats 400000 in
theorem rotr_any (x : UInt32) (k : Nat) (w : World) (h0 : 0 < k) (hk : k < 32) :
    Calls Tryd.prog 71 #[.int .u32 x.toNat, .int .i64 k] w fun e w' => e = .returned (.int .u32 (Sha.rotr x (UInt32.ofNat k)).toNat) ∧ ∃ n, w' = w.drewN n := by
  have hx : (x.toNat : Int) < 4294967296 := by have := x.toNat_lt; omega
  have hx : 0 ≤ (x.toNat : Int) := by omega
  have h1 : (0 : Int) ≤ 32 - k := by omega
  have h2 : 32 - (k : Int) ≤ 32 := by omega
  have h3 : (0 : Int) ≤ k := by omega
  go_enter Tryd.func71, Tryd.ntmps71
  go_wp2
  go_quiet (fail)
  go_wp2
  go_ret
  exact ⟨ret_int (rot_fold2 x k h0 hk), _, rfl⟩

set_option maxHeartbeats 400000 in
theorem mix_any (x : UInt32) (i j k : Nat) (w : World) (hi : 0 < i ∧ i < 32) (hj : 0 < j ∧ j < 32) (hk : 0 < k ∧ k < 32) :
    Calls Tryd.prog 73 #[.int .u32 x.toNat, .int .i64 i, .int .i64 j, .int .i64 k] w fun e w' =>
      e = .returned (.int .u32 (Sha.rotr x (UInt32.ofNat i) ^^^ Sha.rotr x (UInt32.ofNat j) ^^^ Sha.rotr x (UInt32.ofNat k)).toNat) ∧ w = w' := by
  obtain ⟨hi0, hi1⟩ := hi
  obtain ⟨hj0, hj1⟩ := hj
  obtain ⟨hk0, hk1⟩ := hk
  go_enter Tryd.func73, Tryd.ntmps73
  go_wp2_with fail
  ((with_reducible refine (rotl_any x i w (by omega) (by omega)).mono ?_); rintro e w' ⟨rfl, rfl⟩)
  go_wp2_with fail
  ((with_reducible refine (rotl_any x j w (by omega) (by omega)).mono ?_); rintro e w' ⟨rfl, rfl⟩)
  go_wp2_with fail
  ((with_reducible refine (rotl_any x k w (by omega) (by omega)).mono ?_); rintro e w' ⟨rfl, rfl⟩)
  go_wp2_with fail
  go_ret
  exact ⟨ret_int (by rw [xor32, xor32]), rfl⟩
theorem rotl7 (x : UInt32) (w : World) : Calls Tryd.prog 74 #[.int .u32 x.toNat, .int .i64 (-7)] w fun e w' => e = .returned (.int .u32 (Sha.rotr x 7).toNat) ∧ w = w' :=
  rotl_any x 7 w (by omega) (by omega)
theorem rotl18 (x : UInt32) (w : World) : Calls Tryd.prog 74 #[.int .u32 x.toNat, .int .i64 (-18)] w fun e w' => e = .returned (.int .u32 (Sha.rotr x 18).toNat) ∧ w = w' :=
  rotl_any x 18 w (by omega) (by omega)
theorem rotl17 (x : UInt32) (w : World) : Calls Tryd.prog 74 #[.int .u32 x.toNat, .int .i64 (-17)] w fun e w' => e = .returned (.int .u32 (Sha.rotr x 17).toNat) ∧ w = w' :=
  rotl_any x 17 w (by omega) (by omega)
theorem rotl19 (x : UInt32) (w : World) : Calls Tryd.prog 74 #[.int .u32 x.toNat, .int .i64 (-19)] w fun e w' => e = .returned (.int .u32 (Sha.rotr x 19).toNat) ∧ w = w' :=
  rotl_any x 19 w (by omega) (by omega)
theorem mix6 (x : UInt32) (w : World) : Calls Tryd.prog 73 #[.int .u32 x.toNat, .int .i64 6, .int .i64 11, .int .i64 25] w fun e w' => e = .returned (.int .u32 (Sha.bs1 x).toNat) ∧ w = w' :=
  mix_any x 6 11 25 w (by omega) (by omega) (by omega)
theorem mix2 (x : UInt32) (w : World) : Calls Tryd.prog 73 #[.int .u32 x.toNat, .int .i64 2, .int .i64 13, .int .i64 22] w fun e w' => e = .returned (.int .u32 (Sha.bs0 x).toNat) ∧ w = w' :=
  mix_any x 2 13 22 w (by omega) (by omega) (by omega)
end Go.Proofs.YthejnchhddggmaaDoor
