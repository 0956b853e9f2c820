/- dioramalaw12.FlowChecks, whatever its arguments: the call returns true, and its arguments read behind the call as they did before. -/
import Derived.Test.YtkpidpmlehkjbaaYd
import Derived.Test.YtkpidpmlehkjbaaRows
import Derived.WalkKit
import Derived.ProofKit
import Derived.OpenShut
import Derived.Deep.DeepHandedRow
import Derived.Lib.LaidTab
set_option linter.unusedSimpArgs false
set_option linter.unusedVariables false
namespace Go.Proofs.Ytkpidpmlehkjbaa.flowChecks
open Go.ChangeShapes Go.WideShapes Go.ChangeAt Go.RowKit Go.V
theorem own : ownKnob Try.prog.godebug = none := by kernel_rfl
theorem kids : Kids Try.prog (· < Try.prog.types.size) := kids_rows (by kernel_rfl) (by kernel_rfl)
theorem slices : ∀ t e, t < Try.prog.types.size → Try.prog.underlying t = some (.slice e) → 0 < Try.prog.cellsOf e := slices_full_of _ (by kernel_rfl)
theorem boolT : Try.prog.underlying 4 = some .bool := by kernel_rfl
theorem intT : Try.prog.underlying 3 = some (.int .i64) := by kernel_rfl
theorem intC : Try.prog.cellsOf 3 = 1 := by kernel_rfl
theorem intsT : Try.prog.underlying 22 = some (.slice 3) := by kernel_rfl
set_option maxRecDepth 100000 in
theorem contract (H : Type) (enc : TypeId × Value → H) (W : World) (base : Nat) (args : Array Value) (ds gs : List (DataW H)) (before : List MemPlace)
    (hval : ∀ (j : Nat) t v, Try.f4.params[j]? = some t → args[j]? = some v → Value.okWide Try.prog W .any base t v)
    (hW : DataW.Whole enc Try.prog Try.f4.params.toList Rows.flowChecksSpec.vars false W args.toList ds gs before) :
    Calls Try.prog 4 args W fun e W' => ∃ v, e = .returned v ∧ Rows.flowChecksSpec.post enc Try.prog Try.f4 false true false false W args v W' := by
  have hW' := hW
  obtain ⟨p, q, hA0, hV, rfl, hfz, hnd⟩ := hW
  have hA : DataW.TrodAll enc Try.prog W 0 (fun _ => true) true Try.f4.params.toList args.toList ds p := hA0
  rw [show Try.f4.params = #[22, 3, 3, 3, 22] from rfl] at hA hval
  obtain ⟨v0, vs0, d0, ds0, p0, q0, hargs, rfl, rfl, h0, r0⟩ := trodAll_cons hA
  obtain ⟨v1, vs1, d1, ds1, p1, q1, rfl, rfl, rfl, h1, r1⟩ := trodAll_cons r0
  obtain ⟨v2, vs2, d2, ds2, p2, q2, rfl, rfl, rfl, h2, r2⟩ := trodAll_cons r1
  obtain ⟨v3, vs3, d3, ds3, p3, q3, rfl, rfl, rfl, h3, r3⟩ := trodAll_cons r2
  obtain ⟨v4, vs4, d4, ds4, p4, q4, rfl, rfl, rfl, h4, r4⟩ := trodAll_cons r3
  obtain ⟨rfl, rfl, rfl⟩ := trodAll_nil r4
  obtain rfl : args = #[v0, v1, v2, v3, v4] := by cases args; simp_all
  obtain ⟨rfl, rfl⟩ := trodVars_none hV
  obtain ⟨x0, y0, z0⟩ := (Opens.slice (0 : Int) intsT intC (by decide) (Opens.int intT)).arg (fun _ => by rw [intsT]; rfl) (fun _ _ h => by rw [intsT] at h; cases h) (hval 0 _ v0 rfl rfl) h0
  obtain ⟨x1, y1, z1⟩ := (Opens.int intT).arg (fun _ => by rw [intT]; rfl) (fun _ _ h => by rw [intT] at h; cases h) (hval 1 _ v1 rfl rfl) h1
  obtain ⟨x2, y2, z2⟩ := (Opens.int intT).arg (fun _ => by rw [intT]; rfl) (fun _ _ h => by rw [intT] at h; cases h) (hval 2 _ v2 rfl rfl) h2
  obtain ⟨x3, y3, z3⟩ := (Opens.int intT).arg (fun _ => by rw [intT]; rfl) (fun _ _ h => by rw [intT] at h; cases h) (hval 3 _ v3 rfl rfl) h3
  obtain ⟨x4, y4, z4⟩ := (Opens.slice (0 : Int) intsT intC (by decide) (Opens.int intT)).arg (fun _ => by rw [intsT]; rfl) (fun _ _ h => by rw [intsT] at h; cases h) (hval 4 _ v4 rfl rfl) h4
  have hrun := (checks_law x0 ⟨z0.1, fun q hq => bounds_i64 (z0.2 q hq)⟩ x1 (bounds_i64 z1) x2 (bounds_i64 z2) x3 (bounds_i64 z3) x4 ⟨z4.1, fun q hq => bounds_i64 (z4.2 q hq)⟩).run W (fun x v hx => by cases hx) (vs := [v0, v1, v2, v3, v4]) ⟨_, _, rfl, y0, _, _, rfl, y1, _, _, rfl, y2, _, _, rfl, y3, _, _, rfl, y4, rfl⟩
  refine hrun.mono fun e W' h => ?_
  obtain ⟨v, r, h', c', rfl, ⟨rfl, _⟩, hr, hb⟩ := h
  obtain rfl := rep_bool hr
  exact ⟨_, rfl, post_law kids slices (by kernel_rfl) rfl hW' rfl boolT rfl rfl rfl hb⟩
theorem reads (os : Os) {H : Type} (enc : TypeId × Value → H) : ∃ places, DataW.whole enc Try.prog ((World.holding Try.prog os ⟨#[], #[], []⟩).forCall (fun _ _ => 0) ⟨#[], #[.slice none 0 0, .int .i64 0, .int .i64 0, .int .i64 0, .slice none 0 0], []⟩).memory Try.f4.params.toList Rows.flowChecksSpec.vars false #[.slice none 0 0, .int .i64 0, .int .i64 0, .int .i64 0, .slice none 0 0].toList 8 = some ([.nil, .lit (.int .i64 0), .lit (.int .i64 0), .lit (.int .i64 0), .nil], [], places) :=
  ⟨[], by kernel_rfl⟩
set_option maxRecDepth 100000 in
theorem lifted (os : Os) (started : os.Started) (H : Type) (enc : TypeId × Value → H) (F : Stop.Interp) :
    ReturnsInHanded {} Try.checked os 4 .any ((OpenSpec.ofChange Rows.flowChecksSpec).preRow enc Try.prog Try.f4 Rows.flowChecksRow.domain false Rows.flowChecksRow.laid) (((OpenSpec.ofChange Rows.flowChecksSpec).at F).post enc Try.prog Try.f4 false true false false) := by
  obtain ⟨places, hx⟩ := reads os enc
  refine returnsInHanded_of_row (C := Try.checked) (s := (OpenSpec.ofChange Rows.flowChecksSpec)) own started (by kernel_rfl) Try.func4
    (witness_row_at (enc := enc) (C := Try.checked) false (World.holding Try.prog os ⟨#[], #[], []⟩) #[.slice none 0 0, .int .i64 0, .int .i64 0, .int .i64 0, .slice none 0 0] rfl (by kernel_rfl) (by kernel_rfl) (by kernel_rfl)
      (OpenSpec.preRow_of_cond 8 hx (by kernel_rfl) (fun k hk => by cases hk) (by kernel_rfl) (by first | trivial | exact laidMet_of_run' 8 (by kernel_rfl) (by kernel_rfl)))) ?_
  intro W base args ds gs before hval hW _ _ _ hL _ _
  exact contract H enc W base args ds gs before hval hW
theorem said : Rows.FlowChecksSaid :=
  OpenClaim.holds_of_cond 4 Try.f4 rfl rfl rfl rfl rfl rfl rfl ⟨rfl, rfl, rfl, rfl, rfl⟩ rfl rfl rfl rfl rfl (by kernel_rfl) Try.func4 (by kernel_rfl)
    (of_decide_eq_true (by kernel_rfl)) (by unfold Func.isWrapper; first | (rw [if_pos (by decide +kernel)]; kernel_rfl) | (rw [if_neg (by decide +kernel)]; exact ⟨rfl, rfl⟩))
    (fun os started H enc _ F => by rw [OpenClaim.pre_eq_preRow]; exact lifted os started H enc F)
end Go.Proofs.Ytkpidpmlehkjbaa.flowChecks
