
/- dioramalaw39.TreeRoots, whatever its arguments: the call returns true, and its arguments read behind the call as they did before, where the listed package variables read as listed. -/
import Derived.Test.YtbphmbmdkojbnaaDoorUg
import Derived.Test.YtbphmbmdkojbnaaDoorFe
import Derived.Test.YtbphmbmdkojbnaaDoorKz
import Derived.Test.YtbphmbmdkojbnaaDoorCards
import Derived.Test.YtbphmbmdkojbnaaDoorTie
import Derived.WalkKit
import Derived.ProofKit
import Derived.OpenShut
import Derived.Deep.DeepHandedRow
import Derived.Lib.LaidTab
set_option linter.unusedSimpArgs false
set_option linter.unusedVariables false
namespace Go.Proofs.YtbphmbmdkojbnaaDoor.treeRoots
open Go.ChangeShapes Go.WideShapes Go.ChangeAt Go.RowKit Go.V
theorem own : ownKnob Tryd.prog.godebug = none := by kernel_rfl
theorem kids : Kids Tryd.prog (· < Tryd.prog.types.size) := kids_rows (by kernel_rfl) (by kernel_rfl)
theorem slices : ∀ t e, t < Tryd.prog.types.size → Tryd.prog.underlying t = some (.slice e) → 0 < Tryd.prog.cellsOf e := slices_full_of _ (by kernel_rfl)
theorem boolT : Tryd.prog.underlying 4 = some .bool := by kernel_rfl
theorem strT : Tryd.prog.underlying 9 = some .string := by kernel_rfl
theorem strC : Tryd.prog.cellsOf 9 = 1 := by kernel_rfl
theorem strsT : Tryd.prog.underlying 23 = some (.slice 9) := by kernel_rfl
theorem intT : Tryd.prog.underlying 3 = some (.int .i64) := by kernel_rfl
theorem intC : Tryd.prog.cellsOf 3 = 1 := by kernel_rfl
theorem intsT : Tryd.prog.underlying 22 = some (.slice 3) := by kernel_rfl
theorem bulk_mem {H : Type} : ∀ (l : List (DataW H)), ∀ x ∈ l, Rows.uptoBulk x ≤ Rows.uptoBulkAll l
  | [], _, h => by cases h
  | y :: r, x, h => by
    rw [Rows.uptoBulkAll]
    rcases List.mem_cons.1 h with e | e
    · rw [e]; omega
    · have := bulk_mem r x e; omega
theorem gTab0 : Tryd.prog.globalNamed "diorama/dioramaref02.constants" = some 1 := by kernel_rfl
theorem gTab1 : Tryd.prog.globalNamed "diorama/hash.constants" = some 0 := by kernel_rfl
theorem table0 {W : World} (h : laidMetH Tryd.prog Rows.treeRootsUptoRow.laid W) : Lib.TabIs Tryd.prog W "diorama/dioramaref02.constants" .u32 (Sha.kTab.map fun x => ((x.toNat : Nat) : Int)) :=
  Lib.tabIs_of_head (rest := (Rows.treeRootsUptoRow.laid.drop 1)) gTab0 (t := 108) (e := 87) (n := 64) (by kernel_rfl) (by kernel_rfl) (by kernel_rfl) (by kernel_rfl) (by kernel_rfl) (h)
theorem rep0 {W : World} (h : laidMetH Tryd.prog Rows.treeRootsUptoRow.laid W) : Rep (ctxAt W) (.rptr false (u32A 64 Sha.kTab)) .V [.pointer (some ⟨1, 0, none⟩)] := rep_tab (table0 h) gTab0 (by decide) (by decide)
theorem table1 {W : World} (h : laidMetH Tryd.prog Rows.treeRootsUptoRow.laid W) : Lib.TabIs Tryd.prog W "diorama/hash.constants" .u32 (Sha.kTab.map fun x => ((x.toNat : Nat) : Int)) :=
  Lib.tabIs_of_head (rest := (Rows.treeRootsUptoRow.laid.drop 2)) gTab1 (t := 108) (e := 87) (n := 64) (by kernel_rfl) (by kernel_rfl) (by kernel_rfl) (by kernel_rfl) (by kernel_rfl) (laid_tail (h))
theorem rep1 {W : World} (h : laidMetH Tryd.prog Rows.treeRootsUptoRow.laid W) : Rep (ctxAt W) (.rptr false (u32A 64 Sha.kTab)) .V [.pointer (some ⟨0, 0, none⟩)] := rep_tab (table1 h) gTab1 (by decide) (by decide)
theorem glob {W : World} (h : laidMetH Tryd.prog Rows.treeRootsUptoRow.laid W) : ∀ x v, get? gA x = some v → Rep (ctxAt W) (.rptr false v) .V [.pointer (some ⟨x, 0, none⟩)] := by
  intro x v hx
  unfold gA at hx
  rw [get?_cons] at hx
  split at hx
  · rename_i e; subst e; cases hx; exact rep1 h
  · skip
    rw [get?_cons] at hx
    split at hx
    · rename_i e; subst e; cases hx; exact rep0 h
    · cases hx
set_option maxRecDepth 100000 in
theorem contract (H : Type) (enc : TypeId × Value → H) (W : World) (base : Nat) (args : Array Value) (ds gs : List (DataW H)) (before : List MemPlace)
    (hval : ∀ (j : Nat) t v, Tryd.f3.params[j]? = some t → args[j]? = some v → Value.okWide Tryd.prog W .any base t v)
    (hW : DataW.Whole enc Tryd.prog Tryd.f3.params.toList Rows.treeRootsSpec.vars false W args.toList ds gs before) (hL : laidMetH Tryd.prog Rows.treeRootsUptoRow.laid W) (hk : Rows.uptoSmall H (ds ++ gs) = true) :
    Calls Tryd.prog 3 args W fun e W' => ∃ v, e = .returned v ∧ Rows.treeRootsSpec.post enc Tryd.prog Tryd.f3 false true false false W args v W' := by
  have hW' := hW
  obtain ⟨p, q, hA0, hV, rfl, hfz, hnd⟩ := hW
  have hA : DataW.TrodAll enc Tryd.prog W 0 (fun _ => true) true Tryd.f3.params.toList args.toList ds p := hA0
  rw [show Tryd.f3.params = #[22, 3, 3, 23] from rfl] at hA hval
  obtain ⟨v0, vs0, d0, ds0, p0, q0, hargs, rfl, rfl, h0, r0⟩ := trodAll_cons hA
  obtain ⟨v1, vs1, d1, ds1, p1, q1, rfl, rfl, rfl, h1, r1⟩ := trodAll_cons r0
  obtain ⟨v2, vs2, d2, ds2, p2, q2, rfl, rfl, rfl, h2, r2⟩ := trodAll_cons r1
  obtain ⟨v3, vs3, d3, ds3, p3, q3, rfl, rfl, rfl, h3, r3⟩ := trodAll_cons r2
  obtain ⟨rfl, rfl, rfl⟩ := trodAll_nil r3
  obtain rfl : args = #[v0, v1, v2, v3] := by cases args; simp_all
  obtain ⟨rfl, rfl⟩ := trodVars_none hV
  obtain ⟨x0, y0, z0⟩ := (Opens.slice (0 : Int) intsT intC (by decide) (Opens.int intT)).arg (fun _ => by rw [intsT]; rfl) (fun _ _ h => by rw [intsT] at h; cases h) (hval 0 _ v0 rfl rfl) h0
  obtain ⟨x1, y1, z1⟩ := (Opens.int intT).arg (fun _ => by rw [intT]; rfl) (fun _ _ h => by rw [intT] at h; cases h) (hval 1 _ v1 rfl rfl) h1
  obtain ⟨x2, y2, z2⟩ := (Opens.int intT).arg (fun _ => by rw [intT]; rfl) (fun _ _ h => by rw [intT] at h; cases h) (hval 2 _ v2 rfl rfl) h2
  obtain ⟨x3, y3, z3⟩ := (OpensD.strs strsT strC strT Rows.uptoBulk Rows.uptoBulkAll (fun x y => by simp only [Rows.uptoBulk]; omega) bulk_mem (fun b => by simp only [Rows.uptoBulk]; omega)).arg (fun _ => by rw [strsT]; rfl) (fun _ _ h => by rw [strsT] at h; cases h) (hval 3 _ v3 rfl rfl) h3
  have hrun := (lawRoots_ok x0 ⟨z0.1, fun x hx => bounds_i64 (z0.2 x hx)⟩ x1 (bounds_i64 z1) x2 (bounds_i64 z2) x3 z3.1 (fun s hs => Nat.le_trans (z3.2 s hs) (by have h5 := of_decide_eq_true hk; simp only [List.append_nil, Rows.uptoBulkAll] at h5; omega))).run W (glob hL) (vs := [v0, v1, v2, v3]) ⟨_, _, rfl, y0, _, _, rfl, y1, _, _, rfl, y2, _, _, rfl, y3, rfl⟩
  refine hrun.mono fun e W' h => ?_
  obtain ⟨v, r, h', c', rfl, ⟨rfl, _⟩, hr, hb⟩ := h
  obtain rfl := rep_bool hr
  exact ⟨_, rfl, post_law kids slices (by kernel_rfl) rfl hW' rfl boolT rfl rfl rfl hb⟩
noncomputable def laidWorld (os : Os) : World :=
  { World.holding Tryd.prog os ⟨#[], #[], []⟩ with heap := (((World.holding Tryd.prog os ⟨#[], #[], []⟩).heap.modify 1 fun
      | .cells _ t frozen => .cells (Sha.kTab.map fun x => Value.int .u32 ((x.toNat : Nat) : Int)).toArray t frozen
      | o => o).modify 0 fun
      | .cells _ t frozen => .cells (Sha.kTab.map fun x => Value.int .u32 ((x.toNat : Nat) : Int)).toArray t frozen
      | o => o) }
theorem laid_met (os : Os) : laidMet Tryd.prog Rows.treeRootsUptoRow.laid ((laidWorld os).forCall (fun _ _ => 0) ⟨#[], #[.slice none 0 0, .int .i64 0, .int .i64 0, .slice none 0 0], []⟩).memory :=
  laidMet_of_run' 8 (by kernel_rfl) (by kernel_rfl)
theorem reads (os : Os) {H : Type} (enc : TypeId × Value → H) : ∃ places, DataW.whole enc Tryd.prog ((laidWorld os).forCall (fun _ _ => 0) ⟨#[], #[.slice none 0 0, .int .i64 0, .int .i64 0, .slice none 0 0], []⟩).memory Tryd.f3.params.toList Rows.treeRootsSpec.vars false #[.slice none 0 0, .int .i64 0, .int .i64 0, .slice none 0 0].toList 8 = some ([.nil, .lit (.int .i64 0), .lit (.int .i64 0), .nil], [], places) :=
  ⟨[], by kernel_rfl⟩
set_option maxRecDepth 100000 in
theorem lifted (os : Os) (started : os.Started) (H : Type) (enc : TypeId × Value → H) (F : Stop.Interp) :
    ReturnsInHanded {} Tryd.checked os 3 .any ((Rows.OpenSpec.upto Rows.treeRootsSpec).preRow enc Tryd.prog Tryd.f3 Rows.treeRootsUptoRow.domain false Rows.treeRootsUptoRow.laid) (((Rows.OpenSpec.upto Rows.treeRootsSpec).at F).post enc Tryd.prog Tryd.f3 false true false false) := by
  obtain ⟨places, hx⟩ := reads os enc
  refine returnsInHanded_of_row (C := Tryd.checked) (s := (Rows.OpenSpec.upto Rows.treeRootsSpec)) own started (by kernel_rfl) Tryd.func3
    (witness_row_at (enc := enc) (C := Tryd.checked) false (laidWorld os) #[.slice none 0 0, .int .i64 0, .int .i64 0, .slice none 0 0] rfl (by kernel_rfl) (by kernel_rfl) (by kernel_rfl)
      (OpenSpec.preRow_of_cond 8 hx (by kernel_rfl) (fun k hk => by cases hk; kernel_rfl) (by kernel_rfl) (laid_met os))) ?_
  intro W base args ds gs before hval hW _ hcond _ hL _ _
  exact contract H enc W base args ds gs before hval hW hL (hcond _ rfl)
theorem said : Rows.TreeRootsUptoSaid :=
  OpenClaim.holds_of_cond 3 Tryd.f3 rfl rfl rfl rfl rfl rfl rfl ⟨rfl, rfl, rfl, rfl, rfl⟩ rfl rfl rfl rfl rfl (by kernel_rfl) Tryd.func3 (by kernel_rfl)
    (of_decide_eq_true (by kernel_rfl)) (by unfold Func.isWrapper; first | (rw [if_pos (by decide +kernel)]; kernel_rfl) | (rw [if_neg (by decide +kernel)]; exact ⟨rfl, rfl⟩))
    (fun os started H enc _ F => by rw [OpenClaim.pre_eq_preRow]; exact lifted os started H enc F)
theorem plain (f : FuncId) (fn : Func) (hf : Tryd.pinned.checked.prog.funcNamed "diorama/dioramalaw39.TreeRoots" = some f) (hfn : Tryd.pinned.checked.prog.funcs[f]? = some fn) :
    false = Tryd.pinned.checked.prog.looks [] ∧ ∀ (j : Nat) t, fn.params[j]? = some t → Tryd.pinned.checked.prog.wantsStandIn t = false := by
  obtain rfl : f = 3 := Option.some.inj ((show Tryd.prog.funcNamed "diorama/dioramalaw39.TreeRoots" = some 3 by kernel_rfl).symm.trans hf) |>.symm
  obtain rfl : fn = Tryd.f3 := (Option.some.inj (Tryd.func3.symm.trans hfn)).symm
  refine ⟨by kernel_rfl, fun j t ht => ?_⟩
  have hall : (Tryd.f3.params.toList.all fun t => !Tryd.prog.wantsStandIn t) = true := by kernel_rfl
  have hm := List.all_eq_true.1 hall t (by have := Array.mem_of_getElem? ht; simpa using this)
  have hm2 : Tryd.prog.wantsStandIn t = false := by simpa using hm
  exact hm2
theorem card : Rows.TreeRootsUptoCardSaid :=
  Claim7.holds_tied_plain_at .later [] _ _ _ _ said (fun _ h => by cases h) (by kernel_rfl) (fun _ h => by cases h) treeRootsUpto_row_tie rfl ⟨rfl, rfl⟩ (by kernel_rfl) rfl plain (by kernel_rfl)
end Go.Proofs.YtbphmbmdkojbnaaDoor.treeRoots
