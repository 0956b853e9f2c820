/- dioramalaw42.JournalReadsAnything, whatever its arguments: the call returns true, and its arguments read behind the call as they did before, where the listed package variables read as listed. -/
import Derived.Test.YtmbldnahcmkpgaaGreatDoorBn
import Derived.Test.YtmbldnahcmkpgaaGreatDoorKz
import Derived.Test.YtmbldnahcmkpgaaGreatDoorCards
import Derived.Test.YtmbldnahcmkpgaaGreatDoorTie
import Derived.WalkKit
import Derived.ProofKit
import Derived.OpenShut
import Derived.Deep.DeepHandedRow
import Derived.Lib.LaidTab
set_option linter.unusedSimpArgs false
set_option linter.unusedVariables false
namespace Go.Proofs.YtmbldnahcmkpgaaGreatDoor.journalReadsAnything
open Go.ChangeShapes Go.WideShapes Go.ChangeAt Go.RowKit Go.V
theorem own : ownKnob Tryz.prog.godebug = none:=by kernel_rfl
theorem kids : Kids Tryz.prog (· < Tryz.prog.types.size):=kids_rows (by kernel_rfl) (by kernel_rfl)
theorem slices : ∀ t e,t < Tryz.prog.types.size→Tryz.prog.underlying t = some (.slice e)→0 < Tryz.prog.cellsOf e:=slices_full_of _ (by kernel_rfl)
theorem boolT : Tryz.prog.underlying 4 = some .bool:=by kernel_rfl
theorem strT : Tryz.prog.underlying 9 = some .string:=by kernel_rfl
theorem strsT : Tryz.prog.underlying 22 = some (.slice 9):=by kernel_rfl
theorem strC : Tryz.prog.cellsOf 9 = 1:=by kernel_rfl
theorem gTab0 : Tryz.prog.globalNamed "diorama/dioramaref02.constants" = some 0:=by kernel_rfl
theorem gTab1 : Tryz.prog.globalNamed "diorama/hash.constants" = some 2:=by kernel_rfl
theorem table0 {W : World} (h : laidMetH Tryz.prog Rows.journalReadsAnythingRow.laid W) : Lib.TabIs Tryz.prog W "diorama/dioramaref02.constants" .u32 (Sha.kTab.map fun x=>((x.toNat : Nat) : Int)) :=
  Lib.tabIs_of_head (rest:=(Rows.journalReadsAnythingRow.laid.drop 1)) gTab0 (t:=158) (e:=134) (n:=64) (by kernel_rfl) (by kernel_rfl) (by kernel_rfl) (by kernel_rfl) (by kernel_rfl) (h)
theorem rep0 {W : World} (h : laidMetH Tryz.prog Rows.journalReadsAnythingRow.laid W) : Rep (ctxAt W) (.rptr false (u32A 64 Sha.kTab)) .V [.pointer (some ⟨0,0,none⟩)]:=rep_tab (table0 h) gTab0 (by decide) (by decide)
theorem table1 {W : World} (h : laidMetH Tryz.prog Rows.journalReadsAnythingRow.laid W) : Lib.TabIs Tryz.prog W "diorama/hash.constants" .u32 (Sha.kTab.map fun x=>((x.toNat : Nat) : Int)) :=
  Lib.tabIs_of_head (rest:=(Rows.journalReadsAnythingRow.laid.drop 2)) gTab1 (t:=158) (e:=134) (n:=64) (by kernel_rfl) (by kernel_rfl) (by kernel_rfl) (by kernel_rfl) (by kernel_rfl) (laid_tail (h))
theorem rep1 {W : World} (h : laidMetH Tryz.prog Rows.journalReadsAnythingRow.laid W) : Rep (ctxAt W) (.rptr false (u32A 64 Sha.kTab)) .V [.pointer (some ⟨2,0,none⟩)]:=rep_tab (table1 h) gTab1 (by decide) (by decide)
theorem glob {W : World} (h : laidMetH Tryz.prog Rows.journalReadsAnythingRow.laid W) : ∀ x v,get? gA x = some v→Rep (ctxAt W) (.rptr false v) .V [.pointer (some ⟨x,0,none⟩)]:=by
  intro x v hx
  unfold gA at hx
  rw [get?_cons] at hx
  split at hx
  · rename_i e;subst e;cases hx;exact rep1 h
  · skip
    rw [get?_cons] at hx
    split at hx
    · rename_i e;subst e;cases hx;exact rep0 h
    · cases hx
set_option maxRecDepth 100000 in
theorem contract (H : Type) (enc : TypeId × Value→H) (W : World) (base : Nat) (args : Array Value) (ds gs : List (DataW H)) (before : List MemPlace)
    (hval : ∀ (j : Nat) t v,Tryz.f3.params[j]? = some t→args[j]? = some v→Value.okWide Tryz.prog W .any base t v)
    (hW : DataW.Whole enc Tryz.prog Tryz.f3.params.toList Rows.journalReadsAnythingSpec.vars false W args.toList ds gs before) (hL : laidMetH Tryz.prog Rows.journalReadsAnythingRow.laid W) :
    Calls Tryz.prog 3 args W fun e W'=>∃ v,e = .returned v∧Rows.journalReadsAnythingSpec.post enc Tryz.prog Tryz.f3 false true false false W args v W':=by
  have hW':=hW
  obtain ⟨p,q,hA0,hV,rfl,hfz,hnd⟩:=hW
  have hA : DataW.TrodAll enc Tryz.prog W 0 (fun _=>true) true Tryz.f3.params.toList args.toList ds p:=hA0
  rw [show Tryz.f3.params = #[22] from rfl] at hA hval
  obtain ⟨v0,vs0,d0,ds0,p0,q0,hargs,rfl,rfl,h0,r0⟩:=trodAll_cons hA
  obtain ⟨rfl,rfl,rfl⟩:=trodAll_nil r0
  obtain rfl : args = #[v0]:=by cases args;simp_all
  obtain ⟨rfl,rfl⟩:=trodVars_none hV
  obtain ⟨x0,y0,z0⟩:=(Opens.slice ([] : List UInt8) strsT strC (by decide) (Opens.str strT)).arg (fun _=>by rw [strsT];rfl) (fun _ _ h=>by rw [strsT] at h;cases h) (hval 0 _ v0 rfl rfl) h0
  have hrun:=(reads_law x0 z0.1 z0.2).run W (glob hL) (vs:=[v0]) ⟨_,_,rfl,y0,rfl⟩
  refine hrun.mono fun e W' h=>?_
  obtain ⟨v,r,h',c',rfl,⟨rfl,_⟩,hr,hb⟩:=h
  obtain rfl:=rep_bool hr
  exact ⟨_,rfl,post_law kids slices (by kernel_rfl) rfl hW' rfl boolT rfl rfl rfl hb⟩
noncomputable def laidWorld (os : Os) : World :=
  { World.holding Tryz.prog os ⟨#[],#[],[]⟩ with heap:=(((World.holding Tryz.prog os ⟨#[],#[],[]⟩).heap.modify 0 fun
      | .cells _ t frozen=>.cells (Sha.kTab.map fun x=>Value.int .u32 ((x.toNat : Nat) : Int)).toArray t frozen
      | o=>o).modify 2 fun
      | .cells _ t frozen=>.cells (Sha.kTab.map fun x=>Value.int .u32 ((x.toNat : Nat) : Int)).toArray t frozen
      | o=>o) }
theorem laid_met (os : Os) : laidMet Tryz.prog Rows.journalReadsAnythingRow.laid ((laidWorld os).forCall (fun _ _=>0) ⟨#[],#[.slice none 0 0],[]⟩).memory :=
  laidMet_of_run' 8 (by kernel_rfl) (by kernel_rfl)
theorem reads (os : Os) {H : Type} (enc : TypeId × Value→H) : ∃ places,DataW.whole enc Tryz.prog ((laidWorld os).forCall (fun _ _=>0) ⟨#[],#[.slice none 0 0],[]⟩).memory Tryz.f3.params.toList Rows.journalReadsAnythingSpec.vars false #[.slice none 0 0].toList 8 = some ([.nil],[],places) :=
  ⟨[],by kernel_rfl⟩
set_option maxRecDepth 100000 in
theorem lifted (os : Os) (started : os.Started) (H : Type) (enc : TypeId × Value→H) (F : Stop.Interp) :
    ReturnsInHanded {} Tryz.checked os 3 .any ((OpenSpec.ofChange Rows.journalReadsAnythingSpec).preRow enc Tryz.prog Tryz.f3 Rows.journalReadsAnythingRow.domain false Rows.journalReadsAnythingRow.laid) (((OpenSpec.ofChange Rows.journalReadsAnythingSpec).at F).post enc Tryz.prog Tryz.f3 false true false false):=by
  obtain ⟨places,hx⟩:=reads os enc
  refine returnsInHanded_of_row (C:=Tryz.checked) (s:=(OpenSpec.ofChange Rows.journalReadsAnythingSpec)) own started (by kernel_rfl) Tryz.func3
    (witness_row_at (enc:=enc) (C:=Tryz.checked) false (laidWorld os) #[.slice none 0 0] rfl (by kernel_rfl) (by kernel_rfl) (by kernel_rfl)
      (OpenSpec.preRow_of_cond 8 hx (by kernel_rfl) (fun k hk=>by cases hk) (by kernel_rfl) (laid_met os))) ?_
  intro W base args ds gs before hval hW _ _ _ hL _ _
  exact contract H enc W base args ds gs before hval hW hL
theorem said : Rows.JournalReadsAnythingSaid :=
  OpenClaim.holds_of_cond 3 Tryz.f3 rfl rfl rfl rfl rfl rfl rfl ⟨rfl,rfl,rfl,rfl,rfl⟩ rfl rfl rfl rfl rfl (by kernel_rfl) Tryz.func3 (by kernel_rfl)
    (of_decide_eq_true (by kernel_rfl)) (by unfold Func.isWrapper;first | (rw [if_pos (by decide +kernel)];kernel_rfl) | (rw [if_neg (by decide +kernel)];exact ⟨rfl,rfl⟩))
    (fun os started H enc _ F=>by rw [OpenClaim.pre_eq_preRow];exact lifted os started H enc F)
theorem plain (f : FuncId) (fn : Func) (hf : Tryz.pinned.checked.prog.funcNamed "diorama/dioramalaw42.JournalReadsAnything" = some f) (hfn : Tryz.pinned.checked.prog.funcs[f]? = some fn) :
    false = Tryz.pinned.checked.prog.looks []∧∀ (j : Nat) t,fn.params[j]? = some t→Tryz.pinned.checked.prog.wantsStandIn t = false:=by
  obtain rfl : f = 3:=Option.some.inj ((show Tryz.prog.funcNamed "diorama/dioramalaw42.JournalReadsAnything" = some 3 by kernel_rfl).symm.trans hf) |>.symm
  obtain rfl : fn = Tryz.f3:=(Option.some.inj (Tryz.func3.symm.trans hfn)).symm
  refine ⟨by kernel_rfl,fun j t ht=>?_⟩
  have hall : (Tryz.f3.params.toList.all fun t=>!Tryz.prog.wantsStandIn t) = true:=by kernel_rfl
  have hm:=List.all_eq_true.1 hall t (by have:=Array.mem_of_getElem? ht;simpa using this)
  have hm2 : Tryz.prog.wantsStandIn t = false:=by simpa using hm
  exact hm2
theorem card : Rows.JournalReadsAnythingCardSaid :=
  Claim7.holds_tied_plain_at .later [] _ _ _ _ said (fun _ h=>by cases h) (by kernel_rfl) (fun _ h=>by cases h) journalReadsAnything_row_tie rfl ⟨rfl,rfl⟩ (by kernel_rfl) rfl plain (by kernel_rfl)
end Go.Proofs.YtmbldnahcmkpgaaGreatDoor.journalReadsAnything
