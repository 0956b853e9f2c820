/- dioramalaw42.JournalSurvives, whatever its arguments: the call returns true, and its arguments read behind the call as they did before, where the listed package variables read as listed. -/
import Derived.Test.YtmbldnahcmkpgaaGreatDoorBq
import Derived.Test.YtmbldnahcmkpgaaGreatDoorKz
import Derived.Test.YtmbldnahcmkpgaaGreatDoorCards
import Derived.Test.YtmbldnahcmkpgaaGreatDoorTie
import Derived.WalkKit
import Derived.ProofKit
import Derived.OpenShut
import Derived.Deep.DeepHandedRow
import Derived.Lib.LaidTab
set_option linter.unusedSimpArgs false
set_option linter.unusedVariables false
namespace Go.Proofs.YtmbldnahcmkpgaaGreatDoor.journalSurvives
open Go.ChangeShapes Go.WideShapes Go.ChangeAt Go.RowKit Go.V
theorem own : ownKnob Tryz.prog.godebug = none:=by kernel_rfl
theorem kids : Kids Tryz.prog (· < Tryz.prog.types.size):=kids_rows (by kernel_rfl) (by kernel_rfl)
theorem slices : ∀ t e,t < Tryz.prog.types.size→Tryz.prog.underlying t = some (.slice e)→0 < Tryz.prog.cellsOf e:=slices_full_of _ (by kernel_rfl)
theorem boolT : Tryz.prog.underlying 4 = some .bool:=by kernel_rfl
theorem intT : Tryz.prog.underlying 3 = some (.int .i64):=by kernel_rfl
theorem stepsT : Tryz.prog.underlying 40 = some (.slice 43):=by kernel_rfl
theorem u8T : Tryz.prog.underlying 5 = some (.int .u8):=by kernel_rfl
theorem intC : Tryz.prog.cellsOf 3 = 1:=by kernel_rfl
theorem intsT : Tryz.prog.underlying 41 = some (.slice 3):=by kernel_rfl
theorem stepT : Tryz.prog.underlying 43 = some (.struct #[⟨"Kind", 3,0,false, "", "", 0⟩,⟨"I", 3,1,false, "", "", 8⟩,⟨"Bit", 3,2,false, "", "", 16⟩,⟨"Size", 3,3,false, "", "", 24⟩,⟨"Fill", 5,4,false, "", "", 32⟩,⟨"Picks", 41,5,false, "", "", 40⟩]):=by kernel_rfl
theorem gTab0 : Tryz.prog.globalNamed "diorama/dioramaref02.constants" = some 0:=by kernel_rfl
theorem gTab1 : Tryz.prog.globalNamed "diorama/hash.constants" = some 2:=by kernel_rfl
theorem table0 {W : World} (h : laidMetH Tryz.prog Rows.journalSurvivesRow.laid W) : Lib.TabIs Tryz.prog W "diorama/dioramaref02.constants" .u32 (Sha.kTab.map fun x=>((x.toNat : Nat) : Int)) :=
  Lib.tabIs_of_head (rest:=(Rows.journalSurvivesRow.laid.drop 1)) gTab0 (t:=158) (e:=134) (n:=64) (by kernel_rfl) (by kernel_rfl) (by kernel_rfl) (by kernel_rfl) (by kernel_rfl) (h)
theorem rep0 {W : World} (h : laidMetH Tryz.prog Rows.journalSurvivesRow.laid W) : Rep (ctxAt W) (.rptr false (u32A 64 Sha.kTab)) .V [.pointer (some ⟨0,0,none⟩)]:=rep_tab (table0 h) gTab0 (by decide) (by decide)
theorem table1 {W : World} (h : laidMetH Tryz.prog Rows.journalSurvivesRow.laid W) : Lib.TabIs Tryz.prog W "diorama/hash.constants" .u32 (Sha.kTab.map fun x=>((x.toNat : Nat) : Int)) :=
  Lib.tabIs_of_head (rest:=(Rows.journalSurvivesRow.laid.drop 2)) gTab1 (t:=158) (e:=134) (n:=64) (by kernel_rfl) (by kernel_rfl) (by kernel_rfl) (by kernel_rfl) (by kernel_rfl) (laid_tail (h))
theorem rep1 {W : World} (h : laidMetH Tryz.prog Rows.journalSurvivesRow.laid W) : Rep (ctxAt W) (.rptr false (u32A 64 Sha.kTab)) .V [.pointer (some ⟨2,0,none⟩)]:=rep_tab (table1 h) gTab1 (by decide) (by decide)
theorem glob {W : World} (h : laidMetH Tryz.prog Rows.journalSurvivesRow.laid W) : ∀ x v,get? gA x = some v→Rep (ctxAt W) (.rptr false v) .V [.pointer (some ⟨x,0,none⟩)]:=by
  intro x v hx
  unfold gA at hx
  rw [get?_cons] at hx
  split at hx
  · rename_i e;subst e;cases hx;exact rep1 h
  · skip
    rw [get?_cons] at hx
    split at hx
    · rename_i e;subst e;cases hx;exact rep0 h
    · cases hx
set_option maxRecDepth 100000 in
theorem contract (H : Type) (enc : TypeId × Value→H) (W : World) (base : Nat) (args : Array Value) (ds gs : List (DataW H)) (before : List MemPlace)
    (hval : ∀ (j : Nat) t v,Tryz.f4.params[j]? = some t→args[j]? = some v→Value.okWide Tryz.prog W .any base t v)
    (hW : DataW.Whole enc Tryz.prog Tryz.f4.params.toList Rows.journalSurvivesSpec.vars false W args.toList ds gs before) (hL : laidMetH Tryz.prog Rows.journalSurvivesRow.laid W) :
    Calls Tryz.prog 4 args W fun e W'=>∃ v,e = .returned v∧Rows.journalSurvivesSpec.post enc Tryz.prog Tryz.f4 false true false false W args v W':=by
  have hW':=hW
  obtain ⟨p,q,hA0,hV,rfl,hfz,hnd⟩:=hW
  have hA : DataW.TrodAll enc Tryz.prog W 0 (fun _=>true) true Tryz.f4.params.toList args.toList ds p:=hA0
  rw [show Tryz.f4.params = #[3,40,43,5,41] from rfl] at hA hval
  obtain ⟨v0,vs0,d0,ds0,p0,q0,hargs,rfl,rfl,h0,r0⟩:=trodAll_cons hA
  obtain ⟨v1,vs1,d1,ds1,p1,q1,rfl,rfl,rfl,h1,r1⟩:=trodAll_cons r0
  obtain ⟨v2,vs2,d2,ds2,p2,q2,rfl,rfl,rfl,h2,r2⟩:=trodAll_cons r1
  obtain ⟨v3,vs3,d3,ds3,p3,q3,rfl,rfl,rfl,h3,r3⟩:=trodAll_cons r2
  obtain ⟨v4,vs4,d4,ds4,p4,q4,rfl,rfl,rfl,h4,r4⟩:=trodAll_cons r3
  obtain ⟨rfl,rfl,rfl⟩:=trodAll_nil r4
  obtain rfl : args = #[v0,v1,v2,v3,v4]:=by cases args;simp_all
  obtain ⟨rfl,rfl⟩:=trodVars_none hV
  obtain ⟨x0,y0,z0⟩:=(Opens.int intT).arg (fun _=>by rw [intT];rfl) (fun _ _ h=>by rw [intT] at h;cases h) (hval 0 _ v0 rfl rfl) h0
  obtain ⟨x1,y1,z1⟩:=(Opens.slice Go.Jn.jstZ stepsT cj_step (by decide) stepO).arg (fun _=>by rw [stepsT];rfl) (fun _ _ h=>by rw [stepsT] at h;cases h) (hval 1 _ v1 rfl rfl) h1
  obtain ⟨x2,y2,z2⟩:=stepO.arg (fun _=>by rw [stepT];rfl) (fun _ _ h=>by rw [stepT] at h;cases h) (hval 2 _ v2 rfl rfl) h2
  obtain ⟨x3,y3,z3⟩:=(Opens.u8 u8T).arg (fun _=>by rw [u8T];rfl) (fun _ _ h=>by rw [u8T] at h;cases h) (hval 3 _ v3 rfl rfl) h3
  obtain ⟨x4,y4,z4⟩:=(Opens.slice (0 : Int) intsT intC (by decide) (Opens.int intT)).arg (fun _=>by rw [intsT];rfl) (fun _ _ h=>by rw [intsT] at h;cases h) (hval 4 _ v4 rfl rfl) h4
  have hrun:=(survives_law x0 (bounds_i64 z0) x1 z1 x2 z2 x3 x4 z4.1).run W (glob hL) (vs:=[v0,v1,v2,v3,v4]) ⟨_,_,rfl,y0,_,_,rfl,y1,_,_,rfl,y2,_,_,rfl,y3,_,_,rfl,y4,rfl⟩
  refine hrun.mono fun e W' h=>?_
  obtain ⟨v,r,h',c',rfl,⟨rfl,_⟩,hr,hb⟩:=h
  obtain rfl:=rep_bool hr
  exact ⟨_,rfl,post_law kids slices (by kernel_rfl) rfl hW' rfl boolT rfl rfl rfl hb⟩
noncomputable def laidWorld (os : Os) : World :=
  { World.holding Tryz.prog os ⟨#[],#[],[]⟩ with heap:=(((World.holding Tryz.prog os ⟨#[],#[],[]⟩).heap.modify 0 fun
      | .cells _ t frozen=>.cells (Sha.kTab.map fun x=>Value.int .u32 ((x.toNat : Nat) : Int)).toArray t frozen
      | o=>o).modify 2 fun
      | .cells _ t frozen=>.cells (Sha.kTab.map fun x=>Value.int .u32 ((x.toNat : Nat) : Int)).toArray t frozen
      | o=>o) }
theorem laid_met (os : Os) : laidMet Tryz.prog Rows.journalSurvivesRow.laid ((laidWorld os).forCall (fun _ _=>0) ⟨#[],#[.int .i64 0,.slice none 0 0,.agg #[.int .i64 0,.int .i64 0,.int .i64 0,.int .i64 0,.int .u8 0,.slice none 0 0],.int .u8 0,.slice none 0 0],[]⟩).memory :=
  laidMet_of_run' 8 (by kernel_rfl) (by kernel_rfl)
theorem reads (os : Os) {H : Type} (enc : TypeId × Value→H) : ∃ places,DataW.whole enc Tryz.prog ((laidWorld os).forCall (fun _ _=>0) ⟨#[],#[.int .i64 0,.slice none 0 0,.agg #[.int .i64 0,.int .i64 0,.int .i64 0,.int .i64 0,.int .u8 0,.slice none 0 0],.int .u8 0,.slice none 0 0],[]⟩).memory Tryz.f4.params.toList Rows.journalSurvivesSpec.vars false #[.int .i64 0,.slice none 0 0,.agg #[.int .i64 0,.int .i64 0,.int .i64 0,.int .i64 0,.int .u8 0,.slice none 0 0],.int .u8 0,.slice none 0 0].toList 8 = some ([.lit (.int .i64 0),.nil,.agg [.lit (.int .i64 0),.lit (.int .i64 0),.lit (.int .i64 0),.lit (.int .i64 0),.lit (.int .u8 0),.nil],.lit (.int .u8 0),.nil],[],places) :=
  ⟨[],by kernel_rfl⟩
set_option maxRecDepth 100000 in
theorem lifted (os : Os) (started : os.Started) (H : Type) (enc : TypeId × Value→H) (F : Stop.Interp) :
    ReturnsInHanded {} Tryz.checked os 4 .any ((OpenSpec.ofChange Rows.journalSurvivesSpec).preRow enc Tryz.prog Tryz.f4 Rows.journalSurvivesRow.domain false Rows.journalSurvivesRow.laid) (((OpenSpec.ofChange Rows.journalSurvivesSpec).at F).post enc Tryz.prog Tryz.f4 false true false false):=by
  obtain ⟨places,hx⟩:=reads os enc
  refine returnsInHanded_of_row (C:=Tryz.checked) (s:=(OpenSpec.ofChange Rows.journalSurvivesSpec)) own started (by kernel_rfl) Tryz.func4
    (witness_row_at (enc:=enc) (C:=Tryz.checked) false (laidWorld os) #[.int .i64 0,.slice none 0 0,.agg #[.int .i64 0,.int .i64 0,.int .i64 0,.int .i64 0,.int .u8 0,.slice none 0 0],.int .u8 0,.slice none 0 0] rfl (by kernel_rfl) (by kernel_rfl) (by kernel_rfl)
      (OpenSpec.preRow_of_cond 8 hx (by kernel_rfl) (fun k hk=>by cases hk) (by kernel_rfl) (laid_met os))) ?_
  intro W base args ds gs before hval hW _ _ _ hL _ _
  exact contract H enc W base args ds gs before hval hW hL
theorem said : Rows.JournalSurvivesSaid :=
  OpenClaim.holds_of_cond 4 Tryz.f4 rfl rfl rfl rfl rfl rfl rfl ⟨rfl,rfl,rfl,rfl,rfl⟩ rfl rfl rfl rfl rfl (by kernel_rfl) Tryz.func4 (by kernel_rfl)
    (of_decide_eq_true (by kernel_rfl)) (by unfold Func.isWrapper;first | (rw [if_pos (by decide +kernel)];kernel_rfl) | (rw [if_neg (by decide +kernel)];exact ⟨rfl,rfl⟩))
    (fun os started H enc _ F=>by rw [OpenClaim.pre_eq_preRow];exact lifted os started H enc F)
theorem plain (f : FuncId) (fn : Func) (hf : Tryz.pinned.checked.prog.funcNamed "diorama/dioramalaw42.JournalSurvives" = some f) (hfn : Tryz.pinned.checked.prog.funcs[f]? = some fn) :
    false = Tryz.pinned.checked.prog.looks []∧∀ (j : Nat) t,fn.params[j]? = some t→Tryz.pinned.checked.prog.wantsStandIn t = false:=by
  obtain rfl : f = 4:=Option.some.inj ((show Tryz.prog.funcNamed "diorama/dioramalaw42.JournalSurvives" = some 4 by kernel_rfl).symm.trans hf) |>.symm
  obtain rfl : fn = Tryz.f4:=(Option.some.inj (Tryz.func4.symm.trans hfn)).symm
  refine ⟨by kernel_rfl,fun j t ht=>?_⟩
  have hall : (Tryz.f4.params.toList.all fun t=>!Tryz.prog.wantsStandIn t) = true:=by kernel_rfl
  have hm:=List.all_eq_true.1 hall t (by have:=Array.mem_of_getElem? ht;simpa using this)
  have hm2 : Tryz.prog.wantsStandIn t = false:=by simpa using hm
  exact hm2
theorem card : Rows.JournalSurvivesCardSaid :=
  Claim7.holds_tied_plain_at .later [] _ _ _ _ said (fun _ h=>by cases h) (by kernel_rfl) (fun _ h=>by cases h) journalSurvives_row_tie rfl ⟨rfl,rfl⟩ (by kernel_rfl) rfl plain (by kernel_rfl)
end Go.Proofs.YtmbldnahcmkpgaaGreatDoor.journalSurvives
