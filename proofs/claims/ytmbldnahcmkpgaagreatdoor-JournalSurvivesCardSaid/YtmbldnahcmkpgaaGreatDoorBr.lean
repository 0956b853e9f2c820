/- A region that draws its order: two operations of which take objects, one behind the other; late reads may come behind the moves at its end. How scripts of steps open. -/
import Derived.Test.YtmbldnahcmkpgaaGreatDoorBe
import Derived.Test.YtmbldnahcmkpgaaGreatDoorFo
import Derived.Test.YtmbldnahcmkpgaaGreatDoorBi
import Derived.OpenShut
set_option linter.unusedSimpArgs false
set_option linter.unusedVariables false
namespace Go.V
open Go.RowKit Go.L Go.Chain
theorem late_callB {F : Fr} {ops : Array Oper} {g e0 e1 h : Asc} {its : List It} {N : Nat} {late : List Nat} {plan : List (Nat × Nat)} {d1 : Tmp} {ty : TypeId} {pos : String} {af : Array Edge} {gd : Option (Nat × Bool)} {tops : List Oper} {K : St→Prop} {fid : FuncId} {fn : Func} {callee : Operand} {xs : Array Operand} {tys : Array TypeId} {u1 u2 ax args argsC r0 : AV} {g' hin h1 hr H2 eL hL e' : Asc} (bw : Bool) (σ τ : List (Nat × Nat)) (v : AV) (hn : Asc) (N' : Nat)
    (ct : Ok F.P fid g' hin args (fun r h'=>r = r0∧h' = h1)) (hf : F.P.funcs[fid]? = some fn) (hG : GOk g) (hg' : subG g' g) (hE : selEO (nrem late) e0 its some = some eL) (hH : selHO allB h its some = some hL)
    (hce : V.ev g eL callee = some (.fn (.func fid) u1 u2)) (hax : evs g eL xs.toList = some ax) (hc1 : isChain u1 = true) (hc2 : isChain ax = true) (hcat : catC u1 (catC ax u2) = argsC) (hbd : fn.body.isNone = false) (hnm : (fn.name == "runtime.NumGoroutine") = false)
    (hw : wants ops ⟨some d1,.call ⟨.value callee,xs,tys⟩,ty,pos,af,gd⟩ eL = some true) (hσ : passB σ (keys hin) = true) (hdr : dropO hL (passed σ hin) some = some hr) (hcat2 : catO hn hr some = some H2) (hfr : (Nat.ble N N' && lowB N' (keys hn)) = true)
    (hv : View hL (fun id=>bw = true∧memB id (passed σ hin) = false) (fun i=>memB i (keys hin) = true) (sg σ) args argsC) (hnf : NoFr args) (hhin : HeapLe (fun i=>memB i (keys hin) = true) (sg σ) hL hin) (hnfh : ∀ i av,get? hin i = some av→NoFr av) (hback : Back bw σ τ hin N N' r0 h1 v hn)
    (hl : LateLH F.P ops g e1 H2 late plan its its) (hE2 : selEO allB e1 its some = some e') (hk : Seq F ops tops ⟨(d1,v)::e',H2,g,N'⟩ K) :
    ∃ H2 v1 ns1 N2,OpOk F.P ⟨some d1,.call ⟨.value callee,xs,tys⟩,ty,pos,af,gd⟩ g (selE (nrem late) its ++ e0) (selH allB its ++ h) (some v1) H2 ns1∧(N ≤ N2∧∀ n ∈ ns1,N ≤ n∧n < N2)∧wants ops ⟨some d1,.call ⟨.value callee,xs,tys⟩,ty,pos,af,gd⟩ (selE (nrem late) its ++ e0) = some true ∧
      (∀ it ∈ its,it.j ∈ late→LateOkH F.P ops g (selE (lateM late plan it.j) its ++ e1) H2 it)∧Seq F ops tops ⟨(d1,v1)::(selE allB its ++ e1),H2,g,N2⟩ K:=by
  rw [selEO_eq] at hE hE2
  rw [selHO_eq] at hH
  rw [dropO_eq] at hdr
  rw [catO_eq] at hcat2
  cases hE;cases hH;cases hE2;cases hdr;cases hcat2
  rw [Bool.and_eq_true] at hfr
  refine ⟨_,v,frK N (keys hn),N',call_detE hce hax hc1 hc2 hcat hf hbd hnm ct (hG.hand hg') bw σ τ hσ hv hnf hhin hnfh hback,⟨Nat.le_of_ble_eq_true hfr.1,fun n hn'=>?_⟩,hw,lateLH_ok hl,hk⟩
  obtain ⟨q1,q2⟩:=frK_ok.1 hn'
  have:=List.all_eq_true.1 hfr.2 n q1
  exact ⟨q2,by simpa [Nat.blt_eq] using this⟩
end Go.V

namespace Go.Proofs.YtmbldnahcmkpgaaGreatDoor
open Go.V Go.RowKit Go.L Go.Lx Go.Dk Go.Jn Go.ChangeShapes Go.WideShapes
theorem uj_int : Tryz.prog.underlying 3 = some (.int .i64):=by kernel_rfl
theorem uj_ints : Tryz.prog.underlying 41 = some (.slice 3):=by kernel_rfl
theorem uj_u8 : Tryz.prog.underlying 5 = some (.int .u8):=by kernel_rfl
theorem uj_step : Tryz.prog.underlying 43 = some (.struct #[⟨"Kind", 3,0,false, "", "", 0⟩,⟨"I", 3,1,false, "", "", 8⟩,⟨"Bit", 3,2,false, "", "", 16⟩,⟨"Size", 3,3,false, "", "", 24⟩,⟨"Fill", 5,4,false, "", "", 32⟩,⟨"Picks", 41,5,false, "", "", 40⟩]):=by kernel_rfl
theorem cj_step : Tryz.prog.cellsOf 43 = 6:=by kernel_rfl
theorem cj_int : Tryz.prog.cellsOf 3 = 1:=by kernel_rfl
structure StepOk (o : JStep) : Prop where
  k : I64 o.K
  i : I64 o.I
  b : I64 o.Bit
  s : I64 o.Size
  p : o.Pk.length ≤ 9223372036854775807
theorem stepO {H : Type} {enc : TypeId × Value→H} {W : World} : Opens enc Tryz.prog W 43 stepA StepOk :=
  (Opens.struct uj_step cj_step (OpensF.cons rfl (by kernel_rfl) (Opens.int uj_int) (OpensF.cons rfl (by kernel_rfl) (Opens.int uj_int) (OpensF.cons rfl (by kernel_rfl) (Opens.int uj_int) (OpensF.cons rfl (by kernel_rfl) (Opens.int uj_int) (OpensF.cons rfl (by kernel_rfl) (Opens.u8 uj_u8) (OpensF.cons rfl (by kernel_rfl) (Opens.slice (0 : Int) uj_ints cj_int (by decide) (Opens.int uj_int)) OpensF.nil))))))).as
    (fun p=>(⟨p.1,p.2.1,p.2.2.1,p.2.2.2.1,p.2.2.2.2.1,p.2.2.2.2.2.1⟩ : JStep)) (fun _ _=>rfl) (fun p h=>⟨bounds_i64 h.1,bounds_i64 h.2.1,bounds_i64 h.2.2.1,bounds_i64 h.2.2.2.1,h.2.2.2.2.2.1.1⟩)
end Go.Proofs.YtmbldnahcmkpgaaGreatDoor
