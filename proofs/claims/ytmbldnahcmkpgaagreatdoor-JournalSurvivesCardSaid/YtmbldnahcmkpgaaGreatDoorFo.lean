/- Drawn regions whose tail waits by way of its own operations. A drawn region with one operation that turns an object and gives a value, while operations that only give values may still come behind it. -/
import Derived.Test.YtmbldnahcmkpgaaGreatDoorFe
set_option linter.unusedSimpArgs false
set_option linter.unusedVariables false
namespace Go.V
open Go.RowKit Go.L Go.Chain
section
variable {P : Program} {ops : Array Oper} {Q : Exit→Act→World→Prop}
theorem og3 {I : List Nat→Act→World→Prop} {ds : List Nat} {m : Nat} (h1 : ds.Nodup) (hlt : ∀ j ∈ ds,j < ops.size) (hac : Og.acyc ops = true)
    (htail : ∀ j,j < ops.size→j ∈ ds ∨ ∀ i ∈ ds,∃ L n,Og.cov ops L n j i = true)
    (items : ∀ rem : List Nat,rem.Nodup→(∀ i ∈ rem,i ∈ ds)→∀ j ∈ rem,(∀ i,waits .any ops j i = true→i ∈ ds→i ∉ rem)→(∀ i k,i ∈ ds→i ∉ rem→waits .any ops i k = true→k ∈ ds→k ∉ rem)→∀ a w,I rem a w→wpOp P ops Q j (fun a' w'=>I (rem.erase j) a' w') a w)
    (rest : ∀ a w,I [] a w→wpAny P .any ops Q m (afterL ops ds) a w) :
    ∀ (k : Nat) (rem : List Nat) (listed : Array Bool) (a : Act) (w : World),rem.length = k→rem.Nodup→(∀ i ∈ rem,i ∈ ds)→listed.size = ops.size →
      (∀ i,i < ops.size→(listed.getD i false = true ↔ i ∈ ds∧i ∉ rem))→Og.dclosed ops listed→I rem a w→wpAny P .any ops Q (m + k) listed a w:=by
  intro k
  induction k with
  | zero =>
    intro rem listed a w hk _ _ hsz hiff _ hI
    have hrem : rem = []:=List.length_eq_zero_iff.1 hk
    subst hrem
    have : listed = afterL ops ds:=by
      refine Array.ext (by simp [afterL,hsz]) ?_
      intro i hi hi'
      have:=hiff i (by omega)
      have hin : (afterL ops ds)[i] = ds.contains i:=by simp [afterL]
      rw [hin,Bool.eq_iff_iff]
      have hge : listed.getD i false = listed[i]:=by simp [hi]
      rw [hge] at this
      rw [this]
      simp
    rw [this]
    exact rest a w hI
  | succ k ih =>
    intro rem listed a w hk hnd hsub hsz hiff hdc hI
    obtain ⟨p0,hp0⟩ : ∃ p,p ∈ rem:=by
      cases rem with
      | nil=>cases hk
      | cons p _=>exact ⟨p,List.mem_cons_self⟩
    have hun : ∀ p ∈ rem,listed.getD p false = false:=by
      intro p hp
      cases hv : listed.getD p false with
      | false=>rfl
      | true=>exact absurd hp ((hiff p (hlt p (hsub p hp))).1 hv).2
    refine ⟨fun hr=>absurd hr (Og.progress hsz hac p0 (hlt p0 (hsub p0 hp0)) (hun p0 hp0)),fun j hj=>?_⟩
    have hjs : j < ops.size:=by
      obtain ⟨_,o,ho,_⟩:=mem_ready.1 hj
      exact (Array.getElem?_eq_some_iff.1 ho).1
    rcases htail j hjs with hp | hc
    · have hpr : j ∈ rem:=by
        refine Classical.byContradiction fun hn=>?_
        have ht:=(hiff j hjs).2 ⟨hp,hn⟩
        have hf:=(mem_ready.1 hj).1
        rw [getD_false_of_true hf] at ht
        cases ht
      refine wpOp_mono ?_ (items rem hnd hsub j hpr (fun i hw hi=>((hiff i (hlt i hi)).1 (Og.waits_listed hj hw)).2) (fun i k hi hir hw hkd=>((hiff k (hlt k hkd)).1 (dclosed_waits hdc ((hiff i (hlt i hi)).2 ⟨hi,hir⟩) hw)).2) a w hI)
      intro a' w' hI'
      refine ih (rem.erase j) (listed.setIfInBounds j true) a' w' ?_ (hnd.erase j) (fun q hq=>hsub q (List.mem_of_mem_erase hq)) (by simpa using hsz) ?_ (Og.dclosed_set hdc hj) hI'
      · rw [List.length_erase_of_mem hpr,hk];rfl
      · intro i hi
        by_cases hpi : j = i
        · subst hpi
          constructor
          · intro _;exact ⟨hp,hnd.not_mem_erase⟩
          · intro _
            have h' : j < listed.size:=by omega
            simp [h']
        · rw [getD_set_ne false hpi,hiff i hi]
          constructor
          · rintro ⟨h2,h3⟩;exact ⟨h2,fun h=>h3 (List.mem_of_mem_erase h)⟩
          · rintro ⟨h2,h3⟩
            exact ⟨h2,fun h=>h3 ((hnd.mem_erase_iff).2 ⟨fun e=>hpi e.symm,h⟩)⟩
    · obtain ⟨L,n,hc⟩:=hc p0 (hsub p0 hp0)
      have:=Og.cov_listed hdc hj _ _ hc
      rw [hun p0 hp0] at this
      cases this
end
end Go.V

namespace Go.V
open Go.RowKit Go.L Go.Chain
def LateOkH (P : Program) (ops : Array Oper) (g eL H : Asc) (it : It) : Prop:=it.n = []∧∃ o,ops[it.j]? = some o∧o.dst = some it.d∧wants ops o eL = some true∧OpOk P o g eL H (some it.v) H []
def drawLC (ops : Array Oper) (n : Nat) (plan : List (Nat × Nat)) (late : List Nat) (t1 : Nat) (tail : List Nat) : Bool :=
  nodupB ((mkP plan).map (·.1)) && (((mkP plan).map (·.1)).all (fun j=>Nat.blt j ops.size && (match dstOf ops j with | some d=>Nat.blt d n | none=>false)) && (nodupB (dstsOf ops (mkP plan)) && (Og.acyc ops && (ancM ops plan plan 0 &&
    (!memB t1 ((mkP plan).map (·.1)) && (Nat.blt t1 ops.size && (((List.range ops.size).all fun j=>memB j ((mkP plan).map (·.1) ++ [t1]) || ((mkP plan).map (·.1) ++ [t1]).all fun i=>Og.cov ops ((mkP plan).map (·.1) ++ t1::tail) ((mkP plan).map (·.1) ++ [t1]).length j i) &&
    (((mkP plan).map (·.1)).all (fun i=>memB i late || Og.cov ops ((mkP plan).map (·.1)) ((mkP plan).map (·.1)).length t1 i) && (tailB ops tail (afterL ops ((mkP plan).map (·.1) ++ [t1])) && Nat.beq (((mkP plan).map (·.1) ++ [t1]).length + tail.length) ops.size)))))))))
def drawEB (ops : Array Oper) (n : Nat) (plan : List (Nat × Nat)) (late : List Nat) (t1 d1 : Nat) (tail : List Nat) : Bool:=Nat.blt d1 n && (!memB d1 (dstsOf ops (mkP plan)) && drawLC ops n plan late t1 tail)
set_option maxHeartbeats 1000000 in
def lateM (late : List Nat) (plan : List (Nat × Nat)) (j : Nat) : Nat→Bool:=fun i=>nrem late i || tbb (maskOf plan j) i
theorem anc_done {ops : Array Oper} {plan : List (Nat × List Nat)} (hb : ancB ops plan plan [] = true) (hac : Og.acyc ops = true) (hlt : ∀ j ∈ plan.map (·.1),j < ops.size) {rem : List Nat}
    (hdown : ∀ i k,i ∈ plan.map (·.1)→i ∉ rem→waits .any ops i k = true→k ∈ plan.map (·.1)→k ∉ rem) : ∀ (j : Nat) (anc : List Nat),(j,anc) ∈ plan→(∀ k,waits .any ops j k = true→k ∈ plan.map (·.1)→k ∉ rem)→∀ i ∈ anc,i ∉ rem:=by
  intro j
  induction j using Nat.strongRecOn with
  | _ j ih =>
    intro anc hp hw i hi
    obtain ⟨a,b,e⟩:=List.append_of_mem hp
    obtain ⟨h1,h2⟩:=ancB_spec hb e i hi
    have hjd : j ∈ plan.map (·.1):=List.mem_map.2 ⟨_,hp,rfl⟩
    have hid : i ∈ plan.map (·.1):=by
      rcases h1 with h1 | h1
      · rw [e];simp only [List.map_append];exact List.mem_append_left _ h1
      · cases h1
    rcases h2 with h2 | ⟨q,q1,q2,q3⟩
    · exact hw i h2 hid
    · have hqd : q.1 ∈ plan.map (·.1):=List.mem_map.2 ⟨q,q1,rfl⟩
      have hqr:=hw q.1 q2 hqd
      exact ih q.1 (acyc_lt hac (hlt j hjd) q2) q.2 q1 (fun k hk hkd=>hdown q.1 k hqd hqr hk hkd) i q3
theorem VC.drawE {F : Fr} {id : Nat} {l : List Oper} {e h g : Asc} {N : Nat} {Q : Exit→St→Prop} (plan : List (Nat × Nat)) (late : List Nat) (t1 d1 : Nat) (tail : List Nat) (hm : F.P.follows .mixedOrders = true) (hst : drawEB l.toArray F.n plan late t1 d1 tail = true) {e0 : Asc} (he0 : dropO e (dstsOf l.toArray (mkP plan)) some = some e0) {e1 : Asc} (he1 : dropO e0 [d1] some = some e1)
    {op : Op} {ty : TypeId} {pos : String} {af : Array Edge} {gd : Option (Nat × Bool)} (ho1 : l.toArray[t1]? = some ⟨some d1,op,ty,pos,af,gd⟩) {tops : List Oper} (htops : topsO l.toArray tail some = some tops)
    (hD : DSeq F.P l.toArray g e0 h (mkP plan) [] N [] (fun its N' _=>∃ H2 v1 ns1 N2,OpOk F.P ⟨some d1,op,ty,pos,af,gd⟩ g (selE (nrem late) its ++ e0) (selH allB its ++ h) (some v1) H2 ns1∧(N' ≤ N2∧∀ n ∈ ns1,N' ≤ n∧n < N2)∧wants l.toArray ⟨some d1,op,ty,pos,af,gd⟩ (selE (nrem late) its ++ e0) = some true ∧
      (∀ it ∈ its,it.j ∈ late→LateOkH F.P l.toArray g (selE (lateM late plan it.j) its ++ e1) H2 it)∧Seq F l.toArray tops ⟨(d1,v1)::(selE allB its ++ e1),H2,g,N2⟩ (Q .normal))) : VC F (.region id l.toArray true) Q ⟨e,h,g,N⟩:=by
  simp only [drawEB,drawLC,Bool.and_eq_true] at hst
  obtain ⟨sd1,sd2,s1,s2,s3,s4,s6,s7,s8,s9,s10,s11,s12⟩:=hst
  have hd1n : d1 < F.n:=by simpa [Nat.blt_eq] using sd1
  have hd1p : d1 ∉ dstsOf l.toArray (mkP plan):=fun hx=>by rw [memB_ok.2 hx] at sd2;cases sd2
  obtain ⟨tops',htops1,htops2⟩:=topsO_ok htops
  cases htops2
  intro a w hsim QC hQ
  refine F.L.any hm (Og.acyc_def s4) ?_
  obtain ⟨its,N',B',I,⟨H2,v1,ns1,N2,hok1,⟨hN2,hns1⟩,hw1,hlate,hseq⟩,hmap,_,hdj,hitems,hinit,hfin⟩:=drawn_core (B:=[]) (mkP plan) (fun _ _ h=>by cases h) s1 s2 s3 s4 (ancM_ok (fun i hi=>by rw [tbb_zero] at hi;cases hi) s6) he0 hD a w hsim
  have hP:=nodupB_ok s1
  have hlt : ∀ j ∈ (mkP plan).map (·.1),j < l.toArray.size:=fun j hj=>by
    have:=List.all_eq_true.1 s2 j hj
    simp only [Bool.and_eq_true] at this
    simpa [Nat.blt_eq] using this.1
  have ht1 : t1 ∉ (mkP plan).map (·.1):=fun hx=>by rw [memB_ok.2 hx] at s7;cases s7
  have hds : ((mkP plan).map (·.1) ++ [t1]).Nodup:=List.nodup_append.2 ⟨hP,by simp,fun x hx y hy e=>by
    rw [List.mem_singleton.1 hy] at e
    exact ht1 (e ▸ hx)⟩
  have her : ((mkP plan).map (·.1) ++ [t1]).erase t1 = (mkP plan).map (·.1):=by
    rw [List.erase_append_right _ ht1];simp
  have hln : ∀ it ∈ its,it.j ∈ late→it.n = []:=fun it hit hj=>(hlate it hit hj).1
  let I2 : List Nat→Act→World→Prop:=fun rem a w=>(∀ i ∈ rem,i ∈ late∧i ∈ (mkP plan).map (·.1))∧∃ (c : Ctx) (ns : List Nat),c.w = w∧Out F.c0 F.h0 H2 ns c∧EnvRep c g e1 a∧(∀ it ∈ its,it.j ∉ rem→it.d < a.tmps.size∧Rep c it.v .V [a.tmps.getD it.d undef])∧Rep c v1 .V [a.tmps.getD d1 undef] ∧
    (∀ i,c.A i→i < N2)∧a.tmps.size = F.n∧a.defers = F.D∧(∀ i,F.c0.A i→i < F.N0)∧∀ x v,get? g x = some v→Rep F.c0 (.rptr false v) .V [.pointer (some ⟨x,0,none⟩)]
  let J : List Nat→Act→World→Prop:=fun rem a w=>if t1 ∈ rem then I (rem.erase t1) a w else I2 rem a w
  have henvL : ∀ {e' : Asc} {c : Ctx} {a : Act} {r : List Nat},(∀ i ∈ r,i ∈ late)→EnvRep c g e' a→(∀ it ∈ its,it.j ∉ r→it.d < a.tmps.size∧Rep c it.v .V [a.tmps.getD it.d undef])→EnvRep c g (selE (nrem late) its ++ e') a:=fun {e' c a r} hr hen hsl=>by
    refine ⟨fun t v ht=>?_,hen.glob⟩
    rw [get?_app] at ht
    cases hs : get? (selE (nrem late) its) t with
    | none=>rw [hs] at ht;exact hen.slot t v ht
    | some u =>
      rw [hs] at ht
      simp only [Option.some_or,Option.some.injEq] at ht
      subst ht
      obtain ⟨x,hx,hxl,rfl,rfl⟩:=selE_get hs
      refine hsl x hx fun hxr=>?_
      have:=hr _ hxr
      unfold nrem at hxl
      rw [memB_ok.2 this] at hxl;cases hxl
  have hjinj : ∀ x ∈ its,∀ y ∈ its,x.d = y.d→x.j = y.j:=fun x hx y hy e=>dsts_inj (nodupB_ok s3) (by rw [← hmap];exact List.mem_map.2 ⟨x,hx,rfl⟩) (by rw [← hmap];exact List.mem_map.2 ⟨y,hy,rfl⟩) (hdj x hx) (by rw [e];exact hdj y hy)
  have hjj : ∀ x ∈ its,∀ y ∈ its,x.j = y.j→x = y:=by
    have hnd : (its.map (·.j)).Nodup:=by rw [hmap];exact hP
    have : ∀ {L : List It},(L.map (·.j)).Nodup→∀ x ∈ L,∀ y ∈ L,x.j = y.j→x = y:=by
      intro L
      induction L with
      | nil=>intro _ x hx;cases hx
      | cons z L ih =>
        intro hn x hx y hy e
        simp only [List.map_cons,List.nodup_cons] at hn
        rcases List.mem_cons.1 hx with hx2 | hx2 <;> rcases List.mem_cons.1 hy with hy2 | hy2
        · rw [hx2,hy2]
        · exact absurd (List.mem_map.2 ⟨y,hy2,by rw [← hx2];exact e.symm⟩) hn.1
        · exact absurd (List.mem_map.2 ⟨x,hx2,by rw [← hy2];exact e⟩) hn.1
        · exact ih hn.2 x hx2 y hy2 e
    exact this hnd
  have he0k : ∀ t v,get? e0 t = some v→t ∉ dstsOf l.toArray (mkP plan):=fun t v ht=>by
    rw [dropO_eq] at he0
    simp only [Option.some.injEq] at he0
    rw [← he0,get?_drop] at ht
    by_cases hm : memB t (dstsOf l.toArray (mkP plan)) = true
    · rw [if_pos hm] at ht;cases ht
    · exact fun x=>hm (memB_ok.2 x)
  have he1s : ∀ t v,get? e1 t = some v→get? e0 t = some v∧t ≠ d1:=fun t v ht=>by
    rw [dropO_eq] at he1
    simp only [Option.some.injEq] at he1
    rw [← he1,get?_drop] at ht
    by_cases hm : memB t [d1] = true
    · rw [if_pos hm] at ht;cases ht
    · rw [if_neg hm] at ht
      exact ⟨ht,fun e=>hm (memB_ok.2 (by rw [e];exact List.mem_singleton.2 rfl))⟩
  have hitd : ∀ it ∈ its,it.d ≠ d1:=fun it hit e=>hd1p (e ▸ dstsOf_mem (by rw [← hmap];exact List.mem_map.2 ⟨it,hit,rfl⟩) (hdj it hit))
  have hsz0 : l.toArray.size = tail.length + ((mkP plan).map (·.1) ++ [t1]).length:=by have:=Nat.eq_of_beq_eq_true s12;omega
  suffices hgoal : wpAny F.P .any l.toArray QC (tail.length + ((mkP plan).map (·.1) ++ [t1]).length) (Array.replicate l.toArray.size false) a { w with drawn:=w.drawn + 1 } by rw [hsz0.symm] at hgoal;exact hgoal
  refine og3 (I:=J) (ds:=(mkP plan).map (·.1) ++ [t1]) hds (fun j hj=>?_) s4 (fun j hj=>?_) (fun rem hnd hsub j hj hwj hdown a w hJ=>?_) (fun a w hJ=>?_) _ ((mkP plan).map (·.1) ++ [t1]) (Array.replicate l.toArray.size false) a _ rfl hds (fun i hi=>hi) (by simp) (fun i hi=>?_) (fun j o ho hl=>?_) ?_
  · rcases List.mem_append.1 hj with hj | hj
    · exact hlt j hj
    · rw [List.mem_singleton.1 hj];simpa [Nat.blt_eq] using s8
  · have:=List.all_eq_true.1 s9 j (List.mem_range.2 hj)
    rw [Bool.or_eq_true] at this
    exact this.imp memB_ok.1 fun h1 i hi=>⟨_,_,List.all_eq_true.1 h1 i hi⟩
  · by_cases ht : t1 ∈ rem
    · have hJ : I (rem.erase t1) a w:=by
        have hJ : (if t1 ∈ rem then I (rem.erase t1) a w else I2 rem a w):=hJ
        rwa [if_pos ht] at hJ
      have hsubP : ∀ i ∈ rem.erase t1,i ∈ (mkP plan).map (·.1):=fun i hi=>by
        have h2:=(hnd.mem_erase_iff).1 hi
        rcases List.mem_append.1 (hsub i h2.2) with h3 | h3
        · exact h3
        · exact absurd (List.mem_singleton.1 h3) h2.1
      have hnot : ∀ i ∈ (mkP plan).map (·.1),(i ∉ rem.erase t1 ↔ i ∉ rem):=fun i hi=>by
        rw [hnd.mem_erase_iff]
        exact ⟨fun h1 h2=>h1 ⟨fun e=>ht1 (e ▸ hi),h2⟩,fun h1 h2=>h1 h2.2⟩
      by_cases hjt : j = t1
      · subst hjt
        have hrl : ∀ i ∈ rem.erase j,i ∈ late:=fun i hi=>by
          have hiP:=hsubP i hi
          have h3:=List.all_eq_true.1 s10 i hiP
          rw [Bool.or_eq_true] at h3
          rcases h3 with h3 | h3
          · exact memB_ok.1 h3
          · refine absurd ((hnd.mem_erase_iff).1 hi).2 (cov_done (l:=(mkP plan).map (·.1)) (rem:=rem) (fun i k hi1 hi2 hw hk=>hdown i k (List.mem_append_left _ hi1) hi2 hw (List.mem_append_left _ hk)) _ j i (fun k hk hkP=>hwj k hk (List.mem_append_left _ hkP)) hiP h3)
        obtain ⟨c,ns,Bx,hBx,rfl,hout,hen,hsl,hA,hsz,hdf,hN0,hgl⟩:=hfin _ _ _ hJ
        have hBx0 : Bx = []:=by
          cases Bx with
          | nil=>rfl
          | cons p r =>
            obtain ⟨k,v⟩:=p
            have:=hBx k v (by rw [get?_cons,if_pos rfl])
            cases this
        subst hBx0
        rw [selH_late hln hrl,List.nil_append] at hout
        have henv:=henvL hrl hen hsl
        unfold wpOp
        simp only [ho1]
        rw [if_pos (wants_env henv hw1)]
        left
        refine hok1 c a henv hout.heap hout.ok (fun n hn hAn=>by have h8:=(hns1 n hn).1;have h9:=hA n hAn;omega) _ _ fun c' v' ho' hv'=>?_
        show (if j ∈ rem.erase j then _ else I2 (rem.erase j) (a.put (some d1) v') c'.w)
        rw [if_neg hnd.not_mem_erase]
        have hpo : ∀ t,t ≠ d1→(a.put (some d1) v').tmps.getD t undef = a.tmps.getD t undef:=fun t ht=>by simp [Act.put,Array.getElem?_setIfInBounds,Ne.symm ht]
        refine ⟨fun i hi=>⟨hrl i hi,hsubP i hi⟩,c',_,rfl,hout.trans ho',⟨fun t v ht=>?_,(hen.le ho'.le).glob⟩,fun x hx hxr=>⟨by rw [put_size];exact (hsl x hx hxr).1,by rw [hpo _ (hitd x hx)];exact (hsl x hx hxr).2.le ho'.le⟩,?_,fun i hi=>?_,by rw [put_size];exact hsz,by rw [put_defers];exact hdf,hN0,hgl⟩
        · obtain ⟨q1,q2⟩:=hen.slot t v (he1s t v ht).1
          refine ⟨by rw [put_size];exact q1,?_⟩
          rw [hpo _ (he1s t v ht).2];exact q2.le ho'.le
        · have : (a.put (some d1) v').tmps.getD d1 undef = v':=by
            have : d1 < a.tmps.size:=by rw [hsz];exact hd1n
            simp [Act.put,this]
          rw [this];exact hv' _ rfl
        · rcases ho'.A i hi with h1 | h1
          · have:=hA i h1;omega
          · exact (hns1 i h1).2
      · have hjP : j ∈ rem.erase t1:=(hnd.mem_erase_iff).2 ⟨hjt,hj⟩
        refine wpOp_mono (fun a' w' hI'=>?_) (hitems QC (rem.erase t1) (hnd.erase t1) hsubP j hjP (fun i hw hi=>(hnot i hi).2 (hwj i hw (List.mem_append_left _ hi))) (fun i k hi hir hw hk=>(hnot k hk).2 (hdown i k (List.mem_append_left _ hi) ((hnot i hi).1 hir) hw (List.mem_append_left _ hk))) a w hJ)
        show (if t1 ∈ rem.erase j then I ((rem.erase j).erase t1) a' w' else _)
        rw [if_pos ((hnd.mem_erase_iff).2 ⟨fun e=>hjt e.symm,ht⟩),List.erase_comm]
        exact hI'
    · have hJ : I2 rem a w:=by
        have hJ : (if t1 ∈ rem then I (rem.erase t1) a w else I2 rem a w):=hJ
        rwa [if_neg ht] at hJ
      obtain ⟨hrl,c,ns,rfl,hout,hen,hsl,hv1,hA,hsz,hdf,hN0,hgl⟩:=hJ
      obtain ⟨hjl,hjP⟩:=hrl j hj
      obtain ⟨it,hit,rfl⟩ : ∃ it ∈ its,it.j = j:=by
        rw [← hmap] at hjP
        obtain ⟨it,h1,h2⟩:=List.mem_map.1 hjP
        exact ⟨it,h1,h2⟩
      obtain ⟨_,o,ho,hod,how,hoo⟩:=hlate it hit hjl
      have henv : EnvRep c g (selE (lateM late plan it.j) its ++ e1) a:=by
        refine ⟨fun t v ht=>?_,hen.glob⟩
        rw [get?_app] at ht
        cases hs : get? (selE (lateM late plan it.j) its) t with
        | none=>rw [hs] at ht;exact hen.slot t v ht
        | some u =>
          rw [hs] at ht
          simp only [Option.some_or,Option.some.injEq] at ht
          subst ht
          obtain ⟨x,hx,hxl,rfl,rfl⟩:=selE_get hs
          refine hsl x hx fun hxr=>?_
          unfold lateM at hxl
          rw [Bool.or_eq_true] at hxl
          rcases hxl with hxl | hxl
          · unfold nrem at hxl
            rw [memB_ok.2 (hrl _ hxr).1] at hxl;cases hxl
          · obtain ⟨m,hm1,hm2⟩:=maskOf_mem hxl
            exact anc_done (ancM_ok (fun i hi=>by rw [tbb_zero] at hi;cases hi) s6) s4 hlt (fun i k hi hir hw hk=>hdown i k (List.mem_append_left _ hi) hir hw (List.mem_append_left _ hk)) it.j _ hm1 (fun k hk hkd=>hwj k hk (List.mem_append_left _ hkd)) x.j (memB_ok.1 (tbb_bits hm2)) hxr
      unfold wpOp
      simp only [ho]
      rw [if_pos (wants_env henv how)]
      left
      refine hoo c a henv hout.heap hout.ok (fun n hn=>by cases hn) _ _ fun c' v' ho' hv'=>?_
      rw [hod]
      show (if t1 ∈ rem.erase it.j then _ else I2 (rem.erase it.j) (a.put (some it.d) v') c'.w)
      rw [if_neg fun h1=>ht (List.mem_of_mem_erase h1)]
      have hdd:=(List.all_eq_true.1 s2 it.j hjP)
      simp only [Bool.and_eq_true,hdj it hit] at hdd
      have hd2 : it.d < F.n:=by simpa [Nat.blt_eq] using hdd.2
      refine ⟨fun i hi=>hrl i (List.mem_of_mem_erase hi),c',_,rfl,hout.trans ho',?_,fun x hx hxr=>?_,?_,fun i hi=>?_,by rw [put_size];exact hsz,by rw [put_defers];exact hdf,hN0,hgl⟩
      · refine ⟨fun t v ht=>?_,(hen.le ho'.le).glob⟩
        have hne : t ≠ it.d:=fun e=>he0k t v (he1s t v ht).1 (by rw [e];exact dstsOf_mem hjP (hdj it hit))
        obtain ⟨q1,q2⟩:=hen.slot t v ht
        refine ⟨by rw [put_size];exact q1,?_⟩
        have : (a.put (some it.d) v').tmps.getD t undef = a.tmps.getD t undef:=by simp [Act.put,Array.getElem?_setIfInBounds,Ne.symm hne]
        rw [this];exact q2.le ho'.le
      · by_cases ex : x = it
        · subst ex
          refine ⟨by rw [put_size,hsz];exact hd2,?_⟩
          have : (a.put (some x.d) v').tmps.getD x.d undef = v':=by
            have : x.d < a.tmps.size:=by rw [hsz];exact hd2
            simp [Act.put,this]
          rw [this];exact hv' _ rfl
        · have hxj : x.j ≠ it.j:=fun e'=>ex (hjj x hx it hit e')
          obtain ⟨q1,q2⟩:=hsl x hx (fun h1=>hxr ((hnd.mem_erase_iff).2 ⟨hxj,h1⟩))
          have hne : x.d ≠ it.d:=fun e'=>hxj (hjinj x hx it hit e')
          refine ⟨by rw [put_size];exact q1,?_⟩
          have : (a.put (some it.d) v').tmps.getD x.d undef = a.tmps.getD x.d undef:=by simp [Act.put,Array.getElem?_setIfInBounds,Ne.symm hne]
          rw [this];exact q2.le ho'.le
      · have : (a.put (some it.d) v').tmps.getD d1 undef = a.tmps.getD d1 undef:=by simp [Act.put,Array.getElem?_setIfInBounds,hitd it hit]
        rw [this];exact hv1.le ho'.le
      · rcases ho'.A i hi with h1 | h1
        · exact hA i h1
        · cases h1
  · have hJ : I2 [] a w:=by
      have hJ : (if t1 ∈ ([] : List Nat) then I (([] : List Nat).erase t1) a w else I2 [] a w):=hJ
      rwa [if_neg (by simp)] at hJ
    obtain ⟨_,c,ns,rfl,hout,hen,hsl,hv1,hA,hsz,hdf,hN0,hgl⟩:=hJ
    refine tail_wp hseq (fun s' a' w' hq hs'=>hQ _ _ _ _ hq hs') tail _ htops1 s11 a _ ⟨c,ns,rfl,hout,⟨fun t v ht=>?_,hen.glob⟩,hA,hsz,hdf,hN0,hgl⟩
    have ht : get? ((d1,v1)::(selE allB its ++ e1)) t = some v:=ht
    rw [get?_cons] at ht
    by_cases e1 : d1 = t
    · rw [if_pos e1] at ht
      cases ht
      subst e1
      exact ⟨by rw [hsz];exact hd1n,hv1⟩
    rw [if_neg e1,get?_app] at ht
    cases hs : get? (selE allB its) t with
    | none=>rw [hs] at ht;exact hen.slot t v ht
    | some u =>
      rw [hs] at ht
      simp only [Option.some_or,Option.some.injEq] at ht
      subst ht
      obtain ⟨x,hx,_,rfl,rfl⟩:=selE_get hs
      exact hsl x hx (by simp)
  · constructor
    · intro h;rw [Og.repF] at h;cases h
    · rintro ⟨h1,h2⟩;exact absurd h1 h2
  · rw [Og.repF] at hl;cases hl
  · show (if t1 ∈ (mkP plan).map (·.1) ++ [t1] then I (((mkP plan).map (·.1) ++ [t1]).erase t1) a _ else _)
    rw [if_pos (by simp),her]
    exact hinit
def LateLH (P : Program) (ops : Array Oper) (g e1 H : Asc) (late : List Nat) (plan : List (Nat × Nat)) (its0 : List It) : List It→Prop
  | []=>True
  | ⟨j,d,v,n⟩::r=>(bif memB j late then ∃ eL,selEO (lateM late plan j) e1 its0 some = some eL∧LateOkH P ops g eL H ⟨j,d,v,n⟩ else True)∧LateLH P ops g e1 H late plan its0 r
theorem lateLH_ok {P : Program} {ops : Array Oper} {g e1 H : Asc} {late : List Nat} {plan : List (Nat × Nat)} {its0 : List It} : ∀ {its : List It},LateLH P ops g e1 H late plan its0 its→∀ it ∈ its,it.j ∈ late→LateOkH P ops g (selE (lateM late plan it.j) its0 ++ e1) H it
  | [],_,it,h,_=>by cases h
  | x :: r,hl,it,h,hj=>by
    rcases List.mem_cons.1 h with e | h
    · subst e
      have h1:=hl.1
      rw [memB_ok.2 hj] at h1
      obtain ⟨eL,h2,h3⟩:=h1
      rw [selEO_eq] at h2
      cases h2
      exact h3
    · exact lateLH_ok hl.2 it h hj
theorem lateX {P : Program} {ops : Array Oper} {g e1 H eL : Asc} {late : List Nat} {plan : List (Nat × Nat)} {its0 : List It} {j : Nat} {it : It} (h1 : selEO (lateM late plan j) e1 its0 some = some eL) (h2 : LateOkH P ops g eL H it) : ∃ eL,selEO (lateM late plan j) e1 its0 some = some eL∧LateOkH P ops g eL H it:=⟨eL,h1,h2⟩
theorem late_endE {F : Fr} {ops : Array Oper} {g e0 e1 h : Asc} {its : List It} {N : Nat} {late : List Nat} {plan : List (Nat × Nat)} {d1 : Tmp} {op : Op} {ty : TypeId} {pos : String} {af : Array Edge} {gd : Option (Nat × Bool)} {tops : List Oper} {K : St→Prop} {eL hL e' H2 : Asc} {v1 : AV} {ps : List Prop} (m : Bool) {T : List (Option TI)} (hT : TabOk F.P T)
    (hE : selEO (nrem late) e0 its some = some eL) (hH : selHO allB h its some = some hL) (he : evalOp m T g eL hL N op = some ⟨ps,some v1,H2,1⟩) (hp : AllP ps) (hns : notStore op = true) (hw : wants ops ⟨some d1,op,ty,pos,af,gd⟩ eL = some true) (hl : LateLH F.P ops g e1 H2 late plan its its) (hE2 : selEO allB e1 its some = some e') (hk : Seq F ops tops ⟨(d1,v1)::e',H2,g,N + 1⟩ K) :
    ∃ H2 v1 ns1 N2,OpOk F.P ⟨some d1,op,ty,pos,af,gd⟩ g (selE (nrem late) its ++ e0) (selH allB its ++ h) (some v1) H2 ns1∧(N ≤ N2∧∀ n ∈ ns1,N ≤ n∧n < N2)∧wants ops ⟨some d1,op,ty,pos,af,gd⟩ (selE (nrem late) its ++ e0) = some true ∧
      (∀ it ∈ its,it.j ∈ late→LateOkH F.P ops g (selE (lateM late plan it.j) its ++ e1) H2 it)∧Seq F ops tops ⟨(d1,v1)::(selE allB its ++ e1),H2,g,N2⟩ K:=by
  rw [selEO_eq] at hE hE2
  rw [selHO_eq] at hH
  cases hE;cases hH;cases hE2
  refine ⟨H2,v1,[N],N + 1,evalOp_ok hT (by cases op <;> first | rfl | cases hns) he hp,⟨Nat.le_succ _,fun n hn=>?_⟩,hw,lateLH_ok hl,hk⟩
  rw [List.mem_singleton.1 hn]
  exact ⟨Nat.le_refl _,Nat.lt_succ_self _⟩
theorem late_evH {P : Program} {ops : Array Oper} {g eL H : Asc} {j : Nat} {d : Tmp} {v : AV} {op : Op} {ty : TypeId} {pos : String} {af : Array Edge} {gd : Option (Nat × Bool)} {ps : List Prop} (m : Bool) {T : List (Option TI)} (hT : TabOk P T) (ho : ops[j]? = some ⟨some d,op,ty,pos,af,gd⟩) (hns : notStore op = true) (hw : wants ops ⟨some d,op,ty,pos,af,gd⟩ eL = some true) (he : evalOp m T g eL H 0 op = some ⟨ps,some v,H,0⟩) (hp : AllP ps) : LateOkH P ops g eL H ⟨j,d,v,[]⟩ :=
  ⟨rfl,_,ho,rfl,hw,evalOp_ok hT (by cases op <;> first | rfl | cases hns) he hp⟩
theorem late_move {P : Program} {ops : Array Oper} {g eL : Asc} {j : Nat} {d : Tmp} {v : AV} {x : Operand} {ty : TypeId} {pos : String} {af : Array Edge} {gd : Option (Nat × Bool)} (ho : ops[j]? = some ⟨some d,.move x,ty,pos,af,gd⟩) (hw : wants ops ⟨some d,.move x,ty,pos,af,gd⟩ eL = some true) (hx : V.ev g eL x = some v) : LateOk P ops g eL ⟨j,d,v,[]⟩ :=
  ⟨rfl,_,ho,rfl,hw,fun h=>move_ok hx⟩
end Go.V
