/- Ranges over functions: rounds, the call of yield, the statement, the function's end. -/
import Derived.Test.YtmbldnahcmkpgaaGreatDoorFr
import Derived.RangeFuncRecord
set_option linter.unusedSimpArgs false
set_option linter.unusedVariables false
namespace Go.V
open Go.RowKit Go.L
theorem wpAny_in {P : Program} {l : Nat} {ops : Array Oper} {Q : Exit→Act→World→Prop} (hn : ¬ LetsOut Q) (hdef : ops.toList.all notDef = true) : ∀ {fuel : Nat} {listed : Array Bool} {a : Act} {w : World},wpAny P .any ops Q fuel listed a w→wpAnyIn (Fence.wide.inRound l) 0 P .any ops Q fuel listed a w
  | 0,_,_,_,h=>h
  | fuel + 1, listed,a,w,h=>⟨h.1,fun i hi=>by
      have h1:=h.2 i hi
      unfold wpOp at h1
      unfold wpOpIn
      cases ho : ops[i]? with
      | none=>simp only [ho] at h1 ⊢;exact wpAny_in hn hdef h1
      | some o =>
        simp only [ho] at h1 ⊢
        split at h1
        · rename_i hw
          rw [if_pos hw]
          rcases h1 with h1 | h1
          · have hd : notDef o = true:=List.all_eq_true.1 hdef o (by
              obtain ⟨hlt,e⟩:=Array.getElem?_eq_some_iff.1 ho
              rw [← e];exact Array.getElem_mem_toList hlt)
            exact Oper.wpIn_mono (fun a w hk=>wpAny_in hn hdef hk) (wp_in (F:=Fence.wide.inRound l) (fun _=>trivial) rfl (.inr hd) (fun h=>callsIn_wide.2 h) rows_wide h1)
          · exact absurd h1.2 hn
        · rename_i hw
          rw [if_neg hw]
          exact ⟨fun f _=>trivial,wpAny_in hn hdef h1⟩⟩
theorem oList_right {P : Program} {l : Nat} {ops : Array Oper} {Q : Exit→Act→World→Prop} (hn : ¬ LetsOut Q) : ∀ {r : List Oper} {a : Act} {w : World},oList (fun o a w K Q=>LetsOut Q ∨ o.wpIn (Fence.wide.inRound l) 0 P a w K Q) ops Q r a w→oList (fun o a w K Q=>o.wpIn (Fence.wide.inRound l) 0 P a w K Q) ops Q r a w
  | [],_,_,h=>h
  | o :: r,a,w,h=>by
    unfold oList at h ⊢
    split at h
    · rename_i hw
      rw [if_pos hw]
      exact Oper.wpIn_mono (fun a w hk=>oList_right hn hk) (h.resolve_left hn)
    · rename_i hw
      rw [if_neg hw]
      exact oList_right hn h
def Laws.round (P : Program) (l : Nat) : Laws P where
  top:=false
  O:=fun o a w K Q=>LetsOut Q ∨ o.wpIn (Fence.wide.inRound l) 0 P a w K Q
  W:=fun c Q a w=>LetsOut Q ∨ c.wpIn (Fence.wide.inRound l) 0 P Q a w
  op:=fun hd h=>.inr (wp_in (F:=Fence.wide.inRound l) (fun _=>trivial) rfl (.inr (by simpa using hd)) (fun h=>callsIn_wide.2 h) rows_wide h)
  list:=fun {id r Q a w} h=>by
    by_cases hn : LetsOut Q
    · exact .inl hn
    · exact .inr (wpIn_region_lit (oList_in (F:=Fence.wide.inRound l) (fun _=>trivial) (oList_right hn h)))
  any:=fun {id ops Q a w} hm hd h=>by
    by_cases hn : LetsOut Q
    · exact .inl hn
    · exact .inr (wpIn_region_any hm (wpAny_in hn (by simpa using hd) h))
  skip:=fun h=>.inr (wpIn_skip h)
  exit:=fun h=>.inr (wpIn_exit h)
  ret:=fun h=>.inr (wpIn_ret h)
  seq := fun {x y Q a w} h=>by
    by_cases hn : LetsOut Q
    · exact .inl hn
    · refine .inr (wpIn_seq (wpIn_mono (h.resolve_left hn) fun e a w hq=>?_))
      cases e <;> first | exact hq | exact hq.resolve_left hn
  block:=fun {id x Q a w} h=>by
    by_cases hn : LetsOut Q
    · exact .inl hn
    · exact .inr (wpIn_block (h.resolve_left hn))
  cond:=fun {c x y t Q a w} hc h1 h2=>by
    by_cases hn : LetsOut Q
    · exact .inl hn
    · exact .inr (wpIn_cond_split hc (fun e=>(h1 e).resolve_left hn) (fun e=>(h2 e).resolve_left hn))
  loop:=fun {x Q a w} I μ h0 h=>by
    by_cases hn : LetsOut Q
    · exact .inl hn
    · exact .inr (wpIn_loop I μ h0 fun a w hI=>(h a w hI).resolve_left hn)
theorem Out.newOb {c : Ctx} {h : Asc} {N : Nat} {o : Obj} (hh : HeapRep c h) (hc : CtxOk c) (hN : ¬ c.A N) : Out c h ((N,.ob c.w.heap.size o)::h) [N] (c.new N o):=by
  have hle:=c.new_le (o:=o) hc hN
  have hne : ∀ id av,get? h id = some av→id ≠ N:=fun id av hi e=>hN (by rw [← e];exact hh.A id av hi)
  have hρ : ∀ id av,get? h id = some av→(c.new N o).ρ id = c.ρ id:=fun id av hi=>if_neg (hne id av hi)
  have hρN : (c.new N o).ρ N = c.w.heap.size:=if_pos rfl
  have hG : ∀ id av,get? h id = some av→¬ (c.new N o).G id→¬ c.G id:=fun id av hi hg x=>hg ⟨x,hne id av hi⟩
  have hcase : ∀ id av',get? ((N,AV.ob c.w.heap.size o)::h) id = some av'→(id = N∧av' = .ob c.w.heap.size o) ∨ (id ≠ N∧get? h id = some av'):=fun id av' hi=>by
    rw [get?_cons] at hi
    by_cases e : N = id
    · rw [if_pos e] at hi;cases hi;exact .inl ⟨e.symm,rfl⟩
    · rw [if_neg e] at hi;exact .inr ⟨fun e'=>e e'.symm,hi⟩
  refine ⟨hle,rfl,fun i hi=>?_,⟨fun id av' hi=>?_,fun id av' hi hg=>?_,fun id av' hi hg=>?_,fun id av' hi hg=>?_,fun i j a b hi hj hgi hgj e=>?_⟩,⟨fun b hb=>?_,?_⟩,rfl,rfl,rfl,?_,fun b hb _=>Below.heap_alloc _ _ _ hb,fun id av' hi hg=>?_,fun b hb=>.inl hb⟩
  · rcases hi with hi | hi
    · exact .inl hi
    · exact .inr (by simp [hi])
  · rcases hcase id av' hi with ⟨rfl,rfl⟩ | ⟨_,hi⟩
    · exact .inr rfl
    · exact .inl (hh.A id av' hi)
  · rcases hcase id av' hi with ⟨rfl,rfl⟩ | ⟨_,hi⟩
    · rw [hρN]
      exact .inr (.inr ⟨o,rfl,heap_alloc_new c.w _⟩)
    · rw [hρ id av' hi]
      exact (hh.obj id av' hi (hG id av' hi hg)).le hle (Below.heap_alloc _ _ _ (hh.obj id av' hi (hG id av' hi hg)).lt)
  · rcases hcase id av' hi with ⟨e1,_⟩ | ⟨_,hi⟩
    · exact absurd e1 hg.2
    · exact hh.gh id av' hi hg.1
  · rcases hcase id av' hi with ⟨rfl,rfl⟩ | ⟨_,hi⟩
    · rw [hρN];intro hS;exact absurd (hc.S _ hS) (Nat.lt_irrefl _)
    · rw [hρ id av' hi];exact hh.nS id av' hi (hG id av' hi hg)
  · rcases hcase i a hi with ⟨e1,_⟩ | ⟨_,hi'⟩ <;> rcases hcase j b hj with ⟨e2,_⟩ | ⟨_,hj'⟩
    · rw [e1,e2]
    · rw [e1,hρN,hρ j b hj'] at e;have:=(hh.obj j b hj' (hG j b hj' hgj)).lt;omega
    · rw [e2,hρN,hρ i a hi'] at e;have:=(hh.obj i a hi' (hG i a hi' hgi)).lt;omega
    · rw [hρ i a hi',hρ j b hj'] at e;exact hh.inj i j a b hi' hj' (hG i a hi' hgi) (hG j b hj' hgj) e
  · have:=hc.S b hb
    show b < (c.w.alloc _).heap.size
    simp;omega
  · show c.B ≤ (c.w.alloc _).heap.size
    have:=hc.B;simp;omega
  · show c.w.heap.size ≤ (c.w.alloc _).heap.size
    simp
  · rcases hcase id av' hi with ⟨rfl,rfl⟩ | ⟨_,hi⟩
    · exact .inr (by rw [hρN];exact Nat.le_refl _)
    · exact .inl ⟨id,av',hi,hG id av' hi hg,(hρ id av' hi).symm⟩
theorem ob_at {c : Ctx} {h : Asc} {id b : Nat} {o : Obj} (hh : HeapRep c h) (hi : get? h id = some (.ob b o)) : ¬ c.G id∧c.ρ id = b∧c.w.heap[b]? = some o:=by
  have hG : ¬ c.G id:=fun hx=>by
    have:=hh.gh id _ hi hx
    simp [AV.size] at this
  rcases hh.obj id _ hi hG with ⟨cs,t,xs,ys,_,_,hr⟩ | ⟨n,ks,vs,e,_⟩ | ⟨o',e,hb⟩
  · exact hr.elim
  · cases e
  · have e2 : b = c.ρ id∧o = o':=by
      injection e with e1 e2
      exact ⟨e1,e2⟩
    obtain ⟨rfl,rfl⟩:=e2
    exact ⟨hG,rfl,hb⟩
def obCells : Obj→Bool
  | .cells ..=>true
  | _=>false
theorem Out.obPut {c : Ctx} {h : Asc} {id b : Nat} {o o' : Obj} (hh : HeapRep c h) (hc : CtxOk c) (hi : get? h id = some (.ob b o)) (ho : obCells o = false) : Out c h (putL h id (.ob b o')) [] { c with w:=c.w.putObj b o' }:=by
  obtain ⟨hG,rfl,hb⟩:=ob_at hh hi
  have hlt : c.ρ id < c.w.heap.size:=(Array.getElem?_eq_some_iff.1 hb).1
  have h1 : Out c h (put h id (.ob (c.ρ id) o')) [] { c with w:=c.w.putObj (c.ρ id) o' }:=by
    refine Out.write hh hc hi hG rfl rfl rfl World.putObj_size ?_ (fun b hne=>World.putObj_heap_other hne) fun c' hc' hle=>?_
    · have : bsize c.w (c.ρ id) = 0:=by
        unfold bsize;rw [hb]
        cases o <;> first | rfl | (cases ho)
      omega
    · subst hc'
      exact .inr (.inr ⟨o',rfl,World.putObj_heap_same hlt⟩)
  have hg : ∀ j,get? (putL h id (.ob (c.ρ id) o')) j = get? (put h id (.ob (c.ρ id) o')) j:=fun j=>by rw [get?_putL,get?_put]
  exact h1.shrink fun j av hj=>by rw [← hg];exact hj
def putPs : List Tmp→AV→Asc→Asc
  | p::ps,.pair a b,e=>putPs ps b ((p,a)::e)
  | _,_,e=>e
theorem putPs_ok {c : Ctx} {n : Nat} : ∀ {ps : List Tmp} {ax : AV} {e : Asc} {vs : List Value} {tmps : Array Value},Rep c ax .T vs→isChain ax = true→chainLen ax = ps.length→(∀ t v,get? e t = some v→t < tmps.size∧Rep c v .V [tmps.getD t undef])→tmps.size = n→(∀ p ∈ ps,p < n) →
    (∀ t v,get? (putPs ps ax e) t = some v→t < ((ps.zip vs).foldl (fun t (p,v)=>t.setIfInBounds p v) tmps).size∧Rep c v .V [((ps.zip vs).foldl (fun t (p,v)=>t.setIfInBounds p v) tmps).getD t undef])∧((ps.zip vs).foldl (fun t (p,v)=>t.setIfInBounds p v) tmps).size = n
  | [],ax,e,vs,tmps,_,_,_,he,hn,_=>by
    have : putPs [] ax e = e:=by cases ax <;> rfl
    rw [this]
    exact ⟨by simpa using he,by simpa using hn⟩
  | p :: ps,ax,e,vs,tmps,hr,hch,hl,he,hn,hp=>by
    cases ax <;> first | (cases hch;done) | skip
    · simp [chainLen] at hl
    · rename_i a b
      obtain ⟨x,y,rfl,h1,h2⟩:=hr
      simp only [List.zip_cons_cons,List.foldl_cons]
      show (∀ t v,get? (putPs ps b ((p,a)::e)) t = some v→_)∧_
      refine putPs_ok h2 hch (by simpa [chainLen] using hl) (fun t v ht=>?_) (by simpa using hn) (fun q hq=>hp q (List.mem_cons_of_mem _ hq))
      have hpn : p < tmps.size:=by rw [hn];exact hp p List.mem_cons_self
      rw [get?_cons] at ht
      by_cases e1 : p = t
      · subst e1
        rw [if_pos rfl] at ht
        cases ht
        refine ⟨by simpa using hpn,?_⟩
        simpa [hpn] using h1
      · rw [if_neg e1] at ht
        obtain ⟨q1,q2⟩:=he t v ht
        refine ⟨by simpa using q1,?_⟩
        have : (tmps.setIfInBounds p x).getD t undef = tmps.getD t undef:=by
          simp only [Array.getD_eq_getD_getElem?,Array.getElem?_setIfInBounds_ne e1]
        rw [this];exact q2
def jumpOf : Exit→Option (Option Code)
  | .normal=>some none
  | .ret=>some (some .ret)
  | .exit i=>some (some (.exit i))
  | _=>none
def YTo (F : Fr) (ops : Array Oper) (o : Oper) (s : St) (K : St→Prop) : Prop :=
  wants ops o s.e = some true∧∀ a w,Sim F s a w→∀ (K2 : Act→World→Prop) (QC : Exit→Act→World→Prop),¬ LetsOut QC→(∀ s' a' w',K s'→Sim F s' a' w'→K2 a' w')→o.wpIn Fence.wide 0 F.P a w K2 QC
structure RecOk (c : Ctx) (n : Nat) (eC : Asc) (ps : Array Tmp) (assign body : Code) (r : Loop) : Prop where
  ps : r.params = ps
  as : r.assign = assign
  bo : r.body = body
  n : r.tmps.size = n
  e : ∀ t v,get? eC t = some v→t < r.tmps.size∧Rep c v .V [r.tmps.getD t undef]
theorem YTo.round {F : Fr} {ops : Array Oper} {d : Option Tmp} {ty : TypeId} {pos : String} {af : Array Edge} {gd : Option (Nat × Bool)} {callee : Operand} {xs : Array Operand} {tys : Array TypeId} {e h g : Asc} {N b id n : Nat} {rec : Loop} {ax : AV} {eC : Asc} {ps : Array Tmp} {assign body : Code} {K : St→Prop}
    (hrec : RecOk F.c0 n eC ps assign body rec) (hw : wants ops ⟨d,.call { callee:=.value callee,args:=xs,argTypes:=tys },ty,pos,af,gd⟩ e = some true) (hc : ev g e callee = some (.val (.func (.yield b) #[] #[]))) (hx : evs g e xs.toList = some ax)
    (hid : get? h id = some (.ob b (.loop { rec with state:=.ready,pending:=none }))) (hch : isChain ax = true) (hps : chainLen ax = ps.size) (hpn : ps.toList.all (Nat.blt · n) = true) (hd : dstB F.n d = true)
    (hvc : ∀ c : Ctx,Le F.c0 c→VC ⟨F.P,c,h,n,N,[],.round F.P b⟩ assign (thenQ (fun s1=>get? s1.h id = some (.ob b (.loop { rec with state:=.ready,pending:=none }))∧VC ⟨F.P,c,h,n,N,[],.round F.P b⟩ body (fun x s2=>∃ j,jumpOf x = some j∧get? s2.h id = some (.ob b (.loop { rec with state:=.busy,pending:=none })) ∧
        K ⟨putd e d (some (.bool j.isNone)),putL s2.h id (.ob b (.loop { rec with state:=if j.isNone then .ready else .done,pending:=j })),g,s2.N⟩) ⟨s1.e,putL s1.h id (.ob b (.loop { rec with state:=.busy,pending:=none })),s1.g,s1.N⟩) (fun _ _=>False)) ⟨putPs ps.toList ax eC,h,g,N⟩) :
    YTo F ops ⟨d,.call { callee:=.value callee,args:=xs,argTypes:=tys },ty,pos,af,gd⟩ ⟨e,h,g,N⟩ K:=by
  refine ⟨hw,fun a w hs K2 QC hno hK=>?_⟩
  obtain ⟨c,ns,rfl,hout,hen,hb,hsz,hdf,hN0,hgl⟩:=hs
  have hxr:=evs_rep hen hx
  have hcv : a.eval callee = .func (.yield b) #[] #[]:=rep_val (ev_rep hen hc)
  obtain ⟨hG,hρ,hbk⟩:=ob_at hout.heap hid
  have hlen : xs.size = rec.params.size:=by
    have h1:=chain_len hch hxr
    rw [hps,← hrec.ps] at h1
    simpa using h1
  have hrun : (execOp a.eval ⟨d,.call { callee:=.value callee,args:=xs,argTypes:=tys },ty,pos,af,gd⟩).run F.P c.w = .ok (.round b rec.fn ((rec.params.zip (xs.map a.eval)).foldl (fun tmps (t,a)=>tmps.setIfInBounds t a) rec.tmps) rec.assign rec.body) c.w:=by
    have:=run_yield (P:=F.P) (args:=xs.map a.eval) hbk (by simpa using hlen)
    simpa [execOp,resolve,hcv,Deferred.ofValue,invoke,callFunc] using this
  have hfold : (rec.params.zip (xs.map a.eval)).foldl (fun tmps (t,a)=>tmps.setIfInBounds t a) rec.tmps = (ps.toList.zip (xs.toList.map a.eval)).foldl (fun tmps (t,a)=>tmps.setIfInBounds t a) rec.tmps:=by
    rw [hrec.ps,← Array.foldl_toList,Array.toList_zip,Array.toList_map]
  rw [hfold,hrec.as,hrec.bo] at hrun
  obtain ⟨hp1,hp2⟩:=putPs_ok (n:=n) hxr hch (by rw [hps];simp) (fun t v ht=>(by
    obtain ⟨q1,q2⟩:=hrec.e t v ht
    exact ⟨q1,q2.le hout.le⟩)) hrec.n (fun p hp=>Nat.le_of_ble_eq_true (List.all_eq_true.1 hpn p hp))
  generalize (ps.toList.zip (xs.toList.map a.eval)).foldl (fun tmps (t,a)=>tmps.setIfInBounds t a) rec.tmps = tmps at *
  refine ⟨fun f _=>trivial,?_⟩
  rw [show Oper.semAt Fence.wide.round a.eval _ = execOp a.eval _ from rfl,hrun,Oper.uponIn_round]
  refine ⟨fun e=>(by cases e),roundIn_of_wpIn (F:=Fence.wide) trivial ?_⟩
  have hend : ∀ {t : Bool} {o1 o' : Obj} {c2 : Ctx} {h2 : Asc} {ms : List Nat} {N2 : Nat},Out c h h2 ms c2→(∀ i,c2.A i→i < N2)→get? h2 id = some (.ob b o1)→obCells o1 = false →
      Sim F ⟨putd e d (some (.bool t)),putL h2 id (.ob b o'),g,N2⟩ (a.put d (.bool t)) (c2.w.putObj b o'):=fun {t o1 o' c2 h2 ms N2} ho hA hi hcl=>by
    have ho2:=Out.obPut (o':=o') ho.heap ho.ok hi hcl
    refine ⟨_,_,rfl,(hout.trans ho).trans ho2,((hen.le ho.le).le ho2.le).putd (fun y hy=>by cases hy;rfl) (fun k hk=>by rw [hsz];exact dst_lt hd k hk),hA,by rw [put_size];exact hsz,by rw [put_defers];exact hdf,hN0,hgl⟩
  refine (hvc c hout.le { tmps:=tmps,defers:=[] } c.w ⟨c,[],rfl,.refl hout.heap hout.ok,⟨hp1,fun x v hx=>hen.glob x v hx⟩,hb,hp2,rfl,hb,fun x v hx=>hen.glob x v hx⟩ _ fun e1 s1 a1 w1 hq hs1=>?_).resolve_left (fun ⟨_,_,hx⟩=>hx)
  cases e1 <;> first | exact hq.elim | skip
  obtain ⟨hi1,hq⟩:=hq
  obtain ⟨c1,ns1,rfl,hout1,hen1,hb1,hsz1,hdf1,hN1,hgl1⟩:=hs1
  obtain ⟨hG1,hρ1,hbk1⟩:=ob_at hout1.heap hi1
  refine ⟨_,run_beginRound hbk1 rfl,?_⟩
  have ho1:=Out.obPut (o':=.loop { rec with state:=.busy,pending:=none }) hout1.heap hout1.ok hi1 rfl
  refine (hq a1 _ ⟨_,_,rfl,hout1.trans ho1,hen1.le ho1.le,hb1,hsz1,hdf1,hN1,hgl1⟩ _ fun e2 s2 a2 w2 hq2 hs2=>?_).resolve_left (fun ⟨_,_,hx⟩=>hx)
  obtain ⟨j,hj,hi2,hk⟩:=hq2
  obtain ⟨c2,ns2,rfl,hout2,hen2,hb2,hsz2,hdf2,hN2,hgl2⟩:=hs2
  obtain ⟨hG2,hρ2,hbk2⟩:=ob_at hout2.heap hi2
  cases e2 <;> simp only [jumpOf,Option.some.injEq,reduceCtorEq] at hj <;> subst hj
  · exact ⟨_,_,run_endRound none hbk2,hK _ _ _ hk (hend hout2 hb2 hi2 rfl)⟩
  · exact ⟨_,_,run_endRound (some _) hbk2,hK _ _ _ hk (hend hout2 hb2 hi2 rfl)⟩
  · exact ⟨_,_,run_endRound (some _) hbk2,hK _ _ _ hk (hend hout2 hb2 hi2 rfl)⟩
theorem VC.regionY {F : Fr} {Q : Exit→St→Prop} {s : St} {id : Nat} {l : List Oper} (k : Nat) {pre : List Oper} {o : Oper} {r : List Oper} (hl : splitO k l (fun p q t=>some (p,q,t)) = some (pre,o,r)) (h : Seq F l.toArray pre s (fun s'=>YTo F l.toArray o s' (fun s2=>Seq F l.toArray r s2 (Q .normal)))) (hL : F.L = .plain F.P:=by rfl) : VC F (.region id l.toArray false) Q s:=by
  obtain ⟨p,q,t,h1,h2⟩:=splitO_ok hl
  simp only [Option.some.injEq,Prod.mk.injEq] at h2
  obtain ⟨rfl,rfl,rfl⟩:=h2
  obtain ⟨P,c0,h0,n,N0,D,L⟩:=F
  obtain rfl : L = .plain P:=hL
  intro a w hs QC hQ
  let QN : Exit→Act→World→Prop:=fun e a w=>QC e a w∧e ≠ .outgrown
  have hno : ¬ LetsOut QN:=fun ⟨_,_,hx⟩=>hx.2 rfl
  have hN : (Laws.plain P).W (.region id l.toArray false) QN a w:=by
    refine (Laws.plain P).list ?_
    have h2:=h.wpp (Q:=QN) (o:=q) (r:=t) (fun s' a' w' hp hs'=>by
      unfold oList
      rw [if_pos (wants_ok hs' hp.1)]
      exact hp.2 a' w' hs' _ QN hno fun s2 a2 w2 hk hs2=>hk.wpO (Q:=QN) (fun s3 a3 w3 hk3 hs3=>⟨hQ _ _ _ _ hk3 hs3,fun e=>by cases e⟩) rfl a2 w2 hs2) rfl a w hs
    rw [← h1] at h2
    exact h2
  exact wp_mono hN fun e a w hq=>hq.1
abbrev markOf (d : Nat) : Deferred:={ target:=.collected d,args:=#[] }
theorem Behind.trans {F F' F2 : Fr} (h : Behind F F') (k : Behind F' F2) : Behind F F2:=by
  refine ⟨k.P.trans h.P,k.n.trans h.n,?_⟩
  rcases k.out with ⟨e1,e2⟩ | ⟨ms,o⟩
  · rw [e1,e2];exact h.out
  · obtain ⟨ns,o2⟩:=h.to o
    exact .inr ⟨ns,o2⟩
def nextX (y : Code) (Q : Fr→Exit→St→Prop) (F : Fr) : Exit→St→Prop
  | .normal,s=>F.L = .plain F.P∧VCX F y Q s
  | e,s=>Q F e s
theorem VCX.seq {F : Fr} {x y : Code} {Q : Fr→Exit→St→Prop} {s : St} (hL : F.L = .plain F.P) (h : VCX F x (nextX y Q) s) : VCX F (.seq x y) Q s:=by
  intro a w hs QC hQ
  obtain ⟨P,c0,h0,n,N0,D,L⟩:=F
  obtain rfl : L = .plain P:=hL
  refine (Laws.plain P).seq (h a w hs _ fun F' e s' a' w' hb hq hs'=>?_)
  cases e
  case normal =>
    obtain ⟨hL',hq⟩:=hq
    obtain ⟨P',c0',h0',n',N0',D',L'⟩:=F'
    obtain rfl : L' = .plain P':=hL'
    obtain rfl : P' = P:=hb.P
    exact hq a' w' hs' QC fun F2 e s2 a2 w2 hb2 hq2 hs2=>hQ F2 e s2 a2 w2 (hb.trans hb2) hq2 hs2
  all_goals exact hQ _ _ _ _ _ hb hq hs'
def inX (id : Nat) (Q : Fr→Exit→St→Prop) (F : Fr) : Exit→St→Prop
  | .exit id',s=>bif Nat.beq id' id then Q F .normal s else Q F (.exit id') s
  | e,s=>Q F e s
theorem VCX.block {F : Fr} {id : Nat} {x : Code} {Q : Fr→Exit→St→Prop} {s : St} (hL : F.L = .plain F.P) (h : VCX F x (inX id Q) s) : VCX F (.block id x) Q s:=by
  intro a w hs QC hQ
  obtain ⟨P,c0,h0,n,N0,D,L⟩:=F
  obtain rfl : L = .plain P:=hL
  refine (Laws.plain P).block (h a w hs _ fun F' e s' a' w' hb hq hs'=>?_)
  cases e <;> first | exact hQ _ _ _ _ _ hb hq hs' | skip
  rename_i id'
  unfold inX at hq
  by_cases hid : id' = id
  · subst hid
    simp only [Nat.beq_refl,cond_true] at hq
    show (if id' = id' then QC .normal a' w' else _)
    rw [if_pos rfl]
    exact hQ _ _ _ _ _ hb hq hs'
  · simp only [beq_ne hid,cond_false] at hq
    show (if id' = id then QC .normal a' w' else _)
    rw [if_neg hid]
    exact hQ _ _ _ _ _ hb hq hs'
theorem VCX.range {F : Fr} {Q : Fr→Exit→St→Prop} {e h g : Asc} {N : Nat} {op : Operand} {ps : Array Tmp} {assign body : Code} {fid : FuncId} {fn : Func} {code : Code} {cap : AV} (hL : F.L = .plain F.P)
    (hop : ev g e op = some (.fn (.func fid) .nul cap)) (hch : isChain cap = true) (hf : F.P.funcs[fid]? = some fn) (hb : fn.body = some code) (hres : fn.results = #[]) (hnm : (fn.name == "runtime.NumGoroutine") = false) (hn : Nat.ble (chainLen cap + 1) fn.ntmps = true)
    (hq : ∀ (c : Ctx) (d b : Nat) (rec : Loop),RecOk c F.n e ps assign body rec →
      VC ⟨F.P,c,(N + 1,.ob b (.loop { rec with state:=.ready,pending:=none }))::(N,.ob d (.deferred (some [])))::h,fn.ntmps,N + 2,[],.plain F.P⟩ code
        (fun x s=>(x = .ret ∨ x = .normal)∧∃ j st x',st ≠ .busy∧jumpOf x' = some j∧get? s.h (N + 1) = some (.ob b (.loop { rec with state:=st,pending:=j })) ∧
          ∀ c',Q ⟨F.P,c',putL s.h (N + 1) (.ob b (.loop { rec with state:=.exhausted,pending:=j })),F.n,s.N,markOf d::F.D,.plain F.P⟩ x' ⟨e,putL s.h (N + 1) (.ob b (.loop { rec with state:=.exhausted,pending:=j })),g,s.N⟩)
        ⟨envOf (.pair (.val (.func (.yield b) #[] #[])) cap) 0,(N + 1,.ob b (.loop { rec with state:=.ready,pending:=none }))::(N,.ob d (.deferred (some [])))::h,g,N + 2⟩) : VCX F (.rangeFunc op ps assign body) Q ⟨e,h,g,N⟩:=by
  obtain ⟨P,c0,h0,n,N0,D,L⟩:=F
  obtain rfl : L = .plain P:=hL
  intro a w hs QC hQ
  obtain ⟨c,ns,rfl,hout,hen,hbd,hsz,hdf,hN0,hgl⟩:=hs
  replace hn:=Nat.le_of_ble_eq_true hn
  obtain ⟨fs,cs,hcv,hfs,hcs⟩:=ev_rep hen hop
  have hfs : fs = []:=hfs
  subst hfs
  simp only [List.cons.injEq,and_true] at hcv
  replace hbd : ∀ i,c.A i→i < N:=hbd
  have hA1 : ¬ c.A N:=fun hx=>Nat.lt_irrefl _ (hbd N hx)
  have o1:=Out.newOb (N:=N) (o:=.deferred (some [])) hout.heap hout.ok hA1
  refine (wpIn_wide (n:=1)).1 (wpIn_rangeFunc fun fn0 _=>?_)
  obtain ⟨rec,hrec⟩ : ∃ rec : Loop,rec = { state:=.ready,pending:=none,fn:=fn0,tmps:=a.tmps,params:=ps,assign,body,defers:=c.w.heap.size }:=⟨_,rfl⟩
  have hrec2 : { rec with state:=.ready,pending:=none } = rec:=by rw [hrec]
  have hrt : rec.tmps = a.tmps:=by rw [hrec]
  have hA2 : ¬ (c.new N (.deferred (some []))).A (N + 1):=fun hx=>by
    rcases hx with hx | hx
    · have:=hbd _ hx;omega
    · omega
  have o2:=Out.newOb (N:=N + 1) (o:=.loop rec) o1.heap o1.ok hA2
  have o12:=o1.trans o2
  have hsz1 : (c.new N (.deferred (some []))).w.heap.size = c.w.heap.size + 1:=World.size_alloc _ _
  have hrk : RecOk ((c.new N (.deferred (some []))).new (N + 1) (.loop rec)) n e ps assign body rec:=by
    refine ⟨by rw [hrec],by rw [hrec],by rw [hrec],by rw [hrec];exact hsz,fun t v ht=>?_⟩
    obtain ⟨q1,q2⟩:=hen.slot t v ht
    rw [hrt]
    exact ⟨q1,q2.le o12.le⟩
  refine ⟨c.w.heap.size + 1,[markOf c.w.heap.size],((c.new N (.deferred (some []))).new (N + 1) (.loop rec)).w,{ target:=.fn (.func fid) cs.toArray,args:=#[.func (.yield (c.w.heap.size + 1)) #[] #[]] },((c.new N (.deferred (some []))).new (N + 1) (.loop rec)).w,fid,(.func (.yield (c.w.heap.size + 1)) #[] #[]::cs).toArray,((c.new N (.deferred (some []))).new (N + 1) (.loop rec)).w,?_,?_,fun _ _=>trivial,?_,fun e=>(by cases e),?_⟩
  · rw [hrec];exact run_enterLoop_outer _ _ _ _ _
  · simp [resolve,hcv,Deferred.ofValue]
    rfl
  · have h1 : fn.name ≠ "runtime.NumGoroutine" := by simpa using hnm
    have h2 : fn.body ≠ none:=fun e=>by rw [e] at hb;cases hb
    simp [invoke,callFunc,program,Sem.run,hf,hb,h1]
  · have h3:=hq _ c.w.heap.size (c.w.heap.size + 1) rec hrk
    rw [hrec2] at h3
    rw [hsz1] at o2 o12
    refine callsIn_wide.2 (calls_of_wp hf hb ?_)
    have hvs : Rep ((c.new N (.deferred (some []))).new (N + 1) (.loop rec)) (.pair (.val (.func (.yield (c.w.heap.size + 1)) #[] #[])) cap) .T (.func (.yield (c.w.heap.size + 1)) #[] #[]::cs):=⟨_,_,rfl,⟨rfl,trivial⟩,hcs.le o12.le⟩
    have hlen:=chain_len (a:=.pair (.val (.func (.yield (c.w.heap.size + 1)) #[] #[])) cap) hch hvs
    have hA3 : ∀ i,((c.new N (.deferred (some []))).new (N + 1) (.loop rec)).A i→i < N + 2:=fun i hi=>by
      rcases hi with (hi | hi) | hi
      · have:=hbd i hi;omega
      · omega
      · omega
    have hgl2 : ∀ x v,get? g x = some v→Rep ((c.new N (.deferred (some []))).new (N + 1) (.loop rec)) (.rptr false v) .V [.pointer (some ⟨x,0,none⟩)]:=fun x v hx=>(hen.glob x v hx).le o12.le
    refine h3 _ _ ⟨_,[],rfl,.refl o2.heap o2.ok,⟨fun t v ht=>?_,hgl2⟩,hA3,?_,rfl,hA3,hgl2⟩ _ fun x s a3 w3 hq3 hs3=>?_
    · obtain ⟨_,u,q2,q3⟩:=env_of hvs ht
      have hlt : t < (Value.func (.yield (c.w.heap.size + 1)) #[] #[]::cs).length:=by
        rcases Nat.lt_or_ge t (Value.func (.yield (c.w.heap.size + 1)) #[] #[]::cs).length with h1 | h1
        · exact h1
        · rw [Nat.sub_zero,List.getElem?_eq_none h1] at q2;cases q2
      have hl2 : (Value.func (.yield (c.w.heap.size + 1)) #[] #[]::cs).length = chainLen cap + 1:=hlen
      generalize (Value.func (.yield (c.w.heap.size + 1)) #[] #[]::cs) = vs at *
      refine ⟨by simp;omega,?_⟩
      have : (vs.toArray ++ Array.replicate (fn.ntmps - vs.toArray.size) undef).getD t undef = u:=by
        rw [Nat.sub_zero,List.getElem?_eq_getElem hlt] at q2
        cases q2
        have h1 : t < vs.length + (fn.ntmps - vs.length):=by omega
        simp [h1,Array.getElem_append,hlt]
      rw [this];exact q3
    · have hl2 : (Value.func (.yield (c.w.heap.size + 1)) #[] #[]::cs).length = chainLen cap + 1:=hlen
      generalize (Value.func (.yield (c.w.heap.size + 1)) #[] #[]::cs) = vs at *
      simp;omega
    · obtain ⟨hx,j,st,x',hst,hj,hget,hqq⟩:=hq3
      obtain ⟨c3,ns3,rfl,hout3,hen3,hbd3,hsz3,hdf3,hN3,hgl3⟩:=hs3
      obtain ⟨hG3,hρ3,hbk3⟩:=ob_at hout3.heap hget
      have hend:=run_endLoop (P:=P) hbk3 hst
      have o4:=Out.obPut (o':=.loop { rec with state:=.exhausted,pending:=j }) hout3.heap hout3.ok hget rfl
      obtain ⟨c4,hc4⟩ : ∃ c4 : Ctx,c4 = { c3 with w:=c3.w.putObj (c.w.heap.size + 1) (.loop { rec with state:=.exhausted,pending:=j }) }:=⟨_,rfl⟩
      have hw4 : c4.w = c3.w.putObj (c.w.heap.size + 1) (.loop { rec with state:=.exhausted,pending:=j }):=by rw [hc4]
      have hA4 : ∀ i,c4.A i→i < s.N:=by rw [hc4];exact hbd3
      rw [← hc4] at o4
      rw [← hw4] at hend
      have hall:=((hout.trans o12).trans hout3).trans o4
      have hle:=(o12.le.trans hout3.le).trans o4.le
      generalize putL s.h (N + 1) (.ob (c.w.heap.size + 1) (.loop { rec with state:=.exhausted,pending:=j })) = H4 at *
      have hfin : Sim ⟨P,c4,H4,n,s.N,markOf c.w.heap.size::D,.plain P⟩ ⟨e,H4,g,s.N⟩ { a with defers:=[markOf c.w.heap.size] ++ a.defers } c4.w:=by
        refine ⟨_,[],rfl,.refl o4.heap o4.ok,⟨fun t v ht=>?_,fun x v hx=>(hen.glob x v hx).le hle⟩,hA4,hsz,?_,hA4,fun x v hx=>(hen.glob x v hx).le hle⟩
        · obtain ⟨q1,q2⟩:=hen.slot t v ht
          exact ⟨q1,q2.le hle⟩
        · show markOf c.w.heap.size::a.defers = _
          rw [hdf]
      have hgo:=hQ ⟨P,c4,H4,n,s.N,markOf c.w.heap.size::D,.plain P⟩ x' ⟨e,H4,g,s.N⟩ _ _ ⟨rfl,rfl,.inr ⟨_,hall⟩⟩ (hqq c4) hfin
      have hret : ∃ v,(results fn a3.tmps).run P c3.w = .ok v c3.w:=⟨.tuple #[],by simp [results,hres]⟩
      obtain ⟨v,hv⟩:=hret
      have hpost : rangePost Fence.wide 1 P (c.w.heap.size + 1) QC { a with defers:=[markOf c.w.heap.size] ++ a.defers } (.returned v) c3.w:=by
        refine ⟨_,_,hend,?_⟩
        cases x' <;> simp only [jumpOf,Option.some.injEq,reduceCtorEq] at hj <;> subst hj
        · exact hgo
        · exact wpIn_exit hgo
        · exact wpIn_ret hgo
      rcases hx with rfl | rfl
      · exact ⟨hdf3,v,hv,hpost⟩
      · exact ⟨hdf3,v,hv,hpost⟩
def retM (T : List (Option TI)) (fn : Func) (R : AV→Asc→Prop) (F : Fr) (e : Exit) (s : St) : Prop :=
  ∃ ms : List (Nat × Nat),F.D = ms.map (fun p=>markOf p.2)∧(∀ p ∈ ms,get? s.h p.1 = some (.ob p.2 (.deferred (some []))))∧(ms.map (·.1)).Nodup∧retC F T fn R e ⟨s.e,dropL s.h (ms.map (·.1)),s.g,s.N⟩
theorem marks_taken {P : Program} {fn : Func} {tmps : Array Value} {R : Ending→World→Prop} : ∀ {ms : List (Nat × Nat)} {c : Ctx} {h : Asc},HeapRep c h→CtxOk c→(∀ p ∈ ms,get? h p.1 = some (.ob p.2 (.deferred (some []))))→(ms.map (·.1)).Nodup →
    (∀ c' h',Out c h h' [] c'→(∀ i,c'.A i→c.A i)→(∀ i,i ∉ ms.map (·.1)→get? h' i = get? h i)→∃ v,(results fn tmps).run P c'.w = .ok v c'.w∧R (.returned v) c'.w)→LeavesInM Fence.wide 0 P fn tmps R (ms.map fun p=>markOf p.2) .returning c.w
  | [],c,h,hh,hc,_,_,hk=>hk c h (.refl hh hc) (fun _ hi=>hi) (fun _ _=>rfl)
  | p :: ms,c,h,hh,hc,hg,hnd,hk=>by
    have hp:=hg p List.mem_cons_self
    obtain ⟨_,_,hbk⟩:=ob_at hh hp
    have o1:=Out.obPut (o':=.deferred none) hh hc hp rfl
    rw [List.map_cons,List.nodup_cons] at hnd
    have hne : ∀ q ∈ ms,p.1 ≠ q.1:=fun q hq e=>hnd.1 (by rw [e];exact List.mem_map_of_mem hq)
    refine ⟨by simp,.inl ⟨p.2,_,rfl,run_takeDeferred hbk,?_⟩⟩
    refine marks_taken (c:={ c with w:=c.w.putObj p.2 (.deferred none) }) o1.heap o1.ok (fun q hq=>?_) hnd.2 fun c' h' ho hA hi=>?_
    · rw [get?_putL,if_neg (hne q hq)];exact hg q (List.mem_cons_of_mem _ hq)
    · refine hk c' h' (o1.trans ho) (fun i hi=>hA i hi) fun i hn=>?_
      rw [List.map_cons,List.mem_cons,not_or] at hn
      rw [hi i hn.2,get?_putL,if_neg (fun e=>hn.1 e.symm)]
theorem Ok.of_vcM {P : Program} {T : List (Option TI)} (hT : TabOk P T) {f : FuncId} {fn : Func} {code : Code} {g h : Asc} {args : AV} {R : AV→Asc→Prop} (hf : P.funcs[f]? = some fn) (hb : fn.body = some code) (hch : isChain args = true) (hn : chainLen args ≤ fn.ntmps) (N : Nat) (hN : ∀ i av,get? h i = some av→i < N)
    (hvc : ∀ c0 : Ctx,VCX ⟨P,c0,h,fn.ntmps,N,[],.plain P⟩ code (retM T fn R) ⟨envOf args 0,h,g,N⟩) : Ok P f g h args R:=by
  intro c hg hh hc hB hA vs hvs
  refine (callsIn_wide (n:=0)).1 (callsIn_of_wp_marks hf hb trivial (wpIn_wide.2 (hvc c _ _ (Ok.start hch hn N hN hg hh hc hA hvs) _ fun F e s a w hbh hq hs=>?_)))
  obtain ⟨ms,hD,hms,hnd,s',h1,he,r,h',hr,hsub,hR⟩:=hq
  obtain ⟨c',ns,rfl,hout,hen,hbd,hsz,hdf,hN0,hgl⟩:=hs
  have hl : LeavesInM Fence.wide 0 P fn a.tmps (fun e w'=>∃ c' v r h' ns,e = .returned v∧c'.w = w'∧Out c h h' ns c'∧Rep c' r .V [v]∧R r h') a.defers .returning c'.w:=by
    rw [hdf,hD]
    refine marks_taken hout.heap hout.ok hms hnd fun c2 h2 ho hA2 hi=>?_
    have hs2 : Sim F ⟨s.e,dropL s.h (ms.map (·.1)),s.g,s.N⟩ a c2.w:=by
      refine ⟨c2,_,rfl,(hout.trans ho).shrink fun i av hx=>?_,hen.le ho.le,fun i hx=>hbd i (hA2 i hx),hsz,hdf,hN0,hgl⟩
      rw [get?_drop] at hx
      split at hx
      · cases hx
      · rename_i hm
        rw [hi i (fun h=>hm (memB_ok.2 h))];exact hx
    obtain ⟨c3,ns3,hc3,hout3,hen3,_⟩:=h1 a c2.w hs2
    obtain ⟨v,q1,q2⟩:=res_ok hT hen3 hout3.heap hr
    obtain ⟨ns',hout'⟩:=hbh.to hout3
    rw [hc3] at q1
    exact ⟨v,q1,c3,v,r,h',ns',rfl,hc3,hout'.shrink hsub,q2,hR⟩
  cases e <;> first | exact hl | exact he.elim
end Go.V
namespace Go.V
theorem retM_one {T : List (Option TI)} {fn : Func} {R : AV→Asc→Prop} {F : Fr} {e : Exit} {s : St} (id d : Nat) (hD : F.D = [markOf d]) (hi : get? s.h id = some (.ob d (.deferred (some [])))) {h' : Asc} (hd : dropL s.h [id] = h') (h : retC F T fn R e ⟨s.e,h',s.g,s.N⟩) : retM T fn R F e s :=
  ⟨[(id,d)],hD,(fun p hp=>by rw [List.mem_singleton.1 hp];exact hi),(by simp),(by subst hd;exact h)⟩
end Go.V
