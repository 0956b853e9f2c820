/- Cases that come together again; more steps. Rows that grow, over whatever elements. Results as memory that stays; guards and tests that close by themselves. Drawn regions that write no slot that is known. States said in weaker words. min and max; operations that only give a value, as steps. Arguments whose letters are counted. Drawn regions: pure reads that may come late. Maps: what the operations on maps do to a map of the call's own. -/
import Derived.Test.YtmbldnahcmkpgaaGreatDoorFd
import Derived.Lib.MinMax
import Derived.MapKept
import Derived.Laws.Externs
import Derived.Lib.ConvBytes
import GoSem.Extern.MapsClone
set_option linter.unusedSimpArgs false
set_option linter.unusedVariables false
namespace Go.V
open Go.RowKit Go.L
end Go.V
namespace Go.V
open Go.RowKit Go.L
section
variable {α : Type}
def keepO : Asc→List Nat→(Asc→α)→α
  | [],_,k=>k []
  | (i,v)::r,l,k=>bif memB i l then keepO r l (fun r'=>k ((i,v)::r')) else keepO r l k
theorem keepO_eq : ∀ (h : Asc) (l : List Nat) (k : Asc→α),keepO h l k = k (keepL h l)
  | [],_,_=>rfl
  | (i,v)::r,l,k=>by
    unfold keepO keepL
    cases memB i l
    · simp only [cond_false];rw [keepO_eq]
    · simp only [cond_true];rw [keepO_eq]
end
theorem Sim.heap {F : Fr} {e h h' g : Asc} {N : Nat} (hh : ∀ i,get? h' i = get? h i) : ∀ a w,Sim F ⟨e,h,g,N⟩ a w→Sim F ⟨e,h',g,N⟩ a w:=by
  rintro a w ⟨c,ns,rfl,ho,r⟩
  exact ⟨c,ns,rfl,ho.shrink fun id av hi=>by rw [← hh];exact hi,r⟩
def frK (N : Nat) : List Nat→List Nat
  | []=>[]
  | i::r=>bif Nat.ble N i then i::frK N r else frK N r
theorem frK_ok {N i : Nat} : ∀ {l : List Nat},i ∈ frK N l ↔ i ∈ l∧N ≤ i
  | []=>by simp [frK]
  | k :: r=>by
    unfold frK
    cases hb : Nat.ble N k with
    | true =>
      have:=Nat.le_of_ble_eq_true hb
      simp only [cond_true,List.mem_cons,frK_ok]
      constructor
      · rintro (rfl | h)
        · exact ⟨.inl rfl,this⟩
        · exact ⟨.inr h.1,h.2⟩
      · rintro ⟨rfl | h,h2⟩
        · exact .inl rfl
        · exact .inr ⟨h,h2⟩
    | false =>
      have : ¬ N ≤ k:=fun h=>by rw [Nat.ble_eq_true_of_le h] at hb;cases hb
      simp only [cond_false,List.mem_cons,frK_ok]
      constructor
      · rintro h;exact ⟨.inr h.1,h.2⟩
      · rintro ⟨rfl | h,h2⟩
        · exact absurd h2 this
        · exact ⟨h,h2⟩
theorem call_detE {P : Program} {e h g : Asc} {N : Nat} {d : Option Tmp} {ty : TypeId} {pos : String} {af : Array Edge} {gd : Option (Nat × Bool)} {fid : FuncId} {fn : Func} {callee : Operand} {xs : Array Operand} {tys : Array TypeId} {u1 u2 ax args argsC r0 v : AV} {g' hin h1 hn : Asc} {N' : Nat}
    (hce : ev g e callee = some (.fn (.func fid) u1 u2)) (hax : evs g e xs.toList = some ax) (hc1 : isChain u1 = true) (hc2 : isChain ax = true) (hcat : catC u1 (catC ax u2) = argsC)
    (hf : P.funcs[fid]? = some fn) (hbd : fn.body.isNone = false) (hnm : (fn.name == "runtime.NumGoroutine") = false) (ct : Ok P fid g' hin args (fun r h'=>r = r0∧h' = h1))
    (hg' : ∀ x v,get? g' x = some v→get? g x = some v∧NoFr v∧∀ D σ,RelA D σ v v) (bw : Bool) (σ τ : List (Nat × Nat)) (hσ : passB σ (keys hin) = true)
    (hv : View h (fun id=>bw = true∧memB id (passed σ hin) = false) (fun i=>memB i (keys hin) = true) (sg σ) args argsC) (hnf : NoFr args)
    (hhin : HeapLe (fun i=>memB i (keys hin) = true) (sg σ) h hin) (hnfh : ∀ i av,get? hin i = some av→NoFr av) (hback : Back bw σ τ hin N N' r0 h1 v hn) :
    OpOk P ⟨d,.call ⟨.value callee,xs,tys⟩,ty,pos,af,gd⟩ g e h (some v) (hn ++ dropL h (passed σ hin)) (frK N (keys hn)):=by
  subst hcat
  intro c a hen hh hc hn' K Q hK
  refine call_core (N:=N) (S':=fun v' hn1 N1=>v' = v∧hn1 = hn∧N1 = N') (o:=⟨d,.call ⟨.value callee,xs,tys⟩,ty,pos,af,gd⟩) rfl hce hax hc1 hc2 hf hbd hnm ct hg' σ bw hσ hv hnf hhin hnfh (fun r h' hr=>?_) hen hh hc (fun v' hn1 N1 hS i hi h1 h2 hA=>?_) fun v' hn1 N1 c2 x hS hNN ho hx hi=>?_
  · obtain ⟨rfl,rfl⟩:=hr
    exact ⟨v,hn,τ,N',hback,rfl,rfl,rfl⟩
  · obtain ⟨rfl,rfl,rfl⟩:=hS
    exact hn' i (frK_ok.2 ⟨memB_ok.1 hi,h1⟩) hA
  · obtain ⟨rfl,rfl,rfl⟩:=hS
    refine hK c2 x { ho with A:=fun i hA=>?_ } fun y hy=>by cases hy;exact hx
    rcases ho.A i hA with h1 | h1
    · exact .inl h1
    · rcases hi i (memB_ok.2 h1) with h2 | h2
      · exact .inr (frK_ok.2 ⟨h1,h2.1⟩)
      · exact .inl h2
def eatB (N N' : Nat) (l ks : List Nat) : Bool:=Nat.ble N N' && l.all fun i=>(Nat.ble N i && Nat.blt i N') || memB i ks
def lowB (N' : Nat) (l : List Nat) : Bool:=l.all fun i=>Nat.blt i N'
theorem Seq.callo {F : Fr} {ops : Array Oper} {l : List Oper} {e h g : Asc} {N : Nat} {K : St→Prop} {d : Tmp} {ty : TypeId} {pos : String} {af : Array Edge} {gd : Option (Nat × Bool)} {fid : FuncId} {fn : Func} {callee : Operand} {xs : Array Operand} {tys : Array TypeId} {u1 u2 ax args argsC r0 : AV} {g' hin h1 hr h2 : Asc} (bw : Bool) (σ τ : List (Nat × Nat)) (v : AV) (hn : Asc) (N' : Nat)
    (ct : Ok F.P fid g' hin args (fun r h'=>r = r0∧h' = h1)) (hf : F.P.funcs[fid]? = some fn) (hG : GOk g) (hg' : subG g' g)
    (hce : V.ev g e callee = some (.fn (.func fid) u1 u2)) (hax : evs g e xs.toList = some ax) (hc1 : isChain u1 = true) (hc2 : isChain ax = true) (hcat : catC u1 (catC ax u2) = argsC)
    (hbd : fn.body.isNone = false) (hnm : (fn.name == "runtime.NumGoroutine") = false) (hw : wants ops ⟨some d,.call ⟨.value callee,xs,tys⟩,ty,pos,af,gd⟩ e = some true) (hd2 : Nat.blt d F.n = true)
    (hσ : passB σ (keys hin) = true) (hdr : dropO h (passed σ hin) some = some hr) (hcat2 : catO hn hr some = some h2) (hfr : (Nat.ble N N' && lowB N' (keys hn)) = true)
    (hv : View h (fun id=>bw = true∧memB id (passed σ hin) = false) (fun i=>memB i (keys hin) = true) (sg σ) args argsC) (hnf : NoFr args)
    (hhin : HeapLe (fun i=>memB i (keys hin) = true) (sg σ) h hin) (hnfh : ∀ i av,get? hin i = some av→NoFr av) (hback : Back bw σ τ hin N N' r0 h1 v hn)
    (hk : Seq F ops l ⟨(d,v)::e,h2,g,N'⟩ K) : Seq F ops (⟨some d,.call ⟨.value callee,xs,tys⟩,ty,pos,af,gd⟩::l) ⟨e,h,g,N⟩ K:=by
  rw [dropO_eq] at hdr
  rw [catO_eq] at hcat2
  cases hdr;cases hcat2
  rw [Bool.and_eq_true] at hfr
  refine Seq.step (s:=⟨e,h,g,N⟩) N' hw (call_detE hce hax hc1 hc2 hcat hf hbd hnm ct (hG.hand hg') bw σ τ hσ hv hnf hhin hnfh hback) (fun n hn'=>?_) (Nat.le_of_ble_eq_true hfr.1) hd2 hk
  obtain ⟨q1,q2⟩:=frK_ok.1 hn'
  have:=List.all_eq_true.1 hfr.2 n q1
  exact ⟨q2,by simpa [Nat.blt_eq] using this⟩
end Go.V
namespace Go.V
open Go.RowKit Go.L
def NoFrL : Asc→Prop
  | []=>True
  | (_,v)::r=>NoFr v∧NoFrL r
theorem noFrL_ok : ∀ {h : Asc},NoFrL h→∀ i av,get? h i = some av→NoFr av
  | [],_,i,av,hi=>by cases hi
  | (k,v)::r,h,i,av,hi=>by
    rw [get?_cons] at hi
    split at hi
    · cases hi;exact h.1
    · exact noFrL_ok h.2 i av hi
def AllFrL : Asc→Prop
  | []=>True
  | (_,v)::r=>AllFr v∧AllFrL r
theorem allFrL_ok : ∀ {h : Asc},AllFrL h→∀ i av,get? h i = some av→AllFr av
  | [],_,i,av,hi=>by cases hi
  | (k,v)::r,h,i,av,hi=>by
    rw [get?_cons] at hi
    split at hi
    · cases hi;exact h.1
    · exact allFrL_ok h.2 i av hi
theorem back_mk {bw : Bool} {σ τ : List (Nat × Nat)} {hin : Asc} {N N' : Nat} {r : AV} {h' : Asc} {v : AV} {hn : Asc} (h1 : RelA (fun i=>memB i (keys hn) = true) (sg τ) v r) (h2 : HeapLe (fun i=>memB i (keys hn) = true) (sg τ) h' hn) (h3 : bw = true→AllFr r∧AllFrL h') (h4 : backB σ τ hin hn N N' = true) : Back bw σ τ hin N N' r h' v hn :=
  ⟨h1,h2,fun e=>⟨(h3 e).1,allFrL_ok (h3 e).2⟩,h4⟩
theorem setf_size {a u u' : AV} : ∀ {k : Nat},getf a k = some u→u'.size = u.size→(setf a k u').size = a.size:=by
  induction a with
  | pair a b _ ih =>
    intro k hk hs
    cases k with
    | zero =>
      simp only [getf,Option.some.injEq] at hk
      subst hk
      simp [setf,AV.size,hs]
    | succ k=>simp [setf,AV.size,ih (by simpa [getf] using hk) hs]
  | int | bool | str | val | emp | nul | arr | ptr | sl | rsl | rptr | tup | fn | ifc | mp | mo | ob=>intro k hk;cases k <;> simp [getf] at hk
theorem rep_setf1 {c : Ctx} {a u u' : AV} (hu : ∀ vs,Rep c u .C vs→Rep c u' .C vs) : ∀ {k : Nat} {vs : List Value},getf a k = some u→Rep c a .C vs→Rep c (setf a k u') .C vs:=by
  induction a with
  | pair a b _ ih =>
    intro k vs hk hr
    obtain ⟨x,y,rfl,h1,h2⟩:=hr
    cases k with
    | zero =>
      simp only [getf,Option.some.injEq] at hk
      subst hk
      exact ⟨x,y,rfl,hu _ h1,h2⟩
    | succ k=>exact ⟨x,y,rfl,h1,ih (by simpa [getf] using hk) h2⟩
  | int | bool | str | val | emp | nul | arr | ptr | sl | rsl | rptr | tup | fn | ifc | mp | mo | ob=>intro k vs hk;cases k <;> simp [getf] at hk
theorem getf_mo {a u : AV} {k : Nat} (h : getf a k = some u) : a.isMo = false:=by
  cases a <;> first | rfl | (cases k <;> simp [getf] at h)
theorem Out.swap {c c' : Ctx} {h h' : Asc} {ns : List Nat} {id : Nat} {av av' : AV} (o : Out c h h' ns c') (hi : get? h' id = some av) (hmo : av.isMo = false) (hs : av'.size = av.size) (hr : ∀ vs,Rep c' av .C vs→Rep c' av' .C vs) : Out c h (putL h' id av') ns c':=by
  have hc : ∀ i u,get? (putL h' id av') i = some u→(i = id∧u = av') ∨ get? h' i = some u:=fun i u hu=>by
    rw [get?_putL] at hu
    by_cases e : id = i
    · rw [if_pos e] at hu;cases hu;exact .inl ⟨e.symm,rfl⟩
    · rw [if_neg e] at hu;exact .inr hu
  have hk : ∀ i u,get? (putL h' id av') i = some u→∃ u',get? h' i = some u':=fun i u hu=>by
    rcases hc i u hu with ⟨rfl,_⟩ | h
    · exact ⟨av,hi⟩
    · exact ⟨u,h⟩
  refine ⟨o.le,o.B,o.A,⟨fun i u hu=>?_,fun i u hu hG=>?_,fun i u hu hG=>?_,fun i u hu hG=>?_,fun i j a b hi' hj hgi hgj e=>?_⟩,o.ok,o.os,o.tape,o.output,o.size,o.frame,fun i u hu hG=>?_,o.newS⟩
  · obtain ⟨u',h1⟩:=hk i u hu;exact o.heap.A i u' h1
  · rcases hc i u hu with ⟨rfl,rfl⟩ | h1
    · obtain ⟨cs,t,xs,ys,q1,q2,q3⟩:=(o.heap.obj _ _ hi hG).cells hmo
      exact .inl ⟨cs,t,xs,ys,q1,q2,hr _ q3⟩
    · exact o.heap.obj i u h1 hG
  · rcases hc i u hu with ⟨rfl,rfl⟩ | h1
    · rw [hs];exact o.heap.gh _ _ hi hG
    · exact o.heap.gh i u h1 hG
  · obtain ⟨u',h1⟩:=hk i u hu;exact o.heap.nS i u' h1 hG
  · obtain ⟨a',h1⟩:=hk i a hi'
    obtain ⟨b',h2⟩:=hk j b hj
    exact o.heap.inj i j a' b' h1 h2 hgi hgj e
  · obtain ⟨u',h1⟩:=hk i u hu;exact o.own i u' h1 hG
theorem Sim.ghostF {F : Fr} {e h h' g : Asc} {N : Nat} (id k sz : Nat) (f : Nat→AV) {av : AV} (ho : get? h id = some av) (hk : getf av k = some (.val (.slice none 0 0))) (hp : setfK av k (.sl N [] sz 0 0) (fun av'=>putK h id av' some) = some h') :
    ∀ a w,Sim F ⟨e,h,g,N⟩ a w→Sim F ⟨e,(N,.arr 0 sz f)::h',g,N + 1⟩ a w:=by
  rw [setfK_eq,putK_eq] at hp
  cases hp
  rintro a w ⟨c,ns,rfl,hout,he,hA,r⟩
  have hN : ¬ c.A N:=fun h=>by have : N < N:=hA N h;omega
  have hne : N ≠ id:=fun e=>hN (e ▸ hout.heap.A id av ho)
  have ho2:=Out.ghost (N:=N) (av:=.arr 0 sz f) hout.heap hout.ok hN (by simp [AV.size])
  have ho3:=hout.trans ho2
  have hi3 : get? ((N,AV.arr 0 sz f)::h) id = some av:=by rw [get?_cons,if_neg hne];exact ho
  have ho4:=ho3.swap (av':=setf av k (.sl N [] sz 0 0)) hi3 (getf_mo hk) (setf_size hk rfl) (fun vs hv=>rep_setf1 (u':=.sl N [] sz 0 0) (fun ws hw=>by
    have hw : ws = [_]:=hw.1
    exact ⟨.inr rfl,.inl ⟨.inr rfl,rfl,none,hw⟩⟩) hk hv)
  refine ⟨{ c with A:=fun i=>c.A i ∨ i = N,G:=fun i=>c.G i ∨ i = N },_,rfl,ho4.shrink fun i u hu=>?_,⟨fun t v hv=>(he.le ho2.le).slot t v hv,(he.le ho2.le).glob⟩,fun i hi=>?_,r⟩
  · rw [get?_putL]
    rw [get?_cons,get?_putL] at hu
    rw [get?_cons]
    by_cases e1 : N = i
    · subst e1
      rw [if_pos rfl] at hu
      rw [if_neg (Ne.symm hne),if_pos rfl];exact hu
    · rw [if_neg e1] at hu
      rw [if_neg e1];exact hu
  · show i < N + 1
    rcases hi with hi | hi
    · have : i < N:=hA i hi
      omega
    · omega
theorem hlt_ok {h : Asc} {N : Nat} (hb : (keys h).all (fun i=>Nat.blt i N) = true) : ∀ i av,get? h i = some av→i < N:=fun i av hi=>by
  have:=List.all_eq_true.1 hb i (get?_keys hi)
  simpa [Nat.blt_eq] using this
def SubL (s : Asc) : Asc→Prop
  | []=>True
  | (k,v)::r=>get? s k = some v∧SubL s r
theorem subL_ok {s : Asc} : ∀ {h : Asc},SubL s h→∀ i av,get? h i = some av→get? s i = some av
  | [],_,i,av,hi=>by cases hi
  | (k,v)::r,h,i,av,hi=>by
    rw [get?_cons] at hi
    by_cases e : k = i
    · rw [if_pos e] at hi;cases hi;subst e;exact h.1
    · rw [if_neg e] at hi;exact subL_ok h.2 i av hi
end Go.V
namespace Go.V
open Go.RowKit Go.L
theorem RelA.tup {A : Nat→Prop} {σ : Nat→Nat} {a x : AV} (h : RelA A σ a x) : RelA A σ (.tup a) (.tup x):=⟨x,rfl,h⟩
theorem Sim.ghostO {F : Fr} {e h h' g : Asc} {N : Nat} (id sz : Nat) (f : Nat→AV) (ho : get? h id = some (.val (.slice none 0 0))) (hp : putK h id (.sl N [] sz 0 0) some = some h') :
    ∀ a w,Sim F ⟨e,h,g,N⟩ a w→Sim F ⟨e,(N,.arr 0 sz f)::h',g,N + 1⟩ a w:=by
  rw [putK_eq] at hp
  cases hp
  rintro a w ⟨c,ns,rfl,hout,he,hA,r⟩
  have hN : ¬ c.A N:=fun h=>by have : N < N:=hA N h;omega
  have hne : N ≠ id:=fun e=>hN (e ▸ hout.heap.A id _ ho)
  have ho2:=Out.ghost (N:=N) (av:=.arr 0 sz f) hout.heap hout.ok hN (by simp [AV.size])
  have ho3:=hout.trans ho2
  have hi3 : get? ((N,AV.arr 0 sz f)::h) id = some (.val (.slice none 0 0)):=by rw [get?_cons,if_neg hne];exact ho
  have ho4:=ho3.swap (av':=.sl N [] sz 0 0) hi3 rfl rfl (fun ws hw=>by
    have hw : ws = [_]:=hw.1
    exact ⟨.inr rfl,.inl ⟨.inr rfl,rfl,none,hw⟩⟩)
  refine ⟨{ c with A:=fun i=>c.A i ∨ i = N,G:=fun i=>c.G i ∨ i = N },_,rfl,ho4.shrink fun i u hu=>?_,⟨fun t v hv=>(he.le ho2.le).slot t v hv,(he.le ho2.le).glob⟩,fun i hi=>?_,r⟩
  · rw [get?_putL]
    rw [get?_cons,get?_putL] at hu
    rw [get?_cons]
    by_cases e1 : N = i
    · subst e1
      rw [if_pos rfl] at hu
      rw [if_neg (Ne.symm hne),if_pos rfl];exact hu
    · rw [if_neg e1] at hu
      rw [if_neg e1];exact hu
  · show i < N + 1
    rcases hi with hi | hi
    · have : i < N:=hA i hi
      omega
    · omega
section
variable {P : Program} {t : TypeId} {g e h : Asc} {x y : Operand} {d : Option Tmp} {ty : TypeId} {pos : String} {af : Array Edge} {gd : Option (Nat × Bool)}
theorem nearr_ok {T : List (Option TI)} (hT : TabOk P T) {n eT : Nat} {k : IntKind} {a b : Nat→Int} {yt : TypeId} (hk : (tget T t).map (·.kind) = some (.array n eT)) (hke : (tget T eT).map (·.kind) = some (.int k)) (hsz : (tget T eT).map (·.lay.size) = some 1)
    (hg : P.eqGuardType P.depth t = false) (hx : ev g e x = some (.arr n 1 (fun i=>.int k (a i)))) (hy : ev g e y = some (.arr n 1 (fun i=>.int k (b i)))) (r : Bool) (hr : r = false ↔ ∀ i,i < n→a i = b i) :
    OpOk P ⟨d,.binOp .neq t x y yt,ty,pos,af,gd⟩ g e h (some (.bool r)) h []:=by
  refine OpOk.val fun c ac he hh hc=>⟨.bool r,?_,rfl⟩
  obtain ⟨xs,hvx,hxs⟩:=arr_vals (ev_rep he hx)
  obtain ⟨ys,hvy,hys⟩:=arr_vals (ev_rep he hy)
  cases htt : tget T t with
  | none=>simp [htt] at hk
  | some ti =>
  cases hte : tget T eT with
  | none=>simp [hte] at hke
  | some tie =>
  simp only [htt,hte,Option.map_some,Option.some.injEq] at hk hke hsz
  have hu:=(hT _ _ htt).und
  have hue:=(hT _ _ hte).und
  rw [hk] at hu
  rw [hke] at hue
  simp only [TK.fits] at hu hue
  obtain ⟨ie,z,hie,hse,_⟩:=(hT _ _ hte).info
  have hce : P.cellsOf eT = 1:=by simp [Program.cellsOf,hie,hse,hsz]
  have hall : ((List.range n).all fun i=>decide (a i = b i)) = !r:=by
    rw [Bool.eq_iff_iff,List.all_eq_true,Bool.not_eq_true',hr]
    constructor
    · intro h i hi;simpa using h i (List.mem_range.2 hi)
    · intro h i hi;simpa using h i (List.mem_range.1 hi)
  have heq : (Op.equal t (.agg xs) (.agg ys)).run P c.w = .ok (!r) c.w:=by
    show (Op.equalIn (9998 + 1 + 1) t (.agg xs) (.agg ys)).run P c.w = _
    rw [run_equalIn_array c.w _ xs ys hu hie,hce,run_eqItems_int hue _ xs ys a b n hxs hys c.w _ (fun i hi=>List.mem_range.1 hi),hall]
  have hgd : (eqGuard .neq t x y (.agg xs) (.agg ys)).run P c.w = .ok () c.w:=by simp [eqGuard,program,Sem.run,hg]
  simp only [execOp,hvx,hvy,Sem.run_bind,hgd,Result.andThen_ok,binOp,heq,Sem.run_pure,Bool.not_not]
end
theorem DSeq.nearr {P : Program} {ops : Array Oper} {g e0 h0 : Asc} {j : Nat} {anc : List Nat} {r : List (Nat × List Nat)} {its its' : List It} {N : Nat} {B : Asc} {K : List It→Nat→Asc→Prop} {eL hL : Asc} (q : Bool) {T : List (Option TI)} (hT : TabOk P T) {d : Tmp} {ty : TypeId} {pos : String} {af : Array Edge} {gd : Option (Nat × Bool)} {t yt : TypeId} {x y : Operand} {n eT : Nat} {k : IntKind} {a b : Nat→Int} (ho : ops[j]? = some ⟨some d,.binOp .neq t x y yt,ty,pos,af,gd⟩)
    (hE : selEO (fun i=>memB i anc) e0 its some = some eL) (hH : selHO (fun i=>memB i anc) h0 its some = some hL)
    (hk : (tget T t).map (·.kind) = some (.array n eT)) (hke : (tget T eT).map (·.kind) = some (.int k)) (hsz : (tget T eT).map (·.lay.size) = some 1) (hg : P.eqGuardType P.depth t = false)
    (hx : V.ev g eL x = some (.arr n 1 (fun i=>.int k (a i)))) (hy : V.ev g eL y = some (.arr n 1 (fun i=>.int k (b i)))) (hw : wants ops ⟨some d,.binOp .neq t x y yt,ty,pos,af,gd⟩ eL = some true) (hr : q = false ↔ ∀ i,i < n→a i = b i)
    (hs : snocO its ⟨j,d,.bool q,[]⟩ some = some its') (h : DSeq P ops g e0 h0 r its' N B K) : DSeq P ops g e0 h0 ((j,anc)::r) its N B K :=
  DSeq.put (n:=[]) ho hE hH hw (nearr_ok hT hk hke hsz hg hx hy q hr) (fun i hi=>by cases hi) (Nat.le_refl _) hs h
theorem RelA.fn {A : Nat→Prop} {σ : Nat→Nat} {f : Fn} {a b x y : AV} (h1 : RelA A σ a x) (h2 : RelA A σ b y) : RelA A σ (.fn f a b) (.fn f x y):=⟨x,y,rfl,h1,h2⟩
theorem Out.still {c : Ctx} {h h' : Asc} (D : Nat→Prop) (hh : HeapRep c h) (hc : CtxOk c) (hs : ∀ id av,get? h' id = some av→get? h id = some av) (hd : ∀ i av,get? h' i = some av→¬ D i) :
    Out c h h' [] { c with S:=fun b=>c.S b ∨ ∃ i av,get? h i = some av∧¬ c.G i∧D i∧c.ρ i = b }:=by
  have hle : Le c { c with S:=fun b=>c.S b ∨ ∃ i av,get? h i = some av∧¬ c.G i∧D i∧c.ρ i = b }:=⟨fun _ h=>h,fun _ _=>rfl,fun _ _=>Iff.rfl,fun i _ _=>Nat.le_refl _,fun b hb _=>⟨.inl hb,fun h=>h,rfl⟩⟩
  refine ⟨hle,rfl,fun _ h=>.inl h,⟨fun i av hi=>hh.A i av (hs i av hi),fun i av hi hGi=>(hh.obj i av (hs i av hi) hGi).le hle rfl,fun i av hi hGi=>hh.gh i av (hs i av hi) hGi,fun i av hi hGi hS=>?_,fun i j p q hi hj=>hh.inj i j p q (hs i p hi) (hs j q hj)⟩,⟨fun b hb=>?_,hc.B⟩,rfl,rfl,rfl,Nat.le_refl _,fun b hb hn=>rfl,fun i av hi hGi=>.inl ⟨i,av,hs i av hi,hGi,rfl⟩,fun b hb=>?_⟩
  · rcases hS with hS | ⟨j,aj,h1,h2,h3,h4⟩
    · exact hh.nS i av (hs i av hi) hGi hS
    · have:=hh.inj i j _ _ (hs i av hi) h1 hGi h2 h4.symm
      exact hd i av hi (this ▸ h3)
  · rcases hb with hb | ⟨j,aj,h1,h2,h3,h4⟩
    · exact hc.S b hb
    · rw [← h4];exact (hh.obj j aj h1 h2).lt
  · rcases hb with hb | ⟨j,aj,h1,h2,h3,h4⟩
    · exact .inl hb
    · exact .inr (.inr ⟨j,aj,h1,h2,h4⟩)
def EnvV (H : Asc) (bor D : Nat→Prop) (σ : Nat→Nat) (e : Asc) : Asc→Prop
  | []=>True
  | (t,v)::r=>(∃ u,get? e t = some u∧View H bor D σ v u∧NoFr v)∧EnvV H bor D σ e r
theorem EnvV.nil {H : Asc} {bor D : Nat→Prop} {σ : Nat→Nat} {e : Asc} : EnvV H bor D σ e []:=trivial
theorem EnvV.cons {H : Asc} {bor D : Nat→Prop} {σ : Nat→Nat} {e r : Asc} {t : Nat} {v u : AV} (h : get? e t = some u) (h1 : View H bor D σ v u) (h2 : NoFr v) (h3 : EnvV H bor D σ e r) : EnvV H bor D σ e ((t,v)::r):=⟨⟨u,h,h1,h2⟩,h3⟩
theorem envV_get {H : Asc} {bor D : Nat→Prop} {σ : Nat→Nat} {e : Asc} : ∀ {e' : Asc},EnvV H bor D σ e e'→∀ t v,get? e' t = some v→∃ u,get? e t = some u∧View H bor D σ v u∧NoFr v
  | [],_,t,v,h=>by cases h
  | (k,w)::r,h,t,v,hg=>by
    rw [get?_cons] at hg
    by_cases e : k = t
    · rw [if_pos e] at hg;cases hg;subst e;exact h.1
    · rw [if_neg e] at hg;exact envV_get h.2 t v hg
theorem cat_ok {P : Program} {t yt ty : TypeId} {g e h : Asc} {x y : Operand} {d : Option Tmp} {pos : String} {af : Array Edge} {gd : Option (Nat × Bool)} {a b : List UInt8} (hx : V.ev g e x = some (.str a)) (hy : V.ev g e y = some (.str b)) (hl : a.length + b.length ≤ 9223372036854775807) :
    OpOk P ⟨d,.binOp .add t x y yt,ty,pos,af,gd⟩ g e h (some (.str (a ++ b))) h []:=by
  refine OpOk.val fun c ac he hh hc=>⟨.string ⟨(a ++ b).toArray⟩,?_,rfl⟩
  have hvx:=rep_str (ev_rep he hx)
  have hvy:=rep_str (ev_rep he hy)
  have hgd : (eqGuard .add t x y (.string ⟨a.toArray⟩) (.string ⟨b.toArray⟩)).run P c.w = .ok () c.w:=rfl
  have hs : (Op.stringOp .add ⟨a.toArray⟩ ⟨b.toArray⟩).run P c.w = .ok (.string ⟨(a ++ b).toArray⟩) c.w:=by
    have:=run_string_add_sum (P:=P) c.w ⟨a.toArray⟩ ⟨b.toArray⟩ (by simpa [ByteArray.size] using hl)
    rw [this,ByteArray.mk_append_mk]
  simp only [execOp,hvx,hvy,Sem.run_bind,hgd,Result.andThen_ok,binOp_string_add,hs,Sem.run_pure]
theorem DSeq.cat {P : Program} {ops : Array Oper} {g e0 h0 : Asc} {j : Nat} {anc : List Nat} {r : List (Nat × List Nat)} {its its' : List It} {N : Nat} {B : Asc} {K : List It→Nat→Asc→Prop} {eL hL : Asc} {d : Tmp} {ty : TypeId} {pos : String} {af : Array Edge} {gd : Option (Nat × Bool)} {t yt : TypeId} {x y : Operand} {a b : List UInt8} (ho : ops[j]? = some ⟨some d,.binOp .add t x y yt,ty,pos,af,gd⟩)
    (hE : selEO (fun i=>memB i anc) e0 its some = some eL) (hH : selHO (fun i=>memB i anc) h0 its some = some hL)
    (hx : V.ev g eL x = some (.str a)) (hy : V.ev g eL y = some (.str b)) (hw : wants ops ⟨some d,.binOp .add t x y yt,ty,pos,af,gd⟩ eL = some true) (hl : a.length + b.length ≤ 9223372036854775807)
    (hs : snocO its ⟨j,d,.str (a ++ b),[]⟩ some = some its') (h : DSeq P ops g e0 h0 r its' N B K) : DSeq P ops g e0 h0 ((j,anc)::r) its N B K :=
  DSeq.put (n:=[]) ho hE hH hw (cat_ok hx hy hl) (fun i hi=>by cases hi) (Nat.le_refl _) hs h
theorem Out.stillV {c : Ctx} {h h' : Asc} (D : Nat→Prop) (hh : HeapRep c h) (hc : CtxOk c) (hd : ∀ i av,get? h' i = some av→¬ D i)
    (hs : ∀ id av,get? h' id = some av→∃ u,get? h id = some u∧av.size = u.size∧(¬ c.G id→ObjAt { c with S:=fun b=>c.S b ∨ ∃ i av,get? h i = some av∧¬ c.G i∧D i∧c.ρ i = b } (c.ρ id) av)) :
    Out c h h' [] { c with S:=fun b=>c.S b ∨ ∃ i av,get? h i = some av∧¬ c.G i∧D i∧c.ρ i = b }:=by
  have hle : Le c { c with S:=fun b=>c.S b ∨ ∃ i av,get? h i = some av∧¬ c.G i∧D i∧c.ρ i = b }:=⟨fun _ h=>h,fun _ _=>rfl,fun _ _=>Iff.rfl,fun i _ _=>Nat.le_refl _,fun b hb _=>⟨.inl hb,fun h=>h,rfl⟩⟩
  refine ⟨hle,rfl,fun _ h=>.inl h,⟨fun i av hi=>?_,fun i av hi hGi=>?_,fun i av hi hGi=>?_,fun i av hi hGi hS=>?_,fun i j p q hi hj=>?_⟩,⟨fun b hb=>?_,hc.B⟩,rfl,rfl,rfl,Nat.le_refl _,fun b hb hn=>rfl,fun i av hi hGi=>?_,fun b hb=>?_⟩
  · obtain ⟨u,hu,_⟩:=hs i av hi
    exact hh.A i u hu
  · obtain ⟨u,hu,_,h1⟩:=hs i av hi
    exact h1 hGi
  · obtain ⟨u,hu,h1,_⟩:=hs i av hi
    rw [h1];exact hh.gh i u hu hGi
  · obtain ⟨u,hu,_⟩:=hs i av hi
    rcases hS with hS | ⟨j,aj,h1,h2,h3,h4⟩
    · exact hh.nS i u hu hGi hS
    · have:=hh.inj i j _ _ hu h1 hGi h2 h4.symm
      exact hd i av hi (this ▸ h3)
  · obtain ⟨u,hu,_⟩:=hs i p hi
    obtain ⟨v,hv,_⟩:=hs j q hj
    exact hh.inj i j u v hu hv
  · rcases hb with hb | ⟨j,aj,h1,h2,h3,h4⟩
    · exact hc.S b hb
    · rw [← h4];exact (hh.obj j aj h1 h2).lt
  · obtain ⟨u,hu,_⟩:=hs i av hi
    exact .inl ⟨i,u,hu,hGi,rfl⟩
  · rcases hb with hb | ⟨j,aj,h1,h2,h3,h4⟩
    · exact .inl hb
    · exact .inr (.inr ⟨j,aj,h1,h2,h4⟩)
def HeapV (H : Asc) (bor D : Nat→Prop) (σ : Nat→Nat) : Asc→Prop
  | []=>True
  | (t,v)::r=>(∃ u,get? H t = some u∧View H bor D σ v u∧NoFr v∧v.size = u.size)∧HeapV H bor D σ r
theorem HeapV.nil {H : Asc} {bor D : Nat→Prop} {σ : Nat→Nat} : HeapV H bor D σ []:=trivial
theorem HeapV.cons {H : Asc} {bor D : Nat→Prop} {σ : Nat→Nat} {r : Asc} {t : Nat} {v u : AV} (h : get? H t = some u) (h1 : View H bor D σ v u) (h2 : NoFr v) (h4 : v.size = u.size) (h3 : HeapV H bor D σ r) : HeapV H bor D σ ((t,v)::r):=⟨⟨u,h,h1,h2,h4⟩,h3⟩
theorem heapV_get {H : Asc} {bor D : Nat→Prop} {σ : Nat→Nat} : ∀ {e' : Asc},HeapV H bor D σ e'→∀ t v,get? e' t = some v→∃ u,get? H t = some u∧View H bor D σ v u∧NoFr v∧v.size = u.size
  | [],_,t,v,h=>by cases h
  | (k,w)::r,h,t,v,hg=>by
    rw [get?_cons] at hg
    by_cases e : k = t
    · rw [if_pos e] at hg;cases hg;subst e;exact h.1
    · rw [if_neg e] at hg;exact heapV_get h.2 t v hg
theorem Sim.stillV {F : Fr} {e h g e' h' : Asc} {N : Nat} (ids : List Nat) (hd : (keys h').all (fun i=>!memB i ids) = true) (hs : HeapV h (fun i=>true = true∧memB i ids = true) (fun i=>memB i (keys h') = true) (fun i=>i) h') (he : EnvV h (fun i=>true = true∧memB i ids = true) (fun i=>memB i (keys h') = true) (fun i=>i) e e') :
    ∀ a w,Sim F ⟨e,h,g,N⟩ a w→Sim F ⟨e',h',g,N⟩ a w:=by
  rintro a w ⟨c,ns,rfl,hout,hen,hA,r⟩
  have hdis : ∀ i av,get? h' i = some av→¬ (memB i ids = true):=fun i av hi hm=>by
    have:=List.all_eq_true.1 hd i (get?_keys hi)
    rw [hm] at this;cases this
  have hp : Pass true false c { c with S:=fun b=>c.S b ∨ ∃ i av,get? h i = some av∧¬ c.G i∧memB i ids = true∧c.ρ i = b } (fun i=>memB i (keys h') = true) (fun i=>i):=⟨rfl,fun i hi=>by
      obtain ⟨av,hav⟩:=keys_get (memB_ok.1 hi)
      obtain ⟨u,hu,_⟩:=heapV_get hs i av hav
      exact hout.heap.A i u hu,fun _ _=>rfl,fun _ _=>Iff.rfl,fun b hb _=>.inl hb,fun e=>by cases e⟩
  have hvr : ∀ {a u : AV},View h (fun i=>true = true∧memB i ids = true) (fun i=>memB i (keys h') = true) (fun i=>i) a u→∀ {m : Md} {vs : List Value},NoFr a→Rep c u m vs→Rep { c with S:=fun b=>c.S b ∨ ∃ i av,get? h i = some av∧¬ c.G i∧memB i ids = true∧c.ρ i = b } a m vs :=
    by intro a u hv m vs hn hu;exact hv.rep hp hout.heap (fun id av hi hb hG=>.inr ⟨id,av,hi,hG,hb.2,rfl⟩) hn hu
  have ho2:=Out.stillV (c:=c) (h:=h) (h':=h') (fun i=>memB i ids = true) hout.heap hout.ok hdis (fun i av hi=>by
    obtain ⟨u,hu,h1,h2,h3⟩:=heapV_get hs i av hi
    refine ⟨u,hu,h3,fun hG=>?_⟩
    refine (hout.heap.obj i u hu hG).to rfl (fun xs hx=>hvr h1 h2 hx) (fun n k v e=>?_) (fun b o e=>by
      subst e
      cases h1 with
      | rel hr=>exact relA_ob hr)
    subst e
    cases h1 with
    | rel hr =>
      obtain ⟨ks,vs,rfl,e2⟩:=relA_mo hr
      exact ⟨ks,vs,rfl,fun i hi=>⟨fun x hx=>hvr (.rel (e2 i hi).1) (h2 i hi).1 hx,fun x hx=>hvr (.rel (e2 i hi).2) (h2 i hi).2 hx⟩⟩)
  refine ⟨{ c with S:=fun b=>c.S b ∨ ∃ i av,get? h i = some av∧¬ c.G i∧memB i ids = true∧c.ρ i = b },_,rfl,hout.trans ho2,⟨fun t v hv=>?_,(hen.le ho2.le).glob⟩,hA,r⟩
  obtain ⟨u,h1,h2,h3⟩:=envV_get he t v hv
  obtain ⟨q1,q2⟩:=hen.slot t u h1
  exact ⟨q1,hvr h2 h3 q2⟩
end Go.V
namespace Go.V
open Go.RowKit Go.L
inductive ViewT (H : Asc) : AV→AV→Prop
  | rel {a u : AV} : RelA (fun _=>False) (fun i=>i) a u→ViewT H a u
  | sl {id n' sz off n m : Nat} {p : List Step} {av : AV} {f k : Nat→AV} : get? H id = some av→getp av p = some (.arr n' sz k)→AllP (inbL av p)→off + n ≤ n'→m = n→(∀ i,i < n→ViewT H (f i) (k (off + i)))→ViewT H (.rsl true m sz f) (.sl id p sz off n)
  | nil {sz : Nat} {f : Nat→AV} : ViewT H (.rsl true 0 sz f) (.val (.slice none 0 0))
  | emp {sz : Nat} {f : Nat→AV} : ViewT H (.rsl true 0 sz f) .emp
  | ptr {id : Nat} {p : List Step} {av w a : AV} : get? H id = some av→getp av p = some w→AllP (inbL av p)→w.isMo = false→ViewT H a w→ViewT H (.rptr true a) (.ptr id p)
  | pair {a b x y : AV} : ViewT H a x→ViewT H b y→ViewT H (.pair a b) (.pair x y)
  | tup {a x : AV} : ViewT H a x→ViewT H (.tup a) (.tup x)
  | fn {f : Fn} {a b x y : AV} : ViewT H a x→ViewT H b y→ViewT H (.fn f a b) (.fn f x y)
  | ifc {t : TypeId} {a x : AV} : ViewT H a x→ViewT H (.ifc t a) (.ifc t x)
def stillC (c : Ctx) (H : Asc) : Ctx:={ c with S:=fun b=>c.S b ∨ ∃ i av,get? H i = some av∧¬ c.G i∧True∧c.ρ i = b }
theorem ViewT.rep {H : Asc} {c : Ctx} (hh : HeapRep c H) (hB : ∀ id av,get? H id = some av→¬ c.G id→c.B ≤ c.ρ id) {a u : AV} (h : ViewT H a u) : ∀ {m : Md} {vs : List Value},Rep c u m vs→Rep (stillC c H) a m vs:=by
  have hp : Pass false false c (stillC c H) (fun _=>False) (fun i=>i):=⟨rfl,fun i hi=>hi.elim,fun i hi=>hi.elim,fun i hi=>hi.elim,fun b hb _=>.inl hb,fun _=>Nat.le_refl _⟩
  induction h with
  | rel hr=>intro m vs hu;exact hu.pass hp hr (fun e=>by cases e) (fun e=>by cases e)
  | nil =>
    intro m vs hu
    exact ⟨none,0,hu.1,Nat.le_refl _,Nat.zero_le _,.inl rfl⟩
  | emp =>
    intro m vs hu
    obtain ⟨ad,hu⟩:=hu
    exact ⟨ad,0,hu,Nat.le_refl _,Nat.zero_le _,.inl rfl⟩
  | @sl id n' sz off n m p av f k h1 h2 h3 h4 hm h6 ih =>
    subst hm
    intro md vs hu
    obtain ⟨_,⟨_,hz,ad,e⟩ | ⟨hG,o,cap,e,ho,h7,h8,_⟩⟩:=hu
    · exact ⟨ad,0,by rw [e,hz],by omega,Nat.zero_le _,.inl hz⟩
    · refine ⟨_,cap,e,h7,h8,?_⟩
      by_cases hn0 : m = 0
      · exact .inl hn0
      obtain ⟨xs,q1,q2,q3⟩:=(hh.obj id av h1 hG).path h2 (inbL_ok h3) rfl
      have hmul : off * sz + m * sz ≤ n' * sz:=by rw [← Nat.add_mul];exact Nat.mul_le_mul_right _ h4
      have ho3 : o = pathOff p + off * sz:=by rcases ho with ho | ho;omega;exact ho
      refine .inr ⟨c.ρ id,o,sub xs (off * sz) (m * sz),rfl,.inr ⟨id,av,h1,hG,trivial,rfl⟩,(fun _=>hB id av h1 hG),by rw [ho3];exact q1.sub _ _,sub_len (by omega),fun i hi=>?_⟩
      have hm2 : i * sz + sz ≤ m * sz:=by
        have:=Nat.mul_le_mul_right sz (show i + 1 ≤ m from hi)
        rwa [Nat.add_mul,Nat.one_mul] at this
      rw [sub_sub _ _ _ _ _ hm2,← Nat.add_mul]
      exact ih i hi (q3 _ (by omega))
  | @ptr id p av w a h1 h2 h3 hmo h5 ih =>
    intro m vs hu
    obtain ⟨_,hG,e⟩:=hu
    obtain ⟨xs,q1,q2⟩:=(hh.obj id av h1 hG).path h2 (inbL_ok h3) hmo
    exact ⟨c.ρ id,pathOff p,xs,e,.inr ⟨id,av,h1,hG,trivial,rfl⟩,(fun _=>hB id av h1 hG),q1,ih q2⟩
  | pair _ _ iha ihb =>
    intro m vs hu
    cases m <;> obtain ⟨p,q,e,h3,h4⟩:=hu <;> exact ⟨p,q,e,iha h3,ihb h4⟩
  | tup _ ih =>
    intro m vs hu
    cases m
    · exact hu
    · obtain ⟨xs,e,hx⟩:=hu;exact ⟨xs,e,ih hx⟩
    · obtain ⟨xs,e,hx⟩:=hu;exact ⟨xs,e,ih hx⟩
  | fn _ _ iha ihb =>
    intro m vs hu
    obtain ⟨fs,cs,e,h3,h4⟩:=hu
    exact ⟨fs,cs,e,iha h3,ihb h4⟩
  | ifc _ ih =>
    intro m vs hu
    obtain ⟨v,e,h3⟩:=hu
    exact ⟨v,e,ih h3⟩
theorem Ok.still {P : Program} {f : FuncId} {g : Asc} {args : AV} {R R' : AV→Asc→Prop} (h : Ok P f g [] args R) (hR : ∀ r h',R r h'→∃ r',ViewT h' r' r∧R' r' []) : Ok P f g [] args R':=by
  intro c hg hh hc hB hA vs hvs
  refine (h c hg hh hc hB hA vs hvs).mono fun e w' h=>?_
  obtain ⟨c',v,r,h',ns,e1,e2,ho,hr,hR1⟩:=h
  obtain ⟨r',hv,hR'⟩:=hR r h' hR1
  have hB' : ∀ id av,get? h' id = some av→¬ c'.G id→c'.B ≤ c'.ρ id:=fun id av hi hG=>by
    rcases ho.own id av hi hG with ⟨j,av',hj,_⟩ | h
    · cases hj
    · rw [ho.B,hB];exact h
  exact ⟨stillC c' h',v,r',[],_,e1,e2,ho.trans (Out.still (fun _=>True) ho.heap ho.ok (fun _ _ h=>by cases h) (fun _ _ h=>by cases h)),hv.rep ho.heap hB' hr,hR'⟩
def gslot (ops : Array Oper) (gd : Option (Nat × Bool)) : Option Tmp:=match gd with
  | some (j,_)=>(ops[j]?).bind (·.dst)
  | none=>none
theorem Seq.lit {F : Fr} {ops : Array Oper} {l : List Oper} {e h g : Asc} {N : Nat} {K : St→Prop} {dst : Option Tmp} {op : Op} {ty : TypeId} {pos : String} {af : Array Edge} {gd : Option (Nat × Bool)} {d : Tmp} {b b' : Bool} (hd : gslot ops gd = some d) (hu : get? e d = some (.bool b)) (hb : b = b')
    (hk : Seq F ops (⟨dst,op,ty,pos,af,gd⟩::l) ⟨(d,.bool b')::e,h,g,N⟩ K) : Seq F ops (⟨dst,op,ty,pos,af,gd⟩::l) ⟨e,h,g,N⟩ K :=
  Seq.same d hu (congrArg AV.bool hb) hk
theorem Seq.litC {F : Fr} {ops : Array Oper} {l : List Oper} {e h g : Asc} {N : Nat} {K : St→Prop} {dst : Option Tmp} {op : Op} {ty : TypeId} {pos : String} {af : Array Edge} {gd : Option (Nat × Bool)} {d : Tmp} {b : Bool} (hd : gslot ops gd = some d) (hu : get? e d = some (.bool b))
    (h1 : b = true→Seq F ops (⟨dst,op,ty,pos,af,gd⟩::l) ⟨(d,.bool true)::e,h,g,N⟩ K) (h2 : b = false→Seq F ops (⟨dst,op,ty,pos,af,gd⟩::l) ⟨(d,.bool false)::e,h,g,N⟩ K) : Seq F ops (⟨dst,op,ty,pos,af,gd⟩::l) ⟨e,h,g,N⟩ K:=by
  cases b with
  | true=>exact Seq.same d hu rfl (h1 rfl)
  | false=>exact Seq.same d hu rfl (h2 rfl)
theorem VC.litT {F : Fr} {Q : Exit→St→Prop} {s : St} {x : Operand} {y z : Code} {b : Bool} (hx : V.ev s.g s.e x = some (.bool b)) (hb : b = true) (hk : VC F y Q s) : VC F (.cond x y z) Q s :=
  VC.cond hx (fun _=>hk) (fun e=>by rw [hb] at e;cases e)
theorem VC.litF {F : Fr} {Q : Exit→St→Prop} {s : St} {x : Operand} {y z : Code} {b : Bool} (hx : V.ev s.g s.e x = some (.bool b)) (hb : b = false) (hk : VC F z Q s) : VC F (.cond x y z) Q s :=
  VC.cond hx (fun e=>by rw [hb] at e;cases e) (fun _=>hk)
def getIt : List It→Nat→Option AV
  | [],_=>none
  | it::r,d=>bif Nat.beq it.d d then some it.v else getIt r d
def setItO {α : Type} : List It→Nat→AV→(List It→α)→α
  | [],_,_,k=>k []
  | it::r,d,u,k=>bif Nat.beq it.d d then k (⟨it.j,it.d,u,it.n⟩::r) else setItO r d u fun r'=>k (it::r')
def tbb (m i : Nat) : Bool:=Nat.blt i 256 && Nat.beq (Nat.land (Nat.shiftRight m i) 1) 1
def bitsL (m : Nat) : List Nat:=(List.range 256).filter (tbb m)
theorem memB_bits (m : Nat) : (fun i=>memB i (bitsL m)) = tbb m:=by
  funext i
  rw [Bool.eq_iff_iff,memB_ok]
  unfold bitsL
  rw [List.mem_filter,List.mem_range]
  refine ⟨fun h=>h.2,fun h=>⟨?_,h⟩⟩
  have h1 : Nat.blt i 256 = true:=by
    unfold tbb at h
    simp only [Bool.and_eq_true] at h
    exact h.1
  exact Nat.lt_of_succ_le (Nat.le_of_ble_eq_true h1)
def mkP : List (Nat × Nat)→List (Nat × List Nat)
  | []=>[]
  | (j,m)::r=>(j,bitsL m)::mkP r
theorem fastE {m : Nat} {e0 : Asc} {its : List It} {eL : Asc} (h : selEO (tbb m) e0 its some = some eL) : selEO (fun i=>memB i (bitsL m)) e0 its some = some eL:=by rw [memB_bits];exact h
theorem fastH {m : Nat} {h0 : Asc} {its : List It} {hL : Asc} (h : selHO (tbb m) h0 its some = some hL) : selHO (fun i=>memB i (bitsL m)) h0 its some = some hL:=by rw [memB_bits];exact h
end Go.V
namespace Go.V
open Go.RowKit Go.L Go.Chain
def freeB : List Nat→List Nat→Bool
  | [],_=>true
  | i::r,l=>!memB i l && freeB r l
theorem drop_free : ∀ {h : Asc} {l : List Nat},freeB (keys h) l = true→dropL h l = h
  | [],_,_=>rfl
  | (i,v)::r,l,e=>by
    simp only [keys,freeB,Bool.and_eq_true,Bool.not_eq_true'] at e
    unfold dropL
    rw [e.1,cond_false,drop_free e.2]
theorem tbb_eq (m i : Nat) : tbb m i = (Nat.blt i 256 && m.testBit i):=by
  unfold tbb
  congr 1
  have h1 : Nat.land (Nat.shiftRight m i) 1 = (m >>> i) % 2:=Nat.and_one_is_mod (m >>> i)
  rw [h1,Nat.testBit_eq_decide_div_mod_eq,Nat.shiftRight_eq_div_pow,beq_nat]
where
  beq_nat {a b : Nat} : Nat.beq a b = decide (a = b):=by
    rw [Bool.eq_iff_iff,decide_eq_true_eq]
    exact ⟨Nat.eq_of_beq_eq_true,fun e=>by rw [e];exact Nat.beq_refl b⟩
def maskOf : List (Nat × Nat)→Nat→Nat
  | [],_=>0
  | (j,m)::r,i=>bif Nat.beq j i then m else maskOf r i
def dirM (plan : List (Nat × Nat)) : List Edge→Nat
  | []=>0
  | e::r=>bif Region.binds .any e then Nat.lor (Nat.lor (Nat.shiftLeft 1 e.on) (maskOf plan e.on)) (dirM plan r) else dirM plan r
def ancM (ops : Array Oper) (plan : List (Nat × Nat)) : List (Nat × Nat)→Nat→Bool
  | [],_=>true
  | (j,m)::r,b=>Nat.beq (Nat.land m b) m && (Nat.beq (Nat.land m (match ops[j]? with | some o=>dirM plan o.after.toList | none=>0)) m && ancM ops plan r (Nat.lor b (Nat.shiftLeft 1 j)))
theorem tbb_sub {m a i : Nat} (h : Nat.beq (Nat.land m a) m = true) (hi : tbb m i = true) : tbb a i = true:=by
  have e : m &&& a = m:=Nat.eq_of_beq_eq_true h
  rw [tbb_eq] at hi ⊢
  simp only [Bool.and_eq_true] at hi ⊢
  refine ⟨hi.1,?_⟩
  have:=hi.2
  rw [← e,Nat.testBit_and,Bool.and_eq_true] at this
  exact this.2
theorem tbb_or {a b i : Nat} (h : tbb (Nat.lor a b) i = true) : tbb a i = true ∨ tbb b i = true:=by
  rw [tbb_eq] at h ⊢
  rw [tbb_eq b]
  simp only [Bool.and_eq_true] at h ⊢
  have h2 : (a ||| b).testBit i = true:=h.2
  rw [Nat.testBit_or,Bool.or_eq_true] at h2
  exact h2.imp (fun x=>⟨h.1,x⟩) (fun x=>⟨h.1,x⟩)
theorem tbb_one {j i : Nat} (h : tbb (Nat.shiftLeft 1 j) i = true) : i = j:=by
  rw [tbb_eq] at h
  simp only [Bool.and_eq_true] at h
  have h2 : (1 <<< j).testBit i = true:=h.2
  rw [Nat.one_shiftLeft,Nat.testBit_two_pow] at h2
  exact (of_decide_eq_true h2).symm
theorem tbb_zero {i : Nat} : tbb 0 i = false:=by rw [tbb_eq];simp
theorem maskOf_mem {i k : Nat} : ∀ {plan : List (Nat × Nat)},tbb (maskOf plan k) i = true→∃ m,(k,bitsL m) ∈ mkP plan∧tbb m i = true
  | [],h=>by rw [maskOf,tbb_zero] at h;cases h
  | (j,m)::r,h=>by
    unfold maskOf at h
    cases e : Nat.beq j k with
    | true =>
      rw [e] at h
      obtain rfl:=Nat.eq_of_beq_eq_true e
      exact ⟨m,List.mem_cons_self,h⟩
    | false =>
      rw [e] at h
      obtain ⟨m',h1,h2⟩:=maskOf_mem (plan:=r) h
      exact ⟨m',List.mem_cons_of_mem _ h1,h2⟩
theorem dirM_spec {plan : List (Nat × Nat)} {i : Nat} : ∀ {l : List Edge},tbb (dirM plan l) i = true→∃ e ∈ l,Region.binds .any e = true∧(e.on = i ∨ tbb (maskOf plan e.on) i = true)
  | [],h=>by rw [dirM,tbb_zero] at h;cases h
  | e :: r,h=>by
    unfold dirM at h
    cases hb : Region.binds .any e with
    | true =>
      rw [hb] at h
      rcases tbb_or h with h | h
      · rcases tbb_or h with h | h
        · exact ⟨e,List.mem_cons_self,hb,.inl (tbb_one h).symm⟩
        · exact ⟨e,List.mem_cons_self,hb,.inr h⟩
      · obtain ⟨x,h1,h2⟩:=dirM_spec (l:=r) h
        exact ⟨x,List.mem_cons_of_mem _ h1,h2⟩
    | false =>
      rw [hb] at h
      obtain ⟨x,h1,h2⟩:=dirM_spec (l:=r) h
      exact ⟨x,List.mem_cons_of_mem _ h1,h2⟩
theorem bits_tbb {m i : Nat} (h : i ∈ bitsL m) : tbb m i = true:=(List.mem_filter.1 h).2
theorem tbb_bits {m i : Nat} (h : tbb m i = true) : memB i (bitsL m) = true:=by rw [congrFun (memB_bits m) i];exact h
theorem ancM_ok {ops : Array Oper} {plan : List (Nat × Nat)} : ∀ {r : List (Nat × Nat)} {b : Nat} {before : List Nat},(∀ i,tbb b i = true→memB i before = true)→ancM ops plan r b = true→ancB ops (mkP plan) (mkP r) before = true
  | [],_,_,_,_=>rfl
  | (j, m)::r,b,before,hb,h=>by
    simp only [ancM,Bool.and_eq_true] at h
    obtain ⟨h1,h2,h3⟩:=h
    simp only [mkP,ancB,Bool.and_eq_true]
    refine ⟨List.all_eq_true.2 fun i hi=>?_,ancM_ok (fun i hi=>?_) h3⟩
    · have ht:=bits_tbb hi
      have g1:=hb i (tbb_sub h1 ht)
      have g2:=tbb_sub h2 ht
      rw [g1,Bool.true_and,Bool.or_eq_true]
      cases ho : ops[j]? with
      | none=>rw [ho,tbb_zero] at g2;cases g2
      | some o =>
        rw [ho] at g2
        obtain ⟨e,e1,e2,e3⟩:=dirM_spec g2
        have hw : waits .any ops j e.on = true:=by
          unfold waits
          rw [ho]
          exact Array.any_eq_true'.2 ⟨e,Array.mem_toList_iff.1 e1,by simp [e2]⟩
        rcases e3 with e3 | e3
        · exact .inl (e3 ▸ hw)
        · obtain ⟨m',q1,q2⟩:=maskOf_mem e3
          exact .inr (List.any_eq_true.2 ⟨_,q1,by rw [hw,Bool.true_and];exact tbb_bits q2⟩)
    · rcases tbb_or hi with hi | hi
      · unfold memB;rw [hb i hi];simp
      · obtain rfl:=tbb_one hi
        unfold memB;simp
def drawMB (ops : Array Oper) (n : Nat) (plan : List (Nat × Nat)) (tail : List Nat) : Bool :=
  nodupB ((mkP plan).map (·.1)) && (((mkP plan).map (·.1)).all (fun j=>Nat.blt j ops.size && (match dstOf ops j with | some d=>Nat.blt d n | none=>false)) && (nodupB (dstsOf ops (mkP plan)) && (Og.acyc ops && (((List.range ops.size).all fun j=>memB j ((mkP plan).map (·.1)) || ((mkP plan).map (·.1)).all fun i=>Og.cov ops ((mkP plan).map (·.1)) ((mkP plan).map (·.1)).length j i) &&
    (ancM ops plan plan 0 && (tailB ops tail (afterL ops ((mkP plan).map (·.1))) && Nat.beq (((mkP plan).map (·.1)).length + tail.length) ops.size))))))
theorem drawM_ok {ops : Array Oper} {n : Nat} {plan : List (Nat × Nat)} {tail : List Nat} (h : drawMB ops n plan tail = true) : drawB ops n (mkP plan) tail = true:=by
  simp only [drawMB,drawB,Bool.and_eq_true] at h ⊢
  obtain ⟨h1,h2,h3,h4,h5,h6,h7,h8⟩:=h
  exact ⟨h1,h2,h3,h4,h5,ancM_ok (fun i hi=>by rw [tbb_zero] at hi;cases hi) h6,h7,h8⟩
theorem VC.drawm {F : Fr} {id : Nat} {l : List Oper} {e h g : Asc} {N : Nat} {Q : Exit→St→Prop} (plan : List (Nat × Nat)) (tail : List Nat) (hm : F.P.follows .mixedOrders = true) (hst : (drawMB l.toArray F.n plan tail && freeB (keys e) (dstsOf l.toArray (mkP plan))) = true)
    {tops : List Oper} (htops : topsO l.toArray tail some = some tops)
    (hD : DSeq F.P l.toArray g e h (mkP plan) [] N [] (fun its N' B=>Seq F l.toArray tops (V.drawn its e (B ++ h) g N') (Q .normal))) : VC F (.region id l.toArray true) Q ⟨e,h,g,N⟩:=by
  rw [Bool.and_eq_true] at hst
  exact VC.draw (mkP plan) tail hm (drawM_ok hst.1) (by rw [dropO_eq,drop_free hst.2]) htops hD
theorem VC.drawn2 {F : Fr} {id : Nat} {l : List Oper} {e h g : Asc} {N : Nat} {Q : Exit→St→Prop} (plan : List (Nat × Nat)) (tail : List Nat) (hm : F.P.follows .mixedOrders = true) (hst : drawMB l.toArray F.n plan tail = true) {e0 : Asc} (he0 : dropO e (dstsOf l.toArray (mkP plan)) some = some e0)
    {tops : List Oper} (htops : topsO l.toArray tail some = some tops)
    (hD : DSeq F.P l.toArray g e0 h (mkP plan) [] N [] (fun its N' B=>Seq F l.toArray tops (V.drawn its e0 (B ++ h) g N') (Q .normal))) : VC F (.region id l.toArray true) Q ⟨e,h,g,N⟩ :=
  VC.draw (mkP plan) tail hm (drawM_ok hst) he0 htops hD
theorem RelA.rslL {A : Nat→Prop} {σ : Nat→Nat} {fr : Bool} {n m sz : Nat} {f k : Nat→AV} (hn : n = m) (h : ∀ i,i < n→RelA A σ (f i) (k i)) : RelA A σ (.rsl false n sz f) (.rsl fr m sz k):=by
  subst hn;exact RelA.rslw h
theorem RelA.arrL {A : Nat→Prop} {σ : Nat→Nat} {n m sz : Nat} {f k : Nat→AV} (hn : n = m) (h : ∀ i,i < n→RelA A σ (f i) (k i)) : RelA A σ (.arr n sz f) (.arr m sz k):=by
  subst hn;exact RelA.arr h
end Go.V
namespace Go.V
open Go.RowKit Go.L Go.Chain
def Imp (a u : AV) : Prop:=∀ c m vs,Rep c u m vs→Rep c a m vs
def ImpO (v u : AV) : Prop:=∀ c b,ObjAt c b u→ObjAt c b v
def EnvI (e : Asc) : Asc→Prop
  | []=>True
  | (t,v)::r=>(∃ u,get? e t = some u∧Imp v u)∧EnvI e r
def HeapI (h : Asc) : Asc→Prop
  | []=>True
  | (t,v)::r=>(∃ u,get? h t = some u∧ImpO v u∧v.size = u.size)∧HeapI h r
theorem VC.drawmB {F : Fr} {id : Nat} {l : List Oper} {e h g : Asc} {N : Nat} {Q : Exit→St→Prop} (B : Asc) (plan : List (Nat × Nat)) (tail : List Nat) (hBd : (keys B).all (fun i=>!memB i (keys h)) = true) (hm : F.P.follows .mixedOrders = true) (hst : (drawMB l.toArray F.n plan tail && freeB (keys e) (dstsOf l.toArray (mkP plan))) = true)
    {tops : List Oper} (htops : topsO l.toArray tail some = some tops)
    (hD : DSeq F.P l.toArray g e h (mkP plan) [] N B (fun its N' B=>Seq F l.toArray tops (V.drawn its e (B ++ h) g N') (Q .normal))) : VC F (.region id l.toArray true) Q ⟨e,B ++ h,g,N⟩:=by
  rw [Bool.and_eq_true] at hst
  obtain ⟨t,h1,h2⟩:=topsO_ok htops
  cases h2
  refine VC.drawn (B:=B) (mkP plan) tail (fun i av hi=>?_) hm (drawM_ok hst.1) (by rw [dropO_eq,drop_free hst.2]) h1 hD
  have:=List.all_eq_true.1 hBd i (get?_keys hi)
  refine get?_none fun hk=>?_
  rw [memB_ok.2 hk] at this;cases this
theorem DSeq.eata {P : Program} {ops : Array Oper} {g e0 h0 : Asc} {j : Nat} {anc : List Nat} {r : List (Nat × List Nat)} {its its' : List It} {N : Nat} {b : Nat × AV} {B : Asc} {K : List It→Nat→Asc→Prop} {eL hL hB : Asc} (m : Bool) {T : List (Option TI)} (hT : TabOk P T) {d : Tmp} {op : Op} {ty : TypeId} {pos : String} {af : Array Edge} {gd : Option (Nat × Bool)} {v u : AV} {ps : List Prop} (ho : ops[j]? = some ⟨some d,op,ty,pos,af,gd⟩)
    (hE : selEO (fun i=>memB i anc) e0 its some = some eL) (hH : selHO (fun i=>memB i anc) h0 its some = some hL) (hHB : selHO (fun i=>memB i anc) ((b::B) ++ h0) its some = some hB)
    (he : evalOp m T g eL hB N op = some ⟨ps,some v,(N,u)::hL,1⟩) (hp : AllP ps) (hw : wants ops ⟨some d,op,ty,pos,af,gd⟩ eL = some true) (hd : notStore op = true)
    (hs : snocO its ⟨j,d,v,[(N,u)]⟩ some = some its') (h : DSeq P ops g e0 h0 r its' (N + 1) [] K) : DSeq P ops g e0 h0 ((j,anc)::r) its N (b::B) K:=by
  rw [selEO_eq] at hE
  rw [selHO_eq] at hH hHB
  rw [snocO_eq] at hs
  cases hE;cases hH;cases hHB;cases hs
  refine .eat _ ⟨j,d,v,[(N,u)]⟩ (N + 1) [N] ho rfl ⟨hw,rfl,evalOp_ok hT (by cases op <;> first | rfl | cases hd) he hp⟩ (fun i hi=>?_) (fun i hi=>?_) (Nat.le_succ _) h
  · rw [List.mem_singleton.1 hi];exact ⟨List.mem_cons_self,Nat.le_refl _⟩
  · rcases List.mem_cons.1 hi with e | e
    · rw [e];exact .inl ⟨Nat.le_refl _,Nat.lt_succ_self _⟩
    · cases e
def setIt2 {α : Type} : List It→Nat→AV→(List It→α)→α
  | [],_,_,k=>k []
  | ⟨j,d',v,n⟩::r,d,u,k=>bif Nat.beq d' d then k (⟨j,d',u,n⟩::r) else setIt2 r d u fun r'=>k (⟨j,d',v,n⟩::r')
theorem setIt2_eq {α : Type} : ∀ {its : List It} {d : Nat} {u : AV} {k : List It→α},getIt its d = some u→setIt2 its d u k = k its
  | [],_,_,_,h=>by cases h
  | ⟨j,d',v,n⟩::r,d,u,k,h=>by
    unfold getIt at h
    unfold setIt2
    cases e : Nat.beq d' d with
    | true=>rw [e] at h;cases h;rfl
    | false=>rw [e] at h;exact setIt2_eq (k:=fun r'=>k (⟨j,d',v,n⟩::r')) h
theorem DSeq.lit2 {P : Program} {ops : Array Oper} {g e0 h0 : Asc} {j : Nat} {anc : List Nat} {r : List (Nat × List Nat)} {its its' : List It} {N : Nat} {B : Asc} {K : List It→Nat→Asc→Prop} {o : Oper} {d : Tmp} {b b' : Bool} (ho : ops[j]? = some o) (hd : gslot ops o.guard = some d) (hu : getIt its d = some (.bool b)) (hb : b = b')
    (hs : setIt2 its d (.bool b') some = some its') (hk : DSeq P ops g e0 h0 ((j,anc)::r) its' N B K) : DSeq P ops g e0 h0 ((j,anc)::r) its N B K:=by
  subst hb
  rw [setIt2_eq hu] at hs
  cases hs
  exact hk
theorem DSeq.litC2 {P : Program} {ops : Array Oper} {g e0 h0 : Asc} {j : Nat} {anc : List Nat} {r : List (Nat × List Nat)} {its i1 i2 : List It} {N : Nat} {B : Asc} {K : List It→Nat→Asc→Prop} {o : Oper} {d : Tmp} {b : Bool} (ho : ops[j]? = some o) (hd : gslot ops o.guard = some d) (hu : getIt its d = some (.bool b))
    (hs1 : setIt2 its d (.bool true) some = some i1) (hs2 : setIt2 its d (.bool false) some = some i2) (h1 : b = true→DSeq P ops g e0 h0 ((j,anc)::r) i1 N B K) (h2 : b = false→DSeq P ops g e0 h0 ((j,anc)::r) i2 N B K) : DSeq P ops g e0 h0 ((j,anc)::r) its N B K:=by
  cases b with
  | true=>exact DSeq.lit2 ho hd hu rfl hs1 (h1 rfl)
  | false=>exact DSeq.lit2 ho hd hu rfl hs2 (h2 rfl)
theorem LT2_ {b b' : Bool} (h : b = b':=by first | with_reducible exact decide_eq_true (by omega) | with_reducible exact decide_eq_false (by omega) | with_reducible exact nd_true (by omega) | with_reducible exact nd_false (by omega)) : b = b':=h
end Go.V
namespace Go.V
open Go.RowKit Go.L Go.Chain
theorem Seq.val {F : Fr} {ops : Array Oper} {l : List Oper} {e h g : Asc} {N : Nat} {K : St→Prop} {d : Tmp} {op : Op} {ty : TypeId} {pos : String} {af : Array Edge} {gd : Option (Nat × Bool)} {v : AV} (ok : OpOk F.P ⟨some d,op,ty,pos,af,gd⟩ g e h (some v) h []) (hw : wants ops ⟨some d,op,ty,pos,af,gd⟩ e = some true) (hd2 : Nat.blt d F.n = true)
    (hk : Seq F ops l ⟨(d,v)::e,h,g,N⟩ K) : Seq F ops (⟨some d,op,ty,pos,af,gd⟩::l) ⟨e,h,g,N⟩ K :=
  Seq.step (s:=⟨e,h,g,N⟩) N hw ok (fun n hn=>by cases hn) (Nat.le_refl _) hd2 hk
theorem DSeq.val {P : Program} {ops : Array Oper} {g e0 h0 : Asc} {j : Nat} {anc : List Nat} {r : List (Nat × List Nat)} {its its' : List It} {N : Nat} {B : Asc} {K : List It→Nat→Asc→Prop} {eL hL : Asc} {d : Tmp} {op : Op} {ty : TypeId} {pos : String} {af : Array Edge} {gd : Option (Nat × Bool)} {v : AV} (ho : ops[j]? = some ⟨some d,op,ty,pos,af,gd⟩)
    (hE : selEO (fun i=>memB i anc) e0 its some = some eL) (hH : selHO (fun i=>memB i anc) h0 its some = some hL) (ok : OpOk P ⟨some d,op,ty,pos,af,gd⟩ g eL hL (some v) hL []) (hw : wants ops ⟨some d,op,ty,pos,af,gd⟩ eL = some true)
    (hs : snocO its ⟨j,d,v,[]⟩ some = some its') (h : DSeq P ops g e0 h0 r its' N B K) : DSeq P ops g e0 h0 ((j,anc)::r) its N B K :=
  DSeq.put (n:=[]) ho hE hH hw ok (fun i hi=>by cases hi) (Nat.le_refl _) hs h
section
variable {P : Program} {t : TypeId} {g e h : Asc} {x y : Operand} {d : Option Tmp} {ty : TypeId} {pos : String} {af : Array Edge} {gd : Option (Nat × Bool)}
theorem max_ok {ts : Array TypeId} {k k' : IntKind} {a b : Int} (hx : V.ev g e x = some (.int k a)) (hy : V.ev g e y = some (.int k' b)) : OpOk P ⟨d,.call { callee:=.builtin .max,args:=#[x,y],argTypes:=ts },ty,pos,af,gd⟩ g e h (some (.int k (max a b))) h []:=by
  refine OpOk.val fun c ac he hh hc=>⟨_,?_,rfl⟩
  have hvx:=rep_int (ev_rep he hx)
  have hvy:=rep_int (ev_rep he hy)
  simp only [execOp,resolve,invoke,builtin,Sem.run_bind,Sem.run_pure,Result.andThen_ok,List.map_toArray,List.map_cons,List.map_nil,hvx,hvy,Go.Lib.run_max_ints]
theorem min_ok {ts : Array TypeId} {k k' : IntKind} {a b : Int} (hx : V.ev g e x = some (.int k a)) (hy : V.ev g e y = some (.int k' b)) : OpOk P ⟨d,.call { callee:=.builtin .min,args:=#[x,y],argTypes:=ts },ty,pos,af,gd⟩ g e h (some (.int k (min a b))) h []:=by
  refine OpOk.val fun c ac he hh hc=>⟨_,?_,rfl⟩
  have hvx:=rep_int (ev_rep he hx)
  have hvy:=rep_int (ev_rep he hy)
  simp only [execOp,resolve,invoke,builtin,Sem.run_bind,Sem.run_pure,Result.andThen_ok,List.map_toArray,List.map_cons,List.map_nil,hvx,hvy,Go.Lib.run_min_ints]
end
inductive ViewS (H : Asc) : AV→AV→Prop
  | rel {a u : AV} : RelA (fun _=>False) (fun i=>i) a u→ViewS H a u
  | sl {id n' sz off n m : Nat} {p : List Step} {av : AV} {f k : Nat→AV} : get? H id = some av→getp av p = some (.arr n' sz k)→AllP (inbL av p)→off + n ≤ n'→m = n→(∀ i,i < n→ViewS H (f i) (k (off + i)))→ViewS H (.rsl false m sz f) (.sl id p sz off n)
  | nil {sz : Nat} {f : Nat→AV} : ViewS H (.rsl false 0 sz f) (.val (.slice none 0 0))
  | emp {sz : Nat} {f : Nat→AV} : ViewS H (.rsl false 0 sz f) .emp
  | ptr {id : Nat} {p : List Step} {av w a : AV} : get? H id = some av→getp av p = some w→AllP (inbL av p)→w.isMo = false→ViewS H a w→ViewS H (.rptr false a) (.ptr id p)
  | pair {a b x y : AV} : ViewS H a x→ViewS H b y→ViewS H (.pair a b) (.pair x y)
  | tup {a x : AV} : ViewS H a x→ViewS H (.tup a) (.tup x)
  | fn {f : Fn} {a b x y : AV} : ViewS H a x→ViewS H b y→ViewS H (.fn f a b) (.fn f x y)
  | ifc {t : TypeId} {a x : AV} : ViewS H a x→ViewS H (.ifc t a) (.ifc t x)
  | arr {n m sz : Nat} {f k : Nat→AV} : n = m→(∀ i,i < n→ViewS H (f i) (k i))→ViewS H (.arr n sz f) (.arr m sz k)
  | imp {a b u : AV} : Imp a b→ViewS H b u→ViewS H a u
def EnvS (H e : Asc) : Asc→Prop
  | []=>True
  | (t,v)::r=>(∃ u,get? e t = some u∧ViewS H v u)∧EnvS H e r
end Go.V
namespace Go.V
open Go.RowKit Go.L Go.Chain
def OpensD {H : Type} (enc : TypeId × Value→H) (P : Program) (W : World) (t : TypeId) {X : Type} (F : X→AV) (Q : X→DataW H→Prop) : Prop :=
  ∀ n cs d q,DataW.trod enc P W 0 (fun _=>true) true n t cs = some (d,q)→∃ x,Rep (ctxAt W) (F x) .C cs∧Q x d
section
open Go.ChangeShapes Go.WideShapes
variable {H : Type} {enc : TypeId × Value→H} {P : Program} {W : World} {t : TypeId}
end
end Go.V
namespace Go.V
open Go.RowKit Go.L Go.Chain
def nrem (rem : List Nat) : Nat→Bool:=fun j=>!memB j rem
theorem drawn_core2 {F : Fr} {l : List Oper} {e h B g : Asc} {N : Nat} (plan : List (Nat × List Nat)) (hBd : ∀ i av,get? B i = some av→get? h i = none)
    (s1 : nodupB (plan.map (·.1)) = true) (s2 : ((plan.map (·.1)).all (fun j=>Nat.blt j l.toArray.size && (match dstOf l.toArray j with | some d=>Nat.blt d F.n | none=>false))) = true) (s3 : nodupB (dstsOf l.toArray plan) = true) (s4 : Og.acyc l.toArray = true) (s6 : ancB l.toArray plan plan [] = true)
    {e0 : Asc} (he0 : dropO e (dstsOf l.toArray plan) some = some e0) {K : List It→Nat→Asc→Prop} (hD : DSeq F.P l.toArray g e0 h plan [] N B K) (a : Act) (w : World) (hsim : Sim F ⟨e,B ++ h,g,N⟩ a w) :
    ∃ (its : List It) (N' : Nat) (B' : Asc) (I : List Nat→Act→World→Prop),K its N' B'∧its.map (·.j) = plan.map (·.1)∧(∀ i av,get? B' i = some av→get? B i = some av)∧(∀ it ∈ its,dstOf l.toArray it.j = some it.d) ∧
      (∀ (QC : Exit→Act→World→Prop) (rem : List Nat),rem.Nodup→(∀ i ∈ rem,i ∈ plan.map (·.1))→∀ j ∈ rem,(∀ i,waits .any l.toArray j i = true→i ∈ plan.map (·.1)→i ∉ rem)→(∀ i k,i ∈ plan.map (·.1)→i ∉ rem→waits .any l.toArray i k = true→k ∈ plan.map (·.1)→k ∉ rem) →
        ∀ a w,I rem a w→wpOp F.P l.toArray QC j (fun a' w'=>I (rem.erase j) a' w') a w) ∧
      I (plan.map (·.1)) a { w with drawn:=w.drawn + 1 } ∧
      (∀ rem a w,I rem a w→∃ (c : Ctx) (ns : List Nat) (Bx : Asc),(∀ i av,get? Bx i = some av→get? B i = some av)∧c.w = w∧Out F.c0 F.h0 (selH (nrem rem) its ++ (Bx ++ h)) ns c∧EnvRep c g e0 a∧(∀ it ∈ its,it.j ∉ rem→it.d < a.tmps.size∧Rep c it.v .V [a.tmps.getD it.d undef]) ∧
        (∀ i,c.A i→i < N')∧a.tmps.size = F.n∧a.defers = F.D∧(∀ i,F.c0.A i→i < F.N0)∧(∀ x v,get? g x = some v→Rep F.c0 (.rptr false v) .V [.pointer (some ⟨x,0,none⟩)])∧∀ i,c.A i→i < N ∨ ∃ it ∈ its,it.j ∉ rem∧i ∈ keys it.n)∧Uniq its∧∀ it ∈ its,∀ i ∈ keys it.n,(N ≤ i∧i < N') ∨ i ∈ keys B:=by
  rw [dropO_eq] at he0
  simp only [Option.some.injEq] at he0
  have s1:=nodupB_ok s1
  have hBN : ∀ i ∈ keys B,i < N:=fun i hi=>by
    obtain ⟨av,hav⟩:=keys_get hi
    obtain ⟨c1,n1,_,ho1,_,hb1,_⟩:=hsim
    exact hb1 i (ho1.heap.A i av (by rw [get?_app,hav];rfl))
  have hhN : ∀ i av,get? h i = some av→i < N:=fun i av hi=>by
    obtain ⟨c1,n1,_,ho1,_,hb1,_⟩:=hsim
    refine hb1 i (ho1.heap.A i av (?_ : get? (B ++ h) i = some av))
    rw [get?_app]
    cases hb : get? B i with
    | none=>exact hi
    | some u=>have:=hBd i u hb;rw [hi] at this;cases this
  obtain ⟨its,N',B',eat,hK,hmap,hNN,hkeys,huniq,heats,hitems⟩:=hD.out s1 hBN
  rw [List.nil_append] at hK
  have s3:=nodupB_ok s3
  have hlt : ∀ j ∈ plan.map (·.1),j < l.toArray.size:=fun j hj=>by
    have:=List.all_eq_true.1 s2 j hj
    simp only [Bool.and_eq_true] at this
    simpa [Nat.blt_eq] using this.1
  have hdst : ∀ j ∈ plan.map (·.1),∃ d,dstOf l.toArray j = some d∧d < F.n:=fun j hj=>by
    have:=List.all_eq_true.1 s2 j hj
    simp only [Bool.and_eq_true] at this
    cases hd : dstOf l.toArray j with
    | none=>simp [hd] at this
    | some d=>simp only [hd] at this;exact ⟨d,rfl,by simpa [Nat.blt_eq] using this.2⟩
  let nr (rem : List Nat) : Nat→Bool:=nrem rem
  have hnr : ∀ rem j,nr rem j = true ↔ j ∉ rem:=fun rem j=>by
    show (!memB j rem) = true ↔ _
    rw [Bool.not_eq_true',← Bool.not_eq_true,memB_ok]
  let be (rem : List Nat) : Asc:=bif its.all (fun it=>!eat it.j || memB it.j rem) then B else []
  let I : List Nat→Act→World→Prop:=fun rem a w=>∃ c ns,c.w = w∧Out F.c0 F.h0 (selH (nr rem) its ++ (be rem ++ h)) ns c∧EnvRep c g e0 a∧(∀ it ∈ its,it.j ∉ rem→it.d < a.tmps.size∧Rep c it.v .V [a.tmps.getD it.d undef]) ∧
    (∀ i,c.A i→i < N ∨ ∃ it ∈ its,it.j ∉ rem∧i ∈ keys it.n)∧a.tmps.size = F.n∧a.defers = F.D∧(∀ i,F.c0.A i→i < F.N0)∧∀ x v,get? g x = some v→Rep F.c0 (.rptr false v) .V [.pointer (some ⟨x,0,none⟩)]
  have hjs : ∀ it ∈ its,it.j ∈ plan.map (·.1):=fun it hit=>by rw [← hmap];exact List.mem_map.2 ⟨it,hit,rfl⟩
  have hitem : ∀ it ∈ its,∃ a b anc o,its = a ++ it::b∧(it.j,anc) ∈ plan∧l.toArray[it.j]? = some o∧((eat it.j = false∧ItOk F.P l.toArray g e0 h a anc o it) ∨ (eat it.j = true∧∃ ns,EatOk F.P l.toArray g e0 h B a anc o it ns∧∀ i ∈ ns,i ∈ keys it.n∧N ≤ i)):=fun it hit=>by
    obtain ⟨a,b,e⟩:=List.append_of_mem hit
    obtain ⟨anc,o,q1,q2,q3⟩:=hitems a it b e
    exact ⟨a,b,anc,o,e,q1,q2,by simpa using q3⟩
  have hdj : ∀ it ∈ its,dstOf l.toArray it.j = some it.d:=fun it hit=>by
    obtain ⟨a,b,anc,o,_,_,q2,q3⟩:=hitem it hit
    unfold dstOf
    rw [q2]
    rcases q3 with ⟨_,q3⟩ | ⟨_,_,q3,_⟩
    · cases q3 with
      | run _ hd _=>exact hd
      | skip _ hd _ _=>exact hd
    · exact q3.dst
  have hjnd : (its.map (·.j)).Nodup:=by rw [hmap];exact s1
  have hjinj : ∀ x ∈ its,∀ y ∈ its,x.j = y.j→x = y:=by
    have : ∀ {L : List It},(L.map (·.j)).Nodup→∀ x ∈ L,∀ y ∈ L,x.j = y.j→x = y:=by
      intro L
      induction L with
      | nil=>intro _ x hx;cases hx
      | cons z L ih =>
        intro hn x hx y hy e
        simp only [List.map_cons,List.nodup_cons] at hn
        rcases List.mem_cons.1 hx with hx2 | hx2 <;> rcases List.mem_cons.1 hy with hy2 | hy2
        · rw [hx2,hy2]
        · exact absurd (List.mem_map.2 ⟨y,hy2,by rw [← hx2];exact e.symm⟩) hn.1
        · exact absurd (List.mem_map.2 ⟨x,hx2,by rw [← hy2];exact e⟩) hn.1
        · exact ih hn.2 x hx2 y hy2 e
    exact this hjnd
  have he0k : ∀ t v,get? e0 t = some v→get? e t = some v∧t ∉ dstsOf l.toArray plan:=fun t v ht=>by
    rw [← he0,get?_drop] at ht
    by_cases hm : memB t (dstsOf l.toArray plan) = true
    · rw [if_pos hm] at ht;cases ht
    · rw [if_neg hm] at ht;exact ⟨ht,fun x=>hm (memB_ok.2 x)⟩
  have hbesub : ∀ rem i av,get? (be rem) i = some av→get? B i = some av:=fun rem i av hi=>by
    show get? B i = some av
    have hi : get? (bif its.all (fun it=>!eat it.j || memB it.j rem) then B else []) i = some av:=hi
    cases hc : its.all (fun it=>!eat it.j || memB it.j rem) with
    | true=>rw [hc] at hi;exact hi
    | false=>rw [hc] at hi;cases hi
  have hanc : ∀ rem : List Nat,(∀ i k,i ∈ plan.map (·.1)→i ∉ rem→waits .any l.toArray i k = true→k ∈ plan.map (·.1)→k ∉ rem)→∀ k anck,k ∉ rem→(k,anck) ∈ plan→∀ i ∈ anck,i ∈ plan.map (·.1)∧i ∉ rem:=by
    intro rem hdown k
    induction k using Nat.strongRecOn with
    | _ k ih =>
      intro anck hk hp i hi
      obtain ⟨a,b,e⟩:=List.append_of_mem hp
      obtain ⟨h1,h2⟩:=ancB_spec s6 e i hi
      have hkd : k ∈ plan.map (·.1):=List.mem_map.2 ⟨_,hp,rfl⟩
      have hid : i ∈ plan.map (·.1):=by
        rcases h1 with h1 | h1
        · rw [e];simp only [List.map_append];exact List.mem_append_left _ h1
        · cases h1
      refine ⟨hid,?_⟩
      rcases h2 with h2 | ⟨q,q1,q2,q3⟩
      · exact hdown k i hkd hk h2 hid
      · have hqd : q.1 ∈ plan.map (·.1):=List.mem_map.2 ⟨q,q1,rfl⟩
        exact (ih q.1 (acyc_lt s4 (hlt k hkd) q2) q.2 (hdown k q.1 hkd hk q2 hqd) q1 i q3).2
  have hitems2 : ∀ (QC : Exit→Act→World→Prop) (rem : List Nat),rem.Nodup→(∀ i ∈ rem,i ∈ plan.map (·.1))→∀ j ∈ rem,(∀ i,waits .any l.toArray j i = true→i ∈ plan.map (·.1)→i ∉ rem)→(∀ i k,i ∈ plan.map (·.1)→i ∉ rem→waits .any l.toArray i k = true→k ∈ plan.map (·.1)→k ∉ rem) →
      ∀ a w,I rem a w→wpOp F.P l.toArray QC j (fun a' w'=>I (rem.erase j) a' w') a w:=by
    intro QC rem hnd hsub j hj hw1 hdown a w hI
    obtain ⟨c,ns,rfl,hout,hen,hsl,hA,hsz,hdf,hN0,hgl⟩:=hI
    obtain ⟨it,hit,rfl⟩ : ∃ it ∈ its,it.j = j:=by
      have:=hsub j hj
      rw [← hmap] at this
      obtain ⟨it,h1,h2⟩:=List.mem_map.1 this
      exact ⟨it,h1,h2⟩
    obtain ⟨pre,post,anc,o,hsp,hpl,ho,hok⟩:=hitem it hit
    have hjd:=hjs it hit
    have hancx : ∀ i ∈ anc,i ∈ plan.map (·.1)∧i ∉ rem:=fun i hi=>by
      obtain ⟨a',b',e⟩:=List.append_of_mem hpl
      obtain ⟨h1,h2⟩:=ancB_spec s6 e i hi
      have hid : i ∈ plan.map (·.1):=by
        rcases h1 with h1 | h1
        · rw [e];simp only [List.map_append];exact List.mem_append_left _ h1
        · cases h1
      refine ⟨hid,?_⟩
      rcases h2 with h2 | ⟨q,q1,q2,q3⟩
      · exact hw1 i h2 hid
      · have hqd : q.1 ∈ plan.map (·.1):=List.mem_map.2 ⟨q,q1,rfl⟩
        exact (hanc rem hdown q.1 q.2 (hw1 q.1 q2 hqd) q1 i q3).2
    have hpre : ∀ x ∈ its,x.j ∈ anc→x ∈ pre:=fun x hx hxa=>by
      obtain ⟨a',b',e⟩:=List.append_of_mem hpl
      have h1:=(ancB_spec s6 e x.j hxa).1
      have h1 : x.j ∈ a'.map (·.1):=by rcases h1 with h1 | h1;exact h1;cases h1
      have hm1 : pre.map (·.j) ++ it.j::post.map (·.j) = a'.map (·.1) ++ it.j::b'.map (·.1):=by
        have:=hmap
        rw [hsp,e] at this
        simpa using this
      have hlen : (pre.map (·.j)) = a'.map (·.1):=by
        have hn1 : (pre.map (·.j) ++ it.j::post.map (·.j)).Nodup:=by
          have:=hjnd
          rw [hsp] at this
          simpa using this
        have aux : ∀ {A B C D : List Nat} {z : Nat},A ++ z::B = C ++ z::D→(A ++ z::B).Nodup→A = C:=by
          intro A
          induction A with
          | nil =>
            intro B C D z e hn
            cases C with
            | nil=>rfl
            | cons y C =>
              simp only [List.nil_append,List.cons_append,List.cons.injEq] at e
              obtain ⟨rfl,e⟩:=e
              simp only [List.nil_append,List.nodup_cons] at hn
              exact absurd (by rw [e];simp) hn.1
          | cons y A ih =>
            intro B C D z e hn
            cases C with
            | nil =>
              simp only [List.nil_append,List.cons_append,List.cons.injEq] at e
              obtain ⟨rfl,e⟩:=e
              simp only [List.cons_append,List.nodup_cons] at hn
              exact absurd (by simp) hn.1
            | cons y' C =>
              simp only [List.cons_append,List.cons.injEq] at e
              obtain ⟨rfl,e⟩:=e
              simp only [List.cons_append,List.nodup_cons] at hn
              rw [ih e hn.2]
        exact aux hm1 hn1
      rw [← hlen] at h1
      obtain ⟨y,hy,hyj⟩:=List.mem_map.1 h1
      have hyi : y ∈ its:=by rw [hsp];exact List.mem_append_left _ hy
      rw [← hjinj y hyi x hx hyj];exact hy
    have hpsub : ∀ x ∈ pre,x ∈ its:=fun x hx=>by rw [hsp];exact List.mem_append_left _ hx
    have hupre : Uniq pre:=fun x hx y hy=>huniq x (hpsub x hx) y (hpsub y hy)
    have henv : EnvRep c g (selE (fun i=>memB i anc) pre ++ e0) a:=by
      refine ⟨fun t v ht=>?_,hen.glob⟩
      rw [get?_app] at ht
      cases hs : get? (selE (fun i=>memB i anc) pre) t with
      | none=>rw [hs] at ht;exact hen.slot t v ht
      | some u =>
        rw [hs] at ht
        simp only [Option.some_or,Option.some.injEq] at ht
        subst ht
        obtain ⟨x,hx,hxa,rfl,rfl⟩:=selE_get hs
        exact hsl x (hpsub x hx) (hancx x.j (memB_ok.1 hxa)).2
    have hHor : ∀ i av,get? h i = some av→∀ x ∈ its,i ∉ keys x.n:=fun i av hi x hx hk=>by
      have h1:=hhN i av hi
      rcases hkeys x hx i hk with h2 | ⟨_,h2⟩
      · omega
      · obtain ⟨u,hu⟩:=keys_get h2
        have:=hBd i u hu
        rw [hi] at this;cases this
    have hBor : ∀ i av,get? B i = some av→∀ x ∈ its,i ∈ keys x.n→eat x.j = true:=fun i av hi x hx hk=>by
      rcases hkeys x hx i hk with h2 | ⟨h2,_⟩
      · have:=hBN i (get?_keys hi);omega
      · exact h2
    let Off (X : Asc) : Prop:=∀ i av,get? X i = some av→∀ x ∈ its,i ∈ keys x.n→nr rem x.j = false∧memB x.j anc = false
    have hcore : ∀ (Y Z : Asc),Off Y→Off Z→(∀ i av,get? Z i = some av→get? Y i = none) →
        Split (selH (nr rem) its ++ (Z ++ Y)) (selH (fun i=>memB i anc) pre ++ Y) (selH (fun i=>nr rem i && !memB i anc) its ++ Z):=fun Y Z hY hZ hZY=>by
      have key : ∀ i,(∃ x ∈ its,i ∈ keys x.n) ∨ ∀ x ∈ its,i ∉ keys x.n:=fun i=>by
        by_cases hx : ∃ x ∈ its,i ∈ keys x.n
        · exact .inl hx
        · exact .inr fun x hx' hk=>hx ⟨x,hx',hk⟩
      have hpreg : ∀ i x,x ∈ its→i ∈ keys x.n→get? (selH (fun i=>memB i anc) pre) i = if memB x.j anc = true then get? x.n i else none:=fun i x hx hk=>by
        by_cases hm : memB x.j anc = true
        · exact selH_in hupre (hpre x hx (memB_ok.1 hm)) hk
        · rw [if_neg hm]
          exact selH_out fun y hy hya hyk=>by
            have:=huniq y (hpsub y hy) x hx i hyk hk
            rw [this] at hya;exact hm hya
      refine ⟨fun i=>?_,fun i av hi=>?_⟩
      · rw [get?_app,get?_app,get?_app,get?_app]
        rcases key i with ⟨x,hx,hk⟩ | hnk
        · rw [hpreg i x hx hk,selH_in huniq hx hk,selH_in huniq hx hk]
          by_cases hm : memB x.j anc = true
          · have hxr:=(hancx x.j (memB_ok.1 hm)).2
            have hn : nr rem x.j = true:=(hnr rem x.j).2 hxr
            have hyn : get? Y i = none:=by
              cases h : get? Y i with
              | none=>rfl
              | some u=>have:=(hY i u h x hx hk).1;rw [hn] at this;cases this
            have hzn : get? Z i = none:=by
              cases h : get? Z i with
              | none=>rfl
              | some u=>have:=(hZ i u h x hx hk).1;rw [hn] at this;cases this
            rw [if_pos hn,if_pos hm,if_neg (by rw [hm];simp),hyn,hzn]
            cases get? x.n i <;> rfl
          · have hmf : memB x.j anc = false:=by simpa using hm
            rw [if_neg hm,hmf]
            simp only [Bool.not_false,Bool.and_true]
            cases hn : nr rem x.j with
            | true =>
              have hyn : get? Y i = none:=by
                cases h : get? Y i with
                | none=>rfl
                | some u=>have:=(hY i u h x hx hk).1;rw [hn] at this;cases this
              have hzn : get? Z i = none:=by
                cases h : get? Z i with
                | none=>rfl
                | some u=>have:=(hZ i u h x hx hk).1;rw [hn] at this;cases this
              rw [hyn,hzn]
              simp
            | false =>
              cases hz : get? Z i with
              | none=>cases get? Y i <;> simp
              | some u=>rw [hZY i u hz];simp
        · rw [selH_out fun x hx _=>hnk x hx,selH_out fun x hx _=>hnk x (hpsub x hx),selH_out fun x hx _=>hnk x hx]
          cases hz : get? Z i with
          | none=>cases get? Y i <;> rfl
          | some u=>rw [hZY i u hz];rfl
      · rw [get?_app] at hi ⊢
        rcases key i with ⟨x,hx,hk⟩ | hnk
        · rw [selH_in huniq hx hk] at hi
          rw [hpreg i x hx hk]
          by_cases hm : memB x.j anc = true
          · rw [if_neg (by rw [hm];simp)] at hi
            have hi : get? Z i = some av:=hi
            have:=(hZ i av hi x hx hk).2
            rw [hm] at this;cases this
          · rw [if_neg hm]
            cases hn : nr rem x.j with
            | true =>
              cases h : get? Y i with
              | none=>rfl
              | some u=>have:=(hY i u h x hx hk).1;rw [hn] at this;cases this
            | false =>
              rw [hn] at hi
              simp only [Bool.false_and,Bool.false_eq_true,if_false] at hi
              have hi : get? Z i = some av:=hi
              rw [hZY i av hi];rfl
        · rw [selH_out fun x hx _=>hnk x hx] at hi
          have hi : get? Z i = some av:=hi
          rw [selH_out fun x hx _=>hnk x (hpsub x hx),hZY i av hi];rfl
    have hnext : ∀ (Y Y' Z : Asc),Split (selH (nr rem) its ++ (Z ++ Y)) (selH (fun i=>memB i anc) pre ++ Y) (selH (fun i=>nr rem i && !memB i anc) its ++ Z)→Off Y→(∀ i av,get? Z i = some av→get? Y i = none)→(∀ i av,get? Y' i = some av→get? Y i = some av) →
        ∀ i,get? (selH (nr (rem.erase it.j)) its ++ (Z ++ Y')) i = (get? (it.n ++ (selH (fun i=>memB i anc) pre ++ Y')) i).or (get? (selH (fun i=>nr rem i && !memB i anc) its ++ Z) i):=by
      intro Y Y' Z hsp hY hZY hYY i
      rw [get?_app,get?_app,get?_app,get?_app,get?_app]
      by_cases hk : i ∈ keys it.n
      · obtain ⟨v,hv⟩:=keys_get hk
        have : nr (rem.erase it.j) it.j = true:=(hnr _ _).2 hnd.not_mem_erase
        rw [selH_in huniq hit hk,if_pos this,hv];rfl
      · rw [get?_none hk]
        have hsame : get? (selH (nr (rem.erase it.j)) its) i = get? (selH (nr rem) its) i:=by
          by_cases hx : ∃ x ∈ its,i ∈ keys x.n
          · obtain ⟨x,hx,hxk⟩:=hx
            have hxj : x.j ≠ it.j:=fun e=>by
              have:=hjinj x hx it hit e
              rw [this] at hxk;exact hk hxk
            rw [selH_in huniq hx hxk,selH_in huniq hx hxk]
            have : nr (rem.erase it.j) x.j = nr rem x.j:=by
              rw [Bool.eq_iff_iff,hnr,hnr,hnd.mem_erase_iff]
              constructor
              · intro h1 h2;exact h1 ⟨hxj,h2⟩
              · intro h1 h2;exact h1 h2.2
            rw [this]
          · rw [selH_out fun x hx' _ hxk=>hx ⟨x,hx',hxk⟩,selH_out fun x hx' _ hxk=>hx ⟨x,hx',hxk⟩]
        rw [hsame]
        have hold:=hsp.get i
        have hap:=hsp.apart i
        rw [get?_app,get?_app,get?_app,get?_app] at hold
        rw [get?_app,get?_app] at hap
        cases hz : get? Z i with
        | some u =>
          have h1:=hZY i u hz
          have h2 : get? Y' i = none:=by
            cases h3 : get? Y' i with
            | none=>rfl
            | some q=>have:=hYY i q h3;rw [h1] at this;cases this
          rw [h1,hz] at hold
          rw [h2]
          rw [hz] at hap
          cases h4 : get? (selH (nr rem) its) i with
          | some q=>rw [h4] at hold;simpa using hold
          | none=>rw [h4] at hold;simpa using hold
        | none =>
          rw [hz] at hold
          cases h4 : get? (selH (nr rem) its) i with
          | some q =>
            have hexx : ∃ x ∈ its,i ∈ keys x.n:=by
              refine Classical.byContradiction fun hn=>?_
              rw [selH_out fun x hx _ hxk=>hn ⟨x,hx,hxk⟩] at h4;cases h4
            obtain ⟨x,hx,hxk⟩:=hexx
            have h5 : get? Y i = none:=by
              cases h6 : get? Y i with
              | none=>rfl
              | some r =>
                have:=(hY i r h6 x hx hxk).1
                rw [selH_in huniq hx hxk,this] at h4
                simp at h4
            have h7 : get? Y' i = none:=by
              cases h6 : get? Y' i with
              | none=>rfl
              | some r=>have:=hYY i r h6;rw [h5] at this;cases this
            rw [h4,h5] at hold
            rw [h7]
            simpa using hold
          | none =>
            rw [h4] at hold
            cases h6 : get? Y' i with
            | some r =>
              have h8:=hYY i r h6
              rw [h8] at hold
              cases h9 : get? (selH (fun i=>memB i anc) pre) i with
              | some q =>
                exfalso
                have : get? (selH (fun i=>memB i anc) pre) i = none:=selH_out fun x hx hxa hxk=>by
                  have:=(hY i r h8 x (hpsub x hx) hxk).2
                  rw [hxa] at this;cases this
                rw [h9] at this;cases this
              | none=>simp
            | none =>
              cases h8 : get? Y i with
              | some r =>
                rw [h8] at hold
                rw [selH_out (its:=pre) fun x hx hxa hxk=>by
                  have:=(hY i r h8 x (hpsub x hx) hxk).2
                  rw [hxa] at this;cases this]
                rw [selH_out (its:=its) fun x hx hxa hxk=>by
                  have:=(hY i r h8 x hx hxk).1
                  rw [this] at hxa;simp at hxa]
                rfl
              | none =>
                rw [h8] at hold
                simpa using hold
    have hfin : ∀ (c' : Ctx) (v' : Value) (nn : List Nat),(∀ i ∈ nn,i ∈ keys it.n)→Out c (selH (nr rem) its ++ (be rem ++ h)) (selH (nr (rem.erase it.j)) its ++ (be (rem.erase it.j) ++ h)) nn c'→Rep c' it.v .V [v']→I (rem.erase it.j) (a.put (some it.d) v') c'.w:=by
      intro c' v' nn hnn ho' hv'
      have hdd:=hdst it.j hjd
      rw [hdj it hit] at hdd
      obtain ⟨d,hd1,hd2⟩:=hdd
      cases hd1
      refine ⟨c',ns ++ nn,rfl,hout.trans ho',?_,fun x hx hxr=>?_,fun i hi=>?_,by rw [put_size];exact hsz,by rw [put_defers];exact hdf,hN0,hgl⟩
      · refine ⟨fun t v ht=>?_,(hen.le ho'.le).glob⟩
        have hne : t ≠ it.d:=fun e=>(he0k t v ht).2 (by rw [e];exact dstsOf_mem hjd (hdj it hit))
        obtain ⟨q1,q2⟩:=hen.slot t v ht
        refine ⟨by rw [put_size];exact q1,?_⟩
        have : (a.put (some it.d) v').tmps.getD t undef = a.tmps.getD t undef:=by simp [Act.put,Array.getElem?_setIfInBounds,Ne.symm hne]
        rw [this];exact q2.le ho'.le
      · by_cases e : x = it
        · subst e
          refine ⟨by rw [put_size,hsz];exact hd2,?_⟩
          have : (a.put (some x.d) v').tmps.getD x.d undef = v':=by
            have : x.d < a.tmps.size:=by rw [hsz];exact hd2
            simp [Act.put,this]
          rw [this];exact hv'
        · have hxj : x.j ≠ it.j:=fun e'=>e (hjinj x hx it hit e')
          have hxr' : x.j ∉ rem:=fun h1=>hxr ((hnd.mem_erase_iff).2 ⟨hxj,h1⟩)
          obtain ⟨q1,q2⟩:=hsl x hx hxr'
          have hne : x.d ≠ it.d:=fun e'=>hxj (dsts_inj s3 (hjs x hx) hjd (hdj x hx) (by rw [e'];exact hdj it hit))
          refine ⟨by rw [put_size];exact q1,?_⟩
          have : (a.put (some it.d) v').tmps.getD x.d undef = a.tmps.getD x.d undef:=by simp [Act.put,Array.getElem?_setIfInBounds,Ne.symm hne]
          rw [this];exact q2.le ho'.le
      · rcases ho'.A i hi with h1 | h1
        · rcases hA i h1 with h2 | ⟨x,hx,hxr,hxk⟩
          · exact .inl h2
          · exact .inr ⟨x,hx,fun h3=>hxr (List.mem_of_mem_erase h3),hxk⟩
        · exact .inr ⟨it,hit,hnd.not_mem_erase,hnn i h1⟩
    have hfresh : ∀ n ∈ keys it.n,N ≤ n→¬ c.A n:=fun n hn hNn hAn=>by
      rcases hA n hAn with h1 | ⟨x,hx,hxr,hxk⟩
      · omega
      · have:=huniq x hx it hit n hxk hn
        subst this
        exact hxr hj
    have hanj : memB it.j anc = false:=by
      cases hm : memB it.j anc with
      | false=>rfl
      | true=>exact absurd hj (hancx it.j (memB_ok.1 hm)).2
    have hOh : Off h:=fun i av hi x hx hk=>absurd hk (hHor i av hi x hx)
    unfold wpOp
    simp only [ho]
    rcases hok with ⟨heo,hok⟩ | ⟨heo,ns',hok,hns'⟩
    · have hbe : be (rem.erase it.j) = be rem:=by
        show (bif its.all _ then B else []) = bif its.all _ then B else []
        congr 1
        rw [Bool.eq_iff_iff,List.all_eq_true,List.all_eq_true]
        refine forall_congr' fun x=>forall_congr' fun hx=>?_
        by_cases e : x.j = it.j
        · rw [e,heo];simp
        · rw [Bool.or_eq_true,Bool.or_eq_true,memB_ok,memB_ok,hnd.mem_erase_iff]
          exact ⟨fun h=>h.imp (fun h=>h) fun h=>h.2,fun h=>h.imp (fun h=>h) fun h=>⟨e,h⟩⟩
      have hZ : Off (be rem):=fun i av hi x hx hk=>by
        have hex:=hBor i av (hbesub rem i av hi) x hx hk
        have hxr : x.j ∈ rem:=by
          refine Classical.byContradiction fun hn=>?_
          have : its.all (fun y=>!eat y.j || memB y.j rem) = false:=List.all_eq_false.2 ⟨x,hx,by
            have : ¬ memB x.j rem = true:=fun h=>hn (memB_ok.1 h)
            rw [hex];simpa using this⟩
          have hi : get? (bif its.all (fun y=>!eat y.j || memB y.j rem) then B else []) i = some av:=hi
          rw [this] at hi;cases hi
        refine ⟨by show (!memB x.j rem) = false;rw [memB_ok.2 hxr];rfl,?_⟩
        cases hm : memB x.j anc with
        | false=>rfl
        | true=>exact absurd hxr (hancx x.j (memB_ok.1 hm)).2
      have hZY : ∀ i av,get? (be rem) i = some av→get? h i = none:=fun i av hi=>hBd i av (hbesub rem i av hi)
      have hsplit:=hcore h (be rem) hOh hZ hZY
      have hnew:=hnext h h (be rem) hsplit hOh hZY (fun i av hi=>hi)
      have hfr2 : ∀ n ∈ keys it.n,¬ c.A n:=fun n hn=>by
        rcases hkeys it hit n hn with h1 | ⟨h1,_⟩
        · exact hfresh n hn h1.1
        · rw [heo] at h1;cases h1
      rw [hbe] at hfin
      cases hok with
      | run hw hd hop =>
        rw [if_pos (wants_env henv hw)]
        left
        refine hop c a henv (hout.heap.left hsplit) hout.ok hfr2 _ _ fun c' v' ho' hv'=>?_
        rw [hd]
        exact hfin c' v' _ (fun i hi=>hi) (ho'.framed hout.heap hsplit hnew) (hv' _ rfl)
      | skip hw hd hv hn =>
        rw [if_neg (by rw [wants_env henv hw];simp),hd]
        refine hfin c undef [] (fun i hi=>by cases hi) ?_ (by rw [hv];exact ⟨rfl,trivial⟩)
        have : Out c (selH (nr rem) its ++ (be rem ++ h)) (selH (nr rem) its ++ (be rem ++ h)) [] c:=.refl hout.heap hout.ok
        exact this.shrink (h'':=selH (nr (rem.erase it.j)) its ++ (be rem ++ h)) fun i av hi=>by
          rw [hnew,hn] at hi
          rw [hsplit.get];exact hi
    · have hbe1 : be rem = B:=by
        have : its.all (fun x=>!eat x.j || memB x.j rem) = true:=List.all_eq_true.2 fun x hx=>by
          cases he : eat x.j with
          | false=>rfl
          | true=>rw [heats.one x hx it hit he heo,memB_ok.2 hj];rfl
        show (bif its.all _ then B else []) = B
        rw [this];rfl
      have hbe2 : be (rem.erase it.j) = []:=by
        have : its.all (fun x=>!eat x.j || memB x.j (rem.erase it.j)) = false:=by
          rw [List.all_eq_false]
          refine ⟨it,hit,?_⟩
          rw [heo]
          have : ¬ memB it.j (rem.erase it.j) = true:=fun h=>hnd.not_mem_erase (memB_ok.1 h)
          simpa using this
        show (bif its.all _ then B else []) = []
        rw [this];rfl
      rw [hbe1,hbe2] at hfin
      have hnil : ∀ (i : Nat) (av : AV) {p : Prop},get? ([] : Asc) i = some av→p:=fun i av p h=>by cases h
      have hOB : Off (B ++ h):=fun i av hi x hx hk=>by
        rw [get?_app] at hi
        cases hb : get? B i with
        | none=>rw [hb] at hi;exact hOh i av hi x hx hk
        | some u =>
          have hex:=hBor i u hb x hx hk
          have e:=heats.one x hx it hit hex heo
          rw [e]
          exact ⟨by show (!memB it.j rem) = false;rw [memB_ok.2 hj];rfl,hanj⟩
      have hsplit:=hcore (B ++ h) [] hOB (fun i av hi=>hnil i av hi) (fun i av hi=>hnil i av hi)
      have hnew:=hnext (B ++ h) h [] hsplit hOB (fun i av hi=>hnil i av hi) (fun i av hi=>by
        rw [get?_app]
        cases hb : get? B i with
        | none=>exact hi
        | some u=>have:=hBd i u hb;rw [hi] at this;cases this)
      rw [List.nil_append] at hsplit
      have hheap:=hout.heap
      rw [hbe1] at hheap
      rw [if_pos (wants_env henv hok.wants)]
      left
      refine hok.ok c a henv (hheap.left hsplit) hout.ok (fun n hn=>hfresh n (hns' n hn).1 (hns' n hn).2) _ _ fun c' v' ho' hv'=>?_
      rw [hok.dst]
      exact hfin c' v' _ (fun i hi=>(hns' i hi).1) (ho'.framed hheap hsplit hnew) (hv' _ rfl)
  refine ⟨its,N',B',I,hK,hmap,fun i av hi=>?_,hdj,hitems2,?_,fun rem a w hI=>?_,huniq,fun it hit i hi=>(hkeys it hit i hi).imp (fun h=>h) fun h=>h.2⟩
  · by_cases hx : ∃ x ∈ its,eat x.j = true
    · obtain ⟨x,hx,hxe⟩:=hx
      rw [heats.some x hx hxe] at hi;cases hi
    · rw [heats.none fun x hx'=>by
        cases he : eat x.j with
        | false=>rfl
        | true=>exact absurd ⟨x,hx',he⟩ hx] at hi
      exact hi
  · obtain ⟨c,ns,rfl,hout,hen,hb,hsz,hdf,hN0,hgl⟩:=hsim
    have hd:=Out.drew hout.heap hout.ok
    have hsel0 : selH (nr (plan.map (·.1))) its = []:=by
      have : ∀ {L : List It},(∀ x ∈ L,x.j ∈ plan.map (·.1))→selH (nr (plan.map (·.1))) L = []:=by
        intro L
        induction L with
        | nil=>intro _;rfl
        | cons x L ih =>
          intro hx
          unfold selH
          have : nr (plan.map (·.1)) x.j = false:=by
            show (!memB x.j _) = false
            rw [memB_ok.2 (hx x List.mem_cons_self)];rfl
          rw [this]
          exact ih fun y hy=>hx y (List.mem_cons_of_mem _ hy)
      exact this hjs
    refine ⟨{ c with w:=c.w.drew },ns ++ [],rfl,?_,?_,fun it hit hn=>absurd (hjs it hit) hn,fun i hi=>.inl (hb i hi),hsz,hdf,hN0,hgl⟩
    · have hbe : be (plan.map (·.1)) = B:=by
        have : its.all (fun x=>!eat x.j || memB x.j (plan.map (·.1))) = true:=List.all_eq_true.2 fun x hx=>by rw [memB_ok.2 (hjs x hx)];simp
        show (bif its.all _ then B else []) = B
        rw [this];rfl
      rw [hsel0,hbe];exact hout.trans hd
    · have:=hen.le hd.le
      exact ⟨fun t v ht=>this.slot t v (he0k t v ht).1,this.glob⟩
  · obtain ⟨c,ns,rfl,hout,hen,hsl,hA,hsz,hdf,hN0,hgl⟩:=hI
    refine ⟨c,ns,be rem,hbesub rem,rfl,hout,hen,hsl,fun i hi=>?_,hsz,hdf,hN0,hgl,hA⟩
    rcases hA i hi with h1 | ⟨x,hx,_,hxk⟩
    · omega
    · rcases hkeys x hx i hxk with h2 | ⟨_,h2⟩
      · exact h2.2
      · have:=hBN i h2;omega
theorem drawn_core {F : Fr} {l : List Oper} {e h B g : Asc} {N : Nat} (plan : List (Nat × List Nat)) (hBd : ∀ i av,get? B i = some av→get? h i = none)
    (s1 : nodupB (plan.map (·.1)) = true) (s2 : ((plan.map (·.1)).all (fun j=>Nat.blt j l.toArray.size && (match dstOf l.toArray j with | some d=>Nat.blt d F.n | none=>false))) = true) (s3 : nodupB (dstsOf l.toArray plan) = true) (s4 : Og.acyc l.toArray = true) (s6 : ancB l.toArray plan plan [] = true)
    {e0 : Asc} (he0 : dropO e (dstsOf l.toArray plan) some = some e0) {K : List It→Nat→Asc→Prop} (hD : DSeq F.P l.toArray g e0 h plan [] N B K) (a : Act) (w : World) (hsim : Sim F ⟨e,B ++ h,g,N⟩ a w) :
    ∃ (its : List It) (N' : Nat) (B' : Asc) (I : List Nat→Act→World→Prop),K its N' B'∧its.map (·.j) = plan.map (·.1)∧(∀ i av,get? B' i = some av→get? B i = some av)∧(∀ it ∈ its,dstOf l.toArray it.j = some it.d) ∧
      (∀ (QC : Exit→Act→World→Prop) (rem : List Nat),rem.Nodup→(∀ i ∈ rem,i ∈ plan.map (·.1))→∀ j ∈ rem,(∀ i,waits .any l.toArray j i = true→i ∈ plan.map (·.1)→i ∉ rem)→(∀ i k,i ∈ plan.map (·.1)→i ∉ rem→waits .any l.toArray i k = true→k ∈ plan.map (·.1)→k ∉ rem) →
        ∀ a w,I rem a w→wpOp F.P l.toArray QC j (fun a' w'=>I (rem.erase j) a' w') a w) ∧
      I (plan.map (·.1)) a { w with drawn:=w.drawn + 1 } ∧
      ∀ rem a w,I rem a w→∃ (c : Ctx) (ns : List Nat) (Bx : Asc),(∀ i av,get? Bx i = some av→get? B i = some av)∧c.w = w∧Out F.c0 F.h0 (selH (nrem rem) its ++ (Bx ++ h)) ns c∧EnvRep c g e0 a∧(∀ it ∈ its,it.j ∉ rem→it.d < a.tmps.size∧Rep c it.v .V [a.tmps.getD it.d undef]) ∧
        (∀ i,c.A i→i < N')∧a.tmps.size = F.n∧a.defers = F.D∧(∀ i,F.c0.A i→i < F.N0)∧∀ x v,get? g x = some v→Rep F.c0 (.rptr false v) .V [.pointer (some ⟨x,0,none⟩)]:=by
  obtain ⟨its,N',B',I,h1,h2,h3,h4,h5,h6,h7,_⟩:=drawn_core2 plan hBd s1 s2 s3 s4 s6 he0 hD a w hsim
  refine ⟨its,N',B',I,h1,h2,h3,h4,h5,h6,fun rem a w hI=>?_⟩
  obtain ⟨c,ns,Bx,q1,q2,q3,q4,q5,q6,q7,q8,q9,q10,_⟩:=h7 rem a w hI
  exact ⟨c,ns,Bx,q1,q2,q3,q4,q5,q6,q7,q8,q9,q10⟩
def LateOk (P : Program) (ops : Array Oper) (g eL : Asc) (it : It) : Prop:=it.n = []∧∃ o,ops[it.j]? = some o∧o.dst = some it.d∧wants ops o eL = some true∧∀ h,OpOk P o g eL h (some it.v) h []
def drawLB (ops : Array Oper) (n : Nat) (plan : List (Nat × Nat)) (late : List Nat) (t1 : Nat) (tail : List Nat) : Bool :=
  nodupB ((mkP plan).map (·.1)) && (((mkP plan).map (·.1)).all (fun j=>Nat.blt j ops.size && (match dstOf ops j with | some d=>Nat.blt d n | none=>false)) && (nodupB (dstsOf ops (mkP plan)) && (Og.acyc ops && (ancM ops plan plan 0 &&
    (!memB t1 ((mkP plan).map (·.1)) && (Nat.blt t1 ops.size && (((List.range ops.size).all fun j=>memB j ((mkP plan).map (·.1) ++ [t1]) || ((mkP plan).map (·.1) ++ [t1]).all fun i=>Og.cov ops ((mkP plan).map (·.1) ++ [t1]) ((mkP plan).map (·.1) ++ [t1]).length j i) &&
    (((mkP plan).map (·.1)).all (fun i=>memB i late || Og.cov ops ((mkP plan).map (·.1)) ((mkP plan).map (·.1)).length t1 i) && (tailB ops tail (afterL ops ((mkP plan).map (·.1) ++ [t1])) && Nat.beq (((mkP plan).map (·.1) ++ [t1]).length + tail.length) ops.size)))))))))
theorem cov_done {ops : Array Oper} {l rem : List Nat} (hl : ∀ i k,i ∈ l→i ∉ rem→waits .any ops i k = true→k ∈ l→k ∉ rem) : ∀ (n j i : Nat),(∀ k,waits .any ops j k = true→k ∈ l→k ∉ rem)→i ∈ l→Og.cov ops l n j i = true→i ∉ rem
  | 0,j,i,h1,hi,hc=>h1 i hc hi
  | n + 1,j,i,h1,hi,hc=>by
    unfold Og.cov at hc
    rw [Bool.or_eq_true,List.any_eq_true] at hc
    rcases hc with hc | ⟨q,hq,hc⟩
    · exact h1 i hc hi
    · rw [Bool.and_eq_true] at hc
      exact hl q i hq (cov_done hl n j q h1 hq hc.2) hc.1 hi
theorem selH_late {late : List Nat} : ∀ {its : List It},(∀ it ∈ its,it.j ∈ late→it.n = [])→∀ {r : List Nat},(∀ i ∈ r,i ∈ late)→selH (nrem r) its = selH allB its
  | [],_,_,_=>rfl
  | it::s,h,r,hr=>by
    have ih:=selH_late (its:=s) (fun x hx=>h x (List.mem_cons_of_mem _ hx)) hr
    unfold selH
    rw [ih]
    cases hn : nrem r it.j with
    | true=>rfl
    | false =>
      have : it.j ∈ r:=by
        unfold nrem at hn
        exact memB_ok.1 (by simpa using hn)
      rw [h it List.mem_cons_self (hr _ this)];rfl
def LateL (P : Program) (ops : Array Oper) (g eL : Asc) (late : List Nat) : List It→Prop
  | []=>True
  | it::r=>(bif memB it.j late then LateOk P ops g eL it else True)∧LateL P ops g eL late r
theorem lateL_ok {P : Program} {ops : Array Oper} {g eL : Asc} {late : List Nat} : ∀ {its : List It},LateL P ops g eL late its→∀ it ∈ its,it.j ∈ late→LateOk P ops g eL it
  | [],_,it,h,_=>by cases h
  | x :: r,hl,it,h,hj=>by
    rcases List.mem_cons.1 h with e | h
    · subst e
      have h1:=hl.1
      rw [memB_ok.2 hj] at h1
      exact h1
    · exact lateL_ok hl.2 it h hj
theorem late_end {F : Fr} {ops : Array Oper} {g e0 h : Asc} {its : List It} {N : Nat} {late : List Nat} {op : Op} {ty : TypeId} {pos : String} {af : Array Edge} {gd : Option (Nat × Bool)} {tops : List Oper} {K : St→Prop} {eL hL e' H2 : Asc} {ps : List Prop} (m : Bool) {T : List (Option TI)} (hT : TabOk F.P T)
    (hE : selEO (nrem late) e0 its some = some eL) (hH : selHO allB h its some = some hL) (he : evalOp m T g eL hL N op = some ⟨ps,none,H2,0⟩) (hp : AllP ps) (hw : wants ops ⟨none,op,ty,pos,af,gd⟩ eL = some true) (hl : LateL F.P ops g eL late its) (hE2 : selEO allB e0 its some = some e') (hk : Seq F ops tops ⟨e',H2,g,N⟩ K) :
    ∃ H2,OpOk F.P ⟨none,op,ty,pos,af,gd⟩ g (selE (nrem late) its ++ e0) (selH allB its ++ h) none H2 []∧wants ops ⟨none,op,ty,pos,af,gd⟩ (selE (nrem late) its ++ e0) = some true ∧
      (∀ it ∈ its,it.j ∈ late→LateOk F.P ops g (selE (nrem late) its ++ e0) it)∧Seq F ops tops ⟨selE allB its ++ e0,H2,g,N⟩ K:=by
  rw [selEO_eq] at hE hE2
  rw [selHO_eq] at hH
  cases hE;cases hH;cases hE2
  exact ⟨H2,evalOp_ok hT (by cases op <;> rfl) he hp,hw,lateL_ok hl,hk⟩
end Go.V
namespace Go.V
open Go.RowKit Go.L Go.Chain
def moL {κ ν : Type} (K : κ→AV) (V : ν→AV) (d : κ × ν) (l : List (κ × ν)) : AV:=.mo l.length (fun i=>K (l.getD i d).1) (fun i=>V (l.getD i d).2)
def mFind {κ ν : Type} [DecidableEq κ] : List (κ × ν)→κ→Option ν
  | [],_=>none
  | p::r,k=>if p.1 = k then some p.2 else mFind r k
def mSet {κ ν : Type} [DecidableEq κ] : List (κ × ν)→κ→ν→List (κ × ν)
  | [],k,v=>[(k,v)]
  | p::r,k,v=>if p.1 = k then (k,v)::r else p::mSet r k v
def mDel {κ ν : Type} [DecidableEq κ] : List (κ × ν)→κ→List (κ × ν)
  | [],_=>[]
  | p::r,k=>if p.1 = k then r else p::mDel r k
structure KeyK (P : Program) (kt : TypeId) {κ : Type} [DecidableEq κ] (K : κ→AV) (kv : κ→Value) : Prop where
  rep : ∀ c k v,Rep c (K k) .V [v] ↔ v = kv k
  check : ∀ e k w,(Instr.checkKey e 10000 kt (kv k)).run P w = .ok () w
  find : ∀ (l : List MapEntry) (ks : List κ) k w,l.map (·.key) = ks.map kv→(Instr.findKey kt (kv k) l).run P w = .ok ((ks.findIdx? fun x=>decide (x = k)).bind fun i=>(l[i]?).map fun e=>(i,e.val)) w
  stays : ∀ k w,(Instr.keyThatStays (kv k) (kv k)).run P w = .ok (kv k) w
theorem findNow_int (k : IntKind) (n : Int) : ∀ (l : List MapEntry) (ks : List Int) (i : Nat),l.map (·.key) = ks.map (fun x=>Value.int k x) →
    Instr.findNow (.int k) (.int k n) l i = some ((ks.findIdx? fun x=>decide (x = n)).bind fun j=>(l[j]?).map fun e=>(i + j,e.val))
  | [],ks,i,h=>by
    have : ks = []:=by simpa using h
    subst this;rfl
  | e::l,[],i,h=>by simp at h
  | e :: l,x::ks,i,h=>by
    simp only [List.map_cons,List.cons.injEq] at h
    rw [Instr.findNow,h.1]
    have hs : Instr.sameNow (.int k) (.int k n) (.int k x) = some (n == x):=by simp [Instr.sameNow]
    rw [hs,List.findIdx?_cons]
    by_cases hx : x = n
    · subst hx;simp
    · have h1 : (n == x) = false:=by simpa using fun e=>hx e.symm
      rw [h1]
      simp only [hx,decide_false,Bool.false_eq_true,if_false]
      rw [findNow_int k n l ks (i + 1) h.2]
      cases ks.findIdx? (fun x=>decide (x = n)) with
      | none=>rfl
      | some j =>
        simp only [Option.bind_some,Option.map_some,List.getElem?_cons_succ]
        cases l[j]? with
        | none=>rfl
        | some e'=>simp only [Option.map_some];congr 3;omega
theorem key_int {P : Program} {kt : TypeId} {k : IntKind} (hu : P.underlying kt = some (.int k)) : KeyK P kt (fun n : Int=>.int k n) (fun n=>.int k n) where
  rep c n v:=⟨fun h=>by have h : [v] = _:=h;simpa using h,fun h=>by subst h;rfl⟩
  check e n w:=MapKept.run_checkKey (d:=.int k) hu (show MapKept.IsKey (.int k) (.int k n) from rfl) e 9999
  find l ks n w h:=MapKept.run_findKey (d:=.int k) hu (by rw [findNow_int k n l ks 0 h];simp only [Nat.zero_add])
  stays n w:=MapKept.run_keyThatStays (d:=.int k) (show MapKept.IsKey (.int k) (.int k n) from rfl)
section
variable {κ ν : Type} [DecidableEq κ]
theorem mFind_idx : ∀ (l : List (κ × ν)) (k : κ),mFind l k = ((l.map (·.1)).findIdx? fun x=>decide (x = k)).bind fun i=>(l[i]?).map (·.2)
  | [],_=>rfl
  | p :: r,k=>by
    rw [mFind,List.map_cons,List.findIdx?_cons]
    by_cases h : p.1 = k
    · simp [h]
    · simp only [h,if_false,decide_false,Bool.false_eq_true]
      rw [mFind_idx r k]
      cases (r.map (·.1)).findIdx? (fun x=>decide (x = k)) with
      | none=>rfl
      | some j=>simp
theorem mSet_none : ∀ (l : List (κ × ν)) (k : κ) (v : ν),(l.map (·.1)).findIdx? (fun x=>decide (x = k)) = none→mSet l k v = l ++ [(k,v)]
  | [],_,_,_=>rfl
  | p :: r,k,v,h=>by
    rw [List.map_cons,List.findIdx?_cons] at h
    by_cases hp : p.1 = k
    · simp [hp] at h
    · simp only [hp,decide_false,Bool.false_eq_true,if_false,Option.map_eq_none_iff] at h
      rw [mSet,if_neg hp,mSet_none r k v h,List.cons_append]
theorem mSet_some : ∀ (l : List (κ × ν)) (k : κ) (v : ν) (i : Nat),(l.map (·.1)).findIdx? (fun x=>decide (x = k)) = some i→mSet l k v = l.set i (k,v)
  | [],_,_,_,h=>by simp at h
  | p :: r,k,v,i,h=>by
    rw [List.map_cons,List.findIdx?_cons] at h
    by_cases hp : p.1 = k
    · simp only [hp,decide_true,if_true,Option.some.injEq] at h
      subst h
      rw [mSet,if_pos hp];rfl
    · simp only [hp,decide_false,Bool.false_eq_true,if_false] at h
      cases hj : (r.map (·.1)).findIdx? (fun x=>decide (x = k)) with
      | none=>rw [hj] at h;cases h
      | some j =>
        rw [hj] at h
        simp only [Option.map_some,Option.some.injEq] at h
        subst h
        rw [mSet,if_neg hp,mSet_some r k v j hj];rfl
theorem mDel_none : ∀ (l : List (κ × ν)) (k : κ),(l.map (·.1)).findIdx? (fun x=>decide (x = k)) = none→mDel l k = l
  | [],_,_=>rfl
  | p :: r,k,h=>by
    rw [List.map_cons,List.findIdx?_cons] at h
    by_cases hp : p.1 = k
    · simp [hp] at h
    · simp only [hp,decide_false,Bool.false_eq_true,if_false,Option.map_eq_none_iff] at h
      rw [mDel,if_neg hp,mDel_none r k h]
theorem mDel_some : ∀ (l : List (κ × ν)) (k : κ) (i : Nat),(l.map (·.1)).findIdx? (fun x=>decide (x = k)) = some i→mDel l k = l.eraseIdx i
  | [],_,_,h=>by simp at h
  | p :: r,k,i,h=>by
    rw [List.map_cons,List.findIdx?_cons] at h
    by_cases hp : p.1 = k
    · simp only [hp,decide_true,if_true,Option.some.injEq] at h
      subst h
      rw [mDel,if_pos hp];rfl
    · simp only [hp,decide_false,Bool.false_eq_true,if_false] at h
      cases hj : (r.map (·.1)).findIdx? (fun x=>decide (x = k)) with
      | none=>rw [hj] at h;cases h
      | some j =>
        rw [hj] at h
        simp only [Option.map_some,Option.some.injEq] at h
        subst h
        rw [mDel,if_neg hp,mDel_some r k j hj];rfl
theorem idx_get (l : List (κ × ν)) (k : κ) (i : Nat) (h : (l.map (·.1)).findIdx? (fun x=>decide (x = k)) = some i) : ∃ v,l[i]? = some (k,v):=by
  rw [List.findIdx?_eq_some_iff_getElem] at h
  obtain ⟨hi,hk,_⟩:=h
  have hi' : i < l.length:=by simpa using hi
  refine ⟨(l[i]).2,?_⟩
  rw [List.getElem?_eq_getElem hi']
  have : (l[i]).1 = k:=by simpa using hk
  rw [← this]
end
theorem mapAt_of {c : Ctx} {h : Asc} {id : Nat} {κ ν : Type} {K : κ→AV} {V : ν→AV} {d : κ × ν} {l : List (κ × ν)} (hh : HeapRep c h) (ho : get? h id = some (moL K V d l)) (hG : ¬ c.G id) :
    ∃ (es : Array MapEntry) (clock : Nat),c.w.heap[c.ρ id]? = some (.map es clock)∧es.size = l.length∧(∀ i (hi : i < es.size),Rep c (K (l.getD i d).1) .V [es[i].key]∧Rep c (V (l.getD i d).2) .V [es[i].val])∧(∀ i (h : i < es.size),es[i].born < clock)∧∀ i j (hi : i < es.size) (hj : j < es.size),es[i].born = es[j].born→i = j:=by
  rcases hh.obj id _ ho hG with ⟨cs,t,xs,ys,_,_,hr⟩ | ⟨n,ks,vs,e,h⟩ | ⟨_,e,_⟩
  · exact hr.elim
  · unfold moL at e
    simp only [AV.mo.injEq] at e
    obtain ⟨rfl,rfl,rfl⟩:=e
    exact h
  · unfold moL at e
    cases e
theorem map_keys {c : Ctx} {P : Program} {kt : TypeId} {κ ν : Type} [DecidableEq κ] {K : κ→AV} {kv : κ→Value} {V : ν→AV} {d : κ × ν} {l : List (κ × ν)} (hK : KeyK P kt K kv) {es : Array MapEntry} (hn : es.size = l.length)
    (hes : ∀ i (hi : i < es.size),Rep c (K (l.getD i d).1) .V [es[i].key]∧Rep c (V (l.getD i d).2) .V [es[i].val]) : es.toList.map (·.key) = (l.map (·.1)).map kv:=by
  refine List.ext_getElem (by simp [hn]) fun i h1 h2=>?_
  have hi : i < es.size:=by simpa using h1
  have hl : i < l.length:=by omega
  have:=(hK.rep c _ _).1 (hes i hi).1
  rw [List.getElem_map,Array.getElem_toList,this,List.getElem_map,List.getElem_map,List.getD_eq_getElem?_getD,List.getElem?_eq_getElem hl,Option.getD_some]
section
variable {P : Program} {t : TypeId} {g e h : Asc} {x y z : Operand} {d : Option Tmp} {ty : TypeId} {pos : String} {af : Array Edge} {gd : Option (Nat × Bool)}
variable {κ ν : Type} [DecidableEq κ] {K : κ→AV} {kv : κ→Value} {V : ν→AV} {d0 : κ × ν} {l : List (κ × ν)} {kt et : TypeId}
theorem run_mfind {c : Ctx} (hK : KeyK P kt K kv) {es : Array MapEntry} (hn : es.size = l.length) (hes : ∀ i (hi : i < es.size),Rep c (K (l.getD i d0).1) .V [es[i].key]∧Rep c (V (l.getD i d0).2) .V [es[i].val]) (k : κ) (w : World) :
    (Instr.findKey kt (kv k) es.toList).run P w = .ok (((l.map (·.1)).findIdx? fun x=>decide (x = k)).bind fun i=>(es[i]?).map fun e=>(i,e.val)) w:=by
  rw [hK.find _ _ k w (map_keys hK hn hes)]
  simp only [Array.getElem?_toList]
def zB (P : Program) (t : TypeId) (ti : TI) : Bool:=match P.info? t with
  | some i=>match i.zero with
    | some (.agg _)=>ti.lay.zero.isAgg
    | some _=>!ti.lay.zero.isAgg
    | none=>false
  | none=>false
theorem zero_run {tie : TI} (hT : TIok P et tie) (hz : zB P et tie = true) (c : Ctx) : ∃ v,(zeroValue et).run P c.w = .ok v c.w∧Rep c tie.lay.zero .V [v]:=by
  obtain ⟨i,z,hi,hs,_,hz',hf,_⟩:=hT.info
  refine ⟨z,by simp [zeroValue,typeInfo,hi,hz'],?_⟩
  have h1:=tie.lay.rep c hT.lay
  unfold zB at hz
  rw [hi] at hz
  simp only [hz'] at hz
  have hone : ∀ u : Value,u.cells = #[u]→u = z→tie.lay.zero.isAgg = false→Rep c tie.lay.zero .V [z]:=fun u hc hu hag=>by
    subst hu
    rw [← hf,hc] at h1
    exact Rep.one hag h1
  cases z <;> simp only [Bool.not_eq_true'] at hz <;> first | exact hone _ rfl rfl hz | skip
  rename_i cs _
  have : cs.toList = tie.lay.flat:=hf
  rw [← this] at h1
  have:=(Rep.agg (c:=c) hz).2 h1
  simpa using this
theorem lookup_run {c : Ctx} {tie : TI} (hT : TIok P et tie) (hu : P.underlying t = some (.map kt et)) (hK : KeyK P kt K kv) (hz : zB P et tie = true) {b clock : Nat} {es : Array MapEntry} (hb : c.w.heap[b]? = some (.map es clock))
    (hn : es.size = l.length) (hes : ∀ i (hi : i < es.size),Rep c (K (l.getD i d0).1) .V [es[i].key]∧Rep c (V (l.getD i d0).2) .V [es[i].val]) (k : κ) (ok : Bool) :
    ∃ v,(Instr.lookup t (.map (some b)) (kv k) ok).run P c.w = .ok (if ok then .tuple #[v,.bool (mFind l k).isSome] else v) c.w∧Rep c (match mFind l k with | some u=>V u | none=>tie.lay.zero) .V [v]:=by
  obtain ⟨z,hz1,hz2⟩:=zero_run (P:=P) hT hz c
  have hf:=run_mfind (P:=P) hK hn hes k c.w
  cases hi : (l.map (·.1)).findIdx? (fun x=>decide (x = k)) with
  | none =>
    have hm : mFind l k = none:=by rw [mFind_idx,hi];rfl
    rw [hi] at hf
    simp only [Option.bind_none] at hf
    refine ⟨z,?_,by rw [hm];exact hz2⟩
    simp [Instr.lookup,run_underlying hu,MapKept.run_getObj_map hb,hK.check,hf,hz1,hm]
  | some i =>
    obtain ⟨v,hv⟩:=idx_get l k i hi
    have hm : mFind l k = some v:=by rw [mFind_idx,hi];simp [hv]
    have hl : i < l.length:=(List.getElem?_eq_some_iff.1 hv).1
    have hie : i < es.size:=by omega
    rw [hi] at hf
    simp only [Option.bind_some,Array.getElem?_eq_getElem hie,Option.map_some] at hf
    refine ⟨es[i].val,?_,?_⟩
    · simp [Instr.lookup,run_underlying hu,MapKept.run_getObj_map hb,hK.check,hf,hm]
    · rw [hm]
      have:=(hes i hie).2
      rw [List.getD_eq_getElem?_getD,hv,Option.getD_some] at this
      exact this
theorem lookup_ok {T : List (Option TI)} (hT : TabOk P T) {tie : TI} (hte : tget T et = some tie) (hu : P.underlying t = some (.map kt et)) (hK : KeyK P kt K kv) (hz : zB P et tie = true) {id : Nat} {k : κ} (hx : ev g e x = some (.mp id)) (ho : get? h id = some (moL K V d0 l)) (hy : ev g e y = some (K k)) :
    OpOk P ⟨d,.lookup t x y false,ty,pos,af,gd⟩ g e h (some (match mFind l k with | some u=>V u | none=>tie.lay.zero)) h []:=by
  refine OpOk.val fun c a he hh hc=>?_
  obtain ⟨_,hG,hv⟩:=rep_mp (ev_rep he hx)
  obtain ⟨es,clock,hb,hn,hes,_⟩:=mapAt_of hh ho hG
  have hk:=(hK.rep c k _).1 (ev_rep he hy)
  obtain ⟨v,hr,hrep⟩:=lookup_run (P:=P) (hT et tie hte) hu hK hz hb hn hes k false
  exact ⟨v,by simp only [execOp,hv,hk,Sem.run_bind,hr,Result.andThen_ok,Sem.run_pure];rfl,hrep⟩
theorem lookup2_ok {T : List (Option TI)} (hT : TabOk P T) {tie : TI} (hte : tget T et = some tie) (hu : P.underlying t = some (.map kt et)) (hK : KeyK P kt K kv) (hz : zB P et tie = true) {id : Nat} {k : κ} (hx : ev g e x = some (.mp id)) (ho : get? h id = some (moL K V d0 l)) (hy : ev g e y = some (K k)) :
    OpOk P ⟨d,.lookup t x y true,ty,pos,af,gd⟩ g e h (some (.tup (.pair (match mFind l k with | some u=>V u | none=>tie.lay.zero) (.pair (.bool (mFind l k).isSome) .nul)))) h []:=by
  refine OpOk.val fun c a he hh hc=>?_
  obtain ⟨_,hG,hv⟩:=rep_mp (ev_rep he hx)
  obtain ⟨es,clock,hb,hn,hes,_⟩:=mapAt_of hh ho hG
  have hk:=(hK.rep c k _).1 (ev_rep he hy)
  obtain ⟨v,hr,hrep⟩:=lookup_run (P:=P) (hT et tie hte) hu hK hz hb hn hes k true
  exact ⟨.tuple #[v,.bool (mFind l k).isSome],by simp only [execOp,hv,hk,Sem.run_bind,hr,Result.andThen_ok,Sem.run_pure];rfl,[v,.bool (mFind l k).isSome],rfl,v,[.bool (mFind l k).isSome],rfl,hrep,_,_,rfl,rfl,rfl⟩
theorem map_write {c : Ctx} {id : Nat} {κ' ν' : Type} {K' : κ'→AV} {V' : ν'→AV} {d' : κ' × ν'} {l' : List (κ' × ν')} {av : AV} (hh : HeapRep c h) (hc : CtxOk c) (ho : get? h id = some av) (hG : ¬ c.G id) {es es' : Array MapEntry} {clock clock' : Nat} (hb : c.w.heap[c.ρ id]? = some (.map es clock))
    (hn : es'.size = l'.length) (hes : ∀ i (hi : i < es'.size),Rep c (K' (l'.getD i d').1) .V [es'[i].key]∧Rep c (V' (l'.getD i d').2) .V [es'[i].val]) (h1 : ∀ i (h : i < es'.size),es'[i].born < clock') (h2 : ∀ i j (hi : i < es'.size) (hj : j < es'.size),es'[i].born = es'[j].born→i = j) :
    Out c h (put h id (moL K' V' d' l')) [] { c with w:={ c.w with heap:=c.w.heap.setIfInBounds (c.ρ id) (.map es' clock') } }:=by
  obtain ⟨q1,q2⟩:=MapKept.heap_set (o':=.map es' clock') hb
  refine Out.write hh hc ho hG rfl rfl rfl (by simp) ?_ (fun b hne=>q2 b hne) fun c' hc' hle=>?_
  · have : bsize c.w (c.ρ id) = 0:=by unfold bsize;rw [hb]
    omega
  · subst hc'
    exact .inr (.inl ⟨_,_,_,rfl,es',clock',q1,hn,fun i hi=>⟨(hes i hi).1.le hle,(hes i hi).2.le hle⟩,h1,h2⟩)
theorem mapUpdate_ok (hu : P.underlying t = some (.map kt et)) (hK : KeyK P kt K kv) {id : Nat} {k : κ} {u : ν} (hx : ev g e x = some (.mp id)) (ho : get? h id = some (moL K V d0 l)) (hy : ev g e y = some (K k)) (hz : ev g e z = some (V u)) :
    OpOk P ⟨none,.mapUpdate t x y z,ty,pos,af,gd⟩ g e h none (put h id (moL K V d0 (mSet l k u))) []:=by
  intro c a he hh hc _ KK Q hKK
  obtain ⟨_,hG,hv⟩:=rep_mp (ev_rep he hx)
  obtain ⟨es,clock,hb,hn,hes,hb1,hb2⟩:=mapAt_of hh ho hG
  have hk:=(hK.rep c k _).1 (ev_rep he hy)
  have hw:=ev_rep he hz
  have hf:=run_mfind (P:=P) hK hn hes k c.w
  cases hi : (l.map (·.1)).findIdx? (fun x=>decide (x = k)) with
  | none =>
    rw [hi] at hf
    simp only [Option.bind_none] at hf
    have hrun : (execOp a.eval ⟨none,.mapUpdate t x y z,ty,pos,af,gd⟩).run P c.w = .ok .skip { c.w with heap:=c.w.heap.setIfInBounds (c.ρ id) (.map (es.push { key:=kv k,val:=a.eval z,born:=clock }) (clock + 1)) }:=by
      simp [execOp,hv,hk,Instr.mapUpdate,run_underlying hu,MapKept.run_getObj_map hb,hK.check,hf,MapKept.run_setObj_map _ hb]
    unfold Oper.wp
    rw [hrun]
    rw [mSet_none l k u hi] at hKK
    refine hKK _ undef (map_write hh hc ho hG hb (by simp [hn]) (fun i hi=>?_) (fun i hi=>?_) fun i j hi hj hbb=>?_) (fun _ h=>by cases h)
    · rw [Array.size_push] at hi
      rw [Array.getElem_push,List.getD_eq_getElem?_getD]
      split
      · rename_i hlt
        rw [List.getElem?_append_left (by omega),← List.getD_eq_getElem?_getD];exact hes i hlt
      · rename_i hge
        obtain rfl : i = l.length:=by omega
        rw [List.getElem?_append_right (Nat.le_refl _),Nat.sub_self]
        exact ⟨(hK.rep c k _).2 rfl,hw⟩
    · rw [Array.size_push] at hi
      rw [Array.getElem_push]
      split
      · rename_i hlt;have:=hb1 i hlt;omega
      · exact Nat.lt_succ_self _
    · rw [Array.size_push] at hi hj
      rw [Array.getElem_push,Array.getElem_push] at hbb
      split at hbb <;> split at hbb
      · exact hb2 _ _ _ _ hbb
      · rename_i h1 _;have:=hb1 i h1;simp at hbb;omega
      · rename_i _ h1;have:=hb1 j h1;simp at hbb;omega
      · omega
  | some i =>
    obtain ⟨v0,hv0⟩:=idx_get l k i hi
    have hl : i < l.length:=(List.getElem?_eq_some_iff.1 hv0).1
    have hie : i < es.size:=by omega
    rw [hi] at hf
    simp only [Option.bind_some,Array.getElem?_eq_getElem hie,Option.map_some] at hf
    have hkey : es[i].key = kv k:=by
      have:=(hK.rep c _ _).1 (hes i hie).1
      rw [List.getD_eq_getElem?_getD,hv0,Option.getD_some] at this
      exact this
    have hrun : (execOp a.eval ⟨none,.mapUpdate t x y z,ty,pos,af,gd⟩).run P c.w = .ok .skip { c.w with heap:=c.w.heap.setIfInBounds (c.ρ id) (.map (es.modify i fun e=>{ e with key:=kv k,val:=a.eval z }) clock) }:=by
      simp [execOp,hv,hk,Instr.mapUpdate,run_underlying hu,MapKept.run_getObj_map hb,hK.check,hf,MapKept.run_setObj_map _ hb,hie,hkey,hK.stays]
    unfold Oper.wp
    rw [hrun]
    rw [mSet_some l k u i hi] at hKK
    have hborn : ∀ j (hj : j < (es.modify i fun e=>{ e with key:=kv k,val:=a.eval z }).size),((es.modify i fun e=>{ e with key:=kv k,val:=a.eval z })[j]).born = (es[j]'(by simpa using hj)).born:=fun j hj=>by
      rw [Array.getElem_modify];split <;> rfl
    refine hKK _ undef (map_write hh hc ho hG hb (by simp [hn]) (fun j hj=>?_) (fun j hj=>?_) fun j q hj hq hbb=>?_) (fun _ h=>by cases h)
    · rw [Array.size_modify] at hj
      rw [Array.getElem_modify,List.getD_eq_getElem?_getD]
      by_cases hij : i = j
      · subst hij
        rw [if_pos rfl,List.getElem?_set_self hl]
        exact ⟨(hK.rep c k _).2 rfl,hw⟩
      · rw [if_neg hij,List.getElem?_set_ne hij,← List.getD_eq_getElem?_getD]
        exact hes j hj
    · rw [hborn];exact hb1 j _
    · rw [hborn,hborn] at hbb;exact hb2 _ _ _ _ hbb
theorem delete_ok {ts : TypeId} (hu : P.underlying t = some (.map kt et)) (hK : KeyK P kt K kv) {id : Nat} {k : κ} (hx : ev g e x = some (.mp id)) (ho : get? h id = some (moL K V d0 l)) (hy : ev g e y = some (K k)) :
    OpOk P ⟨d,.call { callee:=.builtin .delete,args:=#[x,y],argTypes:=#[t,ts] },ty,pos,af,gd⟩ g e h (some (.tup .nul)) (put h id (moL K V d0 (mDel l k))) []:=by
  intro c a he hh hc _ KK Q hKK
  obtain ⟨_,hG,hv⟩:=rep_mp (ev_rep he hx)
  obtain ⟨es,clock,hb,hn,hes,hb1,hb2⟩:=mapAt_of hh ho hG
  have hk:=(hK.rep c k _).1 (ev_rep he hy)
  have hf:=run_mfind (P:=P) hK hn hes k c.w
  have hval : ∀ c' : Ctx,∀ x,some (AV.tup .nul) = some x→Rep c' x .V [.tuple #[]]:=fun c' x hx=>by cases hx;exact ⟨[],rfl,rfl⟩
  cases hi : (l.map (·.1)).findIdx? (fun x=>decide (x = k)) with
  | none =>
    rw [hi] at hf
    simp only [Option.bind_none] at hf
    have hrun : (execOp a.eval ⟨d,.call { callee:=.builtin .delete,args:=#[x,y],argTypes:=#[t,ts] },ty,pos,af,gd⟩).run P c.w = .ok (.value (.tuple #[])) { c.w with heap:=c.w.heap.setIfInBounds (c.ρ id) (.map es clock) }:=by
      simp [execOp,resolve,invoke,builtin,hv,hk,Builtin.delete_,run_underlying hu,MapKept.run_getObj_map hb,hK.check,hf,MapKept.run_setObj_map _ hb]
    unfold Oper.wp
    rw [hrun]
    rw [mDel_none l k hi] at hKK
    exact hKK _ _ (map_write hh hc ho hG hb hn hes hb1 hb2) (hval _)
  | some i =>
    obtain ⟨v0,hv0⟩:=idx_get l k i hi
    have hl : i < l.length:=(List.getElem?_eq_some_iff.1 hv0).1
    have hie : i < es.size:=by omega
    rw [hi] at hf
    simp only [Option.bind_some,Array.getElem?_eq_getElem hie,Option.map_some] at hf
    have hrun : (execOp a.eval ⟨d,.call { callee:=.builtin .delete,args:=#[x,y],argTypes:=#[t,ts] },ty,pos,af,gd⟩).run P c.w = .ok (.value (.tuple #[])) { c.w with heap:=c.w.heap.setIfInBounds (c.ρ id) (.map (es.eraseIdx i hie) clock) }:=by
      simp [execOp,resolve,invoke,builtin,hv,hk,Builtin.delete_,run_underlying hu,MapKept.run_getObj_map hb,hK.check,hf,MapKept.run_setObj_map _ hb,Array.eraseIdxIfInBounds,hie]
    unfold Oper.wp
    rw [hrun]
    rw [mDel_some l k i hi] at hKK
    have hsz : (es.eraseIdx i hie).size = es.size - 1:=Array.size_eraseIdx ..
    have hget : ∀ j (hj : j < (es.eraseIdx i hie).size),(es.eraseIdx i hie)[j] = if h : j < i then es[j] else es[j + 1]'(by omega):=fun j hj=>Array.getElem_eraseIdx ..
    refine hKK _ _ (map_write hh hc ho hG hb (by rw [hsz,List.length_eraseIdx,if_pos hl,hn]) (fun j hj=>?_) (fun j hj=>?_) fun j q hj hq hbb=>?_) (hval _)
    · rw [hget j hj,List.getD_eq_getElem?_getD,List.getElem?_eraseIdx]
      by_cases hji : j < i
      · rw [dif_pos hji,if_pos hji,← List.getD_eq_getElem?_getD];exact hes j (by omega)
      · rw [dif_neg hji,if_neg hji,← List.getD_eq_getElem?_getD];exact hes (j + 1) (by omega)
    · rw [hget j hj];split
      · exact hb1 _ _
      · exact hb1 _ _
    · rw [hget j hj,hget q hq] at hbb
      split at hbb <;> split at hbb <;> have:=hb2 _ _ _ _ hbb <;> omega
theorem lookS_ok {T : List (Option TI)} (hT : TabOk P T) {tie : TI} (hte : tget T et = some tie) (hu : P.underlying t = some (.map kt et)) (hK : KeyK P kt K kv) (hz : zB P et tie = true) {id : Nat} {k : κ} {u : ν} (hx : ev g e x = some (.mp id)) (ho : get? h id = some (moL K V d0 l)) (hy : ev g e y = some (K k)) (hf : mFind l k = some u) :
    OpOk P ⟨d,.lookup t x y false,ty,pos,af,gd⟩ g e h (some (V u)) h []:=by
  have:=lookup_ok (P:=P) (d:=d) (ty:=ty) (pos:=pos) (af:=af) (gd:=gd) hT hte hu hK hz hx ho hy
  rw [hf] at this;exact this
theorem lookN_ok {T : List (Option TI)} (hT : TabOk P T) {tie : TI} (hte : tget T et = some tie) (hu : P.underlying t = some (.map kt et)) (hK : KeyK P kt K kv) (hz : zB P et tie = true) {id : Nat} {k : κ} {z0 : AV} (hx : ev g e x = some (.mp id)) (ho : get? h id = some (moL K V d0 l)) (hy : ev g e y = some (K k)) (hf : mFind l k = none) (hz0 : tie.lay.zero = z0) :
    OpOk P ⟨d,.lookup t x y false,ty,pos,af,gd⟩ g e h (some z0) h []:=by
  have:=lookup_ok (P:=P) (d:=d) (ty:=ty) (pos:=pos) (af:=af) (gd:=gd) hT hte hu hK hz hx ho hy
  rw [hf] at this;subst hz0;exact this
theorem look2S_ok {T : List (Option TI)} (hT : TabOk P T) {tie : TI} (hte : tget T et = some tie) (hu : P.underlying t = some (.map kt et)) (hK : KeyK P kt K kv) (hz : zB P et tie = true) {id : Nat} {k : κ} {u : ν} (hx : ev g e x = some (.mp id)) (ho : get? h id = some (moL K V d0 l)) (hy : ev g e y = some (K k)) (hf : mFind l k = some u) :
    OpOk P ⟨d,.lookup t x y true,ty,pos,af,gd⟩ g e h (some (.tup (.pair (V u) (.pair (.bool true) .nul)))) h []:=by
  have:=lookup2_ok (P:=P) (d:=d) (ty:=ty) (pos:=pos) (af:=af) (gd:=gd) hT hte hu hK hz hx ho hy
  rw [hf] at this;exact this
theorem look2N_ok {T : List (Option TI)} (hT : TabOk P T) {tie : TI} (hte : tget T et = some tie) (hu : P.underlying t = some (.map kt et)) (hK : KeyK P kt K kv) (hz : zB P et tie = true) {id : Nat} {k : κ} {z0 : AV} (hx : ev g e x = some (.mp id)) (ho : get? h id = some (moL K V d0 l)) (hy : ev g e y = some (K k)) (hf : mFind l k = none) (hz0 : tie.lay.zero = z0) :
    OpOk P ⟨d,.lookup t x y true,ty,pos,af,gd⟩ g e h (some (.tup (.pair z0 (.pair (.bool false) .nul)))) h []:=by
  have:=lookup2_ok (P:=P) (d:=d) (ty:=ty) (pos:=pos) (af:=af) (gd:=gd) hT hte hu hK hz hx ho hy
  rw [hf] at this;subst hz0;exact this
end
theorem Seq.eff {F : Fr} {ops : Array Oper} {l : List Oper} {e h h' g : Asc} {N : Nat} {K : St→Prop} {op : Op} {ty : TypeId} {pos : String} {af : Array Edge} {gd : Option (Nat × Bool)} {v : Option AV} {id : Nat} {av : AV}
    (ok : OpOk F.P ⟨none,op,ty,pos,af,gd⟩ g e h v (put h id av) []) (hp : putK h id av some = some h') (hw : wants ops ⟨none,op,ty,pos,af,gd⟩ e = some true)
    (hk : Seq F ops l ⟨e,h',g,N⟩ K) : Seq F ops (⟨none,op,ty,pos,af,gd⟩::l) ⟨e,h,g,N⟩ K:=by
  rw [putK_eq] at hp
  cases hp
  exact Seq.step (s:=⟨e,h,g,N⟩) N hw ok (fun n hn=>by cases hn) (Nat.le_refl _) rfl (Seq.conv (Sim.heap fun i=>by rw [get?_putL,get?_put]) hk)
theorem eqIn_sl {P : Program} {t e' : TypeId} (w : World) (d : Nat) (h1 : P.underlying t = some (.slice e')) (ad : Addr) (m cap : Nat) : (Op.equalIn (d + 1) t (.slice (some ad) m cap) (.slice none 0 0)).run P w = .ok false w:=by
  simp [Op.equalIn,run_underlying h1]
theorem OpOk.shrink {P : Program} {o : Oper} {g e h h2 h3 : Asc} {v : Option AV} {ns : List Nat} (ok : OpOk P o g e h v h2 ns) (hs : ∀ i av,get? h3 i = some av→get? h2 i = some av) : OpOk P o g e h v h3 ns :=
  fun c a he hh hc hn K Q hK=>ok c a he hh hc hn K Q fun c' v' ho hv=>hK c' v' (ho.shrink hs) hv
theorem Seq.new1 {F : Fr} {ops : Array Oper} {l : List Oper} {e h g : Asc} {N : Nat} {K : St→Prop} {d : Tmp} {op : Op} {ty : TypeId} {pos : String} {af : Array Edge} {gd : Option (Nat × Bool)} {v u : AV} (ok : OpOk F.P ⟨some d,op,ty,pos,af,gd⟩ g e h (some v) ((N,u)::h) [N]) (hw : wants ops ⟨some d,op,ty,pos,af,gd⟩ e = some true) (hd2 : Nat.blt d F.n = true)
    (hk : Seq F ops l ⟨(d,v)::e,(N,u)::h,g,N + 1⟩ K) : Seq F ops (⟨some d,op,ty,pos,af,gd⟩::l) ⟨e,h,g,N⟩ K :=
  Seq.step (s:=⟨e,h,g,N⟩) (N + 1) hw ok (fun n hn=>by
    have : n = N:=by simpa using hn
    subst this
    exact ⟨Nat.le_refl _,Nat.lt_succ_self _⟩) (Nat.le_succ _) hd2 hk
theorem DSeq.callr {P : Program} {ops : Array Oper} {g e0 h0 : Asc} {j : Nat} {anc : List Nat} {r : List (Nat × List Nat)} {its its' : List It} {N : Nat} {B : Asc} {K : List It→Nat→Asc→Prop} {eL hL hr h2 hnL : Asc} {d : Tmp} {ty : TypeId} {pos : String} {af : Array Edge} {gd : Option (Nat × Bool)} {fid : FuncId} {fn : Func} {callee : Operand} {xs : Array Operand} {tys : Array TypeId} {u1 u2 ax args argsC r0 : AV} {g' hin h1 : Asc} (bw : Bool) (σ τ : List (Nat × Nat)) (v : AV) (n hn : Asc) (N' : Nat)
    (ct : Ok P fid g' hin args (fun r h'=>r = r0∧h' = h1)) (hf : P.funcs[fid]? = some fn) (hG : GOk g) (hg' : subG g' g) (ho : ops[j]? = some ⟨some d,.call ⟨.value callee,xs,tys⟩,ty,pos,af,gd⟩)
    (hE : selEO (fun i=>memB i anc) e0 its some = some eL) (hH : selHO (fun i=>memB i anc) h0 its some = some hL)
    (hce : V.ev g eL callee = some (.fn (.func fid) u1 u2)) (hax : evs g eL xs.toList = some ax) (hc1 : isChain u1 = true) (hc2 : isChain ax = true) (hcat : catC u1 (catC ax u2) = argsC)
    (hbd : fn.body.isNone = false) (hnm : (fn.name == "runtime.NumGoroutine") = false) (hw : wants ops ⟨some d,.call ⟨.value callee,xs,tys⟩,ty,pos,af,gd⟩ eL = some true)
    (hσ : passB σ (keys hin) = true) (hdr : dropO hL (passed σ hin) some = some hr) (hc3 : catO hn hr some = some h2) (hc4 : catO n hL some = some hnL) (hsub : SubL h2 hnL) (hfr : (frK N (keys hn) == keys n) = true) (hlow : (Nat.ble N N' && (keys n).all fun i=>Nat.ble N i && Nat.blt i N') = true) (hs : snocO its ⟨j,d,v,n⟩ some = some its')
    (hv : View hL (fun id=>bw = true∧memB id (passed σ hin) = false) (fun i=>memB i (keys hin) = true) (sg σ) args argsC) (hnf : NoFr args)
    (hhin : HeapLe (fun i=>memB i (keys hin) = true) (sg σ) hL hin) (hnfh : ∀ i av,get? hin i = some av→NoFr av) (hback : Back bw σ τ hin N N' r0 h1 v hn)
    (hk : DSeq P ops g e0 h0 r its' N' B K) : DSeq P ops g e0 h0 ((j,anc)::r) its N B K:=by
  rw [dropO_eq] at hdr
  rw [catO_eq] at hc3 hc4
  cases hdr;cases hc3;cases hc4
  rw [Bool.and_eq_true] at hlow
  have hop:=call_detE (d:=some d) (ty:=ty) (pos:=pos) (af:=af) (gd:=gd) (tys:=tys) hce hax hc1 hc2 hcat hf hbd hnm ct (hG.hand hg') bw σ τ hσ hv hnf hhin hnfh hback
  have hop2:=hop.shrink (h3:=n ++ hL) (subL_ok hsub)
  rw [show frK N (keys hn) = keys n from by simpa using hfr] at hop2
  exact DSeq.put ho hE hH hw hop2 (fun i hi=>by
    have:=List.all_eq_true.1 hlow.2 i hi
    rw [Bool.and_eq_true] at this
    exact ⟨Nat.le_of_ble_eq_true this.1,by simpa [Nat.blt_eq] using this.2⟩) (Nat.le_of_ble_eq_true hlow.1) hs hk
def retC (F : Fr) (T : List (Option TI)) (fn : Func) (R : AV→Asc→Prop) (e : Exit) (s : St) : Prop:=∃ s' : St,(∀ a w,Sim F s a w→Sim F s' a w)∧retQ T fn R e s'
theorem Ok.of_vcC {P : Program} {T : List (Option TI)} (hT : TabOk P T) {f : FuncId} {fn : Func} {code : Code} {g h : Asc} {args : AV} {R : AV→Asc→Prop} (hf : P.funcs[f]? = some fn) (hb : fn.body = some code) (hch : isChain args = true) (hn : chainLen args ≤ fn.ntmps) (N : Nat) (hN : ∀ i av,get? h i = some av→i < N)
    (hvc : ∀ c0 : Ctx,VC ⟨P,c0,h,fn.ntmps,N,[],.plain P⟩ code (retC ⟨P,c0,h,fn.ntmps,N,[],.plain P⟩ T fn R) ⟨envOf args 0,h,g,N⟩) : Ok P f g h args R :=
  Ok.of_vc hT hf hb hch hn N hN fun c0=>by
    intro a w hs QC hQ
    refine hvc c0 a w hs QC fun e s' a' w' hr hs'=>?_
    obtain ⟨s2,h1,h2⟩:=hr
    exact hQ e s2 a' w' h2 (h1 a' w' hs')
theorem retC_mk {F : Fr} {T : List (Option TI)} {fn : Func} {R : AV→Asc→Prop} {x : Exit} {e h g : Asc} {N : Nat} (e' h' : Asc) (N' : Nat) (h1 : ∀ a w,Sim F ⟨e,h,g,N⟩ a w→Sim F ⟨e',h',g,N'⟩ a w) (h2 : retQ T fn R x ⟨e',h',g,N'⟩) : retC F T fn R x ⟨e,h,g,N⟩:=⟨⟨e',h',g,N'⟩,h1,h2⟩
end Go.V
namespace Go.V
open Go.RowKit Go.L
theorem conv_strs_ok {P : Program} {t src : TypeId} {g e h : Asc} {x : Operand} {d : Option Tmp} {ty : TypeId} {pos : String} {af : Array Edge} {gd : Option (Nat × Bool)} {T : List (Option TI)} (hT : TabOk P T) {eT N : Nat} {l : List UInt8} (hs : (tget T src).map (·.kind) = some .str)
    (hk : (tget T t).map (·.kind) = some (.slice eT)) (hke : (tget T eT).map (·.kind) = some (.int .u8)) (hx : ev g e x = some (.str l)) (h63 : l.length ≤ 9223372036854775807) :
    OpOk P ⟨d,.convert src t x,ty,pos,af,gd⟩ g e h (some (.sl N [] 1 0 l.length)) ((N,.arr l.length 1 (fun i=>.int .u8 ((l.getD i 0).toNat : Nat)))::h) [N]:=by
  intro c a he hh hc hn K Q hK
  have hN : ¬ c.A N:=hn N (by simp)
  cases hts : tget T src with
  | none=>simp [hts] at hs
  | some ts =>
  cases htt : tget T t with
  | none=>simp [htt] at hk
  | some ti =>
  cases hte : tget T eT with
  | none=>simp [hte] at hke
  | some tie =>
  simp only [hts,htt,hte,Option.map_some,Option.some.injEq] at hs hk hke
  have hus:=(hT _ _ hts).und
  have hu:=(hT _ _ htt).und
  have hue:=(hT _ _ hte).und
  rw [hs] at hus
  rw [hk] at hu
  rw [hke] at hue
  simp only [TK.fits] at hus hu hue
  have hv : a.eval x = .string ⟨l.toArray⟩:=rep_str (ev_rep he hx)
  have hsz : (⟨l.toArray⟩ : ByteArray).size = l.length:=rfl
  have hge : l.length ≤ grownCap c.w l.length 0 eT:=grownCap_ge _ _ _ _
  obtain ⟨cap,hcap⟩ : ∃ cap,cap = grownCap c.w l.length 0 eT:=⟨_,rfl⟩
  have hmax : cap ≤ maxLen:=by rw [hcap];exact grownCap_le_maxLen _ _ _ _ (by unfold maxLen;omega)
  rw [← hcap] at hge
  have hcells : Lib.bytesCells c.w eT ⟨l.toArray⟩ = ((l.map fun b=>Value.int .u8 b.toNat) ++ List.replicate (cap - l.length) (Value.int .u8 0)).toArray:=by
    unfold Lib.bytesCells
    rw [hsz,← hcap]
    apply Array.ext';simp
  have hfr : ∀ (w : World) (cs : Array Value),(w.alloc (.cells cs eT)).freeze ⟨w.heap.size,cs.size,none⟩ 1 = w.alloc (.cells cs eT (cs.size,cs.size + 1)):=by
    intro w cs
    have e1 : ((w.alloc (.cells cs eT)).freeze ⟨w.heap.size,cs.size,none⟩ 1).heap = (w.alloc (.cells cs eT (cs.size,cs.size + 1))).heap:=by
      apply Array.ext_getElem?
      intro j
      rcases Nat.lt_trichotomy j w.heap.size with h1 | h1 | h1
      · rw [freeze_other _ _ (by omega),Below.heap_alloc _ _ _ h1,Below.heap_alloc _ _ _ h1]
      · subst h1
        unfold World.freeze
        rw [if_neg (by decide)]
        show ((w.alloc _).heap.modify _ _)[w.heap.size]? = _
        rw [Array.getElem?_modify,if_pos rfl,heap_alloc_new,heap_alloc_new]
        simp
      · rw [Array.getElem?_eq_none (by rw [freeze_size];simp;omega),Array.getElem?_eq_none (by simp;omega)]
    have e2 : (w.alloc (.cells cs eT)).freeze ⟨w.heap.size,cs.size,none⟩ 1 = { w.alloc (.cells cs eT) with heap:=((w.alloc (.cells cs eT)).freeze ⟨w.heap.size,cs.size,none⟩ 1).heap }:=by
      unfold World.freeze
      rw [if_neg (by decide)]
    rw [e2,e1]
    rfl
  have hw : Lib.bytesWorld c.w eT ⟨l.toArray⟩ = c.w.drew.alloc (.cells ((l.map fun b=>Value.int .u8 b.toNat) ++ List.replicate (cap - l.length) (Value.int .u8 0)).toArray eT (cap,cap + 1)):=by
    unfold Lib.bytesWorld
    rw [hcells]
    have:=hfr c.w.drew ((l.map fun b=>Value.int .u8 b.toNat) ++ List.replicate (cap - l.length) (Value.int .u8 0)).toArray
    rw [show (((l.map fun b=>Value.int .u8 b.toNat) ++ List.replicate (cap - l.length) (Value.int .u8 0)).toArray : Array Value).size = cap by rw [List.size_toArray,List.length_append,List.length_map,List.length_replicate];omega] at this ⊢
    exact this
  have hrun : (execOp a.eval ⟨d,.convert src t x,ty,pos,af,gd⟩).run P c.w = .ok (.value (.slice (some ⟨c.w.heap.size,0,none⟩) l.length cap)) (c.w.drew.alloc (.cells ((l.map fun b=>Value.int .u8 b.toNat) ++ List.replicate (cap - l.length) (Value.int .u8 0)).toArray eT (cap,cap + 1))):=by
    have h1:=Lib.run_convert_string_bytes (P:=P) c.w src t eT ⟨l.toArray⟩ hus hu hue
    rw [hw,hsz,← hcap] at h1
    simp only [execOp,hv,Sem.run_bind,h1,Result.andThen_ok,Sem.run_pure]
  unfold Oper.wp
  rw [hrun]
  have hd:=Out.drew hh hc
  have ho:=Out.newF (t:=eT) (fz:=(cap,cap + 1)) (xs:=l.map fun b=>Value.int .u8 b.toNat) (ys:=List.replicate (cap - l.length) (Value.int .u8 0)) (.inr (by simp;omega)) hd.heap hd.ok (N:=N) hN (rep_bytes _ l)
  refine hK _ _ (hd.trans ho) fun y hy=>?_
  cases hy
  exact rep_new_slF (cap,cap + 1) { c with w:=c.w.drew } N _ _ 1 l.length cap hge hmax (by rw [List.length_append,List.length_map,List.length_replicate];omega)
end Go.V
namespace Go.V
open Go.RowKit Go.L
theorem eqIn_sl0 {P : Program} {t e' : TypeId} (w : World) (d : Nat) (h1 : P.underlying t = some (.slice e')) (m cap : Nat) : (Op.equalIn (d + 1) t (.slice none m cap) (.slice none 0 0)).run P w = .ok true w:=by
  simp [Op.equalIn,run_underlying h1]
theorem Seq.slnilx {F : Fr} {ops : Array Oper} {l : List Oper} {e h g : Asc} {N : Nat} {K : St→Prop} {d : Tmp} {ty : TypeId} {pos : String} {af : Array Edge} {gd : Option (Nat × Bool)} {T : List (Option TI)} (hT : TabOk F.P T) {t yt eT : TypeId} {x y : Operand} {u : AV} {n : Nat} (hx : V.ev g e x = some u) (hy : V.ev g e y = some (.val (.slice none 0 0)))
    (hk : (tget T t).map (·.kind) = some (.slice eT)) (hl : evLen u = some n) (hs : (match u with | .sl .. | .rsl ..=>true | _=>false) = true) (hw : wants ops ⟨some d,.binOp .eql t x y yt,ty,pos,af,gd⟩ e = some true) (hd : Nat.blt d F.n = true)
    (h1 : n = 0→Seq F ops l ⟨(d,.bool true)::e,h,g,N⟩ K) (h2 : Seq F ops l ⟨(d,.bool false)::e,h,g,N⟩ K) : Seq F ops (⟨some d,.binOp .eql t x y yt,ty,pos,af,gd⟩::l) ⟨e,h,g,N⟩ K:=by
  cases htt : tget T t with
  | none=>rw [htt] at hk;cases hk
  | some ti =>
  rw [htt] at hk
  simp only [Option.map_some,Option.some.injEq] at hk
  have hu:=(hT t ti htt).und
  rw [hk] at hu
  have hu : F.P.underlying t = some (.slice eT):=hu
  refine Seq.to (fun s'=>(s' = ⟨(d,.bool true)::e,h,g,N⟩∧n = 0) ∨ s' = ⟨(d,.bool false)::e,h,g,N⟩) hw (fun a w hsim Kk Q hK=>?_) fun s' hs'=>?_
  · obtain ⟨c,ms,rfl,hout,he,hb,hsz,hdf,hN0⟩:=hsim
    have hyv:=rep_val (ev_rep he hy)
    have hxv : ∃ ad m cap,a.eval x = .slice ad m cap∧(ad = none→n = 0):=by
      have hr:=ev_rep he hx
      cases u <;> try (cases hs;done)
      · cases hl
        obtain ⟨_,⟨_,hz,_,hv⟩ | ⟨_,_,_,hv,_⟩⟩:=rep_sl hr
        · exact ⟨_,_,_,hv,fun _=>hz⟩
        · exact ⟨_,_,_,hv,fun h=>by cases h⟩
      · cases hl
        obtain ⟨_,_,hv,_,_,hz | ⟨b,o,xs,hb,_⟩⟩:=hr
        · simp only [List.cons.injEq,and_true] at hv
          exact ⟨_,_,_,hv,fun _=>hz⟩
        · simp only [List.cons.injEq,and_true] at hv
          exact ⟨_,_,_,hv,fun h=>by rw [hb] at h;cases h⟩
    obtain ⟨ad,m,cap,hxv,h0⟩:=hxv
    have hg : (eqGuard .eql t x y (.slice ad m cap) (.slice none 0 0)).run F.P c.w = .ok () c.w:=by unfold eqGuard;rfl
    have hput : ∀ b : Bool,Sim F ⟨(d,.bool b)::e,h,g,N⟩ (a.put (some d) (.bool b)) c.w:=fun b =>
      ⟨c,ms,rfl,hout,he.putd (d:=some d) (x:=some (.bool b)) (v:=.bool b) (fun y hy=>by cases hy;exact rfl) (fun k hk=>by cases hk;rw [hsz];simpa [Nat.blt_eq] using hd),hb,by rw [put_size];exact hsz,by rw [put_defers];exact hdf,hN0⟩
    cases ad with
    | none =>
      have heq : (Op.equal t (.slice none m cap) (.slice none 0 0)).run F.P c.w = .ok true c.w:=eqIn_sl0 c.w 9999 hu m cap
      have hrun : (execOp a.eval ⟨some d,.binOp .eql t x y yt,ty,pos,af,gd⟩).run F.P c.w = .ok (.value (.bool true)) c.w:=by
        simp only [execOp,hxv,hyv,Sem.run_bind,hg,Result.andThen_ok]
        simp [binOp,heq]
      unfold Oper.wp
      rw [hrun]
      exact hK _ _ _ (.inl ⟨rfl,h0 rfl⟩) (hput true)
    | some ad =>
      have heq : (Op.equal t (.slice (some ad) m cap) (.slice none 0 0)).run F.P c.w = .ok false c.w:=eqIn_sl c.w 9999 hu ad m cap
      have hrun : (execOp a.eval ⟨some d,.binOp .eql t x y yt,ty,pos,af,gd⟩).run F.P c.w = .ok (.value (.bool false)) c.w:=by
        simp only [execOp,hxv,hyv,Sem.run_bind,hg,Result.andThen_ok]
        simp [binOp,heq]
      unfold Oper.wp
      rw [hrun]
      exact hK _ _ _ (.inr rfl) (hput false)
  · rcases hs' with ⟨rfl,h0⟩ | rfl
    · exact h1 h0
    · exact h2
end Go.V
namespace Go.V
open Go.RowKit Go.L
end Go.V
