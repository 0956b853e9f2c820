/- Operations: values built, new slices, append, copy, bytes and strings. Operations: append, copy, bytes and strings. A region that draws its order, walked once: some operations are taken first (they yield in every world that meets S), the others come up one by one. Operations: bytes and strings. Then: regions walked in the text's order, code, functions. Code over abstract states: regions in the text's order, tests, loops, functions. -/
import Derived.Test.YtmbldnahcmkpgaaGreatDoorFa
import Derived.MapKept
import Derived.WalkKit
import Derived.OrdersHeld
import Derived.OrdersIn
set_option linter.unusedSimpArgs false
set_option linter.unusedVariables false
namespace Go.V
open Go.RowKit Go.L
section
variable {P : Program} {t : TypeId} {ti : TI} {g e h : Asc} {x y : Operand} {d : Option Tmp} {ty : TypeId} {pos : String} {af : Array Edge} {gd : Option (Nat × Bool)}
def plOf (T : List (Option TI)) : TK→Nat→Option (Step × Nat × Nat)
  | .struct fs,i=>match fs[i]? with
    | some (off,tf)=>match tget T tf with
      | some tif=>some (.fld i off,off,tif.lay.size)
      | none=>none
    | none=>none
  | .array _ eT,i=>match tget T eT with
    | some tie=>some (.idx i tie.lay.size,i * tie.lay.size,tie.lay.size)
    | none=>none
  | .slice eT,i=>match tget T eT with
    | some tie=>some (.idx i tie.lay.size,i * tie.lay.size,tie.lay.size)
    | none=>none
  | _,_=>none
def inbB : AV→Step→Bool
  | .arr n _ _,.idx j _=>Nat.blt j n
  | _,.fld ..=>true
  | _,_=>false
def evParts (g e : Asc) (pl : Nat→Option (Step × Nat × Nat)) : AV→List (Nat × Operand)→Option AV
  | z,[]=>some z
  | z,(i,x)::r=>match ev g e x,pl i with
    | some u,some (s,off,n)=>match getp z [s] with
      | some w=>bif u.cellB && (Nat.beq u.size n && (Nat.beq w.size n && (Nat.beq (pathOff [s]) off && inbB z s))) then evParts g e pl (setp z [s] u) r else none
      | none=>none
    | _,_=>none
theorem inb_one {z : AV} {s : Step} {w : AV} (h1 : getp z [s] = some w) (h2 : inbB z s = true) : inb z [s]:=by
  cases s with
  | fld k off =>
    unfold getp at h1
    unfold inb
    cases hk : getf z k with
    | none=>simp [hk] at h1
    | some x=>exact trivial
  | idx i sz =>
    cases z <;> simp [getp] at h1
    simp only [inb]
    simpa [inbB,Nat.blt_eq] using h2
theorem fill_step (place : Nat→Option (Nat × Nat)) (cells zs : List Value) (i off n : Nat) (v : Value) (rest : List (Nat × Value)) (hp : place i = some (off,n)) (hv : v.cells = zs.toArray) (hn : zs.length = n) (hfit : off + n ≤ cells.length) :
    Instr.fill place cells.toArray ((i,v)::rest) = Instr.fill place (ovr cells off zs).toArray rest:=by
  have e:=fold_ovr off zs 0 cells (by omega)
  have e2 : v.cells.zipIdx.foldl (fun cs (c,j)=>cs.setIfInBounds (off + j) c) cells.toArray = (ovr cells off zs).toArray:=by
    rw [Nat.add_zero] at e
    rw [hv,← e,← Array.foldl_toList]
    simp
  rw [Instr.fill]
  simp only [hp,e2]
  have : v.cells.size = n:=by rw [hv];simpa using hn
  simp only [this,List.size_toArray,ne_eq,not_true,decide_false,Bool.false_or,decide_eq_true_eq,Nat.not_lt.2 hfit,if_false]
  rfl
theorem fill_ok {c : Ctx} {a : Act} (he : EnvRep c g e a) (pl : Nat→Option (Step × Nat × Nat)) (place : Nat→Option (Nat × Nat)) (hpl : ∀ i s off n,pl i = some (s,off,n)→place i = some (off,n)) :
    ∀ (parts : List (Nat × Operand)) (z u : AV) (cells : List Value),Rep c z .C cells→evParts g e pl z parts = some u →
      ∃ cells' : List Value,Instr.fill place cells.toArray (parts.map fun p=>(p.1,a.eval p.2)) = some cells'.toArray∧Rep c u .C cells'
  | [],z,u,cells,hz,h=>by
    simp only [evParts,Option.some.injEq] at h
    subst h
    exact ⟨cells,rfl,hz⟩
  | (i, x)::r,z,u,cells,hz,h=>by
    unfold evParts at h
    cases hx : ev g e x with
    | none=>simp [hx] at h
    | some ux =>
      cases hi : pl i with
      | none=>simp [hx,hi] at h
      | some q =>
        obtain ⟨s,off,n⟩:=q
        cases hg : getp z [s] with
        | none=>simp [hx,hi,hg] at h
        | some w =>
          simp only [hx,hi,hg] at h
          cases hb : (ux.cellB && (Nat.beq ux.size n && (Nat.beq w.size n && (Nat.beq (pathOff [s]) off && inbB z s)))) with
          | false=>simp [hb] at h
          | true =>
            simp only [hb,cond_true] at h
            simp only [Bool.and_eq_true] at hb
            obtain ⟨b1,b2,b3,b4,b5⟩:=hb
            have b2:=Nat.eq_of_beq_eq_true b2
            have b3:=Nat.eq_of_beq_eq_true b3
            have b4:=Nat.eq_of_beq_eq_true b4
            obtain ⟨zs,hzc,hzr⟩:=(ev_rep he hx).cells b1
            have hzl:=hzr.length
            have hin:=inb_one hg b5
            obtain ⟨q1,q2⟩:=hz.path hg hin
            have hz':=Rep.setp (.refl c) hz hg hin hzr (by omega)
            obtain ⟨cells',h1,h2⟩:=fill_ok he pl place hpl r _ u _ hz' h
            refine ⟨cells',?_,h2⟩
            rw [List.map_cons,fill_step place cells zs i off n (a.eval x) _ (hpl i s off n hi) hzc (by omega) (by omega),← b4]
            exact h1
theorem places_ok {T : List (Option TI)} (hT : TabOk P T) : ∀ (F : List Field),(∀ f ∈ F,(tget T f.type).isSome = true) →
    F.mapM (fun f=>(P.info? f.type).map fun i=>(f.offset,i.size)) = some (F.map fun f=>(f.offset,((tget T f.type).map (·.lay.size)).getD 0))
  | [],_=>rfl
  | f :: F,h=>by
    have ih:=places_ok hT F (fun x hx=>h x (List.mem_cons_of_mem _ hx))
    have h1:=h f List.mem_cons_self
    cases hq : tget T f.type with
    | none=>simp [hq] at h1
    | some tif =>
      obtain ⟨i,z,hi,hs,_⟩:=(hT _ _ hq).info
      simp [List.mapM_cons,hi,ih,hs,hq]
theorem build_ok {T : List (Option TI)} (hT : TabOk P T) (ht : tget T t = some ti) {parts : Array (Nat × Operand)} {u : AV} (hall : (match ti.kind with | .struct fs=>fs.all (fun p=>(tget T p.2).isSome) | .array _ eT=>(tget T eT).isSome | _=>false) = true)
    (hu : evParts g e (plOf T ti.kind) ti.lay.zero parts.toList = some u) (hag : u.isAgg = true) : OpOk P ⟨d,.build t parts,ty,pos,af,gd⟩ g e h (some u) h []:=by
  refine OpOk.val fun c a he hh hc=>?_
  have hti:=hT _ _ ht
  obtain ⟨it,z,hi,hs,hb,hz,hf,_⟩:=hti.info
  have hzc : z.cells = ti.lay.flat.toArray:=by rw [← hf]
  have h1:=hti.und
  have hz0:=ti.lay.rep c hti.lay
  have key : ∃ cells' : List Value,P.built t (parts.toList.map fun p=>(p.1,a.eval p.2)) = some cells'.toArray∧Rep c u .C cells':=by
    cases hk : ti.kind <;> rw [hk] at hall hu h1 <;> simp at hall <;> simp only [TK.fits] at h1
    case array n eT =>
      cases hq : tget T eT with
      | none=>simp [hq] at hall
      | some tie =>
        obtain ⟨ie,_,hie,hse,_⟩:=(hT _ _ hq).info
        obtain ⟨cells',q1,q2⟩:=fill_ok he (plOf T (.array n eT)) (fun i=>some (i * ie.size,ie.size)) (fun i s off m hp=>by
          simp only [plOf,hq,Option.some.injEq,Prod.mk.injEq] at hp
          obtain ⟨rfl,rfl,rfl⟩:=hp
          rw [hse]) parts.toList _ u _ hz0 hu
        refine ⟨cells',?_,q2⟩
        unfold Program.built
        simp only [hi,h1,hz,hie,hzc]
        exact q1
    case struct fs =>
      obtain ⟨F,h1,hF⟩:=h1
      have hall' : ∀ f ∈ F.toList,(tget T f.type).isSome = true:=by
        intro f hf'
        have : (f.offset,f.type) ∈ fs:=by rw [← hF];exact List.mem_map.2 ⟨f,hf',rfl⟩
        exact hall _ _ this
      obtain ⟨cells',q1,q2⟩:=fill_ok he (plOf T (.struct fs)) ((F.toList.map fun f=>(f.offset,((tget T f.type).map (·.lay.size)).getD 0)).toArray[·]?) (fun i s off n hp=>by
        simp only [plOf] at hp
        cases hq : fs[i]? with
        | none=>simp [hq] at hp
        | some p =>
          obtain ⟨o,tf⟩:=p
          cases hq2 : tget T tf with
          | none=>simp [hq,hq2] at hp
          | some tif =>
            simp only [hq,hq2,Option.some.injEq,Prod.mk.injEq] at hp
            obtain ⟨rfl,rfl,rfl⟩:=hp
            rw [← hF,List.getElem?_map] at hq
            cases hq3 : F.toList[i]? with
            | none=>simp [hq3] at hq
            | some f =>
              simp only [hq3,Option.map_some,Option.some.injEq,Prod.mk.injEq] at hq
              obtain ⟨rfl,rfl⟩:=hq
              have : F[i]? = some f:=by simpa using hq3
              simp [this,hq2]) parts.toList _ u _ hz0 hu
      refine ⟨cells',?_,q2⟩
      unfold Program.built
      simp only [hi,h1,hz,places_ok hT F.toList hall',hzc]
      exact q1
  obtain ⟨cells',q1,q2⟩:=key
  refine ⟨.agg cells'.toArray,?_,(Rep.agg hag).2 q2⟩
  have hrun:=run_build (P:=P) c.w t (parts.map fun (i,x)=>(i,a.eval x)) cells'.toArray (by rw [← q1];simp)
  simp only [execOp,Sem.run_bind,hrun,Result.andThen_ok,Sem.run_pure]
theorem row_rep (c : Ctx) {z : Array Value} {l : Lay} (hf : z.toList = l.flat) (hl : l.okB = true) (n m : Nat) (hm : n ≤ m) : Rep c (.arr n l.size (fun _=>l.zero)) .C ((madeCells z (m * l.size)).toList.take (n * l.size)):=by
  have hsz : z.size = l.size:=by rw [← l.flat_length,← hf];simp
  have hmul : n * l.size ≤ m * l.size:=Nat.mul_le_mul_right _ hm
  refine ⟨by rw [List.length_take,Array.length_toList,size_madeCells];omega,fun i hi=>?_⟩
  have hin : i * l.size + l.size ≤ n * l.size:=by
    have:=Nat.mul_le_mul_right l.size (show i + 1 ≤ n from hi)
    rwa [Nat.add_mul,Nat.one_mul] at this
  have : sub ((madeCells z (m * l.size)).toList.take (n * l.size)) (i * l.size) l.size = l.flat:=by
    apply List.ext_getElem?
    intro j
    rw [sub_get]
    by_cases hj : j < l.size
    · rw [if_pos hj,List.getElem?_take_of_lt (by omega)]
      have hj' : j < l.flat.length:=by rw [l.flat_length];exact hj
      have hjz : j < z.size:=by omega
      have e : (i * l.size + j) % l.size = j:=by rw [Nat.mul_comm,Nat.mul_add_mod,Nat.mod_eq_of_lt hj]
      have e2 : z[j] = l.flat[j]:=by simp [← hf]
      rw [List.getElem?_eq_getElem hj',← e2]
      simp only [madeCells,Array.toList_map,Array.toList_range,List.getElem?_map,List.getElem?_range (show i * l.size + j < m * l.size by omega),Option.map_some,hsz,e]
      simp [hjz]
    · rw [if_neg hj,List.getElem?_eq_none (by rw [l.flat_length];omega)]
  rw [this];exact l.rep c hl
theorem buildSlice_ok {T : List (Option TI)} (hT : TabOk P T) {eT : Nat} (hk : (tget T t).map (·.kind) = some (.slice eT)) {tie : TI} (hte : tget T eT = some tie) {len N : Nat} {parts : Array (Nat × Operand)} {u : AV} (hlen : len * tie.lay.size ≤ 16777216)
    (hu : evParts g e (plOf T (.slice eT)) (.arr len tie.lay.size (fun _=>tie.lay.zero)) parts.toList = some u) (hus : u.size = len * tie.lay.size) (hl2 : len ≤ 16777216) :
    OpOk P ⟨d,.buildSlice t len parts,ty,pos,af,gd⟩ g e h (some (.sl N [] tie.lay.size 0 len)) ((N,u)::h) [N]:=by
  intro c a he hh hc hn K Q hK
  cases htt : tget T t with
  | none=>simp [htt] at hk
  | some ti =>
  simp only [htt,Option.map_some,Option.some.injEq] at hk
  have hti:=(hT _ _ htt).und
  rw [hk] at hti
  simp only [TK.fits] at hti
  have hte':=hT _ _ hte
  obtain ⟨ie,z,hie,hse,hbe,hze,hfe,_⟩:=hte'.info
  have hsz0 : z.cells.size = tie.lay.size:=by rw [← tie.lay.flat_length,← hfe];simp
  have hrow:=row_rep c hfe hte'.lay len len (Nat.le_refl _)
  rw [List.take_of_length_le (by simp [madeCells])] at hrow
  obtain ⟨cells',q1,q2⟩:=fill_ok he (plOf T (.slice eT)) (fun i=>some (i * tie.lay.size,tie.lay.size)) (fun i s off m hp=>by
    simp only [plOf,hte,Option.some.injEq,Prod.mk.injEq] at hp
    obtain ⟨rfl,rfl,rfl⟩:=hp
    rfl) parts.toList _ u _ hrow hu
  have hl:=q2.length
  have hN : ¬ c.A N:=hn N (by simp)
  have hmade : ((Array.range (len * tie.lay.size)).map fun x=>(if len * tie.lay.size = 0 then #[] else z.cells)[x % (if len * tie.lay.size = 0 then #[] else z.cells).size]!) = madeCells z.cells (len * tie.lay.size):=by
    by_cases h0 : len * tie.lay.size = 0
    · simp [h0,madeCells]
    · simp [h0,madeCells]
  have hq : Instr.fill (fun i=>some (i * tie.lay.size,tie.lay.size)) (madeCells z.cells (len * tie.lay.size)) (parts.map fun (i,x)=>(i,a.eval x)).toList = some cells'.toArray:=by
    rw [← q1];simp
  have hrun : (execOp a.eval ⟨d,.buildSlice t len parts,ty,pos,af,gd⟩).run P c.w = .ok (.value (.slice (some ⟨c.w.heap.size,0,none⟩) len len)) (c.w.alloc (.cells (cells' ++ []).toArray eT)):=by
    simp only [execOp,Instr.buildSlice,Sem.run_bind,run_underlying hti,Result.andThen_ok,hte'.run_size]
    rw [if_neg (by omega)]
    by_cases h0 : len * tie.lay.size = 0
    · have hq':=hq
      have e0 : ∀ f : Nat→Value,(Array.range 0).map f = #[]:=fun f=>by simp
      simp only [h0,madeCells,e0] at hq'
      simp only [h0,if_true,Sem.run_bind,Sem.run_pure,Result.andThen_ok,e0]
      simp only [hq',List.append_nil]
      rfl
    · have hz2 : (zeroValue eT).run P c.w = .ok z c.w:=by simp [zeroValue,typeInfo,hie,hze]
      simp only [if_neg h0,Sem.run_bind,hz2,Sem.run_pure,Result.andThen_ok]
      simp only [madeCells] at hq
      simp only [hq,List.append_nil]
      rfl
  unfold Oper.wp
  rw [hrun]
  refine hK _ _ (Out.new (ys:=[]) hh hc hN q2) fun x hx=>?_
  cases hx
  exact rep_new_sl c N _ _ _ _ _ (Nat.le_refl _) (by unfold maxLen;omega) (by simp;omega)
theorem makeSlice_ok {T : List (Option TI)} (hT : TabOk P T) {eT : Nat} (hk : (tget T t).map (·.kind) = some (.slice eT)) {tie : TI} (hte : tget T eT = some tie) {N : Nat} {k k' : IntKind} {l m : Int} (hx : ev g e x = some (.int k l)) (hy : ev g e y = some (.int k' m))
    (h0 : 0 ≤ l) (h1 : l ≤ m) (hb : (tie.bytes : Int) * m ≤ 281474976710656) (h63 : m ≤ 9223372036854775807) :
    OpOk P ⟨d,.makeSlice t x y,ty,pos,af,gd⟩ g e h (some (.sl N [] tie.lay.size 0 l.toNat)) ((N,.arr l.toNat tie.lay.size (fun _=>tie.lay.zero))::h) [N]:=by
  intro c a he hh hc hn K Q hK
  cases htt : tget T t with
  | none=>simp [htt] at hk
  | some ti =>
  simp only [htt,Option.map_some,Option.some.injEq] at hk
  have hti:=(hT _ _ htt).und
  rw [hk] at hti
  simp only [TK.fits] at hti
  have hte':=hT _ _ hte
  obtain ⟨ie,z,hie,hse,hbe,hze,hfe,_⟩:=hte'.info
  have hN : ¬ c.A N:=hn N (by simp)
  have hr:=run_make (P:=P) c.w t eT ie z hti hie hze k k' l m h0 h1 (by rw [hbe];exact hb) h63
  have hrow:=row_rep c hfe hte'.lay l.toNat m.toNat (by omega)
  have hsplit : madeCells z.cells (m.toNat * ie.size) = ((madeCells z.cells (m.toNat * tie.lay.size)).toList.take (l.toNat * tie.lay.size) ++ (madeCells z.cells (m.toNat * tie.lay.size)).toList.drop (l.toNat * tie.lay.size)).toArray:=by
    rw [List.take_append_drop,hse]
  have hrun : (execOp a.eval ⟨d,.makeSlice t x y,ty,pos,af,gd⟩).run P c.w = .ok (.value (.slice (some ⟨c.w.heap.size,0,none⟩) l.toNat m.toNat)) (c.w.alloc (.cells ((madeCells z.cells (m.toNat * tie.lay.size)).toList.take (l.toNat * tie.lay.size) ++ (madeCells z.cells (m.toNat * tie.lay.size)).toList.drop (l.toNat * tie.lay.size)).toArray eT)):=by
    rw [← hsplit]
    simp only [execOp,rep_int (ev_rep he hx),rep_int (ev_rep he hy),Sem.run_bind,hr,Result.andThen_ok,Sem.run_pure]
  unfold Oper.wp
  rw [hrun]
  refine hK _ _ (Out.new hh hc hN hrow) fun x hx=>?_
  cases hx
  exact rep_new_sl c N _ _ _ _ _ (by omega) (by unfold maxLen;omega) (by rw [List.take_append_drop];simp [madeCells])
theorem Out.shrink {c c' : Ctx} {h h' h'' : Asc} {ns : List Nat} (o : Out c h h' ns c') (hs : ∀ id av,get? h'' id = some av→get? h' id = some av) : Out c h h'' ns c' :=
  ⟨o.le,o.B,o.A,⟨fun id av hi=>o.heap.A id av (hs id av hi),fun id av hi=>o.heap.obj id av (hs id av hi),fun id av hi=>o.heap.gh id av (hs id av hi),fun id av hi=>o.heap.nS id av (hs id av hi),
    fun i j a b hi hj=>o.heap.inj i j a b (hs i a hi) (hs j b hj)⟩,o.ok,o.os,o.tape,o.output,o.size,o.frame,fun id av hi=>o.own id av (hs id av hi),o.newS⟩
theorem Out.rename {c : Ctx} {h : Asc} {id N : Nat} {av : AV} (hh : HeapRep c h) (hc : CtxOk c) (hi : get? h id = some av) (hN : ¬ c.A N) :
    Out c h ((N,av)::del h id) [N] { c with ρ:=fun i=>if i = N then c.ρ id else c.ρ i,A:=fun i=>c.A i ∨ i = N,G:=fun i=>(i ≠ N∧c.G i) ∨ (i = N∧c.G id) }:=by
  have hne : ∀ i,c.A i→i ≠ N:=fun i hi e=>hN (by rw [← e];exact hi)
  have hA:=hh.A id av hi
  have hGo : ∀ i,i ≠ N→(((i ≠ N∧c.G i) ∨ (i = N∧c.G id)) ↔ c.G i):=fun i hi=>⟨fun h=>by rcases h with h | h;exact h.2;exact absurd h.1 hi,fun h=>.inl ⟨hi,h⟩⟩
  have hGN : (((N ≠ N∧c.G N) ∨ (N = N∧c.G id)) ↔ c.G id):=⟨fun h=>by rcases h with h | h;exact absurd rfl h.1;exact h.2,fun h=>.inr ⟨rfl,h⟩⟩
  have hle : Le c { c with ρ:=fun i=>if i = N then c.ρ id else c.ρ i,A:=fun i=>c.A i ∨ i = N,G:=fun i=>(i ≠ N∧c.G i) ∨ (i = N∧c.G id) } :=
    ⟨fun _ h=>.inl h,fun i hi=>if_neg (hne i hi),fun i hi=>hGo i (hne i hi),fun i hi _=>by
      show _ ≤ bsize c.w (if i = N then _ else _)
      rw [if_neg (hne i hi)];exact Nat.le_refl _,fun b hb _=>⟨hb,fun h=>h,rfl⟩⟩
  have hcase : ∀ j a,get? ((N,av)::del h id) j = some a→(j = N∧a = av) ∨ (j ≠ N∧j ≠ id∧get? h j = some a):=fun j a hj=>by
    rw [get?_cons,get?_del] at hj
    by_cases e : N = j
    · rw [if_pos e] at hj;cases hj;exact .inl ⟨e.symm,rfl⟩
    · rw [if_neg e] at hj
      by_cases e2 : id = j
      · rw [if_pos e2] at hj;cases hj
      · rw [if_neg e2] at hj;exact .inr ⟨fun e'=>e e'.symm,fun e'=>e2 e'.symm,hj⟩
  have hρN : (fun i=>if i = N then c.ρ id else c.ρ i) N = c.ρ id:=if_pos rfl
  have hρ : ∀ j,j ≠ N→(fun i=>if i = N then c.ρ id else c.ρ i) j = c.ρ j:=fun j hj=>if_neg hj
  refine ⟨hle,rfl,fun i hi=>?_,⟨fun j a hj=>?_,fun j a hj hg=>?_,fun j a hj hg=>?_,fun j a hj hg=>?_,fun i j a b hi' hj hgi hgj e=>?_⟩,⟨hc.S,hc.B⟩,rfl,rfl,rfl,Nat.le_refl _,fun _ _ _=>rfl,fun j a hj hg=>?_,fun b hb=>.inl hb⟩
  · rcases hi with hi | hi
    · exact .inl hi
    · exact .inr (by simp [hi])
  · rcases hcase j a hj with ⟨e1,_⟩ | ⟨_,_,hj⟩
    · exact .inr e1
    · exact .inl (hh.A j a hj)
  · rcases hcase j a hj with ⟨rfl,rfl⟩ | ⟨h1,_,hj⟩
    · simp only [hρN]
      exact (hh.obj id a hi (fun x=>hg (hGN.2 x))).le hle rfl
    · simp only [hρ j h1]
      exact (hh.obj j a hj (fun x=>hg ((hGo j h1).2 x))).le hle rfl
  · rcases hcase j a hj with ⟨rfl,rfl⟩ | ⟨h1,_,hj⟩
    · exact hh.gh id a hi (hGN.1 hg)
    · exact hh.gh j a hj ((hGo j h1).1 hg)
  · rcases hcase j a hj with ⟨rfl,rfl⟩ | ⟨h1,_,hj⟩
    · simp only [hρN];exact hh.nS id a hi (fun x=>hg (hGN.2 x))
    · simp only [hρ j h1];exact hh.nS j a hj (fun x=>hg ((hGo j h1).2 x))
  · rcases hcase i a hi' with ⟨e1,_⟩ | ⟨h1,h2,hi2⟩ <;> rcases hcase j b hj with ⟨e2,_⟩ | ⟨h3,h4,hj2⟩
    · rw [e1,e2]
    · subst e1
      simp only [hρN,hρ j h3] at e
      exact absurd (hh.inj id j _ _ hi hj2 (fun x=>hgi (hGN.2 x)) (fun x=>hgj ((hGo j h3).2 x)) e) (Ne.symm h4)
    · subst e2
      simp only [hρN,hρ i h1] at e
      exact absurd (hh.inj i id _ _ hi2 hi (fun x=>hgi ((hGo i h1).2 x)) (fun x=>hgj (hGN.2 x)) e) h2
    · simp only [hρ i h1,hρ j h3] at e
      exact hh.inj i j _ _ hi2 hj2 (fun x=>hgi ((hGo i h1).2 x)) (fun x=>hgj ((hGo j h3).2 x)) e
  · rcases hcase j a hj with ⟨rfl,rfl⟩ | ⟨h1,_,hj⟩
    · exact .inl ⟨id,a,hi,fun x=>hg (hGN.2 x),hρN.symm⟩
    · exact .inl ⟨j,a,hj,fun x=>hg ((hGo j h1).2 x),(hρ j h1).symm⟩
def evSrc (h : Asc) : AV→Option (List Prop × Nat × Nat × (Nat→AV))
  | .sl id p sz off len=>match get? h id with
    | some av=>match getp av p with
      | some (.arr n sz' f)=>bif Nat.beq sz sz' then some ([inb av p,off + len ≤ n],sz,len,fun i=>f (off + i)) else none
      | _=>none
    | none=>none
  | .rsl _ n sz f=>some ([],sz,n,f)
  | .val (.slice none 0 _)=>some ([],0,0,fun _=>.nul)
  | .emp=>some ([],0,0,fun _=>.nul)
  | .str l=>some ([],1,l.length,fun i=>.int .u8 ((l.getD i 0).toNat : Nat))
  | _=>none
def srcKind : AV→TK→Bool
  | .str _,.str=>true
  | .str _,_=>false
  | _,.slice _=>true
  | _,_=>false
theorem rep_bytes (c : Ctx) (l : List UInt8) : Rep c (.arr l.length 1 (fun i=>.int .u8 ((l.getD i 0).toNat : Nat))) .C (l.map fun b=>.int .u8 b.toNat):=by
  refine ⟨by simp,fun i hi=>?_⟩
  have : sub (l.map fun b=>Value.int .u8 b.toNat) (i * 1) 1 = [.int .u8 ((l.getD i 0).toNat : Nat)]:=by
    unfold sub
    rw [Nat.mul_one,List.drop_eq_getElem_cons (by simpa using hi)]
    simp [hi]
  rw [this];rfl
theorem src_ok {c : Ctx} {u : AV} {v : Value} {sz m : Nat} {f : Nat→AV} {ps : List Prop} (hh : HeapRep c h) (h1 : evSrc h u = some (ps,sz,m,f)) (hp : AllP ps) (hr : Rep c u .V [v]) {tx : TypeId} {txi : TI} (hT : TIok P tx txi) (hk : srcKind u txi.kind = true) {size : Nat} (hsz : sz = size ∨ m = 0) :
    ∃ news,Src P size tx v m news c.w∧Rep c (.arr m size f) .C news:=by
  have hu:=hT.und
  cases u <;> simp only [evSrc] at h1 <;> try (cases h1;done)
  case str l =>
    simp only [Option.some.injEq,Prod.mk.injEq] at h1
    obtain ⟨rfl,rfl,rfl,rfl⟩:=h1
    obtain rfl:=rep_str hr
    cases hkk : txi.kind <;> rw [hkk] at hk hu <;> simp [srcKind] at hk
    simp only [TK.fits] at hu
    rcases hsz with rfl | h0
    · have:=Src.ofString (P:=P) c.w hu ⟨l.toArray⟩
      have e : byteCells ⟨l.toArray⟩ = l.map fun b=>Value.int .u8 b.toNat:=by simp [byteCells]
      rw [e] at this
      exact ⟨_,this,rep_bytes c l⟩
    · have hl : l = []:=List.length_eq_zero_iff.1 h0
      subst hl
      refine ⟨[],⟨.inr hu,fun _=>rfl,?_,?_,by simp,fun _ h=>by cases h⟩,by simp,fun i hi=>by simp at hi⟩
      · simp [Builtin.firstCells]
      · simp [Builtin.firstCells]
  case val w =>
    obtain rfl:=rep_val hr
    cases v <;> try (cases h1;done)
    rename_i ad n cap
    cases ad <;> cases n <;> simp only [Option.some.injEq,Prod.mk.injEq,reduceCtorEq] at h1
    obtain ⟨rfl,rfl,rfl,rfl⟩:=h1
    cases hkk : txi.kind <;> rw [hkk] at hk hu <;> simp [srcKind] at hk
    simp only [TK.fits] at hu
    exact ⟨[],Src.ofNil c.w hu cap,by simp,fun i hi=>by omega⟩
  case emp =>
    simp only [Option.some.injEq,Prod.mk.injEq] at h1
    obtain ⟨rfl,rfl,rfl,rfl⟩:=h1
    obtain ⟨ad,hv⟩:=hr
    simp only [List.cons.injEq,and_true] at hv
    subst hv
    cases hkk : txi.kind <;> rw [hkk] at hk hu <;> simp [srcKind] at hk
    simp only [TK.fits] at hu
    cases ad with
    | none=>exact ⟨[],Src.ofNil c.w hu 0,by simp,fun i hi=>by omega⟩
    | some ad=>exact ⟨[],Src.ofSlice c.w hu ad 0 0 [] (by simp) (fun j u hj=>by simp at hj) (fun _ h=>by cases h),by simp,fun i hi=>by omega⟩
  case sl id p s off len =>
    cases ho : get? h id with
    | none=>simp [ho] at h1
    | some av =>
      simp only [ho] at h1
      cases hg : getp av p with
      | none=>simp [hg] at h1
      | some q =>
        cases q <;> simp only [hg,reduceCtorEq] at h1
        rename_i n s' f0
        cases hb : Nat.beq s s' with
        | false=>simp [hb] at h1
        | true =>
          have hss:=Nat.eq_of_beq_eq_true hb
          subst hss
          simp only [hb,cond_true,Option.some.injEq,Prod.mk.injEq] at h1
          obtain ⟨rfl,rfl,rfl,rfl⟩:=h1
          cases hkk : txi.kind <;> rw [hkk] at hk hu <;> simp [srcKind] at hk
          simp only [TK.fits] at hu
          obtain ⟨hA,⟨hG,hz,ad,rfl⟩ | ⟨hG,o,cap,rfl,ho2,h3,h4,h5⟩⟩:=rep_sl hr
          · subst hz
            cases ad with
            | none=>exact ⟨[],Src.ofNil c.w hu 0,by simp,fun i hi=>by omega⟩
            | some ad=>exact ⟨[],Src.ofSlice c.w hu ad 0 0 [] (by simp) (fun j u hj=>by simp at hj) (fun _ h=>by cases h),by simp,fun i hi=>by omega⟩
          · obtain ⟨xs,q1,q2⟩:=(hh.obj id av ho hG).path hg hp.1 rfl
            obtain ⟨q3,q4⟩:=q2
            rcases hsz with rfl | h0
            · have hle : off + len ≤ n:=hp.2
              have hmul : off * s + len * s ≤ n * s:=by rw [← Nat.add_mul];exact Nat.mul_le_mul_right _ hle
              have hrep : Rep c (.arr len s (fun i=>f0 (off + i))) .C (sub xs (off * s) (len * s)):=by
                refine ⟨sub_len (by omega),fun i hi=>?_⟩
                have hm2 : i * s + s ≤ len * s:=by
                  have:=Nat.mul_le_mul_right s (show i + 1 ≤ len from hi)
                  rwa [Nat.add_mul,Nat.one_mul] at this
                rw [sub_sub _ _ _ _ _ hm2,← Nat.add_mul]
                exact q4 _ (by omega)
              refine ⟨_,Src.ofSlice c.w hu ⟨c.ρ id,o,none⟩ len cap _ hrep.1 (fun j u hj=>?_) hrep.oneC,hrep⟩
              rw [add_lit]
              have hj' : j < len * s:=by
                rw [sub_get] at hj
                split at hj
                · assumption
                · cases hj
              have hlp : 0 < len:=by
                rcases Nat.eq_zero_or_pos len with e | e
                · subst e;omega
                · exact e
              have ho3 : o = pathOff p + off * s:=by rcases ho2 with e | e;omega;exact e
              rw [ho3]
              exact q1.sub _ _ j u hj
            · subst h0
              exact ⟨[],Src.ofSlice c.w hu _ 0 cap [] (by simp) (fun j u hj=>by simp at hj) (fun _ h=>by cases h),by simp,fun i hi=>by omega⟩
  case rsl fr n s f0 =>
    simp only [Option.some.injEq,Prod.mk.injEq] at h1
    obtain ⟨rfl,rfl,rfl,rfl⟩:=h1
    obtain ⟨ad,cap,hv,h3,h4,h5⟩:=hr
    simp only [List.cons.injEq,and_true] at hv
    subst hv
    cases hkk : txi.kind <;> rw [hkk] at hk hu <;> simp [srcKind] at hk
    simp only [TK.fits] at hu
    have hzero : n = 0→∃ news,Src P size tx (.slice ad n cap) n news c.w∧Rep c (.arr n size f0) .C news:=by
      rintro rfl
      cases ad with
      | none=>exact ⟨[],Src.ofNil c.w hu cap,by simp,fun i hi=>by omega⟩
      | some ad=>exact ⟨[],Src.ofSlice c.w hu ad 0 cap [] (by simp) (fun j u hj=>by simp at hj) (fun _ h=>by cases h),by simp,fun i hi=>by omega⟩
    rcases h5 with h5 | ⟨b,o,xs,rfl,hS,hB,hcl,hl,hx⟩
    · exact hzero h5
    · rcases hsz with rfl | h0
      · have hrep : Rep c (.arr n s f0) .C xs:=⟨hl,hx⟩
        exact ⟨xs,Src.ofSlice c.w hu ⟨b,o,none⟩ n cap xs hl (fun j u hj=>by rw [add_lit];exact hcl j u hj) hrep.oneC,hrep⟩
      · exact hzero h0
theorem rep_join {c : Ctx} {n m sz : Nat} {f k : Nat→AV} {xs ys : List Value} (h1 : Rep c (.arr n sz f) .C xs) (h2 : Rep c (.arr m sz k) .C ys) : Rep c (.arr (n + m) sz (fun i=>bif Nat.blt i n then f i else k (i - n))) .C (xs ++ ys):=by
  obtain ⟨a1,a2⟩:=h1
  obtain ⟨b1,b2⟩:=h2
  refine ⟨by simp [a1,b1,Nat.add_mul],fun i hi=>?_⟩
  by_cases hin : i < n
  · have hb : Nat.blt i n = true:=by simpa [Nat.blt_eq] using hin
    have hm : i * sz + sz ≤ n * sz:=by
      have:=Nat.mul_le_mul_right sz (show i + 1 ≤ n from hin)
      rwa [Nat.add_mul,Nat.one_mul] at this
    simp only [hb,cond_true]
    rw [sub_append_left _ _ _ _ (by omega)]
    exact a2 i hin
  · have hb : Nat.blt i n = false:=by
      cases hh : Nat.blt i n
      · rfl
      · exact absurd (by simpa [Nat.blt_eq] using hh) hin
    simp only [hb,cond_false]
    have : i * sz = xs.length + (i - n) * sz:=by rw [a1,← Nat.add_mul];congr 1;omega
    rw [this,sub_append_right]
    exact b2 _ (by omega)
end
end Go.V
namespace Go.V
open Go.RowKit Go.L
section
variable {P : Program} {t : TypeId} {ti : TI} {g e h : Asc} {x y : Operand} {d : Option Tmp} {ty : TypeId} {pos : String} {af : Array Edge} {gd : Option (Nat × Bool)}
theorem wp_append {o : Oper} {a : Act} {w w' : World} {K : Act→World→Prop} {Q : Exit→Act→World→Prop} {t t2 : TypeId} {v : Value} (ho : o.op = .call { callee:=.builtin .append,args:=#[x,y],argTypes:=#[t,t2] })
    (hr : (Builtin.append_ #[t,t2] o.type #[a.eval x,a.eval y]).run P w = .ok v w') (hk : K (a.put o.dst v) w') : o.wp P a w K Q:=by
  unfold Oper.wp execOp
  simp only [ho,resolve,invoke,builtin,Sem.run_bind,Sem.run_pure,Result.andThen_ok,List.map_toArray,List.map_cons,List.map_nil,hr]
  exact hk
def joinF (n : Nat) (f k : Nat→AV) : Nat→AV:=fun i=>bif Nat.blt i n then f i else k (i - n)
theorem append_grow {t t2 eT : TypeId} {tie : TI} (hti : P.underlying t = some (.slice eT)) (hte : TIok P eT tie) {c : Ctx} {base : Option Addr} {n cap m N : Nat} {f k : Nat→AV} {olds news : List Value} {v : Value} (hh : HeapRep c h) (hc : CtxOk c) (hN : ¬ c.A N)
    (hf : (Builtin.firstCells tie.lay.size n (.slice base n cap)).run P c.w.drew = .ok olds.toArray c.w.drew) (h1 : Rep c (.arr n tie.lay.size f) .C olds) (hs : Src P tie.lay.size t2 v m news c.w) (h2 : Rep c (.arr m tie.lay.size k) .C news)
    (hg : cap < n + m) (h63 : n + m ≤ 9223372036854775807) (hb : (n + m) * tie.bytes ≤ 140737488355328) :
    ∃ r c',(Builtin.append_ #[t,t2] ty #[.slice base n cap,v]).run P c.w = .ok r c'.w∧Out c h ((N,.arr (n + m) tie.lay.size (joinF n f k))::h) [N] c'∧Rep c' (.sl N [] tie.lay.size 0 (n + m)) .V [r]:=by
  obtain ⟨ie,z,hie,hse,hbe,hze,hfe,_⟩:=hte.info
  have hr:=run_append_grow_src (P:=P) c.w t t2 ty eT ie z hti hie hze base n cap olds (by rw [hse];exact hf) v m news (by rw [hse];exact hs) hg (by omega) (by rw [hbe];exact growslice_fits hg hb)
  have hd:=Out.drew hh hc
  have hj:=rep_join h1 h2
  have hj' : Rep { c with w:=c.w.drew } (.arr (n + m) tie.lay.size (joinF n f k)) .C (olds ++ news):=hj.le hd.le
  have ho:=Out.new (t:=eT) (ys:=(Builtin.zeroCells z.cells (grownCap c.w (n + m) cap eT - (n + m))).toList) hd.heap hd.ok (N:=N) hN hj'
  have he : (olds ++ news).toArray ++ Builtin.zeroCells z.cells (grownCap c.w (n + m) cap eT - (n + m)) = ((olds ++ news) ++ (Builtin.zeroCells z.cells (grownCap c.w (n + m) cap eT - (n + m))).toList).toArray:=by
    apply Array.ext';simp
  rw [he] at hr
  refine ⟨_,_,hr,hd.trans ho,?_⟩
  refine rep_new_sl { c with w:=c.w.drew } N _ _ _ _ _ (grownCap_ge _ _ _ _) (grownCap_le_maxLen _ _ _ _ (by unfold maxLen;omega)) ?_
  have hz0 : z.cells.size = tie.lay.size:=by rw [← tie.lay.flat_length,← hfe];simp
  have hl:=hj.1
  have hge:=grownCap_ge c.w (n + m) cap eT
  rw [List.length_append,hl,Array.length_toList,size_zeroCells,hz0,← Nat.add_mul]
  exact Nat.mul_le_mul_right _ (by omega)
theorem append_nil_ok {T : List (Option TI)} (hT : TabOk P T) {t2 eT : TypeId} (hk : (tget T t).map (·.kind) = some (.slice eT)) {tie txi : TI} (hte : tget T eT = some tie) (ht2 : tget T t2 = some txi) {src : AV} {ps : List Prop} {sz m N : Nat} {k : Nat→AV}
    {u0 : AV} (hu0 : u0 = .val (.slice none 0 0) ∨ u0 = .emp) (hx : ev g e x = some u0) (hy : ev g e y = some src) (hs : evSrc h src = some (ps,sz,m,k)) (hp : AllP ps) (hsk : srcKind src txi.kind = true) (hsz : sz = tie.lay.size ∨ m = 0) (h63 : m ≤ 9223372036854775807) (hb : m * tie.bytes ≤ 140737488355328) :
    OpOk P ⟨d,.call { callee:=.builtin .append,args:=#[x,y],argTypes:=#[t,t2] },ty,pos,af,gd⟩ g e h (some (.sl N [] tie.lay.size 0 m)) ((N,.arr m tie.lay.size k)::h) [N]:=by
  intro c a he hh hc hn K Q hK
  have hN : ¬ c.A N:=hn N (by simp)
  cases htt : tget T t with
  | none=>simp [htt] at hk
  | some ti =>
  simp only [htt,Option.map_some,Option.some.injEq] at hk
  have hti:=(hT _ _ htt).und
  rw [hk] at hti
  simp only [TK.fits] at hti
  have hte':=hT _ _ hte
  obtain ⟨news,hsrc,hrep⟩:=src_ok (P:=P) hh hs hp (ev_rep he hy) (hT _ _ ht2) hsk hsz
  obtain ⟨ad,hv⟩ : ∃ ad,a.eval x = .slice ad 0 0:=by
    rcases hu0 with rfl | rfl
    · exact ⟨none,rep_val (ev_rep he hx)⟩
    · obtain ⟨ad,hv⟩:=ev_rep he hx
      exact ⟨ad,by simpa using hv⟩
  have hf0 : (Builtin.firstCells tie.lay.size 0 (.slice ad 0 0)).run P c.w.drew = .ok ([] : List Value).toArray c.w.drew:=by cases ad <;> simp [Builtin.firstCells,loadCells,loadCellsFrom]
  by_cases hm : m = 0
  · subst hm
    obtain ⟨ie,z,hie,hse,hbe,hze,hfe,_⟩:=hte'.info
    have hnl:=hsrc.newsLen
    have hnews : news = []:=List.length_eq_zero_iff.1 (by simpa using hnl)
    subst hnews
    have hr : (Builtin.append_ #[t,t2] ty #[.slice ad 0 0,a.eval y]).run P c.w = .ok (.slice ad 0 0) c.w:=by
      cases ad <;> rcases hsrc.kind with ⟨e',hk⟩ | hk <;> simp [Builtin.append_,run_underlying hti,run_underlying hk,hte'.run_size,hsrc.len,hsrc.cells,storeCells]
    have ho:=Out.ghost (N:=N) (av:=.arr 0 tie.lay.size k) hh hc hN (by simp [AV.size])
    exact wp_append rfl (by rw [hv];exact hr) (hK _ _ ho fun y hy=>by cases hy;exact ⟨.inr rfl,.inl ⟨.inr rfl,rfl,ad,rfl⟩⟩)
  · obtain ⟨r,c',hr,ho,hrr⟩:=append_grow (P:=P) (ty:=ty) (N:=N) (f:=k) hti hte' (base:=ad) (n:=0) (cap:=0) (olds:=[]) hh hc hN hf0 ⟨by simp,fun i hi=>by omega⟩ hsrc hrep (by omega) (by omega) (by simpa using hb)
    have e : joinF 0 k k = k:=by funext i;simp [joinF,Nat.blt]
    rw [Nat.zero_add,e] at ho
    rw [Nat.zero_add] at hrr
    exact wp_append rfl (by rw [hv];exact hr) (hK _ _ ho fun y hy=>by cases hy;exact hrr)
theorem append_ok {T : List (Option TI)} (hT : TabOk P T) {t2 eT : TypeId} (hk : (tget T t).map (·.kind) = some (.slice eT)) {tie txi : TI} (hte : tget T eT = some tie) (ht2 : tget T t2 = some txi) {src : AV} {ps : List Prop} {sz n n' m N id : Nat} {f k : Nat→AV}
    (hx : ev g e x = some (.sl id [] tie.lay.size 0 n)) (hd : get? h id = some (.arr n' tie.lay.size f)) (hnn : n' = n) (hy : ev g e y = some src) (hs : evSrc h src = some (ps,sz,m,k)) (hp : AllP ps) (hsk : srcKind src txi.kind = true) (hsz : sz = tie.lay.size ∨ m = 0)
    (h63 : n + m ≤ 9223372036854775807) (hb : (n + m) * tie.bytes ≤ 140737488355328) :
    OpOk P ⟨d,.call { callee:=.builtin .append,args:=#[x,y],argTypes:=#[t,t2] },ty,pos,af,gd⟩ g e h (some (.sl N [] tie.lay.size 0 (n + m))) ((N,.arr (n + m) tie.lay.size (joinF n f k))::del h id) [N]:=by
  subst hnn
  intro c a he hh hc hn K Q hK
  have hN : ¬ c.A N:=hn N (by simp)
  cases htt : tget T t with
  | none=>simp [htt] at hk
  | some ti =>
  simp only [htt,Option.map_some,Option.some.injEq] at hk
  have hti:=(hT _ _ htt).und
  rw [hk] at hti
  simp only [TK.fits] at hti
  have hte':=hT _ _ hte
  have hsub : ∀ (av : AV) j u,get? ((N,av)::del h id) j = some u→get? ((N,av)::h) j = some u:=fun av j u hj=>by
    rw [get?_cons] at hj ⊢
    by_cases e : N = j
    · rw [if_pos e] at hj ⊢;exact hj
    · rw [if_neg e] at hj ⊢
      rw [get?_del] at hj
      split at hj
      · cases hj
      · exact hj
  obtain ⟨news,hsrc,hrep⟩:=src_ok (P:=P) hh hs hp (ev_rep he hy) (hT _ _ ht2) hsk hsz
  obtain ⟨hA,⟨hG,hz,ad,hv⟩ | ⟨hG,o,cap,hv,ho2,h3,h4,h5⟩⟩:=rep_sl (ev_rep he hx)
  · subst hz
    have hf0 : (Builtin.firstCells tie.lay.size 0 (.slice ad 0 0)).run P c.w.drew = .ok ([] : List Value).toArray c.w.drew:=by cases ad <;> simp [Builtin.firstCells,loadCells,loadCellsFrom]
    by_cases hm : m = 0
    · subst hm
      have hnews : news = []:=List.length_eq_zero_iff.1 (by simpa using hsrc.newsLen)
      subst hnews
      have hr : (Builtin.append_ #[t,t2] ty #[.slice ad 0 0,a.eval y]).run P c.w = .ok (.slice ad 0 0) c.w:=by
        cases ad <;> rcases hsrc.kind with ⟨e',hk⟩ | hk <;> simp [Builtin.append_,run_underlying hti,run_underlying hk,hte'.run_size,hsrc.len,hsrc.cells,storeCells]
      have ho:=(Out.ghost (N:=N) (av:=.arr (0 + 0) tie.lay.size (joinF 0 f k)) hh hc hN (by simp [AV.size])).shrink (hsub _)
      exact wp_append rfl (by rw [hv];exact hr) (hK _ _ ho fun y hy=>by cases hy;exact ⟨.inr rfl,.inl ⟨.inr rfl,rfl,ad,rfl⟩⟩)
    · obtain ⟨r,c',hr,ho,hrr⟩:=append_grow (P:=P) (ty:=ty) (N:=N) (f:=f) hti hte' (base:=ad) (n:=0) (cap:=0) (olds:=[]) hh hc hN hf0 ⟨by simp,fun i hi=>by omega⟩ hsrc hrep (by omega) (by omega) hb
      exact wp_append rfl (by rw [hv];exact hr) (hK _ _ (ho.shrink (hsub _)) fun y hy=>by cases hy;exact hrr)
  · obtain ⟨cs,t0,xs,ys,hblk,rfl,hr0⟩:=(hh.obj id _ hd hG).cells rfl
    have hxl:=hr0.1
    have hbs : bsize c.w (c.ρ id) = (xs ++ ys).length:=by obtain ⟨fz,hblk⟩:=hblk.at;unfold bsize;rw [hblk];simp
    by_cases hroom : n' + m ≤ cap
    · have hfit : cap ≠ 0→n' * tie.lay.size + m * tie.lay.size ≤ (xs ++ ys).length∧o = 0:=fun h0=>by
        have e : o = 0:=by rcases ho2 with e | e;exact absurd e h0;simpa [pathOff] using e
        have:=Nat.mul_le_mul_right tie.lay.size hroom
        rw [Nat.add_mul] at this
        exact ⟨by omega,e⟩
      have hnl:=hsrc.newsLen
      have hrun : ∃ w',(Builtin.append_ #[t,t2] ty #[.slice (some ⟨c.ρ id,o,none⟩) n' cap,a.eval y]).run P c.w = .ok (.slice (some ⟨c.ρ id,o,none⟩) (n' + m) cap) w'∧w' = c.w.setRow (c.ρ id) (ovr (xs ++ ys) (n' * tie.lay.size) news).toArray:=by
        by_cases h0 : cap = 0
        · have hm : m = 0:=by omega
          have hn' : n' = 0:=by omega
          subst hm hn'
          have hnews : news = []:=List.length_eq_zero_iff.1 (by simpa using hnl)
          subst hnews
          refine ⟨c.w,?_,?_⟩
          · rcases hsrc.kind with ⟨e',hk⟩ | hk <;> simp [Builtin.append_,run_underlying hti,run_underlying hk,hte'.run_size,hsrc.len,hsrc.cells,storeCells]
          · rw [Nat.zero_mul]
            have : ovr (xs ++ ys) 0 [] = xs ++ ys:=by simp [ovr]
            rw [this]
            exact hblk.self.symm
        · obtain ⟨hf1,rfl⟩:=hfit h0
          have hst:=run_storeBlk P (c.ρ id) (n' * tie.lay.size) t0 news 0 (xs ++ ys) c.w hblk (by simp at hf1 ⊢;omega) hsrc.one
          simp only [Nat.add_zero] at hst
          refine ⟨_,?_,rfl⟩
          rcases hsrc.kind with ⟨e',hk⟩ | hk <;> simp [Builtin.append_,run_underlying hti,run_underlying hk,hte'.run_size,hsrc.len,hroom,hsrc.cells,add_lit,hst,ovr]
      obtain ⟨w',hrun,hw'⟩:=hrun
      have hlen : n' * tie.lay.size + news.length ≤ (xs ++ ys).length:=by
        by_cases h0 : cap = 0
        · have hm : m = 0:=by omega
          have hn' : n' = 0:=by omega
          subst hm hn';rw [hnl];simp
        · rw [hnl];exact (hfit h0).1
      have how : Out c h (put h id (.arr (n' + m) tie.lay.size (joinF n' f k))) [] { c with w:=w' }:=by
        subst hw'
        refine Out.write hh hc hd hG rfl rfl rfl (setRow_size _ _ _) (bsize_row hblk (by rw [ovr_len hlen];exact Nat.le_refl _)) (fun b hne=>setRow_other _ _ _ _ hne) fun c' hc' hle=>?_
        subst hc'
        refine .inl ⟨_,t0,xs ++ news,ys.drop news.length,hblk.row _ (ovr_len hlen),?_,(rep_join hr0 hrep).le hle⟩
        have:=ovr_append_right xs ys news 0
        rw [Nat.add_zero,hxl] at this
        rw [this]
        simp [ovr]
      have hget : get? (put h id (.arr (n' + m) tie.lay.size (joinF n' f k))) id = some (.arr (n' + m) tie.lay.size (joinF n' f k)):=by rw [get?_put,if_pos rfl]
      have hor:=(how.trans (Out.rename how.heap how.ok hget hN)).shrink (h'':=(N,.arr (n' + m) tie.lay.size (joinF n' f k))::del h id) fun j u hj=>by
        rw [get?_cons,get?_del] at hj ⊢
        by_cases e : N = j
        · rw [if_pos e] at hj ⊢;exact hj
        · rw [if_neg e] at hj ⊢
          split at hj
          · cases hj
          · rename_i e2;rw [if_neg e2,get?_put,if_neg e2];exact hj
      refine wp_append rfl (by rw [hv];exact hrun) (hK _ _ hor fun y hy=>?_)
      cases hy
      refine ⟨.inr rfl,.inr ⟨fun hx=>?_,o,cap,?_,?_,hroom,h4,?_⟩⟩
      · rcases hx with hx | hx
        · exact hx.1 rfl
        · exact hG hx.2
      · simp
      · rcases ho2 with e | e
        · exact .inl e
        · exact .inr e
      · show _ ≤ bsize w' (if N = N then c.ρ id else _)
        rw [if_pos rfl]
        exact Nat.le_trans h5 (by rw [hw'];exact bsize_row hblk (by rw [ovr_len hlen];exact Nat.le_refl _))
    · have hold : (Builtin.firstCells tie.lay.size n' (.slice (some ⟨c.ρ id,o,none⟩) n' cap)).run P c.w.drew = .ok xs.toArray c.w.drew:=by
        refine run_firstCells_some (P:=P) c.w.drew tie.lay.size n' ⟨c.ρ id,o,none⟩ n' cap xs hxl (fun j u hj=>?_)
        rw [add_lit]
        have hj' : j < xs.length:=by
          rcases Nat.lt_or_ge j xs.length with e | e
          · exact e
          · rw [List.getElem?_eq_none e] at hj;cases hj
        have hn0 : n' ≠ 0:=fun e=>by rw [hxl,e] at hj';simp at hj'
        have ho3 : o = 0:=by rcases ho2 with e | e;omega;simpa [pathOff] using e
        rw [ho3,Nat.zero_add]
        exact hblk.cell (by rw [List.getElem?_append_left hj'];exact hj)
      obtain ⟨r,c',hr,ho,hrr⟩:=append_grow (P:=P) (ty:=ty) (N:=N) (f:=f) (k:=k) hti hte' (base:=some ⟨c.ρ id,o,none⟩) (n:=n') (cap:=cap) (olds:=xs) hh hc hN hold hr0 hsrc hrep (by omega) (by omega) hb
      exact wp_append rfl (by rw [hv];exact hr) (hK _ _ (ho.shrink (hsub _)) fun y hy=>by cases hy;exact hrr)
end
end Go.V
namespace Go.Chain
section
variable {P : Program} {md : Region.Mode} {ops : Array Oper} {Q : Exit→Act→World→Prop} {S : World→Prop} {R T : List Nat}
def waits (md : Region.Mode) (ops : Array Oper) (j i : Nat) : Bool :=
  match ops[j]? with
  | some o=>o.after.any fun e=>Region.binds md e && e.on == i
  | none=>false
def needs (md : Region.Mode) (ops : Array Oper) (R : List Nat) (j : Nat) : Bool:=R.any fun i=>!waits md ops j i
theorem not_waits_of_ready {listed : Array Bool} {i j : Nat} (hj : j ∈ Region.ready md ops listed) (hi : listed.getD i false = false) : waits md ops j i = false:=by
  obtain ⟨_,o,ho,hall⟩:=mem_ready.1 hj
  unfold waits
  simp only [ho]
  rw [Bool.eq_false_iff]
  intro h
  obtain ⟨e,he,hb⟩:=Array.any_eq_true'.1 h
  simp only [Bool.and_eq_true,beq_iff_eq] at hb
  have:=hall e he hb.1
  rw [hb.2,hi] at this
  cases this
theorem getD_false_of_true {listed : Array Bool} {i : Nat} (h : listed.getD i true = false) : listed.getD i false = false:=by
  rcases Nat.lt_or_ge i listed.size with h' | h'
  · simp [h'] at h ⊢;exact h
  · simp [Array.getElem?_eq_none h'] at h
def AnyS (P : Program) (md : Region.Mode) (ops : Array Oper) (Q : Exit→Act→World→Prop) (S : World→Prop) (R T : List Nat) : Nat→Array Bool→Act→World→Prop
  | 0,listed,a,w=>Region.ready md ops listed = []∧Q .normal a w
  | n + 1,listed,a,w=>(Region.ready md ops listed = []→Q .normal a w) ∧
    ∀ j ∈ Region.ready md ops listed,wpOp P ops Q j (fun a' w'=>(j ∈ T→w' = w)∧(j ∉ T→needs md ops R j = true→S w')∧AnyS P md ops Q S R T n (listed.setIfInBounds j true) a' w') a w
end
end Go.Chain
namespace Go.V
open Go.RowKit Go.L
section
variable {P : Program} {t : TypeId} {ti : TI} {g e h : Asc} {x y : Operand} {d : Option Tmp} {ty : TypeId} {pos : String} {af : Array Edge} {gd : Option (Nat × Bool)}
theorem Out.fix {c : Ctx} {h : Asc} {w' : World} (hh : HeapRep c h) (hc : CtxOk c) (hos : w'.os = c.w.os) (htp : w'.tape = c.w.tape) (hout : w'.output = c.w.output) (hsz : w'.heap.size = c.w.heap.size + 1) (hold : ∀ b,b < c.w.heap.size→w'.heap[b]? = c.w.heap[b]?) :
    Out c h h [] { c with w:=w',S:=fun b=>c.S b ∨ b = c.w.heap.size }:=by
  have hbs : ∀ b,bsize c.w b ≤ bsize w' b:=fun b=>by
    rcases Nat.lt_or_ge b c.w.heap.size with hb | hb
    · rw [bsize_congr (hold b hb)];exact Nat.le_refl _
    · rw [bsize_none hb];exact Nat.zero_le _
  have hle : Le c { c with w:=w',S:=fun b=>c.S b ∨ b = c.w.heap.size }:=⟨fun _ h=>h,fun _ _=>rfl,fun _ _=>Iff.rfl,fun i _ _=>hbs _,fun b hb _=>⟨.inl hb,fun h=>h,hold b (hc.S b hb)⟩⟩
  refine ⟨hle,rfl,fun _ h=>.inl h,⟨hh.A,fun id av hi hg=>(hh.obj id av hi hg).le hle (hold _ (hh.obj id av hi hg).lt),hh.gh,fun id av hi hg hS=>?_,hh.inj⟩,⟨fun b hb=>?_,?_⟩,hos,htp,hout,?_,fun b hb _=>hold b hb,fun id av h hg=>.inl ⟨id,av,h,hg,rfl⟩,fun b hb=>?_⟩
  · rcases hS with hS | hS
    · exact hh.nS id av hi hg hS
    · have h1:=(hh.obj id av hi hg).lt
      have h2 : c.ρ id = c.w.heap.size:=hS
      omega
  · show b < w'.heap.size
    rcases hb with hb | hb
    · have:=hc.S b hb;omega
    · omega
  · show c.B ≤ w'.heap.size
    have:=hc.B;omega
  · show c.w.heap.size ≤ w'.heap.size
    omega
  · rcases hb with hb | hb
    · exact .inl hb
    · exact .inr (.inl (by omega))
theorem buildSlice_emp {T : List (Option TI)} (hT : TabOk P T) {t eT : Nat} (hk : (tget T t).map (·.kind) = some (.slice eT)) {tie : TI} (hte : tget T eT = some tie) : OpOk P ⟨d,.buildSlice t 0 #[],ty,pos,af,gd⟩ g e h (some .emp) h []:=by
  intro c a he hh hc hn K Q hK
  cases htt : tget T t with
  | none=>simp [htt] at hk
  | some ti =>
  simp only [htt,Option.map_some,Option.some.injEq] at hk
  have hti:=(hT _ _ htt).und
  rw [hk] at hti
  simp only [TK.fits] at hti
  have hte':=hT _ _ hte
  obtain ⟨ie,z,hie,hse,hbe,hze,hfe,_⟩:=hte'.info
  have hrun : (execOp a.eval ⟨d,.buildSlice t 0 #[],ty,pos,af,gd⟩).run P c.w = .ok (.value (.slice (some ⟨c.w.heap.size,0,none⟩) 0 0)) (c.w.alloc (.cells #[] eT)):=by
    simp only [execOp,Instr.buildSlice,Sem.run_bind,run_underlying hti,Result.andThen_ok,hte'.run_size]
    rw [if_neg (by omega)]
    have e0 : ∀ f : Nat→Value,(Array.range 0).map f = #[]:=fun f=>by simp
    simp only [Nat.zero_mul,if_true,Sem.run_bind,Sem.run_pure,Result.andThen_ok,e0]
    have hq : Instr.fill (fun i=>some (i * tie.lay.size,tie.lay.size)) #[] ((#[] : Array (Nat × Operand)).map (fun x=>(x.fst,a.eval x.snd))).toList = some #[]:=by simp [Instr.fill]
    simp only [hq]
    rfl
  unfold Oper.wp
  rw [hrun]
  refine hK _ _ (Out.fix (w':=c.w.alloc (.cells #[] eT)) hh hc rfl rfl rfl (by simp) (fun b hb=>Below.heap_alloc c.w _ _ hb)) fun x hx=>?_
  cases hx
  exact ⟨_,rfl⟩
theorem toBytes_ok {T : List (Option TI)} (hT : TabOk P T) {src dst eT : TypeId} (h1 : (tget T src).map (·.kind) = some .str) (h2 : (tget T dst).map (·.kind) = some (.slice eT)) (h3 : (tget T eT).map (·.kind) = some (.int .u8)) {l : List UInt8} (hx : ev g e x = some (.str l)) (hl : l.length ≤ 9223372036854775807) :
    OpOk P ⟨d,.convert src dst x,ty,pos,af,gd⟩ g e h (some (.rsl true l.length 1 (fun i=>.int .u8 ((l.getD i 0).toNat : Nat)))) h []:=by
  have get : ∀ {t : TypeId} {k : TK},(tget T t).map (·.kind) = some k→k.fits (P.underlying t):=fun {t k} hk=>by
    cases hq : tget T t with
    | none=>simp [hq] at hk
    | some ti=>simp [hq] at hk;have:=(hT _ _ hq).und;rwa [hk] at this
  have g1:=get h1
  have g2:=get h2
  have g3:=get h3
  simp only [TK.fits] at g1 g2 g3
  intro c a he hh hc hn K Q hK
  have hv:=rep_str (ev_rep he hx)
  have hr:=run_bytes_of_string (P:=P) c.w src dst eT ⟨l.toArray⟩ g1 g2 g3
  have hsz : (⟨l.toArray⟩ : ByteArray).size = l.length:=rfl
  rw [hsz] at hr
  have hrun : (execOp a.eval ⟨d,.convert src dst x,ty,pos,af,gd⟩).run P c.w = .ok (.value (.slice (some ⟨c.w.heap.size,0,none⟩) l.length (grownCap c.w l.length 0 eT)))
      (c.w.drew.alloc (.cells (bytesRow ⟨l.toArray⟩ (grownCap c.w l.length 0 eT)) eT ((bytesRow ⟨l.toArray⟩ (grownCap c.w l.length 0 eT)).size,(bytesRow ⟨l.toArray⟩ (grownCap c.w l.length 0 eT)).size + 1))):=by
    simp only [execOp,hv,Sem.run_bind,hr,Result.andThen_ok,Sem.run_pure]
  unfold Oper.wp
  rw [hrun]
  have hnew : (c.w.drew.alloc (.cells (bytesRow ⟨l.toArray⟩ (grownCap c.w l.length 0 eT)) eT ((bytesRow ⟨l.toArray⟩ (grownCap c.w l.length 0 eT)).size,(bytesRow ⟨l.toArray⟩ (grownCap c.w l.length 0 eT)).size + 1))).heap[c.w.heap.size]? = some _:=heap_alloc_new c.w.drew _
  generalize hw' : c.w.drew.alloc (.cells (bytesRow ⟨l.toArray⟩ (grownCap c.w l.length 0 eT)) eT ((bytesRow ⟨l.toArray⟩ (grownCap c.w l.length 0 eT)).size,(bytesRow ⟨l.toArray⟩ (grownCap c.w l.length 0 eT)).size + 1)) = w' at *
  have ho : Out c h h [] { c with w:=w',S:=fun b=>c.S b ∨ b = c.w.heap.size } :=
    Out.fix hh hc (by rw [← hw'];rfl) (by rw [← hw'];rfl) (by rw [← hw'];rfl) (by rw [← hw'];simp) (fun b hb=>by rw [← hw'];exact Below.heap_alloc c.w.drew _ _ hb)
  refine hK _ _ ho fun y hy=>?_
  cases hy
  refine ⟨some ⟨c.w.heap.size,0,none⟩,grownCap c.w l.length 0 eT,rfl,grownCap_ge _ _ _ _,grownCap_le_maxLen _ _ _ _ (by unfold maxLen;omega),.inr ⟨c.w.heap.size,0,l.map (fun b=>.int .u8 b.toNat),rfl,.inr rfl,fun _=>hc.B,fun j u hu=>?_,by simp,?_⟩⟩
  · show w'.cell? _ = _
    rw [cell_of_row _ _ _ _ _ _ hnew,Nat.zero_add]
    unfold bytesRow
    have hj : j < l.length:=by
      rcases Nat.lt_or_ge j l.length with h1 | h1
      · exact h1
      · rw [List.getElem?_eq_none (by simpa using h1)] at hu;cases hu
    rw [Array.getElem?_append_left (by simpa using hj)]
    simpa using hu
  · have:=(rep_bytes { c with w:=w',S:=fun b=>c.S b ∨ b = c.w.heap.size } l).2
    simpa using this
def unsn : List Step→Option (List Step × Nat × Nat)
  | []=>none
  | s :: r=>match unsn r with
    | some (q,i,sz)=>some (s::q,i,sz)
    | none=>match s,r with
      | .idx i sz,[]=>some ([],i,sz)
      | _,_=>none
theorem unsn_ok : ∀ {p q : List Step} {i sz : Nat},unsn p = some (q,i,sz)→p = q ++ [.idx i sz]
  | [],_,_,_,h=>by cases h
  | s :: r,q,i,sz,h=>by
    unfold unsn at h
    cases hr : unsn r with
    | some x =>
      obtain ⟨q',i',sz'⟩:=x
      simp only [hr,Option.some.injEq,Prod.mk.injEq] at h
      obtain ⟨rfl,rfl,rfl⟩:=h
      rw [unsn_ok hr];rfl
    | none =>
      simp only [hr] at h
      cases s <;> cases r <;> simp at h
      obtain ⟨rfl,rfl,rfl⟩:=h
      rfl
theorem arrp_sl {n eT : Nat} (hu : P.underlying t = some (.array n eT)) {id sz off len : Nat} {p : List Step} (hx : ev g e x = some (.sl id p sz off len)) (h0 : 0 < n) (hn : n ≤ len) :
    OpOk P ⟨d,.sliceToArrayPointer t x,ty,pos,af,gd⟩ g e h (some (.ptr id (p ++ [.idx off sz]))) h []:=by
  refine OpOk.val fun c a he hh hc=>?_
  obtain ⟨hA,⟨hG,hz,ad,hv⟩ | ⟨hG,o,cap,hv,ho,h3,h4,h5⟩⟩:=rep_sl (ev_rep he hx)
  · omega
  · refine ⟨.pointer (some ⟨c.ρ id,o,none⟩),?_,hA,hG,?_⟩
    · simp [execOp,hv,Instr.arrayAt,run_underlying hu,Nat.not_lt.2 hn]
    · have : o = pathOff p + off * sz:=by omega
      rw [this,pathOff_append];simp [pathOff,Step.o]
theorem arrp_rsl {n eT : Nat} (hu : P.underlying t = some (.array n eT)) {sz len : Nat} {fr : Bool} {f : Nat→AV} (hx : ev g e x = some (.rsl fr len sz f)) (h0 : 0 < n) (hn : n ≤ len) :
    OpOk P ⟨d,.sliceToArrayPointer t x,ty,pos,af,gd⟩ g e h (some (.rptr fr (.arr n sz f))) h []:=by
  refine OpOk.val fun c a he hh hc=>?_
  obtain ⟨ad,cap,hv,h3,h4,h5⟩:=ev_rep he hx
  simp only [List.cons.injEq,and_true] at hv
  rcases h5 with h5 | ⟨b,o,xs,rfl,hS,hB,hcl,hl,hxs⟩
  · omega
  · refine ⟨.pointer (some ⟨b,o,none⟩),?_,b,o,V.sub xs 0 (n * sz),rfl,hS,hB,?_,?_,fun i hi=>?_⟩
    · simp [execOp,hv,Instr.arrayAt,run_underlying hu,Nat.not_lt.2 hn]
    · have:=hcl.sub 0 (n * sz);simpa using this
    · refine sub_len ?_
      have:=Nat.mul_le_mul_right sz hn
      omega
    · have hm : i * sz + sz ≤ n * sz:=by
        have:=Nat.mul_le_mul_right sz (show i + 1 ≤ n from hi)
        rwa [Nat.add_mul,Nat.one_mul] at this
      rw [sub_sub _ _ _ _ _ hm,Nat.zero_add]
      exact hxs i (by omega)
theorem load_win {ti : TI} (hT : TIok P t ti) {n eT : Nat} (hk : ti.kind = .array n eT) {id off sz m : Nat} {q : List Step} {av : AV} {f : Nat→AV} (hx : ev g e x = some (.ptr id (q ++ [.idx off sz]))) (ho : get? h id = some av) (hq : getp av q = some (.arr m sz f)) (hin : inb av q) (hm : off + n ≤ m) (hs : n * sz = ti.lay.size) :
    OpOk P ⟨d,.load t x,ty,pos,af,gd⟩ g e h (some (.arr n sz (fun i=>f (off + i)))) h []:=by
  refine OpOk.val fun c a he hh hc=>?_
  obtain ⟨_,hG,hv⟩:=ev_rep he hx
  simp only [List.cons.injEq,and_true] at hv
  obtain ⟨xs,h1,h2,h3⟩:=(hh.obj id av ho hG).path hq hin rfl
  have hmul : off * sz + n * sz ≤ m * sz:=by rw [← Nat.add_mul];exact Nat.mul_le_mul_right _ hm
  have hc2 : CellsAt c.w (c.ρ id) (pathOff (q ++ [.idx off sz])) (V.sub xs (off * sz) (n * sz)):=by
    rw [pathOff_append]
    have:=h1.sub (off * sz) (n * sz)
    simpa [pathOff,Step.o] using this
  have hr2 : Rep c (.arr n sz (fun i=>f (off + i))) .C (V.sub xs (off * sz) (n * sz)):=by
    refine ⟨sub_len (by omega),fun i hi=>?_⟩
    have hm2 : i * sz + sz ≤ n * sz:=by
      have:=Nat.mul_le_mul_right sz (show i + 1 ≤ n from hi)
      rwa [Nat.add_mul,Nat.one_mul] at this
    rw [sub_sub _ _ _ _ _ hm2,← Nat.add_mul]
    exact h3 _ (by omega)
  obtain ⟨v,hr,hrep⟩:=run_loadRep (P:=P) hT hc2 hr2 (by rw [hk];rfl) hs
  refine ⟨v,?_,hrep⟩
  simp [execOp,hv,Instr.loadAt,Instr.sureAddr,hr]
theorem bifn {α : Type} {b : Bool} {x : Option α} {u : α} (h : (bif b then x else none) = some u) : x = some u:=by
  cases b
  · cases h
  · exact h
theorem setf_self : ∀ {a : AV} {k : Nat} {u : AV},getf a k = some u→setf a k u = a:=by
  intro a
  induction a with
  | pair a b _ ih =>
    intro k u h
    cases k with
    | zero=>simp only [getf,Option.some.injEq] at h;subst h;rfl
    | succ k=>unfold setf;rw [ih h]
  | int | bool | str | val | emp | nul | arr | ptr | sl | rsl | rptr | tup | fn | ifc | mp | mo | ob=>intro k u h;cases k <;> simp [getf] at h
theorem setp_self : ∀ {p : List Step} {a u : AV},getp a p = some u→setp a p u = a
  | [],a,u,h=>by simp only [getp,Option.some.injEq] at h;subst h;rfl
  | .fld k off::p,a,u,h=>by
    unfold getp at h
    unfold setp
    cases hk : getf a k with
    | none=>simp [hk] at h
    | some w=>simp only [hk] at h ⊢;rw [setp_self (bifn h),setf_self hk]
  | .idx i sz::p,a,u,h=>by
    cases a <;> simp only [getp,reduceCtorEq] at h
    rename_i n s f
    unfold setp
    congr 1
    funext j
    cases hb : Nat.beq j i with
    | false=>simp
    | true =>
      have:=Nat.eq_of_beq_eq_true hb
      subst this
      simp [setp_self (bifn h)]
def cpF (off q : Nat) (k f : Nat→AV) : Nat→AV:=fun i=>bif Nat.ble off i && Nat.blt i (off + q) then k (i - off) else f i
theorem sub_ovr_mid (xs zs : List Value) (o a n : Nat) (h : o + zs.length ≤ xs.length) (h1 : a + n ≤ zs.length) : V.sub (ovr xs o zs) (o + a) n = V.sub zs a n:=by
  apply List.ext_getElem?
  intro j
  rw [sub_get,sub_get]
  split
  · rw [ovr_get _ _ _ _ h,if_neg (by omega),if_pos (by omega)]
    congr 1;omega
  · rfl
theorem rep_cp {c : Ctx} {n q off sz : Nat} {k f : Nat→AV} {ys news : List Value} (h1 : Rep c (.arr n sz f) .C ys) (h2 : Rep c (.arr q sz k) .C news) (hoff : off + q ≤ n) : Rep c (.arr n sz (cpF off q k f)) .C (ovr ys (off * sz) news):=by
  have l1:=h1.1
  have l2:=h2.1
  have hm : off * sz + q * sz ≤ n * sz:=by rw [← Nat.add_mul];exact Nat.mul_le_mul_right _ hoff
  refine ⟨by rw [ovr_len (by omega)];exact l1,fun i hi=>?_⟩
  unfold cpF
  by_cases hc : off ≤ i∧i < off + q
  · have hb : (Nat.ble off i && Nat.blt i (off + q)) = true:=by simp [Nat.blt_eq,hc.1,hc.2]
    rw [hb,cond_true]
    have e : i * sz = off * sz + (i - off) * sz:=by rw [← Nat.add_mul];congr 1;omega
    have hm2 : (i - off) * sz + sz ≤ q * sz:=by
      have:=Nat.mul_le_mul_right sz (show i - off + 1 ≤ q by omega)
      rwa [Nat.add_mul,Nat.one_mul] at this
    rw [e,sub_ovr_mid _ _ _ _ _ (by omega) (by omega)]
    exact h2.2 _ (by omega)
  · have hb : (Nat.ble off i && Nat.blt i (off + q)) = false:=by
      cases h3 : (Nat.ble off i && Nat.blt i (off + q)) with
      | false=>rfl
      | true=>simp [Nat.blt_eq] at h3;exact absurd h3 hc
    rw [hb,cond_false,sub_ovr_out]
    · exact h1.2 i hi
    · omega
    · rcases Nat.lt_or_ge i off with h | h
      · left
        have:=Nat.mul_le_mul_right sz (show i + 1 ≤ off from h)
        rwa [Nat.add_mul,Nat.one_mul] at this
      · right
        have:=Nat.mul_le_mul_right sz (show off + q ≤ i by omega)
        rw [Nat.add_mul] at this;omega
theorem src_pre {c : Ctx} {u : AV} {v : Value} {sz m : Nat} {f : Nat→AV} {ps : List Prop} (hh : HeapRep c h) (h1 : evSrc h u = some (ps,sz,m,f)) (hp : AllP ps) (hr : Rep c u .V [v]) {tx : TypeId} {txi : TI} (hT : TIok P tx txi) (hk : srcKind u txi.kind = true) {size : Nat} (hsz : sz = size ∨ m = 0) {q : Nat} (hq : q ≤ m) :
    ∃ news,(Builtin.lenOf v).run P c.w = .ok m c.w∧(Builtin.firstCells size q v).run P c.w = .ok news.toArray c.w∧(∀ u ∈ news,u.oneCell' = true)∧Rep c (.arr q size f) .C news:=by
  obtain ⟨news0,hs0,hr0⟩:=src_ok hh h1 hp hr hT hk hsz
  have hlen:=hs0.len c.w
  have full : q = m→∃ news,(Builtin.lenOf v).run P c.w = .ok m c.w∧(Builtin.firstCells size q v).run P c.w = .ok news.toArray c.w∧(∀ u ∈ news,u.oneCell' = true)∧Rep c (.arr q size f) .C news:=fun e=>by
    subst e;exact ⟨news0,hlen,hs0.cells,hs0.one,hr0⟩
  by_cases hqm : q = m
  · exact full hqm
  have hsz' : sz = size:=by rcases hsz with h | h;exact h;omega
  have hl1:=hr0.1
  have hmm : m ≠ 0:=by omega
  have hfc : ∀ (ad : Option Addr) (a b cap : Nat),Builtin.firstCells size q (.slice ad a cap) = Builtin.firstCells size q (.slice ad b cap):=fun ad a b cap=>by cases ad <;> rfl
  cases u <;> simp only [evSrc] at h1 <;> try (cases h1;done)
  case str l =>
    obtain rfl:=rep_str hr
    simp only [Option.some.injEq,Prod.mk.injEq] at h1
    obtain ⟨_,rfl,rfl,rfl⟩:=h1
    subst hsz'
    have hc:=hs0.cells
    have hml : q * 1 ≤ news0.length:=by rw [hl1];exact Nat.mul_le_mul_right _ hq
    refine ⟨news0.take (q * 1),hlen,?_,fun u hu=>hs0.one u (List.mem_of_mem_take hu),?_,fun i hi=>?_⟩
    · simp [Builtin.firstCells] at hc ⊢
      rw [← hc]
      try simp
    · rw [List.length_take];omega
    · have e : news0.take (q * 1) = V.sub news0 0 (q * 1):=by simp [V.sub]
      rw [e,sub_sub _ _ _ _ _ (by omega),Nat.zero_add]
      exact hr0.2 i (by omega)
  case val w =>
    obtain rfl:=rep_val hr
    cases v <;> try (cases h1;done)
    rename_i ad n cap
    cases ad <;> cases n <;> simp only [Option.some.injEq,Prod.mk.injEq,reduceCtorEq] at h1
    exact absurd h1.2.2.1.symm hmm
  case emp =>
    simp only [Option.some.injEq,Prod.mk.injEq] at h1
    exact absurd h1.2.2.1.symm hmm
  case sl id p s off len =>
    cases ho : get? h id with
    | none=>simp [ho] at h1
    | some av =>
      simp only [ho] at h1
      cases hg : getp av p with
      | none=>simp [hg] at h1
      | some w =>
        cases w <;> simp only [hg,reduceCtorEq] at h1
        rename_i n s' f0
        cases hb : Nat.beq s s' with
        | false=>simp [hb] at h1
        | true =>
          have hss:=Nat.eq_of_beq_eq_true hb
          subst hss
          simp only [hb,cond_true,Option.some.injEq,Prod.mk.injEq] at h1
          obtain ⟨rfl,rfl,rfl,rfl⟩:=h1
          obtain ⟨hA,⟨hG,hz,ad,rfl⟩ | ⟨hG,o,cap,rfl,ho2,h3,h4,h5⟩⟩:=rep_sl hr
          · exact absurd hz hmm
          · obtain ⟨news,hs1,hr1⟩:=src_ok (u:=.sl id p s off q) (v:=.slice (some ⟨c.ρ id,o,none⟩) q cap) (sz:=s) (m:=q) (f:=fun i=>f0 (off + i)) (ps:=[inb av p,off + q ≤ n]) hh (by simp [evSrc,ho,hg]) (show AllP [inb av p,off + q ≤ n] from ⟨hp.1,Nat.le_trans (Nat.add_le_add_left hq _) hp.2⟩) ⟨hA,.inr ⟨hG,o,cap,rfl,ho2,by omega,h4,h5⟩⟩ hT (by cases hkk : txi.kind <;> rw [hkk] at hk <;> exact hk) (.inl hsz')
            exact ⟨news,hlen,by rw [hfc _ _ q];exact hs1.cells,hs1.one,hr1⟩
  case rsl fr n s f0 =>
    simp only [Option.some.injEq,Prod.mk.injEq] at h1
    obtain ⟨rfl,rfl,rfl,rfl⟩:=h1
    obtain ⟨ad,cap,hv,h3,h4,h5⟩:=hr
    simp only [List.cons.injEq,and_true] at hv
    subst hv
    rcases h5 with h5 | ⟨b,o,xs,rfl,hS,hB,hcl,hlx,hx⟩
    · exact absurd h5 hmm
    · have hqm2 : q * s ≤ xs.length:=by rw [hlx];exact Nat.mul_le_mul_right _ hq
      obtain ⟨news,hs1,hr1⟩:=src_ok (u:=.rsl fr q s f0) (v:=.slice (some ⟨b,o,none⟩) q cap) hh rfl trivial ⟨_,cap,rfl,by omega,h4,.inr ⟨b,o,V.sub xs 0 (q * s),rfl,hS,hB,by have:=hcl.sub 0 (q * s);simpa using this,sub_len (by omega),fun i hi=>by
        have hm : i * s + s ≤ q * s:=by
          have:=Nat.mul_le_mul_right s (show i + 1 ≤ q from hi)
          rwa [Nat.add_mul,Nat.one_mul] at this
        rw [sub_sub _ _ _ _ _ hm,Nat.zero_add]
        exact hx i (by omega)⟩⟩ hT (by cases hkk : txi.kind <;> rw [hkk] at hk <;> exact hk) (.inl hsz')
      exact ⟨news,hlen,by rw [hfc _ _ q];exact hs1.cells,hs1.one,hr1⟩
theorem copy_ok {T : List (Option TI)} (hT : TabOk P T) {t2 eT : TypeId} (hk : (tget T t).map (·.kind) = some (.slice eT)) {tie txi : TI} (hte : tget T eT = some tie) (ht2 : tget T t2 = some txi) {src av : AV} {ps : List Prop} {sz n m off len id : Nat} {f k : Nat→AV} {p : List Step}
    (hx : ev g e x = some (.sl id p tie.lay.size off len)) (hd : get? h id = some av) (hgp : getp av p = some (.arr n tie.lay.size f)) (hin : inb av p) (hoff : off + len ≤ n) (hy : ev g e y = some src) (hs : evSrc h src = some (ps,sz,m,k)) (hp : AllP ps) (hsk : srcKind src txi.kind = true) (hsz : sz = tie.lay.size ∨ m = 0) :
    OpOk P ⟨d,.call { callee:=.builtin .copy,args:=#[x,y],argTypes:=#[t,t2] },ty,pos,af,gd⟩ g e h (some (.int .i64 (Nat.min m len : Nat))) (put h id (setp av p (.arr n tie.lay.size (cpF off (Nat.min m len) k f)))) []:=by
  intro c a he hh hc _ K Q hK
  cases htt : tget T t with
  | none=>simp [htt] at hk
  | some ti =>
  simp only [htt,Option.map_some,Option.some.injEq] at hk
  have hti:=(hT _ _ htt).und
  rw [hk] at hti
  simp only [TK.fits] at hti
  have hte':=hT _ _ hte
  have hq1 : Nat.min m len ≤ m:=Nat.min_le_left _ _
  have hq2 : Nat.min m len ≤ len:=Nat.min_le_right _ _
  obtain ⟨news,s1,s2,s3,s4⟩:=src_pre (P:=P) hh hs hp (ev_rep he hy) (hT _ _ ht2) hsk hsz hq1
  have hl4:=s4.1
  obtain ⟨hA,hcase⟩:=rep_sl (ev_rep he hx)
  have hG : ¬ c.G id ∨ len = 0:=by
    rcases hcase with ⟨_,hz,_⟩ | ⟨hG,_⟩
    · exact .inr hz
    · exact .inl hG
  by_cases hGid : c.G id
  · rcases hcase with ⟨_,hz,ad,hv⟩ | ⟨hG',_⟩
    · subst hz
      have e0 : Nat.min m 0 = 0:=Nat.min_zero m
      rw [e0] at s2 hl4 hK
      have hnews : news = []:=List.length_eq_zero_iff.1 (by rw [hl4];simp)
      subst hnews
      have ef : cpF off 0 k f = f:=by
        funext i
        unfold cpF
        have : (Nat.ble off i && Nat.blt i (off + 0)) = false:=by
          cases h3 : (Nat.ble off i && Nat.blt i (off + 0)) with
          | false=>rfl
          | true=>simp [Nat.blt_eq] at h3;omega
        rw [this,cond_false]
      have hrun : (Builtin.copy_ #[t,t2] ty #[a.eval x,a.eval y]).run P c.w = .ok (.int .i64 (0 : Nat)) c.w:=by
        cases ad <;> simp [Builtin.copy_,hv,run_underlying hti,s1,hte'.run_size,s2,storeCells,goInt]
      unfold Oper.wp execOp
      simp only [resolve,invoke,builtin,Sem.run_bind,Sem.run_pure,Result.andThen_ok,List.map_toArray,List.map_cons,List.map_nil,hrun]
      refine hK c _ ((Out.refl hh hc).shrink fun j u hj=>?_) fun y hy=>by cases hy;rfl
      rw [ef,setp_self hgp,get?_put] at hj
      split at hj
      · rename_i e;subst e;rw [hd];exact hj
      · exact hj
    · exact absurd hGid hG'
  obtain ⟨cs,t0,xs,ys,hblk,rfl,hr0⟩:=(hh.obj id _ hd hGid).cells (isMo_path hgp rfl)
  obtain ⟨q1,q2⟩:=hr0.path hgp hin
  have hl1:=q1.1
  simp only [AV.size] at q1 q2 hl1
  have hmul : off * tie.lay.size + Nat.min m len * tie.lay.size ≤ n * tie.lay.size:=by rw [← Nat.add_mul];exact Nat.mul_le_mul_right _ (by omega)
  have hrun : (Builtin.copy_ #[t,t2] ty #[a.eval x,a.eval y]).run P c.w = .ok (.int .i64 (Nat.min m len : Nat)) (c.w.setRow (c.ρ id) (ovr (xs ++ ys) (pathOff p + off * tie.lay.size) news).toArray):=by
    rcases hcase with ⟨hG',_,_⟩ | ⟨_,o,cap,hv,ho2,h3,h4,h5⟩
    · exact absurd hG' hGid
    · by_cases h0 : cap = 0
      · have e0 : Nat.min m len = 0:=by omega
        have hnews : news = []:=List.length_eq_zero_iff.1 (by rw [hl4,e0];simp)
        subst hnews
        have e1 : ovr (xs ++ ys) (pathOff p + off * tie.lay.size) [] = xs ++ ys:=by simp [ovr]
        rw [e1,hblk.self]
        rw [e0] at s2 ⊢
        simp [Builtin.copy_,hv,run_underlying hti,s1,hte'.run_size,e0,s2,storeCells,goInt]
      · have ho3 : o = pathOff p + off * tie.lay.size:=by rcases ho2 with e | e;exact absurd e h0;exact e
        have hst:=run_storeBlk P (c.ρ id) o t0 news 0 (xs ++ ys) c.w hblk (by simp;omega) s3
        simp only [Nat.add_zero] at hst
        simp [Builtin.copy_,hv,run_underlying hti,s1,hte'.run_size,s2,hst,goInt,ovr,← ho3]
  have ho:=Out.write (w':=c.w.setRow (c.ρ id) (ovr (xs ++ ys) (pathOff p + off * tie.lay.size) news).toArray) (av':=setp av p (.arr n tie.lay.size (cpF off (Nat.min m len) k f))) hh hc hd hGid rfl rfl rfl (setRow_size _ _ _) (bsize_row hblk (by rw [ovr_len (by simp;omega)];exact Nat.le_refl _)) (fun b hne=>setRow_other _ _ _ _ hne) fun c' hc' hle=>by
    subst hc'
    refine .inl ⟨ovr (xs ++ ys) (pathOff p + off * tie.lay.size) news,t0,ovr xs (pathOff p + off * tie.lay.size) news,ys,hblk.row _ (by rw [ovr_len (by simp;omega)]),ovr_append_left _ _ _ _ (by omega),?_⟩
    rw [← ovr_ovr xs news (pathOff p) (n * tie.lay.size) (off * tie.lay.size) q2 (by omega)]
    exact Rep.setp hle hr0 hgp hin ((rep_cp q1 s4 (by omega)).le hle) (by rw [ovr_len (by omega),hl1];rfl)
  unfold Oper.wp execOp
  simp only [resolve,invoke,builtin,Sem.run_bind,Sem.run_pure,Result.andThen_ok,List.map_toArray,List.map_cons,List.map_nil,hrun]
  exact hK _ _ ho fun y hy=>by cases hy;rfl
def notStr : AV→Bool
  | .str _=>false
  | _=>true
theorem bytes_rd {c : Ctx} (hh : HeapRep c h) {u : AV} {v : Value} {m sz : Nat} {f : Nat→AV} {ps : List Prop} (h1 : evSrc h u = some (ps,sz,m,f)) (hp : AllP ps) (hr : Rep c u .V [v]) (hk : notStr u = true)
    {l : List UInt8} (hl : l.length = m) (hsz : sz = 1 ∨ m = 0) (hf : ∀ i,i < m→f i = .int .u8 ((l.getD i 0).toNat : Nat)) : Rd c.w c.w.heap.size v l.length (l.map fun b=>.int .u8 b.toNat):=by
  have hcells : ∀ {b o : Nat} {xs : List Value},xs.length = m * 1→CellsAt c.w b o xs→(∀ i,i < m→Rep c (f i) .C (sub xs (i * 1) 1))→∀ j u,(l.map fun b=>Value.int .u8 b.toNat)[j]? = some u→c.w.cell? ⟨b,o + j,none⟩ = some u:=by
    intro b o xs hxl hc hx j u hu
    have hj : j < l.length:=by
      rcases Nat.lt_or_ge j l.length with h1 | h1
      · exact h1
      · rw [List.getElem?_eq_none (by simpa using h1)] at hu;cases hu
    refine hc j u ?_
    have h2:=hx j (by omega)
    rw [hf j (by omega)] at h2
    have h2 : sub xs (j * 1) 1 = [.int .u8 ((l.getD j 0).toNat : Nat)]:=h2
    have h3 : (sub xs (j * 1) 1)[0]? = some u:=by
      rw [h2];simp [hj] at hu ⊢;exact hu
    rw [sub_get] at h3
    simpa using h3
  have hzero : ∀ {a : Option Addr} {cap : Nat},m = 0→m ≤ maxLen→Rd c.w c.w.heap.size (.slice a m cap) l.length (l.map fun b=>.int .u8 b.toNat):=fun {a cap} h0 _=>by
    have : l = []:=List.length_eq_zero_iff.1 (by omega)
    subst this
    subst h0
    exact ⟨a,cap,rfl,by simp,fun h=>absurd rfl h⟩
  cases u <;> simp only [evSrc] at h1 <;> try (cases h1;done)
  case str=>cases hk
  case val w =>
    obtain rfl:=rep_val hr
    cases v <;> try (cases h1;done)
    rename_i ad n cap
    cases ad <;> cases n <;> simp only [Option.some.injEq,Prod.mk.injEq,reduceCtorEq] at h1
    obtain ⟨rfl,rfl,rfl,rfl⟩:=h1
    exact hzero rfl (by unfold maxLen;omega)
  case emp =>
    simp only [Option.some.injEq,Prod.mk.injEq] at h1
    obtain ⟨rfl,rfl,rfl,rfl⟩:=h1
    obtain ⟨ad,hv⟩:=hr
    simp only [List.cons.injEq,and_true] at hv
    subst hv
    exact hzero rfl (by unfold maxLen;omega)
  case sl id p s off len =>
    cases ho : get? h id with
    | none=>simp [ho] at h1
    | some av =>
      simp only [ho] at h1
      cases hg : getp av p with
      | none=>simp [hg] at h1
      | some q =>
        cases q <;> simp only [hg,reduceCtorEq] at h1
        rename_i n s' f0
        cases hb : Nat.beq s s' with
        | false=>simp [hb] at h1
        | true =>
          have hss:=Nat.eq_of_beq_eq_true hb
          subst hss
          simp only [hb,cond_true,Option.some.injEq,Prod.mk.injEq] at h1
          obtain ⟨rfl,rfl,rfl,rfl⟩:=h1
          obtain ⟨hA,⟨hG,hz,ad,rfl⟩ | ⟨hG,o,cap,rfl,ho2,h3,h4,h5⟩⟩:=rep_sl hr
          · subst hz;exact hzero rfl (by unfold maxLen;omega)
          · rcases hsz with rfl | h0
            · by_cases h0 : len = 0
              · subst h0;exact hzero rfl (by unfold maxLen;omega)
              obtain ⟨xs,q1,q3,q4⟩:=(hh.obj id av ho hG).path hg hp.1 rfl
              have hle : off + len ≤ n:=hp.2
              have ho3 : o = pathOff p + off * 1:=by rcases ho2 with e | e;omega;exact e
              rw [hl]
              refine ⟨_,cap,rfl,by omega,fun _=>⟨c.ρ id,o,rfl,(hh.obj id av ho hG).lt,hcells (xs:=sub xs (off * 1) (len * 1)) (sub_len (by omega)) (by rw [ho3];exact q1.sub _ _) fun i hi=>?_⟩⟩
              rw [sub_sub _ _ _ _ _ (by omega),← Nat.add_mul]
              exact q4 _ (by omega)
            · subst h0;exact hzero rfl (by omega)
  case rsl fr n s f0 =>
    simp only [Option.some.injEq,Prod.mk.injEq] at h1
    obtain ⟨rfl,rfl,rfl,rfl⟩:=h1
    obtain ⟨ad,cap,hv,h3,h4,h5⟩:=hr
    simp only [List.cons.injEq,and_true] at hv
    subst hv
    rcases h5 with h5 | ⟨b,o,xs,rfl,hS,hB,hcl,hlx,hx⟩
    · exact hzero h5 (by omega)
    · rcases hsz with rfl | h0
      · rw [hl]
        refine ⟨_,cap,rfl,by omega,fun hne=>⟨b,o,rfl,?_,hcells hlx hcl hx⟩⟩
        have hn0 : 0 < l.length:=by
          rcases Nat.eq_zero_or_pos l.length with e | e
          · rw [List.length_eq_zero_iff.1 e] at hne;exact absurd rfl hne
          · exact e
        have:=hcl 0 (xs[0]'(by omega)) (List.getElem?_eq_getElem _)
        rcases Nat.lt_or_ge b c.w.heap.size with hb | hb
        · exact hb
        · simp [World.cell?,Array.getElem?_eq_none hb] at this
      · exact hzero h0 (by omega)
theorem toStr_ok {T : List (Option TI)} (hT : TabOk P T) {src dst eT : TypeId} (h1 : (tget T src).map (·.kind) = some (.slice eT)) (h2 : (tget T dst).map (·.kind) = some .str) (h3 : (tget T eT).map (·.kind) = some (.int .u8)) {u : AV} {m sz : Nat} {f : Nat→AV} {ps : List Prop}
    (hx : ev g e x = some u) (hs : evSrc h u = some (ps,sz,m,f)) (hp : AllP ps) (hk : notStr u = true) (hsz : sz = 1 ∨ m = 0) (l : List UInt8) (hl : l.length = m) (hf : ∀ i,i < m→f i = .int .u8 ((l.getD i 0).toNat : Nat)) :
    OpOk P ⟨d,.convert src dst x,ty,pos,af,gd⟩ g e h (some (.str l)) h []:=by
  have get : ∀ {t : TypeId} {k : TK},(tget T t).map (·.kind) = some k→k.fits (P.underlying t):=fun {t k} hk=>by
    cases hq : tget T t with
    | none=>simp [hq] at hk
    | some ti=>simp [hq] at hk;have:=(hT _ _ hq).und;rwa [hk] at this
  have g1:=get h1
  have g2:=get h2
  have g3:=get h3
  simp only [TK.fits] at g1 g2 g3
  refine OpOk.val fun c a he hh hc=>⟨.string ⟨l.toArray⟩,?_,rfl⟩
  have:=conv_string (P:=P) (src:=src) (dst:=dst) g1 g3 g2 (bytes_rd hh hs hp (ev_rep he hx) hk hl hsz hf)
  simp only [execOp,Sem.run_bind,this,Result.andThen_ok,Sem.run_pure]
end
end Go.V
namespace Go.V
open Go.RowKit Go.L
def oList (O : Oper→Act→World→(Act→World→Prop)→(Exit→Act→World→Prop)→Prop) (ops : Array Oper) (Q : Exit→Act→World→Prop) : List Oper→Act→World→Prop
  | [],a,w=>Q .normal a w
  | o::rest,a,w=>if Region.wanted o (yielded ops a.tmps) then O o a w (oList O ops Q rest) Q else oList O ops Q rest (a.put o.dst undef) w
def notDef (o : Oper) : Bool:=match o.op with
  | .defer _=>false
  | _=>true
theorem notDef_ok {o : Oper} (h : notDef o = true) : ∀ c,o.op ≠ .defer c:=fun c e=>by
  unfold notDef at h;rw [e] at h;cases h
structure Laws (P : Program) where
  top : Bool
  O : Oper→Act→World→(Act→World→Prop)→(Exit→Act→World→Prop)→Prop
  W : Code→(Exit→Act→World→Prop)→Act→World→Prop
  op : ∀ {o : Oper} {a : Act} {w : World} {K : Act→World→Prop} {Q : Exit→Act→World→Prop},(top || notDef o) = true→o.wp P a w K Q→O o a w K Q
  list : ∀ {id : Nat} {l : List Oper} {Q : Exit→Act→World→Prop} {a : Act} {w : World},oList O l.toArray Q l a w→W (.region id l.toArray false) Q a w
  any : ∀ {id : Nat} {ops : Array Oper} {Q : Exit→Act→World→Prop} {a : Act} {w : World},P.follows .mixedOrders = true→(top || ops.toList.all notDef) = true→wpAny P .any ops Q ops.size (Array.replicate ops.size false) a { w with drawn:=w.drawn + 1 }→W (.region id ops true) Q a w
  skip : ∀ {Q : Exit→Act→World→Prop} {a : Act} {w : World},Q .normal a w→W .skip Q a w
  exit : ∀ {id : Nat} {Q : Exit→Act→World→Prop} {a : Act} {w : World},Q (.exit id) a w→W (.exit id) Q a w
  ret : ∀ {Q : Exit→Act→World→Prop} {a : Act} {w : World},Q .ret a w→W .ret Q a w
  seq : ∀ {x y : Code} {Q : Exit→Act→World→Prop} {a : Act} {w : World},W x (Exit.then (W y Q) Q) a w→W (.seq x y) Q a w
  block : ∀ {id : Nat} {x : Code} {Q : Exit→Act→World→Prop} {a : Act} {w : World},W x (Exit.inBlock id Q) a w→W (.block id x) Q a w
  cond : ∀ {c : Operand} {x y : Code} {t : Bool} {Q : Exit→Act→World→Prop} {a : Act} {w : World},a.eval c = .bool t→(t = true→W x Q a w)→(t = false→W y Q a w)→W (.cond c x y) Q a w
  loop : ∀ {x : Code} {Q : Exit→Act→World→Prop} {a : Act} {w : World} (I : Act→World→Prop) (μ : Act→World→Nat),I a w→(∀ a w,I a w→W x (Exit.then (fun a' w'=>I a' w'∧μ a' w' < μ a w) Q) a w)→W (.loop x) Q a w
theorem wp_in {P : Program} {F : Fence} (hF : ∀ f,F.fn f) (hd : F.depth = none) {o : Oper} (hdef : F.round = none ∨ notDef o = true) {a : Act} {w : World} {K : Act→World→Prop} {Q : Exit→Act→World→Prop} (hw : ∀ {f : FuncId} {args : Array Value} {w : World} {R : Ending→World→Prop},Calls P f args w R→CallsIn F (0 - 1) P f args w R)
    (hr : ∀ {row : String} {args : Array Value} {w : World} {R : Value→World→Prop},Rows P row args w R→RowsIn F (0 - 1) P row args w R) (h : o.wp P a w K Q) : o.wpIn F 0 P a w K Q:=by
  refine ⟨fun f _=>hF f,?_⟩
  rw [show o.semAt F.round a.eval = execOp a.eval o from by
    rcases hdef with e | e
    · rw [e];rfl
    · exact Oper.semAt_eq _ _ _ (notDef_ok e)]
  unfold Oper.wp at h
  generalize (execOp a.eval o).run P w = r at *
  have hn : F.depth.isSome = true→1 ≤ 0:=fun e=>by rw [hd] at e;cases e
  cases r with
  | ok n w' =>
    cases n <;> first | exact h | exact ⟨hn,hw h⟩ | exact ⟨hn,hr h⟩ | exact h.elim
  | halt x w'=>cases x <;> first | exact h | exact h.elim
theorem oList_in {P : Program} {F : Fence} (hF : ∀ f,F.fn f) {ops : Array Oper} {Q : Exit→Act→World→Prop} : ∀ {l : List Oper} {a : Act} {w : World},oList (fun o a w K Q=>o.wpIn F 0 P a w K Q) ops Q l a w→wpListIn F 0 P ops Q l a w
  | [],_,_,h=>h
  | o :: r,a,w,h=>by
    unfold oList at h
    unfold wpListIn
    split at h
    · rename_i hw
      rw [if_pos hw]
      exact Oper.wpIn_mono (fun a w hk=>oList_in hF hk) h
    · rename_i hw
      rw [if_neg hw]
      exact ⟨fun f _=>hF f,oList_in hF h⟩
theorem rows_wide {n : Nat} {P : Program} {row : String} {args : Array Value} {w : World} {R : Value→World→Prop} (h : Rows P row args w R) : RowsIn Fence.wide n P row args w R:=fun c cs _=>by
  obtain ⟨v,w',r,s⟩:=h c cs
  exact ⟨v,w',r,stepsIn_wide.2 s⟩
def Laws.plain (P : Program) : Laws P where
  top:=true
  O:=fun o a w K Q=>o.wpIn Fence.wide 0 P a w K Q
  W:=fun c Q a w=>c.wp P Q a w
  op:=fun _ h=>wp_in (fun _=>trivial) rfl (.inl rfl) (fun h=>callsIn_wide.2 h) rows_wide h
  list:=fun h=>wpIn_wide.1 (wpIn_region_lit (oList_in (fun _=>trivial) h))
  any:=fun hm _ h=>wp_region_any hm h
  skip:=wp_skip
  exit:=wp_exit
  ret:=wp_ret
  seq:=wp_seq
  block:=wp_block
  cond:=wp_cond_split
  loop:=wp_loop
structure Fr where
  P : Program
  c0 : Ctx
  h0 : Asc
  n : Nat
  N0 : Nat
  D : List Deferred
  L : Laws P:=.plain P
def Sim (F : Fr) (s : St) (a : Act) (w : World) : Prop :=
  ∃ c ns,c.w = w∧Out F.c0 F.h0 s.h ns c∧EnvRep c s.g s.e a∧(∀ i,c.A i→i < s.N)∧a.tmps.size = F.n∧a.defers = F.D∧(∀ i,F.c0.A i→i < F.N0)∧∀ x v,get? s.g x = some v→Rep F.c0 (.rptr false v) .V [.pointer (some ⟨x,0,none⟩)]
def wants (ops : Array Oper) (o : Oper) (e : Asc) : Option Bool:=match o.guard with
  | none=>some true
  | some (j,want)=>match (ops[j]?).bind (·.dst) with
    | some d=>match get? e d with
      | some (.bool b)=>match b,want with
        | true,true=>some true
        | false,false=>some true
        | true,false=>some false
        | false,true=>some false
      | some (.val (.tuple _))=>some false
      | _=>none
    | none=>none
def dstB (n : Nat) : Option Tmp→Bool
  | none=>true
  | some d=>Nat.blt d n
theorem wants_ok {F : Fr} {s : St} {a : Act} {w : World} {ops : Array Oper} {o : Oper} {b : Bool} (hs : Sim F s a w) (h : wants ops o s.e = some b) : Region.wanted o (yielded ops a.tmps) = b:=by
  obtain ⟨c,ns,_,_,he,_⟩:=hs
  unfold wants at h
  cases hg : o.guard with
  | none=>simp only [hg,Option.some.injEq] at h;subst h;simp [Region.wanted,hg]
  | some p =>
    obtain ⟨j,want⟩:=p
    simp only [hg] at h
    cases hd : (ops[j]?).bind (·.dst) with
    | none=>simp [hd] at h
    | some d =>
      simp only [hd] at h
      cases hq : get? s.e d with
      | none=>simp [hq] at h
      | some u =>
        cases u <;> simp only [hq,reduceCtorEq] at h
        · rename_i q
          obtain ⟨h1,h2⟩:=he.slot d _ hq
          have h2:=rep_bool h2
          have hy : yielded ops a.tmps j = some q:=by
            unfold yielded
            rw [hd]
            have : a.tmps[d]? = some (.bool q):=by
              rw [Array.getElem?_eq_getElem h1]
              simp [h1] at h2
              rw [h2]
            simp [this]
          simp only [Region.wanted,hg,hy]
          cases q <;> cases want <;> simp at h <;> subst h <;> rfl
        · rename_i v
          cases v <;> simp only [reduceCtorEq] at h
          rename_i t
          obtain ⟨h1,h2⟩:=he.slot d _ hq
          have h2:=rep_val h2
          have hy : yielded ops a.tmps j = none:=by
            unfold yielded
            rw [hd]
            have : a.tmps[d]? = some (.tuple t):=by
              rw [Array.getElem?_eq_getElem h1]
              simp [h1] at h2
              rw [h2]
            simp [this]
          simp only [Region.wanted,hg,hy]
          cases h
          rfl
def OpTo (F : Fr) (o : Oper) (s : St) (S' : St→Prop) : Prop:=∀ a w,Sim F s a w→∀ (K : Act→World→Prop) (Q : Exit→Act→World→Prop),(∀ s' a' w',S' s'→Sim F s' a' w'→K a' w')→o.wp F.P a w K Q
inductive Seq (F : Fr) (ops : Array Oper) : List Oper→St→(St→Prop)→Prop
  | nil {s : St} {K : St→Prop} : K s→Seq F ops [] s K
  | step {o : Oper} {l : List Oper} {s : St} {K : St→Prop} {v : Option AV} {h' : Asc} {ns : List Nat} (N' : Nat) (hw : wants ops o s.e = some true) (ok : OpOk F.P o s.g s.e s.h v h' ns) (hn : ∀ n ∈ ns,s.N ≤ n∧n < N') (hN : s.N ≤ N') (hd : dstB F.n o.dst = true) :
      Seq F ops l ⟨putd s.e o.dst v,h',s.g,N'⟩ K→Seq F ops (o::l) s K
  | skip {o : Oper} {l : List Oper} {s : St} {K : St→Prop} (hw : wants ops o s.e = some false) (hd : dstB F.n o.dst = true) : Seq F ops l ⟨putd s.e o.dst (some (.val undef)),s.h,s.g,s.N⟩ K→Seq F ops (o::l) s K
  | to {o : Oper} {l : List Oper} {s : St} {K : St→Prop} (S' : St→Prop) (hw : wants ops o s.e = some true) (ok : OpTo F o s S') : (∀ s',S' s'→Seq F ops l s' K)→Seq F ops (o::l) s K
  | conv {l : List Oper} {s s' : St} {K : St→Prop} (h : ∀ a w,Sim F s a w→Sim F s' a w) : Seq F ops l s' K→Seq F ops l s K
theorem put_size (a : Act) (d : Option Tmp) (v : Value) : (a.put d v).tmps.size = a.tmps.size:=by cases d <;> simp [Act.put]
theorem put_defers (a : Act) (d : Option Tmp) (v : Value) : (a.put d v).defers = a.defers:=by cases d <;> simp [Act.put]
theorem dst_lt {n : Nat} {d : Option Tmp} (h : dstB n d = true) : ∀ k,d = some k→k < n:=fun k hk=>by
  subst hk;simpa [dstB,Nat.blt_eq] using h
theorem step_wp {F : Fr} {ops : Array Oper} {o : Oper} {s : St} {v : Option AV} {h' : Asc} {ns : List Nat} {N' : Nat} (ok : OpOk F.P o s.g s.e s.h v h' ns) (hn : ∀ n ∈ ns,s.N ≤ n∧n < N') (hN : s.N ≤ N') (hd : dstB F.n o.dst = true) {a : Act} {w : World} (hs : Sim F s a w)
    {K : Act→World→Prop} {Q : Exit→Act→World→Prop} (hK : ∀ a' w',Sim F ⟨putd s.e o.dst v,h',s.g,N'⟩ a' w'→K a' w') : o.wp F.P a w K Q:=by
  obtain ⟨c,ms,rfl,hout,he,hb,hsz,hdf,hN0⟩:=hs
  refine ok c a he hout.heap hout.ok (fun n hn' hA=>?_) K Q fun c' v' ho hv=>hK _ _ ⟨c',ms ++ ns,rfl,hout.trans ho,?_,fun i hi=>?_,by rw [put_size];exact hsz,by rw [put_defers];exact hdf,hN0⟩
  · have h1:=(hn n hn').1
    have h2:=hb n hA
    omega
  · exact (he.le ho.le).putd hv (fun k hk=>by rw [hsz];exact dst_lt hd k hk)
  · show i < N'
    rcases ho.A i hi with h1 | h1
    · have:=hb i h1;omega
    · exact (hn i h1).2
theorem skip_sim {F : Fr} {o : Oper} {s : St} (hd : dstB F.n o.dst = true) {a : Act} {w : World} (hs : Sim F s a w) : Sim F ⟨putd s.e o.dst (some (.val undef)),s.h,s.g,s.N⟩ (a.put o.dst undef) w:=by
  obtain ⟨c,ms,rfl,hout,he,hb,hsz,hdf,hN0⟩:=hs
  exact ⟨c,ms,rfl,hout,he.putd (fun y hy=>by cases hy;exact ⟨rfl,trivial⟩) (fun k hk=>by rw [hsz];exact dst_lt hd k hk),hb,by rw [put_size];exact hsz,by rw [put_defers];exact hdf,hN0⟩
theorem all_cons {t : Bool} {p : Oper→Bool} {o : Oper} {l : List Oper} (h : (t || (o::l).all p) = true) : (t || p o) = true∧(t || l.all p) = true:=by
  cases t
  · simp only [Bool.false_or,List.all_cons,Bool.and_eq_true] at h ⊢;exact h
  · exact ⟨rfl,rfl⟩
theorem Seq.wpO {F : Fr} {ops : Array Oper} {l : List Oper} {s : St} {K : St→Prop} (h : Seq F ops l s K) {Q : Exit→Act→World→Prop} (hQ : ∀ s' a w,K s'→Sim F s' a w→Q .normal a w) : (F.L.top || l.all notDef) = true→∀ a w,Sim F s a w→oList F.L.O ops Q l a w:=by
  induction h with
  | nil hk=>intro hd a w hs;exact hQ _ a w hk hs
  | step N' hw ok hn hN hdd _ ih =>
    intro hd a w hs
    unfold oList
    rw [if_pos (wants_ok hs hw)]
    exact F.L.op (all_cons hd).1 (step_wp (ops:=ops) ok hn hN hdd hs fun a' w' hs'=>ih hQ (all_cons hd).2 a' w' hs')
  | skip hw hdd _ ih =>
    intro hd a w hs
    unfold oList
    rw [if_neg (by rw [wants_ok hs hw];simp)]
    exact ih hQ (all_cons hd).2 _ _ (skip_sim hdd hs)
  | to S' hw ok _ ih =>
    intro hd a w hs
    unfold oList
    rw [if_pos (wants_ok hs hw)]
    exact F.L.op (all_cons hd).1 (ok a w hs _ _ fun s' a' w' hs' hsim=>ih s' hs' hQ (all_cons hd).2 a' w' hsim)
  | conv h _ ih=>intro hd a w hs;exact ih hQ hd a w (h a w hs)
def VC (F : Fr) (c : Code) (Q : Exit→St→Prop) (s : St) : Prop:=∀ a w,Sim F s a w→∀ QC : Exit→Act→World→Prop,(∀ e s' a' w',Q e s'→Sim F s' a' w'→QC e a' w')→F.L.W c QC a w
def thenQ (K : St→Prop) (Q : Exit→St→Prop) : Exit→St→Prop
  | .normal,s=>K s
  | e,s=>Q e s
def inQ (id : Nat) (Q : Exit→St→Prop) : Exit→St→Prop
  | .exit id',s=>bif Nat.beq id' id then Q .normal s else Q (.exit id') s
  | e,s=>Q e s
section
variable {F : Fr} {Q : Exit→St→Prop} {s : St}
theorem VC.skip (h : Q .normal s) : VC F .skip Q s:=fun a w hs QC hQ=>F.L.skip (hQ _ _ _ _ h hs)
theorem VC.exit {id : Nat} (h : Q (.exit id) s) : VC F (.exit id) Q s:=fun a w hs QC hQ=>F.L.exit (hQ _ _ _ _ h hs)
theorem VC.ret (h : Q .ret s) : VC F .ret Q s:=fun a w hs QC hQ=>F.L.ret (hQ _ _ _ _ h hs)
theorem VC.seq {x y : Code} (h : VC F x (thenQ (VC F y Q) Q) s) : VC F (.seq x y) Q s:=fun a w hs QC hQ=>F.L.seq (h a w hs _ fun e s' a' w' hq hs'=>by
  cases e <;> first | exact hq a' w' hs' QC hQ | exact hQ _ _ _ _ hq hs')
theorem VC.block {id : Nat} {x : Code} (h : VC F x (inQ id Q) s) : VC F (.block id x) Q s:=fun a w hs QC hQ=>F.L.block (h a w hs _ fun e s' a' w' hq hs'=>by
  cases e <;> first | exact hQ _ _ _ _ hq hs' | skip
  rename_i id'
  unfold inQ at hq
  by_cases hid : id' = id
  · subst hid
    simp only [Nat.beq_refl,cond_true] at hq
    show (if id' = id' then QC .normal a' w' else _)
    rw [if_pos rfl]
    exact hQ _ _ _ _ hq hs'
  · simp only [beq_ne hid,cond_false] at hq
    show (if id' = id then QC .normal a' w' else _)
    rw [if_neg hid]
    exact hQ _ _ _ _ hq hs')
theorem VC.cond {x : Operand} {y z : Code} {b : Bool} (hx : ev s.g s.e x = some (.bool b)) (h1 : b = true→VC F y Q s) (h2 : b = false→VC F z Q s) : VC F (.cond x y z) Q s:=fun a w hs QC hQ=>by
  obtain ⟨c,ms,hw,hout,he,r⟩:=id hs
  refine F.L.cond (rep_bool (ev_rep he hx)) (fun hb=>h1 hb a w hs QC hQ) (fun hb=>h2 hb a w hs QC hQ)
theorem VC.conv {x : Code} {s' : St} (h : ∀ a w,Sim F s a w→Sim F s' a w) (h1 : VC F x Q s') : VC F x Q s:=fun a w hs QC hQ=>h1 a w (h a w hs) QC hQ
theorem VC.region {id : Nat} {l : List Oper} (h : Seq F l.toArray l s (Q .normal)) (hd : (F.L.top || l.all notDef) = true:=by with_unfolding_all rfl) : VC F (.region id l.toArray false) Q s:=fun a w hs QC hQ=>F.L.list (h.wpO (fun s' a' w' hk hs'=>hQ _ _ _ _ hk hs') hd a w hs)
theorem VC.loop {X : Type} {x : Code} (I : X→St) (J : X→Prop) (μ : X→Nat) (x0 : X) (h0 : J x0) (hs : ∀ a w,Sim F s a w→Sim F (I x0) a w)
    (h : ∀ x',J x'→VC F x (thenQ (fun s'=>∃ y,J y∧μ y < μ x'∧∀ a w,Sim F s' a w→Sim F (I y) a w) Q) (I x')) : VC F (.loop x) Q s:=by
  intro a w hsm QC hQ
  let M : Act→World→Nat→Prop:=fun a w n=>∃ y,J y∧μ y = n∧Sim F (I y) a w
  have hM : ∀ a w,(∃ n,M a w n)→∃ n,M a w n∧∀ m,M a w m→n ≤ m:=fun a w ⟨n,hn⟩=>by
    induction n using Nat.strongRecOn with
    | _ n ih =>
      by_cases hlt : ∃ m,m < n∧M a w m
      · obtain ⟨m,hm,hm'⟩:=hlt;exact ih m hm hm'
      · exact ⟨n,hn,fun m hm=>Nat.le_of_not_lt fun hc=>hlt ⟨m,hc,hm⟩⟩
  let ν : Act→World→Nat:=fun a w=>open Classical in if h : ∃ n,M a w n then Classical.choose (hM a w h) else 0
  have hν : ∀ a w,(∃ n,M a w n)→M a w (ν a w)∧∀ m,M a w m→ν a w ≤ m:=fun a w h=>by
    have : ν a w = Classical.choose (hM a w h):=dif_pos h
    rw [this];exact Classical.choose_spec (hM a w h)
  refine F.L.loop (fun a w=>∃ n,M a w n) ν ⟨μ x0,x0,h0,rfl,hs a w hsm⟩ fun a w hI=>?_
  obtain ⟨⟨x1,hJ,hμ,hs1⟩,_⟩:=hν a w hI
  refine h x1 hJ a w hs1 _ fun e s' a' w' hq hs'=>?_
  cases e
  case normal =>
    obtain ⟨y,hy,hlt,hsy⟩:=hq
    have hM' : M a' w' (μ y):=⟨y,hy,rfl,hsy a' w' hs'⟩
    refine ⟨⟨_,hM'⟩,?_⟩
    have:=(hν a' w' ⟨_,hM'⟩).2 _ hM'
    omega
  all_goals exact hQ _ _ _ _ hq hs'
end
def Ok (P : Program) (f : FuncId) (g h : Asc) (args : AV) (R : AV→Asc→Prop) : Prop :=
  ∀ c,(∀ x v,get? g x = some v→Rep c (.rptr false v) .V [.pointer (some ⟨x,0,none⟩)])→HeapRep c h→CtxOk c→c.B = c.w.heap.size→(∀ i,c.A i→∃ av,get? h i = some av)→∀ vs,Rep c args .T vs →
    Calls P f vs.toArray c.w fun e w'=>∃ c' v r h' ns,e = .returned v∧c'.w = w'∧Out c h h' ns c'∧Rep c' r .V [v]∧R r h'
def envOf : AV→Nat→Asc
  | .pair a b,k=>(k,a)::envOf b (k + 1)
  | _,_=>[]
def chainLen : AV→Nat
  | .pair _ b=>chainLen b + 1
  | _=>0
def isChain : AV→Bool
  | .pair _ b=>isChain b
  | .nul=>true
  | _=>false
theorem env_of {c : Ctx} : ∀ {a : AV} {k t : Nat} {v : AV} {vs : List Value},Rep c a .T vs→get? (envOf a k) t = some v→k ≤ t∧∃ u,vs[t - k]? = some u∧Rep c v .V [u]:=by
  intro a
  induction a with
  | pair a b _ ihb =>
    intro k t v vs h ht
    obtain ⟨x,y,rfl,h1,h2⟩:=h
    simp only [envOf,get?_cons] at ht
    by_cases e : k = t
    · subst e
      simp only [if_true,Option.some.injEq] at ht
      subst ht
      exact ⟨Nat.le_refl _,x,by simp,h1⟩
    · rw [if_neg e] at ht
      obtain ⟨q1,u,q2,q3⟩:=ihb h2 ht
      refine ⟨by omega,u,?_,q3⟩
      rw [show t - k = (t - (k + 1)) + 1 by omega]
      simpa using q2
  | int | bool | str | val | emp | nul | arr | ptr | sl | rsl | rptr | tup | fn | ifc | mp | mo | ob=>intro k t v vs h ht;simp [envOf,get?] at ht
theorem chain_len {c : Ctx} : ∀ {a : AV} {vs : List Value},isChain a = true→Rep c a .T vs→vs.length = chainLen a:=by
  intro a
  induction a with
  | pair a b _ ihb =>
    intro vs hc h
    obtain ⟨x,y,rfl,h1,h2⟩:=h
    simp [chainLen,ihb hc h2]
  | nul=>intro vs _ h;have h : vs = []:=h;subst h;rfl
  | int | bool | str | val | emp | arr | ptr | sl | rsl | rptr | tup | fn | ifc | mp | mo | ob=>intro vs hc;cases hc
def resOne (T : List (Option TI)) (s : St) : ResultVar→Option AV
  | .tmp t=>get? s.e t
  | .cell a t=>match get? s.e a,tget T t with
    | some (.ptr id p),some ti=>match get? s.h id with
      | some av=>match getp av p with
        | some u=>match p with
          | []=>bif (match u.isAgg,ti.kind.agg with | true,true=>true | false,false=>true | _,_=>false) && (!u.isMo && Nat.beq u.size ti.lay.size) then some u else none
          | _=>none
        | none=>none
      | none=>none
    | _,_=>none
def resChain (T : List (Option TI)) (s : St) : List ResultVar→Option AV
  | []=>some .nul
  | r::l=>match resOne T s r,resChain T s l with
    | some a,some b=>some (.pair a b)
    | _,_=>none
def resAV (T : List (Option TI)) (s : St) : List ResultVar→Option AV
  | [r]=>resOne T s r
  | l=>match resChain T s l with
    | some a=>some (.tup a)
    | none=>none
def resRun (tmps : Array Value) : ResultVar→Sem Value
  | .tmp t=>pure (tmps.getD t undef)
  | .cell x t=>do loadVar t (← asAddr (tmps.getD x undef))
theorem resOne_ok {P : Program} {T : List (Option TI)} (hT : TabOk P T) {s : St} {c : Ctx} {a : Act} (he : EnvRep c s.g s.e a) (hh : HeapRep c s.h) {r : ResultVar} {u : AV} (h : resOne T s r = some u) :
    ∃ v,(resRun a.tmps r).run P c.w = .ok v c.w∧Rep c u .V [v]:=by
  cases r with
  | tmp t=>exact ⟨_,rfl,(he.slot t u h).2⟩
  | cell x t =>
    simp only [resOne] at h
    cases hx : get? s.e x with
    | none=>simp [hx] at h
    | some q =>
      cases q <;> simp only [hx,reduceCtorEq] at h
      rename_i id p
      cases ht : tget T t with
      | none=>simp [ht] at h
      | some ti =>
        simp only [ht] at h
        cases ho : get? s.h id with
        | none=>simp [ho] at h
        | some av =>
          simp only [ho] at h
          cases hg : getp av p with
          | none=>simp [hg] at h
          | some u' =>
            simp only [hg] at h
            cases p with
            | cons=>simp at h
            | nil =>
              have h : (bif (match u'.isAgg,ti.kind.agg with | true,true=>true | false,false=>true | _,_=>false) && (!u'.isMo && Nat.beq u'.size ti.lay.size) then some u' else none) = some u:=h
              cases hb : ((match u'.isAgg,ti.kind.agg with | true,true=>true | false,false=>true | _,_=>false) && (!u'.isMo && Nat.beq u'.size ti.lay.size)) with
              | false=>rw [hb] at h;cases h
              | true =>
                rw [hb] at h
                simp only [cond_true,Option.some.injEq] at h
                subst h
                simp only [Bool.and_eq_true] at hb
                have hag : u'.isAgg = ti.kind.agg:=by
                  have h1:=hb.1
                  cases hq : u'.isAgg <;> cases hq2 : ti.kind.agg <;> simp [hq,hq2] at h1 <;> rfl
                have hsz:=Nat.eq_of_beq_eq_true hb.2.2
                have hmo : u'.isMo = false:=by simpa using hb.2.1
                obtain ⟨_,hr⟩:=he.slot x _ hx
                obtain ⟨_,hG,hv⟩:=rep_ptr hr
                obtain ⟨xs,h1,h2⟩:=(hh.obj id av ho hG).path hg trivial hmo
                obtain ⟨v,q1,q2⟩:=run_loadRep (P:=P) (hT _ _ ht) h1 h2 hag hsz
                refine ⟨v,?_,q2⟩
                simp only [resRun,hv,asAddr,Sem.run_bind,Sem.run_pure,Result.andThen_ok,q1]
theorem resChain_ok {P : Program} {T : List (Option TI)} (hT : TabOk P T) {s : St} {c : Ctx} {a : Act} (he : EnvRep c s.g s.e a) (hh : HeapRep c s.h) : ∀ {l : List ResultVar} {u : AV},resChain T s l = some u →
    ∃ vs,(l.mapM (resRun a.tmps)).run P c.w = .ok vs c.w∧Rep c u .T vs∧vs.length = l.length
  | [],u,h=>by simp only [resChain,Option.some.injEq] at h;subst h;exact ⟨[],by simp,rfl,rfl⟩
  | r :: l,u,h=>by
    simp only [resChain] at h
    cases h1 : resOne T s r with
    | none=>simp [h1] at h
    | some x =>
      cases h2 : resChain T s l with
      | none=>simp [h1,h2] at h
      | some y =>
        simp only [h1,h2,Option.some.injEq] at h
        subst h
        obtain ⟨v,q1,q2⟩:=resOne_ok hT he hh h1
        obtain ⟨vs,q3,q4,q5⟩:=resChain_ok hT he hh h2
        refine ⟨v::vs,?_,⟨v,vs,rfl,q2,q4⟩,by simp [q5]⟩
        rw [List.mapM_cons]
        simp [q1,q3]
theorem results_eq (fn : Func) (tmps : Array Value) : results fn tmps = (do let vs ← fn.results.mapM (resRun tmps);pure (if h : vs.size = 1 then vs[0] else .tuple vs)):=by
  unfold results
  congr 1
theorem res_ok {P : Program} {T : List (Option TI)} (hT : TabOk P T) {s : St} {c : Ctx} {a : Act} (he : EnvRep c s.g s.e a) (hh : HeapRep c s.h) {fn : Func} {u : AV} (h : resAV T s fn.results.toList = some u) : ∃ v,(results fn a.tmps).run P c.w = .ok v c.w∧Rep c u .V [v]:=by
  rw [results_eq]
  simp only [Array.mapM_eq_mapM_toList]
  generalize fn.results.toList = l at *
  match l,h with
  | [r],h =>
    obtain ⟨v,q1,q2⟩:=resOne_ok hT he hh (show resOne T s r = some u from h)
    exact ⟨v,by simp [q1],q2⟩
  | [],h =>
    simp only [resAV,resChain,Option.some.injEq] at h
    subst h
    exact ⟨.tuple #[],by simp,[],rfl,rfl⟩
  | r :: r'::l,h =>
    have h' : (match resChain T s (r::r'::l) with | some a=>some (AV.tup a) | none=>none) = some u:=h
    cases h2 : resChain T s (r::r'::l) with
    | none=>simp [h2] at h'
    | some y =>
      simp only [h2,Option.some.injEq] at h'
      subst h'
      obtain ⟨vs,q3,q4,q5⟩:=resChain_ok hT he hh h2
      refine ⟨.tuple vs.toArray,?_,vs,rfl,q4⟩
      have : ¬ vs.length = 1:=by rw [q5];simp
      simp [-List.mapM_cons,q3,this]
def retQ (T : List (Option TI)) (fn : Func) (R : AV→Asc→Prop) (e : Exit) (s : St) : Prop:=(match e with | .ret | .normal=>True | _=>False)∧∃ r h',resAV T s fn.results.toList = some r∧(∀ id av,get? h' id = some av→get? s.h id = some av)∧R r h'
theorem Ok.of_vc {P : Program} {T : List (Option TI)} (hT : TabOk P T) {f : FuncId} {fn : Func} {code : Code} {g h : Asc} {args : AV} {R : AV→Asc→Prop} (hf : P.funcs[f]? = some fn) (hb : fn.body = some code) (hch : isChain args = true) (hn : chainLen args ≤ fn.ntmps) (N : Nat) (hN : ∀ i av,get? h i = some av→i < N)
    (hvc : ∀ c0 : Ctx,VC ⟨P,c0,h,fn.ntmps,N,[],.plain P⟩ code (retQ T fn R) ⟨envOf args 0,h,g,N⟩) : Ok P f g h args R:=by
  intro c hg hh hc hB hA vs hvs
  have hlen:=chain_len hch hvs
  refine calls_of_wp hf hb (hvc c _ _ ⟨c,[],rfl,.refl hh hc,⟨fun t v ht=>?_,hg⟩,fun i hi=>?_,?_,rfl,fun i hi=>?_,hg⟩ _ fun e s a w hq hs=>?_)
  · obtain ⟨_,u,q2,q3⟩:=env_of hvs ht
    have hlt : t < vs.length:=by
      rcases Nat.lt_or_ge t vs.length with h1 | h1
      · exact h1
      · rw [Nat.sub_zero,List.getElem?_eq_none h1] at q2;cases q2
    refine ⟨by simp;omega,?_⟩
    have : (vs.toArray ++ Array.replicate (fn.ntmps - vs.toArray.size) undef).getD t undef = u:=by
      rw [Nat.sub_zero,List.getElem?_eq_getElem hlt] at q2
      cases q2
      have h1 : t < vs.length + (fn.ntmps - vs.length):=by omega
      simp [h1,Array.getElem_append,hlt]
    rw [this];exact q3
  · obtain ⟨av,hi⟩:=hA i hi;exact hN i av hi
  · simp;omega
  · obtain ⟨av,hi⟩:=hA i hi;exact hN i av hi
  · obtain ⟨he,r,h',hr,hsub,hR⟩:=hq
    obtain ⟨c',ns,rfl,hout,hen,_,_,hdf,_⟩:=hs
    obtain ⟨v,q1,q2⟩:=res_ok hT hen hout.heap hr
    cases e <;> simp at he
    · exact ⟨hdf,v,q1,c',v,r,h',ns,rfl,rfl,hout.shrink hsub,q2,hR⟩
    · exact ⟨hdf,v,q1,c',v,r,h',ns,rfl,rfl,hout.shrink hsub,q2,hR⟩
end Go.V
namespace Go.V
open Go.RowKit Go.L
theorem rep_mp {c : Ctx} {id : Nat} {v : Value} (h : Rep c (.mp id) .V [v]) : c.A id∧¬ c.G id∧v = .map (some (c.ρ id)):=by
  obtain ⟨h1,h2,h3⟩:=h
  exact ⟨h1,h2,by simpa using h3⟩
section
variable {P : Program} {t : TypeId} {ti : TI} {g e h : Asc} {x y : Operand} {d : Option Tmp} {ty : TypeId} {pos : String} {af : Array Edge} {gd : Option (Nat × Bool)} {kt et : TypeId}
theorem mlen_ok (hu : P.underlying t = some (.map kt et)) {id n : Nat} {ks vs : Nat→AV} (hx : ev g e x = some (.mp id)) (ho : get? h id = some (.mo n ks vs)) :
    OpOk P ⟨d,.call { callee:=.builtin .len,args:=#[x],argTypes:=#[t] },ty,pos,af,gd⟩ g e h (some (.int .i64 n)) h []:=by
  refine OpOk.val fun c a he hh hc=>⟨.int .i64 n,?_,rfl⟩
  obtain ⟨_,hG,hv⟩:=rep_mp (ev_rep he hx)
  rcases hh.obj id _ ho hG with ⟨cs,t,xs,ys,_,_,hr⟩ | ⟨n',ks',vs',e',es,clock,hb,hn,_⟩ | ⟨_,e',_⟩
  rotate_left 2
  · cases e'
  · exact hr.elim
  · simp only [AV.mo.injEq] at e'
    obtain ⟨rfl,rfl,rfl⟩:=e'
    simp [execOp,resolve,invoke,builtin,hv,Builtin.len_,run_underlying hu,MapKept.run_getObj_map hb,goInt,hn]
theorem Out.newMap {c : Ctx} {N : Nat} {es : Array MapEntry} {clock n : Nat} {ks vs : Nat→AV} (hh : HeapRep c h) (hc : CtxOk c) (hN : ¬ c.A N) (hn : es.size = n) (hes : ∀ i (hi : i < es.size),Rep c (ks i) .V [es[i].key]∧Rep c (vs i) .V [es[i].val]) (h1 : ∀ i (h : i < es.size),es[i].born < clock) (h2 : ∀ i j (hi : i < es.size) (hj : j < es.size),es[i].born = es[j].born→i = j) :
    Out c h ((N,.mo n ks vs)::h) [N] (c.new N (.map es clock))∧Rep (c.new N (.map es clock)) (.mp N) .V [.map (some c.w.heap.size)]:=by
  have hle:=c.new_le (o:=.map es clock) hc hN
  have hne : ∀ id av,get? h id = some av→id ≠ N:=fun id av hi e=>hN (by rw [← e];exact hh.A id av hi)
  have hρ : ∀ id av,get? h id = some av→(c.new N (.map es clock)).ρ id = c.ρ id:=fun id av hi=>if_neg (hne id av hi)
  have hρN : (c.new N (.map es clock)).ρ N = c.w.heap.size:=if_pos rfl
  have hG : ∀ id av,get? h id = some av→¬ (c.new N (.map es clock)).G id→¬ c.G id:=fun id av hi hg x=>hg ⟨x,hne id av hi⟩
  have hcase : ∀ id av',get? ((N,AV.mo n ks vs)::h) id = some av'→(id = N∧av' = .mo n ks vs) ∨ (id ≠ N∧get? h id = some av'):=fun id av' hi=>by
    rw [get?_cons] at hi
    by_cases e : N = id
    · rw [if_pos e] at hi;cases hi;exact .inl ⟨e.symm,rfl⟩
    · rw [if_neg e] at hi;exact .inr ⟨fun e'=>e e'.symm,hi⟩
  refine ⟨⟨hle,rfl,fun i hi=>?_,⟨fun id av' hi=>?_,fun id av' hi hg=>?_,fun id av' hi hg=>?_,fun id av' hi hg=>?_,fun i j a b hi hj hgi hgj e=>?_⟩,⟨fun b hb=>?_,?_⟩,rfl,rfl,rfl,?_,fun b hb _=>Below.heap_alloc _ _ _ hb,fun id av' hi hg=>?_,fun b hb=>.inl hb⟩,.inr rfl,fun h=>h.2 rfl,by rw [hρN]⟩
  · rcases hi with hi | hi
    · exact .inl hi
    · exact .inr (by simp [hi])
  · rcases hcase id av' hi with ⟨rfl,rfl⟩ | ⟨_,hi⟩
    · exact .inr rfl
    · exact .inl (hh.A id av' hi)
  · rcases hcase id av' hi with ⟨rfl,rfl⟩ | ⟨_,hi⟩
    · rw [hρN]
      exact .inr (.inl ⟨n,ks,vs,rfl,es,clock,heap_alloc_new c.w _,hn,fun i hi=>⟨(hes i hi).1.le hle,(hes i hi).2.le hle⟩,h1,h2⟩)
    · rw [hρ id av' hi]
      exact (hh.obj id av' hi (hG id av' hi hg)).le hle (Below.heap_alloc _ _ _ (hh.obj id av' hi (hG id av' hi hg)).lt)
  · rcases hcase id av' hi with ⟨e1,_⟩ | ⟨_,hi⟩
    · exact absurd e1 hg.2
    · exact hh.gh id av' hi hg.1
  · rcases hcase id av' hi with ⟨rfl,rfl⟩ | ⟨_,hi⟩
    · rw [hρN];intro hS;exact absurd (hc.S _ hS) (Nat.lt_irrefl _)
    · rw [hρ id av' hi];exact hh.nS id av' hi (hG id av' hi hg)
  · rcases hcase i a hi with ⟨e1,_⟩ | ⟨_,hi'⟩ <;> rcases hcase j b hj with ⟨e2,_⟩ | ⟨_,hj'⟩
    · rw [e1,e2]
    · rw [e1,hρN,hρ j b hj'] at e;have:=(hh.obj j b hj' (hG j b hj' hgj)).lt;omega
    · rw [e2,hρN,hρ i a hi'] at e;have:=(hh.obj i a hi' (hG i a hi' hgi)).lt;omega
    · rw [hρ i a hi',hρ j b hj'] at e;exact hh.inj i j a b hi' hj' (hG i a hi' hgi) (hG j b hj' hgj) e
  · have:=hc.S b hb
    show b < (c.w.alloc _).heap.size
    simp;omega
  · show c.B ≤ (c.w.alloc _).heap.size
    have:=hc.B;simp;omega
  · show c.w.heap.size ≤ (c.w.alloc _).heap.size
    simp
  · rcases hcase id av' hi with ⟨rfl,rfl⟩ | ⟨_,hi⟩
    · exact .inr (by rw [hρN];exact Nat.le_refl _)
    · exact .inl ⟨id,av',hi,hG id av' hi hg,(hρ id av' hi).symm⟩
theorem makeMap_ok {N : Nat} {ks vs : Nat→AV} : OpOk P ⟨d,.makeMap t none,ty,pos,af,gd⟩ g e h (some (.mp N)) ((N,.mo 0 ks vs)::h) [N]:=by
  intro c a he hh hc hn K Q hK
  have hN : ¬ c.A N:=hn N (by simp)
  have hrun : (execOp a.eval ⟨d,.makeMap t none,ty,pos,af,gd⟩).run P c.w = .ok (.value (.map (some c.w.heap.size))) (c.w.alloc (.map #[] 0)):=by
    simp [execOp,Instr.makeMap,newObj]
    rfl
  unfold Oper.wp
  rw [hrun]
  obtain ⟨q1,q2⟩:=Out.newMap (es:=#[]) (clock:=0) (ks:=ks) (vs:=vs) hh hc hN rfl (fun i hi=>absurd hi (by simp)) (fun i hi=>absurd hi (by simp)) (fun i j hi=>absurd hi (by simp))
  exact hK _ _ q1 fun x hx=>by cases hx;exact q2
theorem assert_ok {hT : TIok P t ti} {xt s : TypeId} {u : AV} (hx : ev g e x = some (.ifc s u)) (hs : Nat.beq s t = true) (hk : (match ti.kind with | .iface=>false | _=>true) = true) : OpOk P ⟨d,.typeAssert x xt t false,ty,pos,af,gd⟩ g e h (some u) h []:=by
  have hs : s = t:=Nat.eq_of_beq_eq_true hs
  subst hs
  refine OpOk.val fun c a he hh hc=>?_
  obtain ⟨v,hv,hr⟩:=ev_rep he hx
  simp only [List.cons.injEq,and_true] at hv
  refine ⟨v,?_,hr⟩
  have h1:=hT.und
  cases hkk : ti.kind <;> rw [hkk] at hk h1 <;> simp only [TK.fits] at h1 <;> (try (cases hk;done))
  case struct=>obtain ⟨F,h1,_⟩:=h1;simp [execOp,hv,Instr.typeAssert,run_underlying h1]
  case func=>obtain ⟨_,_,_,h1⟩:=h1;simp [execOp,hv,Instr.typeAssert,run_underlying h1]
  all_goals simp [execOp,hv,Instr.typeAssert,run_underlying h1]
def nilP : AV→Option Bool
  | .ptr .. | .rptr ..=>some false
  | .val (.pointer none)=>some true
  | _=>none
def nilM : AV→Option Bool
  | .mp _=>some false
  | .val (.map none)=>some true
  | _=>none
def nilF : AV→Option Bool
  | .fn ..=>some false
  | .val .nilFunc=>some true
  | _=>none
def nilQ : TK→AV→Option Bool
  | .ptr _,u=>nilP u
  | .map _ _,u=>nilM u
  | .func,u=>nilF u
  | _,_=>none
theorem nilP_true {c : Ctx} {u : AV} {a : Value} (h : nilP u = some true) (hr : Rep c u .V [a]) : a = .pointer none:=by
  unfold nilP at h
  split at h <;> first | (cases h;done) | exact rep_val hr
theorem nilM_true {c : Ctx} {u : AV} {a : Value} (h : nilM u = some true) (hr : Rep c u .V [a]) : a = .map none:=by
  unfold nilM at h
  split at h <;> first | (cases h;done) | exact rep_val hr
theorem nilF_true {c : Ctx} {u : AV} {a : Value} (h : nilF u = some true) (hr : Rep c u .V [a]) : a = .nilFunc:=by
  unfold nilF at h
  split at h <;> first | (cases h;done) | exact rep_val hr
theorem nilP_any {c : Ctx} {u : AV} {a : Value} {q : Bool} (h : nilP u = some q) (hr : Rep c u .V [a]) : ∃ x,a = .pointer x∧x.isNone = q:=by
  unfold nilP at h
  split at h <;> first | (cases h;done) | skip
  · cases h;obtain ⟨_,_,hv⟩:=rep_ptr hr;exact ⟨_,hv,rfl⟩
  · cases h;obtain ⟨_,_,_,hv,_⟩:=hr
    simp only [List.cons.injEq,and_true] at hv
    exact ⟨_,hv,rfl⟩
  · cases h;exact ⟨none,rep_val hr,rfl⟩
theorem nilM_any {c : Ctx} {u : AV} {a : Value} {q : Bool} (h : nilM u = some q) (hr : Rep c u .V [a]) : ∃ x,a = .map x∧x.isNone = q:=by
  unfold nilM at h
  split at h <;> first | (cases h;done) | skip
  · cases h;obtain ⟨_,_,hv⟩:=rep_mp hr;exact ⟨_,hv,rfl⟩
  · cases h;exact ⟨none,rep_val hr,rfl⟩
theorem nilF_any {c : Ctx} {u : AV} {a : Value} {q : Bool} (h : nilF u = some q) (hr : Rep c u .V [a]) : (a = .nilFunc∧q = true) ∨ (∃ f x y,a = .func f x y)∧q = false:=by
  unfold nilF at h
  split at h <;> first | (cases h;done) | skip
  · cases h;obtain ⟨_,_,hv,_⟩:=hr
    simp only [List.cons.injEq,and_true] at hv
    exact .inr ⟨⟨_,_,_,hv⟩,rfl⟩
  · cases h;exact .inl ⟨rep_val hr,rfl⟩
theorem eqIn_ptr {P : Program} {t e' : TypeId} (w : World) (d : Nat) (h1 : P.underlying t = some (.pointer e')) (x : Option Addr) : (Op.equalIn (d + 1) t (.pointer x) (.pointer none)).run P w = .ok x.isNone w:=by
  cases x <;> simp [Op.equalIn,run_underlying h1]
theorem eqIn_map {P : Program} {t k' e' : TypeId} (w : World) (d : Nat) (h1 : P.underlying t = some (.map k' e')) (x : Option Nat) : (Op.equalIn (d + 1) t (.map x) (.map none)).run P w = .ok x.isNone w:=by
  cases x <;> simp [Op.equalIn,run_underlying h1]
theorem eqIn_fn0 {P : Program} {t : TypeId} {a b : Array TypeId} {c : Bool} (w : World) (d : Nat) (h1 : P.underlying t = some (.func a b c)) : (Op.equalIn (d + 1) t .nilFunc .nilFunc).run P w = .ok true w:=by
  simp [Op.equalIn,run_underlying h1]
theorem eqIn_fn1 {P : Program} {t : TypeId} {a b : Array TypeId} {c : Bool} (w : World) (d : Nat) (h1 : P.underlying t = some (.func a b c)) (f : Fn) (x y : Array Value) : (Op.equalIn (d + 1) t (.func f x y) .nilFunc).run P w = .ok false w:=by
  simp [Op.equalIn,run_underlying h1]
theorem nilQ_run (h1 : ti.kind.fits (P.underlying t)) {c : Ctx} {u v : AV} {a b : Value} {q : Bool} (hq : nilQ ti.kind u = some q) (hv2 : nilQ ti.kind v = some true) (hu : Rep c u .V [a]) (hv : Rep c v .V [b]) (w : World) :
    (Op.equal t a b).run P w = .ok q w∧(∀ op x y,(eqGuard op t x y a b).run P w = .ok () w)∧(binOp .eql t a b).run P w = .ok (.bool q) w∧(binOp .neq t a b).run P w = .ok (.bool !q) w:=by
  cases hkk : ti.kind <;> rw [hkk] at hq hv2 h1 <;> (try (cases hv2;done)) <;> simp only [TK.fits] at h1
  case ptr e' =>
    obtain rfl:=nilP_true hv2 hv
    obtain ⟨x,rfl,hx⟩:=nilP_any hq hu
    have he : (Op.equal t (.pointer x) (.pointer none)).run P w = .ok q w:=by rw [← hx];exact eqIn_ptr w 9999 h1 x
    exact ⟨he,fun op _ _=>by unfold eqGuard;cases op <;> rfl,by simp [binOp,he],by simp [binOp,he]⟩
  case map k' e' =>
    obtain rfl:=nilM_true hv2 hv
    obtain ⟨x,rfl,hx⟩:=nilM_any hq hu
    have he : (Op.equal t (.map x) (.map none)).run P w = .ok q w:=by rw [← hx];exact eqIn_map w 9999 h1 x
    exact ⟨he,fun op _ _=>by unfold eqGuard;cases op <;> rfl,by simp [binOp,he],by simp [binOp,he]⟩
  case func =>
    obtain ⟨_,_,_,h1⟩:=h1
    obtain rfl:=nilF_true hv2 hv
    rcases nilF_any hq hu with ⟨rfl,rfl⟩ | ⟨⟨f,x,y,rfl⟩,rfl⟩
    · have he : (Op.equal t .nilFunc .nilFunc).run P w = .ok true w:=eqIn_fn0 w 9999 h1
      exact ⟨he,fun op _ _=>by unfold eqGuard;cases op <;> rfl,by simp [binOp,he],by simp [binOp,he]⟩
    · have he : (Op.equal t (.func f x y) .nilFunc).run P w = .ok false w:=eqIn_fn1 w 9999 h1 f x y
      exact ⟨he,fun op _ _=>by unfold eqGuard;cases op <;> rfl,by simp [binOp,he],by simp [binOp,he]⟩
def evNil (k : TK) (op : BinOp) (u v : AV) : Option Bool:=match nilQ k u with
  | some q=>match nilQ k v with
    | some true=>match op with
      | .eql=>some q
      | .neq=>some (!q)
      | _=>none
    | _=>none
  | none=>none
theorem bin_nil {hT : TIok P t ti} {op : BinOp} {yt : TypeId} {u v : AV} {r : Bool} (hx : ev g e x = some u) (hy : ev g e y = some v) (hE : evNil ti.kind op u v = some r) :
    OpOk P ⟨d,.binOp op t x y yt,ty,pos,af,gd⟩ g e h (some (.bool r)) h []:=by
  unfold evNil at hE
  split at hE
  · rename_i q hq
    split at hE
    · rename_i hv2
      refine OpOk.val fun c a he hh hco=>⟨.bool r,?_,rfl⟩
      obtain ⟨h1,h2,h3,h4⟩:=nilQ_run (P:=P) hT.und hq hv2 (ev_rep he hx) (ev_rep he hy) c.w
      cases op <;> simp only [reduceCtorEq,Option.some.injEq] at hE <;> subst hE
      · simp only [execOp,Sem.run_bind,h2,Result.andThen_ok,h3,Sem.run_pure]
      · simp only [execOp,Sem.run_bind,h2,Result.andThen_ok,h4,Sem.run_pure]
    · cases hE
  · cases hE
end
end Go.V
