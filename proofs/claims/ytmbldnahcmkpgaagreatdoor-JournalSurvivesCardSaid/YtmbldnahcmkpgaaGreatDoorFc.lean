/- One operation, evaluated. One operation, evaluated: it is so. Abstract states compared: fewer facts, other numbers of objects; small steps. Calls, by the callee's contract. -/
import Derived.Test.YtmbldnahcmkpgaaGreatDoorFb
set_option linter.unusedSimpArgs false
set_option linter.unusedVariables false
namespace Go.V
open Go.RowKit Go.L
structure Ev where
  ps : List Prop
  v : Option AV
  h : Asc
  k : Nat
def inbL : AV→List Step→List Prop
  | _,[]=>[]
  | a,.fld k _::p=>match getf a k with
    | some u=>inbL u p
    | none=>[False]
  | .arr n _ f,.idx i _::p=>(i < n)::inbL (f i) p
  | _,.idx _ _::_=>[False]
theorem inbL_ok : ∀ {p : List Step} {a : AV},AllP (inbL a p)→inb a p
  | [],_,_=>by unfold inb;trivial
  | .fld k off::p,a,h=>by
    unfold inb
    unfold inbL at h
    cases hk : getf a k with
    | none=>simp only [hk] at h;exact h
    | some u=>simp only [hk] at h ⊢;exact inbL_ok h
  | .idx i sz::p,a,h=>by
    cases a <;> try exact h.elim
    rename_i n s f
    unfold inbL at h
    obtain ⟨h1,h2⟩:=AllP.cons h
    have:=inbL_ok h2
    unfold inb
    cases p <;> first | exact h1 | exact ⟨h1,this⟩
def beqB : Bool→Bool→Bool
  | true,true=>true
  | false,false=>true
  | _,_=>false
theorem beqB_eq {a b : Bool} (h : beqB a b = true) : a = b:=by cases a <;> cases b <;> first | rfl | cases h
def fits (u : AV) (ti : TI) : Bool:=(!u.isMo && beqB u.isAgg ti.kind.agg) && Nat.beq u.size ti.lay.size
theorem fits_ok {u : AV} {ti : TI} (h : fits u ti = true) : u.isAgg = ti.kind.agg∧u.size = ti.lay.size:=by
  unfold fits at h
  rw [Bool.and_eq_true,Bool.and_eq_true] at h
  exact ⟨beqB_eq h.1.2,Nat.eq_of_beq_eq_true h.2⟩
theorem fits_mo {u : AV} {ti : TI} (h : fits u ti = true) : u.isMo = false:=by
  unfold fits at h
  rw [Bool.and_eq_true,Bool.and_eq_true] at h
  simpa using h.1.1
section
variable {α : Type}
def putL : Asc→Nat→AV→Asc
  | [],i,v=>[(i,v)]
  | (j,w)::r,i,v=>bif Nat.beq j i then (i,v)::r else (j,w)::putL r i v
def forceP : List Prop→(List Prop→α)→α
  | [],k=>k []
  | p::r,k=>forceP r (fun r'=>k (p::r'))
theorem forceP_eq : ∀ (l : List Prop) (k : List Prop→α),forceP l k = k l
  | [],_=>rfl
  | p::r,k=>by unfold forceP;rw [forceP_eq]
def putK : Asc→Nat→AV→(Asc→α)→α
  | [],i,v,k=>k [(i,v)]
  | (j,w)::r,i,v,k=>bif Nat.beq j i then k ((i,v)::r) else putK r i v (fun r'=>k ((j,w)::r'))
def delK : Asc→Nat→(Asc→α)→α
  | [],_,k=>k []
  | (j,w)::r,i,k=>bif Nat.beq j i then delK r i k else delK r i (fun r'=>k ((j,w)::r'))
def appK : List Step→Step→(List Step→α)→α
  | [],s,k=>k [s]
  | x::r,s,k=>appK r s (fun r'=>k (x::r'))
def setfK : AV→Nat→AV→(AV→α)→α
  | .pair _ b,0,u,k=>k (.pair u b)
  | .pair a b,n + 1,u,k=>setfK b n u (fun b'=>k (.pair a b'))
  | a,_,_,k=>k a
def setpK : AV→List Step→AV→(AV→α)→α
  | _,[],u,k=>k u
  | a,.fld n _::p,u,k=>match getf a n with
    | some x=>setpK x p u (fun x'=>setfK a n x' k)
    | none=>k a
  | .arr n sz f,.idx i _::p,u,k=>k (.arr n sz (fun j=>bif Nat.beq j i then setp (f i) p u else f j))
  | a,_,_,k=>k a
def fv (u : AV) (k : AV→α) : α:=match u with
  | .int x n=>k (.int x n)
  | .bool b=>k (.bool b)
  | .str l=>k (.str l)
  | .val v=>k (.val v)
  | .emp=>k .emp
  | .nul=>k .nul
  | .pair a b=>k (.pair a b)
  | .arr n sz f=>k (.arr n sz f)
  | .ptr i p=>k (.ptr i p)
  | .sl i p sz o l=>k (.sl i p sz o l)
  | .rsl fr n sz f=>k (.rsl fr n sz f)
  | .rptr fr a=>k (.rptr fr a)
  | .tup a=>k (.tup a)
  | .fn f x y=>k (.fn f x y)
  | .ifc t a=>k (.ifc t a)
  | .mp i=>k (.mp i)
  | .mo n ks vs=>k (.mo n ks vs)
  | .ob b o=>k (.ob b o)
theorem putK_eq : ∀ (h : Asc) (i : Nat) (v : AV) (k : Asc→α),putK h i v k = k (putL h i v)
  | [],_,_,_=>rfl
  | (j,w)::r,i,v,k=>by
    unfold putK putL
    cases Nat.beq j i
    · simp only [cond_false];rw [putK_eq]
    · rfl
theorem delK_eq : ∀ (h : Asc) (i : Nat) (k : Asc→α),delK h i k = k (del h i)
  | [],_,_=>rfl
  | (j,w)::r,i,k=>by
    unfold delK del
    cases Nat.beq j i
    · simp only [cond_false];rw [delK_eq]
    · simp only [cond_true];rw [delK_eq]
theorem appK_eq : ∀ (p : List Step) (s : Step) (k : List Step→α),appK p s k = k (p ++ [s])
  | [],_,_=>rfl
  | x::r,s,k=>by unfold appK;rw [appK_eq];rfl
theorem setfK_eq : ∀ (a : AV) (n : Nat) (u : AV) (k : AV→α),setfK a n u k = k (setf a n u):=by
  intro a
  induction a with
  | pair a b _ ih=>intro n u k;cases n with
    | zero=>rfl
    | succ n=>unfold setfK setf;rw [ih]
  | int | bool | str | val | emp | nul | arr | ptr | sl | rsl | rptr | tup | fn | ifc | mp | mo | ob=>intro n u k;cases n <;> rfl
theorem setpK_eq : ∀ (p : List Step) (a u : AV) (k : AV→α),setpK a p u k = k (setp a p u)
  | [],a,u,k=>by unfold setpK setp;rfl
  | .fld n off::p,a,u,k=>by
    unfold setpK setp
    cases getf a n with
    | none=>rfl
    | some x=>simp only;rw [setpK_eq p,setfK_eq]
  | .idx i sz::p,a,u,k=>by cases a <;> rfl
theorem fv_eq (u : AV) (k : AV→α) : fv u k = k u:=by cases u <;> rfl
theorem get?_putL : ∀ (h : Asc) (i : Nat) (v : AV) (j : Nat),get? (putL h i v) j = if i = j then some v else get? h j
  | [],i,v,j=>by unfold putL;rw [get?_cons]
  | (n,w)::r,i,v,j=>by
    unfold putL
    by_cases e : n = i
    · subst e
      simp only [Nat.beq_refl,cond_true,get?_cons]
      by_cases e2 : n = j <;> simp [e2]
    · simp only [beq_ne e,cond_false,get?_cons,get?_putL]
      by_cases e2 : n = j
      · subst e2;simp [Ne.symm e]
      · simp [e2]
end
def nilL {α : Type} : List α→Bool
  | []=>true
  | _=>false
def evalB (T : List (Option TI)) (g e hs : Asc) (N : Nat) (b : Builtin) (xs : List Operand) (ts : List TypeId) : Option Ev:=match b,xs,ts with
  | .len, [x],[t]=>match tget T t,ev g e x with
    | some ti,some u=>match evLen u with
      | some n=>bif lenK ti.kind && lenB ti.kind u then some ⟨[],some (.int .i64 n),hs,0⟩ else none
      | none=>match ti.kind,u with
        | .map _ _,.mp id=>match get? hs id with
          | some (.mo n _ _)=>some ⟨[],some (.int .i64 n),hs,0⟩
          | _=>none
        | _,_=>none
    | _,_=>none
  | .append,[x,y],[t,t2]=>match tget T t,tget T t2,ev g e x,ev g e y with
    | some ti,some txi,some u,some w=>match ti.kind,evSrc hs w with
      | .slice eT,some (ps,sz,k,f)=>match tget T eT with
        | some tie=>bif srcKind w txi.kind && (Nat.beq sz tie.lay.size || Nat.beq k 0) then match u with
          | .val (.slice none 0 0) | .emp=>some ⟨ps ++ [k ≤ 9223372036854775807,k * tie.bytes ≤ 140737488355328],some (.sl N [] tie.lay.size 0 k),(N,.arr k tie.lay.size f)::hs,1⟩
          | .sl id [] sz' 0 n=>match get? hs id with
            | some (.arr n' sz'' f0)=>bif Nat.beq sz' tie.lay.size && Nat.beq sz'' tie.lay.size then
                delK hs id fun h'=>some ⟨ps ++ [n' = n,n + k ≤ 9223372036854775807,(n + k) * tie.bytes ≤ 140737488355328],some (.sl N [] tie.lay.size 0 (n + k)),(N,.arr (n + k) tie.lay.size (joinF n f0 f))::h',1⟩ else none
            | _=>none
          | _=>none else none
        | none=>none
      | _,_=>none
    | _,_,_,_=>none
  | .copy,[x,y],[t,t2]=>match tget T t,tget T t2,ev g e x,ev g e y with
    | some ti,some txi,some (.sl id p sz off len),some w=>match ti.kind,evSrc hs w,get? hs id with
      | .slice eT,some (ps,sz2,k,f),some av=>match tget T eT,getp av p with
        | some tie,some (.arr n sz' f0)=>bif srcKind w txi.kind && ((Nat.beq sz2 tie.lay.size || Nat.beq k 0) && (Nat.beq sz tie.lay.size && Nat.beq sz' tie.lay.size)) then
            setpK av p (.arr n sz' (cpF off (Nat.min k len) f f0)) fun av'=>putK hs id av' fun h'=>forceP (inbL av p) fun qs=>some ⟨ps ++ (off + len ≤ n)::qs,some (.int .i64 (Nat.min k len : Nat)),h',0⟩ else none
        | _,_=>none
      | _,_,_=>none
    | _,_,_,_=>none
  | _,_,_=>none
def evalOp (m : Bool) (T : List (Option TI)) (g e hs : Asc) (N : Nat) : Op→Option Ev
  | .move x | .assign x=>match ev g e x with
    | some u=>fv u fun u=>some ⟨[],some u,hs,0⟩
    | none=>none
  | .pick c x y=>match evPick g e c x y with
    | some u=>fv u fun u=>some ⟨[],some u,hs,0⟩
    | none=>none
  | .alloc t=>match tget T t with
    | some ti=>fv ti.lay.zero fun z=>some ⟨[],some (.ptr N []),(N,z)::hs,1⟩
    | none=>none
  | .box t x=>match tget T t,ev g e x with
    | some _,some u=>bif u.cellB then some ⟨[],some (.ptr N []),(N,u)::hs,1⟩ else none
    | _,_=>none
  | .build t parts=>match tget T t with
    | some ti=>bif (match ti.kind with | .struct fs=>fs.all (fun p=>(tget T p.2).isSome) | .array _ eT=>(tget T eT).isSome | _=>false) then
        match evParts g e (plOf T ti.kind) ti.lay.zero parts.toList with
        | some u=>bif u.isAgg then some ⟨[],some u,hs,0⟩ else none
        | none=>none
      else none
    | none=>none
  | .buildSlice t len parts=>match tget T t with
    | some ti=>match ti.kind with
      | .slice eT=>match tget T eT with
        | some tie=>match evParts g e (plOf T (.slice eT)) (.arr len tie.lay.size (fun _=>tie.lay.zero)) parts.toList with
          | some u=>bif Nat.beq len 0 && nilL parts.toList then some ⟨[],some .emp,hs,0⟩ else bif Nat.ble (len * tie.lay.size) 16777216 && (Nat.beq u.size (len * tie.lay.size) && Nat.ble len 16777216) then some ⟨[],some (.sl N [] tie.lay.size 0 len),(N,u)::hs,1⟩ else none
          | none=>none
        | none=>none
      | _=>none
    | none=>none
  | .load t x=>match tget T t,ev g e x with
    | some ti,some (.ptr id p)=>match get? hs id with
      | some av=>match getp av p with
        | some u=>bif fits u ti then fv u fun u=>forceP (inbL av p) fun qs=>some ⟨qs,some u,hs,0⟩ else match ti.kind,unsn p with
          | .array n _,some (q,off,sz)=>match getp av q with
            | some (.arr m sz' f)=>bif Nat.beq sz' sz && Nat.beq (n * sz) ti.lay.size then forceP (inbL av q) fun qs=>some ⟨(off + n ≤ m)::qs,some (.arr n sz (fun i=>f (off + i))),hs,0⟩ else none
            | _=>none
          | _,_=>none
        | none=>none
      | none=>none
    | some ti,some (.rptr _ u)=>bif fits u ti then fv u fun u=>some ⟨[],some u,hs,0⟩ else none
    | _,_=>none
  | .store t x y=>match tget T t,ev g e x,ev g e y with
    | some ti,some (.ptr id p),some w=>match get? hs id with
      | some av=>match getp av p with
        | some u=>bif w.cellB && (Nat.beq w.size ti.lay.size && (!u.isMo && Nat.beq u.size ti.lay.size)) then setpK av p w fun av'=>putK hs id av' fun h'=>forceP (inbL av p) fun qs=>some ⟨qs,none,h',0⟩ else none
        | none=>none
      | none=>none
    | _,_,_=>none
  | .nilCheck x=>match ev g e x with
    | some u=>bif nilB u then some ⟨[],some u,hs,0⟩ else none
    | none=>none
  | .binOp op t x y _=>match ev g e x,ev g e y with
    | some u,some v=>match evBin m op u v with
      | some (ps,r)=>some ⟨ps,some r,hs,0⟩
      | none=>match tget T t with
        | some ti=>match evNil ti.kind op u v with
          | some q=>some ⟨[],some (.bool q),hs,0⟩
          | none=>none
        | none=>none
    | _,_=>none
  | .unOp op _ x=>match ev g e x with
    | some u=>match evUn op u with
      | some (ps,r)=>some ⟨ps,some r,hs,0⟩
      | none=>none
    | none=>none
  | .convert src dst x=>match tget T src,tget T dst,ev g e x with
    | some ts,some td,some u=>match ts.kind,td.kind,u with
      | .str,.slice eT,.str l=>match tget T eT with
        | some te=>match te.kind with
          | .int .u8=>some ⟨[l.length ≤ 9223372036854775807],some (.rsl true l.length 1 (fun i=>.int .u8 ((l.getD i 0).toNat : Nat))),hs,0⟩
          | _=>none
        | none=>none
      | _,_,_=>match evConv m ts.kind td.kind u with
        | some (ps,r)=>some ⟨ps,some r,hs,0⟩
        | none=>none
    | _,_,_=>none
  | .makeInterface t x=>match tget T t,ev g e x with
    | some ti,some u=>bif (match ti.kind with | .iface=>false | _=>true) then some ⟨[],some (.ifc t u),hs,0⟩ else none
    | _,_=>none
  | .makeFunc f fs cs=>match evs g e fs.toList,evs g e cs.toList with
    | some u,some v=>some ⟨[],some (.fn f u v),hs,0⟩
    | _,_=>none
  | .makeSlice t x y=>match tget T t,ev g e x,ev g e y with
    | some ti,some (.int _ l),some (.int _ c)=>match ti.kind with
      | .slice eT=>match tget T eT with
        | some tie=>some ⟨[0 ≤ l,l ≤ c,(tie.bytes : Int) * c ≤ 281474976710656,c ≤ 9223372036854775807],some (.sl N [] tie.lay.size 0 l.toNat),(N,.arr l.toNat tie.lay.size (fun _=>tie.lay.zero))::hs,1⟩
        | none=>none
      | _=>none
    | _,_,_=>none
  | .slice t x lo hi none=>match tget T t,ev g e x with
    | some ti,some u=>match ti.kind,u with
      | .str,.str l=>match evo g e lo 0,evo g e hi l.length with
        | some (ps,a),some (qs,b)=>some ⟨ps ++ (qs ++ [a ≤ b,b ≤ l.length]),some (.str ((l.take b).drop a)),hs,0⟩
        | _,_=>none
      | .slice eT,.sl id p sz off len=>match tget T eT with
        | some tie=>bif Nat.beq tie.lay.size sz then match evo g e lo 0,evo g e hi len with
          | some (ps,a),some (qs,b)=>some ⟨ps ++ (qs ++ [a ≤ b,b ≤ len]),some (.sl id p sz (off + a) (b - a)),hs,0⟩
          | _,_=>none else none
        | none=>none
      | .slice eT,.rsl fr len sz f=>match tget T eT with
        | some tie=>bif Nat.beq tie.lay.size sz then match evo g e lo 0,evo g e hi len with
          | some (ps,a),some (qs,b)=>some ⟨ps ++ (qs ++ [a ≤ b,b ≤ len]),some (.rsl fr (b - a) sz (fun i=>f (a + i))),hs,0⟩
          | _,_=>none else none
        | none=>none
      | .slice eT,.val (.slice none 0 0)=>match tget T eT with
        | some _=>match evo g e lo 0,evo g e hi 0 with
          | some (ps,a),some (qs,b)=>some ⟨ps ++ (qs ++ [a = 0,b = 0]),some (.val (.slice none 0 0)),hs,0⟩
          | _,_=>none
        | none=>none
      | .array L eT,.ptr id p=>match tget T eT,get? hs id with
        | some tie,some av=>match getp av p with
          | some (.arr n' sz _)=>bif Nat.beq n' L && (Nat.beq tie.lay.size sz && Nat.ble L 9223372036854775807) then match evo g e lo 0,evo g e hi L with
            | some (ps,a),some (qs,b)=>some ⟨inbL av p ++ (ps ++ (qs ++ [a ≤ b,b ≤ L])),some (.sl id p sz a (b - a)),hs,0⟩
            | _,_=>none else none
          | _=>none
        | _,_=>none
      | .array L eT,.rptr fr (.arr n' sz f)=>match tget T eT with
        | some tie=>bif Nat.beq n' L && (Nat.beq tie.lay.size sz && Nat.ble L 9223372036854775807) then match evo g e lo 0,evo g e hi L with
          | some (ps,a),some (qs,b)=>some ⟨ps ++ (qs ++ [a ≤ b,b ≤ L]),some (.rsl fr (b - a) sz (fun i=>f (a + i))),hs,0⟩
          | _,_=>none else none
        | none=>none
      | _,_=>none
    | _,_=>none
  | .fieldAddr t x k=>match tget T t,ev g e x with
    | some ti,some u=>match ti.kind with
      | .struct fs=>match fs[k]? with
        | some (off,tf)=>match tget T tf with
          | some tif=>bif Nat.beq tif.lay.size 0 then none else match u with
            | .ptr id p=>appK p (.fld k off) fun p'=>some ⟨[],some (.ptr id p'),hs,0⟩
            | .rptr fr av=>match getf av k with
              | some w=>bif Nat.beq (offf av k) off then fv w fun w=>some ⟨[],some (.rptr fr w),hs,0⟩ else none
              | none=>none
            | _=>none
          | none=>none
        | none=>none
      | _=>none
    | _,_=>none
  | .field t x k=>match tget T t,ev g e x with
    | some ti,some u=>match ti.kind with
      | .struct fs=>match fs[k]? with
        | some (off,tf)=>match tget T tf,getf u k with
          | some tif,some w=>bif u.isAgg && (Nat.beq (offf u k) off && fits w tif) then fv w fun w=>some ⟨[],some w,hs,0⟩ else none
          | _,_=>none
        | none=>none
      | _=>none
    | _,_=>none
  | .sliceToArrayPointer t x=>match tget T t,ev g e x with
    | some ti,some u=>match ti.kind,u with
      | .array n _,.sl id p sz off len=>bif Nat.blt 0 n then appK p (.idx off sz) fun p'=>some ⟨[n ≤ len],some (.ptr id p'),hs,0⟩ else none
      | .array n _,.rsl fr len sz f=>bif Nat.blt 0 n then some ⟨[n ≤ len],some (.rptr fr (.arr n sz f)),hs,0⟩ else none
      | _,_=>none
    | _,_=>none
  | .indexAddr t x y=>match tget T t,ev g e x,ev g e y with
    | some ti,some u,some (.int _ i)=>match ti.kind,u with
      | .slice eT,.sl id p sz off len=>match tget T eT with
        | some tie=>bif Nat.beq tie.lay.size sz then appK p (.idx (off + i.toNat) sz) fun p'=>some ⟨[0 ≤ i,i < len],some (.ptr id p'),hs,0⟩ else none
        | none=>none
      | .slice eT,.rsl fr n sz f=>match tget T eT with
        | some tie=>bif Nat.beq tie.lay.size sz then fv (f i.toNat) fun w=>some ⟨[0 ≤ i,i < n],some (.rptr fr w),hs,0⟩ else none
        | none=>none
      | .array n eT,.ptr id p=>match tget T eT with
        | some tie=>appK p (.idx i.toNat tie.lay.size) fun p'=>some ⟨[0 ≤ i,i < n],some (.ptr id p'),hs,0⟩
        | none=>none
      | .array n eT,.rptr fr (.arr n' sz f)=>match tget T eT with
        | some tie=>bif Nat.beq tie.lay.size sz && Nat.beq n' n then fv (f i.toNat) fun w=>some ⟨[0 ≤ i,i < n],some (.rptr fr w),hs,0⟩ else none
        | none=>none
      | _,_=>none
    | _,_,_=>none
  | .index t x y=>match tget T t,ev g e x,ev g e y with
    | some ti,some u,some (.int _ i)=>match ti.kind,u with
      | .str,.str l=>some ⟨[0 ≤ i,i < l.length],some (.int .u8 ((l.getD i.toNat 0).toNat : Nat)),hs,0⟩
      | .array n eT,.arr n' sz f=>match tget T eT with
        | some tie=>bif Nat.beq tie.lay.size sz && (Nat.beq n' n && fits (f i.toNat) tie) then fv (f i.toNat) fun w=>some ⟨[0 ≤ i,i < n],some w,hs,0⟩ else none
        | none=>none
      | _,_=>none
    | _,_,_=>none
  | .extract x k=>match ev g e x with
    | some (.tup u)=>match getf u k with
      | some w=>fv w fun w=>some ⟨[],some w,hs,0⟩
      | none=>none
    | _=>none
  | .makeMap _ none=>some ⟨[],some (.mp N),(N,.mo 0 (fun _=>.nul) (fun _=>.nul))::hs,1⟩
  | .typeAssert x _ t false=>match tget T t,ev g e x with
    | some ti,some (.ifc s u)=>bif Nat.beq s t && (match ti.kind with | .iface=>false | _=>true) then fv u fun u=>some ⟨[],some u,hs,0⟩ else none
    | _,_=>none
  | .call c=>match c.callee with
    | .builtin b=>evalB T g e hs N b c.args.toList c.argTypes.toList
    | _=>none
  | _=>none
end Go.V
namespace Go.V
open Go.RowKit Go.L
theorem bif_some {α : Type} {c : Bool} {x : Option α} {e : α} (h : (bif c then x else none) = some e) : c = true∧x = some e:=by
  cases c
  · cases h
  · exact ⟨rfl,h⟩
theorem bif_none {α : Type} {c : Bool} {x : Option α} {e : α} (h : (bif c then none else x) = some e) : c = false∧x = some e:=by
  cases c
  · exact ⟨rfl,h⟩
  · cases h
def nsOf (N : Nat) : Nat→List Nat
  | 0=>[]
  | _=>[N]
theorem kind_map {T : List (Option TI)} {t : TypeId} {ti : TI} {k : TK} (h : tget T t = some ti) (hk : ti.kind = k) : (tget T t).map (·.kind) = some k:=by rw [h];simp [hk]
section
variable {P : Program} {T : List (Option TI)} {m : Bool} {g e hs : Asc} {N : Nat} {r : Ev} {d : Option Tmp} {ty : TypeId} {pos : String} {af : Array Edge} {gd : Option (Nat × Bool)}
theorem TabOk.kindOf (hT : TabOk P T) {t : TypeId} {ti : TI} {k : TK} (h : tget T t = some ti) (hk : ti.kind = k) : k.fits (P.underlying t):=by rw [← hk];exact (hT _ _ h).und
theorem OpOk.less {o : Oper} {h h' h'' : Asc} {v : Option AV} {ns : List Nat} (hs : ∀ i v,get? h'' i = some v→get? h' i = some v) (ok : OpOk P o g e h v h' ns) : OpOk P o g e h v h'' ns :=
  fun c a he hh hc hn K Q hK=>ok c a he hh hc hn K Q fun c' v' ho hv=>hK c' v' (ho.shrink hs) hv
theorem ev_load (hT : TabOk P T) {t : TypeId} {x : Operand} (h : evalOp m T g e hs N (.load t x) = some r) (hp : AllP r.ps) : OpOk P ⟨d,.load t x,ty,pos,af,gd⟩ g e hs r.v r.h (nsOf N r.k):=by
  simp only [evalOp,putK_eq,delK_eq,appK_eq,setpK_eq,fv_eq,forceP_eq] at h
  split at h
  · rename_i ti id p ht hx
    split at h
    · rename_i av ho
      split at h
      · rename_i u hg
        cases hf : fits u ti with
        | true =>
          rw [hf] at h
          cases h
          obtain ⟨h1,h2⟩:=fits_ok hf
          exact load_ptr (hT _ _ ht) hx ho hg (inbL_ok hp) h1 h2 (fits_mo hf)
        | false =>
          rw [hf] at h
          simp only [cond_false] at h
          split at h
          · rename_i n eT q off sz hk hq
            split at h
            · rename_i m sz' f hgq
              obtain ⟨hf2,h⟩:=bif_some h
              cases h
              simp only [Bool.and_eq_true] at hf2
              obtain rfl:=Nat.eq_of_beq_eq_true hf2.1
              obtain ⟨p1,p2⟩:=hp.cons
              rw [unsn_ok hq] at hx
              exact load_win (hT _ _ ht) hk hx ho hgq (inbL_ok p2) p1 (Nat.eq_of_beq_eq_true hf2.2)
            · cases h
          · cases h
      · cases h
    · cases h
  · rename_i ti fr u ht hx
    obtain ⟨hf,h⟩:=bif_some h
    cases h
    obtain ⟨h1,h2⟩:=fits_ok hf
    exact load_rptr (hT _ _ ht) hx h1 h2
  · cases h
theorem ev_store (hT : TabOk P T) {t : TypeId} {x y : Operand} (hd : d = none) (h : evalOp m T g e hs N (.store t x y) = some r) (hp : AllP r.ps) : OpOk P ⟨d,.store t x y,ty,pos,af,gd⟩ g e hs r.v r.h (nsOf N r.k):=by
  subst hd
  simp only [evalOp,putK_eq,delK_eq,appK_eq,setpK_eq,fv_eq,forceP_eq] at h
  split at h
  · rename_i ti id p w ht hx hy
    split at h
    · rename_i av ho
      split at h
      · rename_i u hg
        obtain ⟨hf,h⟩:=bif_some h
        cases h
        simp only [Bool.and_eq_true] at hf
        refine OpOk.less (fun i v hi=>?_) (store_ptr (hT _ _ ht) hx hy ho hg (inbL_ok hp) hf.1 (Nat.eq_of_beq_eq_true hf.2.1) (Nat.eq_of_beq_eq_true hf.2.2.2) (by simpa using hf.2.2.1))
        rw [get?_putL] at hi;rw [get?_put];exact hi
      · cases h
    · cases h
  · cases h
theorem ev_buildSlice (hT : TabOk P T) {t : TypeId} {len : Nat} {parts : Array (Nat × Operand)} (h : evalOp m T g e hs N (.buildSlice t len parts) = some r) : OpOk P ⟨d,.buildSlice t len parts,ty,pos,af,gd⟩ g e hs r.v r.h (nsOf N r.k):=by
  simp only [evalOp,putK_eq,delK_eq,appK_eq,setpK_eq,fv_eq,forceP_eq] at h
  split at h
  · rename_i ti ht
    split at h
    · rename_i eT hk
      split at h
      · rename_i tie hte
        split at h
        · rename_i u hu
          cases hz : (Nat.beq len 0 && nilL parts.toList) with
          | true =>
            rw [hz] at h
            cases h
            simp only [Bool.and_eq_true] at hz
            obtain rfl:=Nat.eq_of_beq_eq_true hz.1
            have hp0 : parts = #[]:=by
              obtain ⟨l⟩:=parts
              cases l with
              | nil=>rfl
              | cons _ _=>exact absurd hz.2 (by simp [nilL])
            subst hp0
            exact buildSlice_emp hT (kind_map ht hk) hte
          | false =>
          rw [hz] at h
          obtain ⟨hf,h⟩:=bif_some h
          cases h
          simp only [Bool.and_eq_true] at hf
          exact buildSlice_ok hT (kind_map ht hk) hte (Nat.le_of_ble_eq_true hf.1) hu (Nat.eq_of_beq_eq_true hf.2.1) (Nat.le_of_ble_eq_true hf.2.2)
        · cases h
      · cases h
    · cases h
  · cases h
theorem ev_build (hT : TabOk P T) {t : TypeId} {parts : Array (Nat × Operand)} (h : evalOp m T g e hs N (.build t parts) = some r) : OpOk P ⟨d,.build t parts,ty,pos,af,gd⟩ g e hs r.v r.h (nsOf N r.k):=by
  simp only [evalOp,putK_eq,delK_eq,appK_eq,setpK_eq,fv_eq,forceP_eq] at h
  split at h
  · rename_i ti ht
    obtain ⟨hf,h⟩:=bif_some h
    split at h
    · rename_i u hu
      obtain ⟨hf2,h⟩:=bif_some h
      cases h
      refine build_ok hT ht ?_ hu hf2
      cases hk : ti.kind <;> rw [hk] at hf <;> simp at hf ⊢ <;> exact hf
    · cases h
  · cases h
theorem ev_conv (hT : TabOk P T) {src dst : TypeId} {x : Operand} (h : evalOp m T g e hs N (.convert src dst x) = some r) (hp : AllP r.ps) : OpOk P ⟨d,.convert src dst x,ty,pos,af,gd⟩ g e hs r.v r.h (nsOf N r.k):=by
  simp only [evalOp,putK_eq,delK_eq,appK_eq,setpK_eq,fv_eq,forceP_eq] at h
  split at h
  · rename_i ts td u hs hd hx
    split at h
    · rename_i eT l k1 k2
      split at h
      · rename_i te hte
        split at h
        · rename_i k3
          cases h
          exact toBytes_ok hT (kind_map hs k1) (kind_map hd k2) (kind_map hte k3) hx hp
        · cases h
      · cases h
    · split at h
      · rename_i ps r' hc
        cases h
        exact conv_ok (hT _ _ hs) (hT _ _ hd) hx hc hp
      · cases h
  · cases h
theorem ev_makeSlice (hT : TabOk P T) {t : TypeId} {x y : Operand} (h : evalOp m T g e hs N (.makeSlice t x y) = some r) (hp : AllP r.ps) : OpOk P ⟨d,.makeSlice t x y,ty,pos,af,gd⟩ g e hs r.v r.h (nsOf N r.k):=by
  simp only [evalOp,putK_eq,delK_eq,appK_eq,setpK_eq,fv_eq,forceP_eq] at h
  split at h
  · rename_i ti k l k' c ht hx hy
    split at h
    · rename_i eT hk
      split at h
      · rename_i tie hte
        cases h
        exact makeSlice_ok hT (kind_map ht hk) hte hx hy hp.1 hp.2.1 hp.2.2.1 hp.2.2.2
      · cases h
    · cases h
  · cases h
theorem ev_slice (hT : TabOk P T) {t : TypeId} {x : Operand} {lo hi mx : Option Operand} (h : evalOp m T g e hs N (.slice t x lo hi mx) = some r) (hp : AllP r.ps) : OpOk P ⟨d,.slice t x lo hi mx,ty,pos,af,gd⟩ g e hs r.v r.h (nsOf N r.k):=by
  cases mx with
  | some _=>simp [evalOp] at h
  | none =>
  simp only [evalOp,putK_eq,delK_eq,appK_eq,setpK_eq,fv_eq,forceP_eq] at h
  split at h
  · rename_i ti u ht hx
    split at h
    · rename_i l hk
      split at h
      · rename_i ps a qs b h1 h2
        cases h
        obtain ⟨p1,p2⟩:=hp.append
        obtain ⟨p2,p3⟩:=p2.append
        exact slice_str (hT.kindOf ht hk) hx h1 h2 p1 p2 p3.1 p3.2
      · cases h
    · rename_i eT id p sz off len hk
      split at h
      · rename_i tie hte
        obtain ⟨hf,h⟩:=bif_some h
        split at h
        · rename_i ps a qs b h1 h2
          cases h
          obtain ⟨p1,p2⟩:=hp.append
          obtain ⟨p2,p3⟩:=p2.append
          exact slice_sl (hT.kindOf ht hk) (hT _ _ hte) hx (Nat.eq_of_beq_eq_true hf) h1 h2 p1 p2 p3.1 p3.2
        · cases h
      · cases h
    · rename_i eT fr len sz f hk
      split at h
      · rename_i tie hte
        obtain ⟨hf,h⟩:=bif_some h
        split at h
        · rename_i ps a qs b h1 h2
          cases h
          obtain ⟨p1,p2⟩:=hp.append
          obtain ⟨p2,p3⟩:=p2.append
          exact slice_rsl (hT.kindOf ht hk) (hT _ _ hte) hx (Nat.eq_of_beq_eq_true hf) h1 h2 p1 p2 p3.1 p3.2
        · cases h
      · cases h
    · rename_i eT hk
      split at h
      · rename_i tie hte
        split at h
        · rename_i ps a qs b h1 h2
          cases h
          obtain ⟨p1,p2⟩:=hp.append
          obtain ⟨p2,p3⟩:=p2.append
          exact slice_nil (hT.kindOf ht hk) (hT _ _ hte) hx h1 h2 p1 p2 p3.1 p3.2
        · cases h
      · cases h
    · rename_i L eT id p hk
      split at h
      · rename_i tie av hte ho
        split at h
        · rename_i n' sz f hg
          obtain ⟨hf,h⟩:=bif_some h
          simp only [Bool.and_eq_true] at hf
          split at h
          · rename_i ps a qs b h1 h2
            cases h
            obtain ⟨p0,p1⟩:=hp.append
            obtain ⟨p1,p2⟩:=p1.append
            obtain ⟨p2,p3⟩:=p2.append
            exact slice_ptr (hT.kindOf ht hk) (hT _ _ hte) hx ho hg (inbL_ok p0) (Nat.eq_of_beq_eq_true hf.1) (Nat.eq_of_beq_eq_true hf.2.1) (Nat.le_of_ble_eq_true hf.2.2) h1 h2 p1 p2 p3.1 p3.2
          · cases h
        · cases h
      · cases h
    · rename_i L eT fr n' sz f hk
      split at h
      · rename_i tie hte
        obtain ⟨hf,h⟩:=bif_some h
        simp only [Bool.and_eq_true] at hf
        split at h
        · rename_i ps a qs b h1 h2
          cases h
          obtain ⟨p1,p2⟩:=hp.append
          obtain ⟨p2,p3⟩:=p2.append
          exact slice_rptr (hT.kindOf ht hk) (hT _ _ hte) hx (Nat.eq_of_beq_eq_true hf.1) (Nat.eq_of_beq_eq_true hf.2.1) (Nat.le_of_ble_eq_true hf.2.2) h1 h2 p1 p2 p3.1 p3.2
        · cases h
      · cases h
    · cases h
  · cases h
theorem ev_fieldAddr (hT : TabOk P T) {t : TypeId} {x : Operand} {k : Nat} (h : evalOp m T g e hs N (.fieldAddr t x k) = some r) : OpOk P ⟨d,.fieldAddr t x k,ty,pos,af,gd⟩ g e hs r.v r.h (nsOf N r.k):=by
  simp only [evalOp,putK_eq,delK_eq,appK_eq,setpK_eq,fv_eq,forceP_eq] at h
  split at h
  · rename_i ti u ht hx
    split at h
    · rename_i fs hk
      split at h
      · rename_i off tf hf
        split at h
        · rename_i tif htf
          obtain ⟨hz,h⟩:=bif_none h
          have hz : tif.lay.size ≠ 0:=fun e=>by rw [e] at hz;cases hz
          split at h
          · rename_i id p
            cases h
            exact fieldAddr_ptr (hT.kindOf ht hk) hf (hT _ _ htf) hz hx
          · rename_i fr av
            split at h
            · rename_i w hw
              obtain ⟨ho,h⟩:=bif_some h
              cases h
              exact fieldAddr_rptr (hT.kindOf ht hk) hf (hT _ _ htf) hz hx hw (Nat.eq_of_beq_eq_true ho)
            · cases h
          · cases h
        · cases h
      · cases h
    · cases h
  · cases h
theorem ev_field (hT : TabOk P T) {t : TypeId} {x : Operand} {k : Nat} (h : evalOp m T g e hs N (.field t x k) = some r) : OpOk P ⟨d,.field t x k,ty,pos,af,gd⟩ g e hs r.v r.h (nsOf N r.k):=by
  simp only [evalOp,putK_eq,delK_eq,appK_eq,setpK_eq,fv_eq,forceP_eq] at h
  split at h
  · rename_i ti u ht hx
    split at h
    · rename_i fs hk
      split at h
      · rename_i off tf hf
        split at h
        · rename_i tif w htf hw
          obtain ⟨hb,h⟩:=bif_some h
          cases h
          simp only [Bool.and_eq_true] at hb
          obtain ⟨h1,h2⟩:=fits_ok hb.2.2
          exact field_ok (hT.kindOf ht hk) hf (hT _ _ htf) hx hb.1 hw (Nat.eq_of_beq_eq_true hb.2.1) h1 h2
        · cases h
      · cases h
    · cases h
  · cases h
theorem ev_arrp (hT : TabOk P T) {t : TypeId} {x : Operand} (h : evalOp m T g e hs N (.sliceToArrayPointer t x) = some r) (hp : AllP r.ps) : OpOk P ⟨d,.sliceToArrayPointer t x,ty,pos,af,gd⟩ g e hs r.v r.h (nsOf N r.k):=by
  simp only [evalOp,appK_eq] at h
  split at h
  · rename_i ti u ht hx
    split at h
    · rename_i n eT id p sz off len hk
      obtain ⟨hf,h⟩:=bif_some h
      cases h
      exact arrp_sl (hT.kindOf ht hk) hx (by simpa [Nat.blt_eq] using hf) hp
    · rename_i n eT fr len sz f hk
      obtain ⟨hf,h⟩:=bif_some h
      cases h
      exact arrp_rsl (hT.kindOf ht hk) hx (by simpa [Nat.blt_eq] using hf) hp
    · cases h
  · cases h
theorem ev_indexAddr (hT : TabOk P T) {t : TypeId} {x y : Operand} (h : evalOp m T g e hs N (.indexAddr t x y) = some r) (hp : AllP r.ps) : OpOk P ⟨d,.indexAddr t x y,ty,pos,af,gd⟩ g e hs r.v r.h (nsOf N r.k):=by
  simp only [evalOp,putK_eq,delK_eq,appK_eq,setpK_eq,fv_eq,forceP_eq] at h
  split at h
  · rename_i ti u k i ht hx hy
    split at h
    · rename_i eT id p sz off len hk
      split at h
      · rename_i tie hte
        obtain ⟨hf,h⟩:=bif_some h
        cases h
        exact index_sl (hT.kindOf ht hk) (hT _ _ hte) hx hy (Nat.eq_of_beq_eq_true hf) hp.1 hp.2
      · cases h
    · rename_i eT fr n sz f hk
      split at h
      · rename_i tie hte
        obtain ⟨hf,h⟩:=bif_some h
        cases h
        exact index_rsl (hT.kindOf ht hk) (hT _ _ hte) hx hy (Nat.eq_of_beq_eq_true hf) hp.1 hp.2
      · cases h
    · rename_i n eT id p hk
      split at h
      · rename_i tie hte
        cases h
        exact index_ptr (hT.kindOf ht hk) (hT _ _ hte) hx hy hp.1 hp.2
      · cases h
    · rename_i n eT fr n' sz f hk
      split at h
      · rename_i tie hte
        obtain ⟨hf,h⟩:=bif_some h
        cases h
        simp only [Bool.and_eq_true] at hf
        exact index_rptr (hT.kindOf ht hk) (hT _ _ hte) hx hy (Nat.eq_of_beq_eq_true hf.1) (Nat.eq_of_beq_eq_true hf.2) hp.1 hp.2
      · cases h
    · cases h
  · cases h
theorem ev_index (hT : TabOk P T) {t : TypeId} {x y : Operand} (h : evalOp m T g e hs N (.index t x y) = some r) (hp : AllP r.ps) : OpOk P ⟨d,.index t x y,ty,pos,af,gd⟩ g e hs r.v r.h (nsOf N r.k):=by
  simp only [evalOp,putK_eq,delK_eq,appK_eq,setpK_eq,fv_eq,forceP_eq] at h
  split at h
  · rename_i ti u k i ht hx hy
    split at h
    · rename_i l hk
      cases h
      exact index_str (hT.kindOf ht hk) hx hy hp.1 hp.2
    · rename_i n eT n' sz f hk
      split at h
      · rename_i tie hte
        obtain ⟨hf,h⟩:=bif_some h
        cases h
        simp only [Bool.and_eq_true] at hf
        obtain ⟨h1,h2⟩:=fits_ok hf.2.2
        exact index_arr (hT.kindOf ht hk) (hT _ _ hte) hx hy (Nat.eq_of_beq_eq_true hf.2.1) hp.1 hp.2 h1 h2 (Nat.eq_of_beq_eq_true hf.1)
      · cases h
    · cases h
  · cases h
theorem ev_len (hT : TabOk P T) {t : TypeId} {x : Operand} (h : evalB T g e hs N .len [x] [t] = some r) : OpOk P ⟨d,.call ⟨.builtin .len,#[x],#[t]⟩,ty,pos,af,gd⟩ g e hs r.v r.h (nsOf N r.k):=by
  simp only [evalB,delK_eq] at h
  split at h
  · rename_i ti u ht hx
    split at h
    · rename_i n hn
      obtain ⟨hf,h⟩:=bif_some h
      cases h
      simp only [Bool.and_eq_true] at hf
      exact len_ok (hT:=hT _ _ ht) hx hn hf.1 hf.2
    · have hu:=(hT _ _ ht).und
      split at h
      · rename_i kt et id hk _
        rw [hk] at hu
        split at h
        · rename_i n ks vs ho
          cases h
          exact mlen_ok hu hx ho
        · cases h
      · cases h
  · cases h
theorem ev_append (hT : TabOk P T) {t t2 : TypeId} {x y : Operand} (h : evalB T g e hs N .append [x,y] [t,t2] = some r) (hp : AllP r.ps) : OpOk P ⟨d,.call ⟨.builtin .append,#[x,y],#[t,t2]⟩,ty,pos,af,gd⟩ g e hs r.v r.h (nsOf N r.k):=by
  simp only [evalB,delK_eq] at h
  split at h
  · rename_i ti txi u w ht ht2 hx hy
    split at h
    · rename_i eT ps sz k f hk hs
      split at h
      · rename_i tie hte
        obtain ⟨hf,h⟩:=bif_some h
        simp only [Bool.and_eq_true,Bool.or_eq_true] at hf
        have hsz : sz = tie.lay.size ∨ k = 0:=hf.2.imp Nat.eq_of_beq_eq_true Nat.eq_of_beq_eq_true
        split at h
        · cases h
          obtain ⟨p1,p2⟩:=hp.append
          exact append_nil_ok hT (kind_map ht hk) hte ht2 (.inl rfl) hx hy hs p1 hf.1 hsz p2.1 p2.2
        · cases h
          obtain ⟨p1,p2⟩:=hp.append
          exact append_nil_ok hT (kind_map ht hk) hte ht2 (.inr rfl) hx hy hs p1 hf.1 hsz p2.1 p2.2
        · rename_i id sz' n
          split at h
          · rename_i n' sz'' f0 ho
            obtain ⟨hf2,h⟩:=bif_some h
            cases h
            simp only [Bool.and_eq_true] at hf2
            obtain rfl:=Nat.eq_of_beq_eq_true hf2.1
            obtain rfl:=Nat.eq_of_beq_eq_true hf2.2
            obtain ⟨p1,p2⟩:=hp.append
            exact append_ok hT (kind_map ht hk) hte ht2 hx ho p2.1 hy hs p1 hf.1 hsz p2.2.1 p2.2.2
          · cases h
        · cases h
      · cases h
    · cases h
  · cases h
theorem ev_copy (hT : TabOk P T) {t t2 : TypeId} {x y : Operand} (h : evalB T g e hs N .copy [x,y] [t,t2] = some r) (hp : AllP r.ps) : OpOk P ⟨d,.call ⟨.builtin .copy,#[x,y],#[t,t2]⟩,ty,pos,af,gd⟩ g e hs r.v r.h (nsOf N r.k):=by
  simp only [evalB,putK_eq,setpK_eq,forceP_eq] at h
  split at h
  · rename_i ti txi id p sz off len w ht ht2 hx hy
    split at h
    · rename_i eT ps sz2 k f av hk hs1 ho
      split at h
      · rename_i tie n sz' f0 hte hg
        obtain ⟨hf,h⟩:=bif_some h
        cases h
        simp only [Bool.and_eq_true,Bool.or_eq_true] at hf
        obtain ⟨f1,f2,f3,f4⟩:=hf
        obtain rfl:=Nat.eq_of_beq_eq_true f3
        obtain rfl:=Nat.eq_of_beq_eq_true f4
        obtain ⟨p1,p2⟩:=hp.append
        obtain ⟨p3,p4⟩:=p2.cons
        exact OpOk.less (fun i v hi=>by rw [get?_putL] at hi;rw [get?_put];exact hi) (copy_ok hT (kind_map ht hk) hte ht2 hx ho hg (inbL_ok p4) p3 hy hs1 p1 f1 (f2.imp Nat.eq_of_beq_eq_true Nat.eq_of_beq_eq_true))
      · cases h
    · cases h
  · cases h
theorem arr1 {α : Type} {a : Array α} {x : α} (h : a.toList = [x]) : a = #[x]:=by cases a;simp at h;rw [h]
theorem arr2 {α : Type} {a : Array α} {x y : α} (h : a.toList = [x,y]) : a = #[x,y]:=by cases a;simp at h;rw [h]
theorem evalOp_ok (hT : TabOk P T) {op : Op} (hd : (match op,d with | .store ..,some _=>false | _,_=>true) = true) (h : evalOp m T g e hs N op = some r) (hp : AllP r.ps) : OpOk P ⟨d,op,ty,pos,af,gd⟩ g e hs r.v r.h (nsOf N r.k):=by
  cases op
  case move x=>simp only [evalOp,putK_eq,delK_eq,appK_eq,setpK_eq,fv_eq,forceP_eq] at h;split at h <;> cases h;exact move_ok (by assumption)
  case assign x=>simp only [evalOp,putK_eq,delK_eq,appK_eq,setpK_eq,fv_eq,forceP_eq] at h;split at h <;> cases h;exact assign_ok (by assumption)
  case pick=>simp only [evalOp,putK_eq,delK_eq,appK_eq,setpK_eq,fv_eq,forceP_eq] at h;split at h <;> cases h;exact pick_ok (by assumption)
  case alloc=>simp only [evalOp,putK_eq,delK_eq,appK_eq,setpK_eq,fv_eq,forceP_eq] at h;split at h <;> cases h;exact alloc_ok (hT _ _ (by assumption))
  case box =>
    simp only [evalOp,putK_eq,delK_eq,appK_eq,setpK_eq,fv_eq,forceP_eq] at h
    split at h
    · rename_i ti u ht hx
      obtain ⟨hf,h⟩:=bif_some h
      cases h
      exact box_ok hx hf
    · cases h
  case build=>exact ev_build hT h
  case buildSlice=>exact ev_buildSlice hT h
  case load=>exact ev_load hT h hp
  case store=>exact ev_store hT (by cases d;rfl;cases hd) h hp
  case nilCheck =>
    simp only [evalOp,putK_eq,delK_eq,appK_eq,setpK_eq,fv_eq,forceP_eq] at h
    split at h
    · obtain ⟨hf,h⟩:=bif_some h
      cases h
      exact nilCheck_ok (by assumption) hf
    · cases h
  case binOp =>
    simp only [evalOp,putK_eq,delK_eq,appK_eq,setpK_eq,fv_eq,forceP_eq] at h
    split at h
    · rename_i u v hx hy
      split at h
      · rename_i ps r' hb
        cases h
        exact bin_ok hx hy hb hp
      · split at h
        · rename_i ti ht
          split at h
          · rename_i q hq
            cases h
            exact bin_nil (hT:=hT _ _ ht) hx hy hq
          · cases h
        · cases h
    · cases h
  case makeMap t r' =>
    cases r' with
    | none=>simp only [evalOp] at h;cases h;exact makeMap_ok
    | some _=>simp [evalOp] at h
  case typeAssert x xt t ok =>
    cases ok with
    | true=>simp [evalOp] at h
    | false =>
      simp only [evalOp,fv_eq] at h
      split at h
      · rename_i ti s u ht hx
        obtain ⟨hf,h⟩:=bif_some h
        rw [Bool.and_eq_true] at hf
        cases h
        exact assert_ok (hT:=hT _ _ ht) hx hf.1 hf.2
      · cases h
  case unOp =>
    simp only [evalOp,putK_eq,delK_eq,appK_eq,setpK_eq,fv_eq,forceP_eq] at h
    split at h
    · split at h
      · cases h;exact un_ok (by assumption) (by assumption) hp
      · cases h
    · cases h
  case convert=>exact ev_conv hT h hp
  case makeInterface =>
    simp only [evalOp,putK_eq,delK_eq,appK_eq,setpK_eq,fv_eq,forceP_eq] at h
    split at h
    · obtain ⟨hf,h⟩:=bif_some h
      cases h
      rename_i ti u ht hx
      exact iface_ok (hT:=hT _ _ ht) hx (by cases hk : ti.kind <;> rw [hk] at hf <;> simp at hf ⊢)
    · cases h
  case makeFunc=>simp only [evalOp,putK_eq,delK_eq,appK_eq,setpK_eq,fv_eq,forceP_eq] at h;split at h <;> cases h;exact func_ok (by assumption) (by assumption)
  case makeSlice=>exact ev_makeSlice hT h hp
  case slice=>exact ev_slice hT h hp
  case fieldAddr=>exact ev_fieldAddr hT h
  case field=>exact ev_field hT h
  case sliceToArrayPointer=>exact ev_arrp hT h hp
  case indexAddr=>exact ev_indexAddr hT h hp
  case index=>exact ev_index hT h hp
  case extract =>
    simp only [evalOp,putK_eq,delK_eq,appK_eq,setpK_eq,fv_eq,forceP_eq] at h
    split at h
    · split at h
      · cases h;exact extract_ok (by assumption) (by assumption)
      · cases h
    · cases h
  case call c =>
    obtain ⟨cal,args,tys⟩:=c
    simp only [evalOp,putK_eq,delK_eq,appK_eq,setpK_eq,fv_eq,forceP_eq] at h
    split at h
    · rename_i b
      cases b <;> try (simp [evalB] at h;done)
      case len =>
        cases ha : args.toList with
        | nil=>rw [ha] at h;simp [evalB] at h
        | cons x l =>
          cases l with
          | cons=>rw [ha] at h;simp [evalB] at h
          | nil =>
            cases hb : tys.toList with
            | nil=>rw [ha,hb] at h;simp [evalB] at h
            | cons t l' =>
              cases l' with
              | cons=>rw [ha,hb] at h;simp [evalB] at h
              | nil =>
                rw [ha,hb] at h
                obtain rfl:=arr1 ha
                obtain rfl:=arr1 hb
                exact ev_len hT h
      case append =>
        match ha : args.toList,hb : tys.toList,h with
        | [x,y],[t,t2],h =>
          obtain rfl:=arr2 ha
          obtain rfl:=arr2 hb
          exact ev_append hT h hp
        | [],_,h=>simp [evalB] at h
        | [_],_,h=>simp [evalB] at h
        | _::_::_::_,_,h=>simp [evalB] at h
        | [_,_],[],h=>simp [evalB] at h
        | [_,_],[_],h=>simp [evalB] at h
        | [_,_],_::_::_::_,h=>simp [evalB] at h
      case copy =>
        match ha : args.toList,hb : tys.toList,h with
        | [x,y],[t,t2],h =>
          obtain rfl:=arr2 ha
          obtain rfl:=arr2 hb
          exact ev_copy hT h hp
        | [],_,h=>simp [evalB] at h
        | [_],_,h=>simp [evalB] at h
        | _::_::_::_,_,h=>simp [evalB] at h
        | [_,_],[],h=>simp [evalB] at h
        | [_,_],[_],h=>simp [evalB] at h
        | [_,_],_::_::_::_,h=>simp [evalB] at h
    · cases h
  all_goals (simp [evalOp] at h;done)
def notStore : Op→Bool
  | .store ..=>false
  | _=>true
theorem Seq.ev {F : Fr} {ops : Array Oper} {l : List Oper} {e h g : Asc} {N : Nat} {K : St→Prop} (m : Bool) {T : List (Option TI)} (hT : TabOk F.P T) {d : Tmp} {op : Op} {ty : TypeId} {pos : String} {af : Array Edge} {gd : Option (Nat × Bool)} {ps : List Prop} {v : AV} {h' : Asc} {k : Nat}
    (he : evalOp m T g e h N op = some ⟨ps,some v,h',k⟩) (hp : AllP ps) (hw : wants ops ⟨some d,op,ty,pos,af,gd⟩ e = some true)
    (hd : notStore op = true) (hd2 : Nat.blt d F.n = true) (hk : Seq F ops l ⟨(d,v)::e,h',g,N + k⟩ K) : Seq F ops (⟨some d,op,ty,pos,af,gd⟩::l) ⟨e,h,g,N⟩ K:=by
  refine Seq.step (s:=⟨e,h,g,N⟩) (N + k) hw (evalOp_ok hT (by cases op <;> first | rfl | cases hd) he hp) (fun n hn=>?_) (by simp) hd2 hk
  cases hk : k with
  | zero=>rw [hk] at hn;cases hn
  | succ k => rw [hk] at hn;have : n = N:=by simpa [nsOf] using hn
              simp;omega
theorem Seq.ev0 {F : Fr} {ops : Array Oper} {l : List Oper} {e h g : Asc} {N : Nat} {K : St→Prop} (m : Bool) {T : List (Option TI)} (hT : TabOk F.P T) {d : Tmp} {op : Op} {ty : TypeId} {pos : String} {af : Array Edge} {gd : Option (Nat × Bool)} {ps : List Prop} {v : AV} {h' : Asc}
    (he : evalOp m T g e h N op = some ⟨ps,some v,h',0⟩) (hp : AllP ps) (hw : wants ops ⟨some d,op,ty,pos,af,gd⟩ e = some true)
    (hd : notStore op = true) (hd2 : Nat.blt d F.n = true) (hk : Seq F ops l ⟨(d,v)::e,h',g,N⟩ K) : Seq F ops (⟨some d,op,ty,pos,af,gd⟩::l) ⟨e,h,g,N⟩ K:=Seq.ev m hT he hp hw hd hd2 hk
theorem Seq.evn {F : Fr} {ops : Array Oper} {l : List Oper} {e h g : Asc} {N : Nat} {K : St→Prop} (m : Bool) {T : List (Option TI)} (hT : TabOk F.P T) {op : Op} {ty : TypeId} {pos : String} {af : Array Edge} {gd : Option (Nat × Bool)} {ps : List Prop} {v : Option AV} {h' : Asc}
    (he : evalOp m T g e h N op = some ⟨ps,v,h',0⟩) (hp : AllP ps) (hw : wants ops ⟨none,op,ty,pos,af,gd⟩ e = some true)
    (hk : Seq F ops l ⟨e,h',g,N⟩ K) : Seq F ops (⟨none,op,ty,pos,af,gd⟩::l) ⟨e,h,g,N⟩ K:=by
  refine Seq.step (s:=⟨e,h,g,N⟩) N hw (evalOp_ok hT (by cases op <;> rfl) he hp) (fun n hn=>by cases hn) (Nat.le_refl _) rfl hk
theorem Seq.pass {F : Fr} {ops : Array Oper} {l : List Oper} {e h g : Asc} {N : Nat} {K : St→Prop} {d : Tmp} {op : Op} {ty : TypeId} {pos : String} {af : Array Edge} {gd : Option (Nat × Bool)} (hw : wants ops ⟨some d,op,ty,pos,af,gd⟩ e = some false) (hd2 : Nat.blt d F.n = true)
    (hk : Seq F ops l ⟨(d,.val undef)::e,h,g,N⟩ K) : Seq F ops (⟨some d,op,ty,pos,af,gd⟩::l) ⟨e,h,g,N⟩ K:=Seq.skip (s:=⟨e,h,g,N⟩) hw hd2 hk
end
end Go.V
namespace Go.V
open Go.RowKit Go.L
def RelA (A : Nat→Prop) (σ : Nat→Nat) : AV→AV→Prop
  | .int k n,u=>u = .int k n
  | .bool b,u=>u = .bool b
  | .str l,u=>u = .str l
  | .val v,u=>u = .val v
  | .emp,u=>u = .emp
  | .nul,u=>u = .nul
  | .pair a b,u=>∃ x y,u = .pair x y∧RelA A σ a x∧RelA A σ b y
  | .arr n sz f,u=>∃ k,u = .arr n sz k∧∀ i,i < n→RelA A σ (f i) (k i)
  | .ptr id p,u=>u = .ptr (σ id) p∧A id
  | .sl id p sz off len,u=>u = .sl (σ id) p sz off len∧A id
  | .rsl fr n sz f,u=>∃ fr' k,u = .rsl fr' n sz k∧(fr = true→fr' = true)∧∀ i,i < n→RelA A σ (f i) (k i)
  | .rptr fr a,u=>∃ fr' x,u = .rptr fr' x∧(fr = true→fr' = true)∧RelA A σ a x
  | .tup a,u=>∃ x,u = .tup x∧RelA A σ a x
  | .fn f a b,u=>∃ x y,u = .fn f x y∧RelA A σ a x∧RelA A σ b y
  | .ifc t a,u=>∃ x,u = .ifc t x∧RelA A σ a x
  | .mp id,u=>u = .mp (σ id)∧A id
  | .mo n ks vs,u=>∃ k v,u = .mo n k v∧∀ i,i < n→RelA A σ (ks i) (k i)∧RelA A σ (vs i) (v i)
  | .ob b o,u=>u = .ob b o
structure Renames (c c' : Ctx) (D : Nat→Prop) (σ : Nat→Nat) : Prop where
  w : c'.w = c.w
  S : c'.S = c.S
  B : c'.B = c.B
  A : ∀ i,D i→c'.A i
  ρ : ∀ i,D i→c'.ρ i = c.ρ (σ i)
  G : ∀ i,D i→(c'.G i ↔ c.G (σ i))
theorem Rep.ren {c c' : Ctx} {A : Nat→Prop} {σ : Nat→Nat} (h : Renames c c' A σ) : ∀ {a u : AV} {m : Md} {vs : List Value},RelA A σ a u→Rep c u m vs→Rep c' a m vs:=by
  intro a
  induction a with
  | int | bool | str=>intro u m vs hr hu;rw [show u = _ from hr] at hu;exact hu
  | val v=>intro u m vs hr hu;rw [show u = _ from hr] at hu;exact hu
  | emp=>intro u m vs hr hu;rw [show u = _ from hr] at hu;exact hu
  | nul=>intro u m vs hr hu;rw [show u = _ from hr] at hu;exact hu
  | pair a b iha ihb =>
    intro u m vs hr hu
    obtain ⟨x,y,rfl,h1,h2⟩:=hr
    cases m <;> obtain ⟨p,q,e,h3,h4⟩:=hu <;> exact ⟨p,q,e,iha h1 h3,ihb h2 h4⟩
  | arr n sz f ih =>
    intro u m vs hr hu
    obtain ⟨k,rfl,h1⟩:=hr
    cases m
    · exact ⟨hu.1,fun i hi=>ih i (h1 i hi) (hu.2 i hi)⟩
    · obtain ⟨xs,e,h2,h3⟩:=hu;exact ⟨xs,e,h2,fun i hi=>ih i (h1 i hi) (h3 i hi)⟩
    · obtain ⟨xs,e,h2,h3⟩:=hu;exact ⟨xs,e,h2,fun i hi=>ih i (h1 i hi) (h3 i hi)⟩
  | mp id =>
    intro u m vs hr hu
    obtain ⟨rfl,hA⟩:=hr
    obtain ⟨_,h2,h3⟩:=hu
    exact ⟨h.A _ hA,fun e=>h2 ((h.G _ hA).1 e),by rw [h.ρ _ hA];exact h3⟩
  | mo=>intro u m vs hr hu;obtain ⟨k,v,rfl,_⟩:=hr;exact hu.elim
  | ob=>intro u m vs hr hu;rw [show u = _ from hr] at hu;exact hu.elim
  | ptr id p =>
    intro u m vs hr hu
    obtain ⟨rfl,hA⟩:=hr
    obtain ⟨_,h2,h3⟩:=hu
    exact ⟨h.A _ hA,fun e=>h2 ((h.G _ hA).1 e),by rw [h.ρ _ hA];exact h3⟩
  | sl id p sz off len =>
    intro u m vs hr hu
    obtain ⟨rfl,hA⟩:=hr
    obtain ⟨_,h2⟩:=hu
    refine ⟨h.A _ hA,?_⟩
    rcases h2 with ⟨g1,g2,g3⟩ | ⟨g1,o,cap,g2,g3,g4,g5,g6⟩
    · exact .inl ⟨(h.G _ hA).2 g1,g2,g3⟩
    · exact .inr ⟨fun e=>g1 ((h.G _ hA).1 e),o,cap,by rw [h.ρ _ hA];exact g2,g3,g4,g5,by rw [h.ρ _ hA,h.w];exact g6⟩
  | rsl fr n sz f ih =>
    intro u m vs hr hu
    obtain ⟨fr',k,rfl,hf,h1⟩:=hr
    obtain ⟨a,cap,e,h2,h3,h4⟩:=hu
    refine ⟨a,cap,e,h2,h3,?_⟩
    rcases h4 with h4 | ⟨b,o,xs,e1,hS,hB,hc,hl,hx⟩
    · exact .inl h4
    · exact .inr ⟨b,o,xs,e1,by rw [h.S];exact hS,fun e=>by rw [h.B];exact hB (hf e),by rw [h.w];exact hc,hl,fun i hi=>ih i (h1 i hi) (hx i hi)⟩
  | rptr fr a ih =>
    intro u m vs hr hu
    obtain ⟨fr',x,rfl,hf,h1⟩:=hr
    obtain ⟨b,o,xs,e,hS,hB,hc,hx⟩:=hu
    exact ⟨b,o,xs,e,by rw [h.S];exact hS,fun e=>by rw [h.B];exact hB (hf e),by rw [h.w];exact hc,ih h1 hx⟩
  | tup a ih =>
    intro u m vs hr hu
    obtain ⟨x,rfl,h1⟩:=hr
    cases m
    · exact hu
    · obtain ⟨xs,e,hx⟩:=hu;exact ⟨xs,e,ih h1 hx⟩
    · obtain ⟨xs,e,hx⟩:=hu;exact ⟨xs,e,ih h1 hx⟩
  | fn f a b iha ihb =>
    intro u m vs hr hu
    obtain ⟨x,y,rfl,h1,h2⟩:=hr
    obtain ⟨fs,cs,e,h3,h4⟩:=hu
    exact ⟨fs,cs,e,iha h1 h3,ihb h2 h4⟩
  | ifc t a ih =>
    intro u m vs hr hu
    obtain ⟨x,rfl,h1⟩:=hr
    obtain ⟨v,e,h2⟩:=hu
    exact ⟨v,e,ih h1 h2⟩
theorem relA_ob {A : Nat→Prop} {σ : Nat→Nat} {a : AV} {b : Nat} {o : Obj} (h : RelA A σ a (.ob b o)) : a = .ob b o:=by
  cases a with
  | ob b' o'=>exact (show AV.ob b o = .ob b' o' from h).symm
  | _=>simp [RelA] at h
theorem relA_mo {A : Nat→Prop} {σ : Nat→Nat} {a : AV} {n : Nat} {k v : Nat→AV} (h : RelA A σ a (.mo n k v)) : ∃ ks vs,a = .mo n ks vs∧∀ i,i < n→RelA A σ (ks i) (k i)∧RelA A σ (vs i) (v i):=by
  cases a with
  | mo m ks vs =>
    obtain ⟨k',v',e,h⟩:=h
    cases e
    exact ⟨ks,vs,rfl,h⟩
  | _=>simp [RelA] at h
theorem RelA.size {A : Nat→Prop} {σ : Nat→Nat} : ∀ {a u : AV},RelA A σ a u→a.size = u.size:=by
  intro a
  induction a with
  | pair a b iha ihb=>intro u hr;obtain ⟨x,y,rfl,h1,h2⟩:=hr;simp [AV.size,iha h1,ihb h2]
  | arr n sz f ih=>intro u hr;obtain ⟨k,rfl,_⟩:=hr;rfl
  | int | bool | str | val | emp | nul=>intro u hr;rw [show u = _ from hr]
  | ptr | sl | mp=>intro u hr;rw [hr.1];rfl
  | mo=>intro u hr;obtain ⟨_,_,rfl,_⟩:=hr;rfl
  | ob=>intro u hr;rw [show u = _ from hr]
  | rsl=>intro u hr;obtain ⟨_,_,rfl,_⟩:=hr;rfl
  | rptr=>intro u hr;obtain ⟨_,_,rfl,_⟩:=hr;rfl
  | tup=>intro u hr;obtain ⟨_,rfl,_⟩:=hr;rfl
  | fn=>intro u hr;obtain ⟨_,_,rfl,_⟩:=hr;rfl
  | ifc=>intro u hr;obtain ⟨_,rfl,_⟩:=hr;rfl
def sg : List (Nat × Nat)→Nat→Nat
  | [],i=>i
  | (a,b)::r,i=>bif Nat.beq a i then b else sg r i
def keys : Asc→List Nat
  | []=>[]
  | (k,_)::r=>k::keys r
def memB : Nat→List Nat→Bool
  | _,[]=>false
  | a,b::r=>Nat.beq a b || memB a r
theorem memB_ok {a : Nat} : ∀ {l : List Nat},memB a l = true ↔ a ∈ l
  | []=>by simp [memB]
  | b :: r=>by
    unfold memB
    rw [Bool.or_eq_true,memB_ok]
    constructor
    · rintro (h | h)
      · rw [Nat.eq_of_beq_eq_true h];exact List.mem_cons_self
      · exact List.mem_cons_of_mem _ h
    · intro h
      rcases List.mem_cons.1 h with rfl | h
      · left;simp
      · exact .inr h
theorem get?_keys : ∀ {h : Asc} {i : Nat} {av : AV},get? h i = some av→i ∈ keys h
  | [],i,av,h=>by cases h
  | (k,v)::r,i,av,h=>by
    rw [get?_cons] at h
    by_cases e : k = i
    · subst e;exact List.mem_cons_self
    · rw [if_neg e] at h;exact List.mem_cons_of_mem _ (get?_keys h)
def renB (σ : List (Nat × Nat)) (N0 : Nat) (ks : List Nat) (N' : Nat) : Bool :=
  σ.all (fun p=>Nat.ble N0 p.1) && (ks.all (fun k=>Nat.blt k N') && (Nat.ble N0 N' && ks.all (fun i=>ks.all fun j=>Nat.beq i j || !Nat.beq (sg σ i) (sg σ j))))
def EnvLe (A : Nat→Prop) (σ : Nat→Nat) (e : Asc) : Asc→Prop
  | []=>True
  | (t,v)::r=>(∃ u,get? e t = some u∧RelA A σ v u)∧EnvLe A σ e r
def HeapLe (A : Nat→Prop) (σ : Nat→Nat) (h : Asc) : Asc→Prop
  | []=>True
  | (i,v)::r=>(∃ u,get? h (σ i) = some u∧RelA A σ v u)∧HeapLe A σ h r
theorem envLe_get {A : Nat→Prop} {σ : Nat→Nat} {e : Asc} : ∀ {e' : Asc},EnvLe A σ e e'→∀ t v,get? e' t = some v→∃ u,get? e t = some u∧RelA A σ v u
  | [],_,t,v,h=>by cases h
  | (k,x)::r,hl,t,v,h=>by
    rw [get?_cons] at h
    by_cases e : k = t
    · subst e;rw [if_pos rfl] at h;cases h;exact hl.1
    · rw [if_neg e] at h;exact envLe_get hl.2 t v h
theorem heapLe_get {A : Nat→Prop} {σ : Nat→Nat} {e : Asc} : ∀ {e' : Asc},HeapLe A σ e e'→∀ t v,get? e' t = some v→∃ u,get? e (σ t) = some u∧RelA A σ v u
  | [],_,t,v,h=>by cases h
  | (k,x)::r,hl,t,v,h=>by
    rw [get?_cons] at h
    by_cases e : k = t
    · subst e;rw [if_pos rfl] at h;cases h;exact hl.1
    · rw [if_neg e] at h;exact heapLe_get hl.2 t v h
theorem sg_low : ∀ {σ : List (Nat × Nat)} {N0 i : Nat},σ.all (fun p=>Nat.ble N0 p.1) = true→i < N0→sg σ i = i
  | [],_,_,_,_=>rfl
  | (a,b)::r,N0,i,h,hi=>by
    simp only [List.all_cons,Bool.and_eq_true] at h
    have:=Nat.le_of_ble_eq_true h.1
    unfold sg
    rw [beq_ne (by omega),cond_false]
    exact sg_low h.2 hi
theorem Sim.ren {F : Fr} {s s' : St} (σ : List (Nat × Nat)) (hb : renB σ F.N0 (keys s'.h) s'.N = true) (hg : s'.g = s.g) (he : EnvLe (fun i=>memB i (keys s'.h) = true) (sg σ) s.e s'.e) (hh : HeapLe (fun i=>memB i (keys s'.h) = true) (sg σ) s.h s'.h) :
    ∀ a w,Sim F s a w→Sim F s' a w:=by
  rintro a w ⟨c,ns,rfl,hout,hen,hA,hsz,hdf,hN0,hgl⟩
  simp only [renB,Bool.and_eq_true] at hb
  obtain ⟨b1,b2,b3,b4⟩:=hb
  have b3:=Nat.le_of_ble_eq_true b3
  have hlow : ∀ i,F.c0.A i→sg σ i = i:=fun i hi=>sg_low b1 (hN0 i hi)
  have hk : ∀ i av,get? s'.h i = some av→memB i (keys s'.h) = true:=fun i av hi=>memB_ok.2 (get?_keys hi)
  let c' : Ctx:={ w:=c.w,ρ:=fun i=>c.ρ (sg σ i),A:=fun i=>F.c0.A i ∨ memB i (keys s'.h) = true,G:=fun i=>c.G (sg σ i),S:=c.S,B:=c.B }
  have hren : Renames c c' (fun i=>memB i (keys s'.h) = true) (sg σ):=⟨rfl,rfl,rfl,fun i hi=>.inr hi,fun _ _=>rfl,fun _ _=>Iff.rfl⟩
  have hle : Le F.c0 c':=by
    refine ⟨fun i hi=>.inl hi,fun i hi=>?_,fun i hi=>?_,fun i hi hG=>?_,hout.le.S⟩
    · show c.ρ (sg σ i) = _
      rw [hlow i hi];exact hout.le.ρ i hi
    · show c.G (sg σ i) ↔ _
      rw [hlow i hi];exact hout.le.G i hi
    · show _ ≤ bsize c.w (c.ρ (sg σ i))
      rw [hlow i hi];exact hout.le.sz i hi hG
  have hinj : ∀ i j a b,get? s'.h i = some a→get? s'.h j = some b→sg σ i = sg σ j→i = j:=fun i j a b hi hj e=>by
    have h1:=List.all_eq_true.1 (List.all_eq_true.1 b4 i (get?_keys hi)) j (get?_keys hj)
    rw [Bool.or_eq_true] at h1
    rcases h1 with h1 | h1
    · exact Nat.eq_of_beq_eq_true h1
    · rw [e] at h1;simp at h1
  have hEg : ∀ x v,get? s'.g x = some v→Rep c' (.rptr false v) .V [.pointer (some ⟨x,0,none⟩)]:=fun x v hx=>(hgl x v (by rw [← hg];exact hx)).le hle
  have hheap : HeapRep c' s'.h:=by
    refine ⟨fun i av hi=>.inr (hk i av hi),fun i av hi hG=>?_,fun i av hi hG=>?_,fun i av hi hG=>?_,fun i j a b hi hj hgi hgj e=>?_⟩
    · obtain ⟨u,h1,h2⟩:=heapLe_get hh i av hi
      refine (hout.heap.obj _ _ h1 hG).to rfl (fun xs hx=>hx.ren hren h2) (fun n k v e=>?_) (fun b o e=>by subst e;exact relA_ob h2)
      subst e
      obtain ⟨ks,vs,e1,e2⟩:=relA_mo h2
      exact ⟨ks,vs,e1,fun i hi=>⟨fun x hx=>hx.ren hren (e2 i hi).1,fun x hx=>hx.ren hren (e2 i hi).2⟩⟩
    · obtain ⟨u,h1,h2⟩:=heapLe_get hh i av hi
      rw [h2.size];exact hout.heap.gh _ _ h1 hG
    · obtain ⟨u,h1,h2⟩:=heapLe_get hh i av hi
      exact hout.heap.nS _ _ h1 hG
    · obtain ⟨u,h1,_⟩:=heapLe_get hh i a hi
      obtain ⟨u',h1',_⟩:=heapLe_get hh j b hj
      exact hinj i j a b hi hj (hout.heap.inj _ _ _ _ h1 h1' hgi hgj e)
  refine ⟨c',keys s'.h,rfl,⟨hle,hout.B,fun i hi=>hi.imp id memB_ok.1,hheap,⟨hout.ok.S,hout.ok.B⟩,hout.os,hout.tape,hout.output,hout.size,hout.frame,fun i av hi hG=>?_,hout.newS⟩,⟨fun t v ht=>?_,hEg⟩,fun i hi=>?_,hsz,hdf,hN0,fun x v hx=>hgl x v (by rw [← hg];exact hx)⟩
  · obtain ⟨u,h1,_⟩:=heapLe_get hh i av hi
    exact hout.own _ _ h1 hG
  · obtain ⟨u,h1,h2⟩:=envLe_get he t v ht
    obtain ⟨q1,q2⟩:=hen.slot t u h1
    exact ⟨q1,q2.ren hren h2⟩
  · rcases hi with hi | hi
    · exact Nat.lt_of_lt_of_le (hN0 i hi) b3
    · have:=List.all_eq_true.1 b2 i (memB_ok.1 hi)
      simpa [Nat.blt_eq] using this
theorem Sim.less {F : Fr} {e h g e' h' : Asc} {N N' : Nat} (σ : List (Nat × Nat)) (hb : renB σ F.N0 (keys h') N' = true) (he : EnvLe (fun i=>memB i (keys h') = true) (sg σ) e e') (hh : HeapLe (fun i=>memB i (keys h') = true) (sg σ) h h') :
    ∀ a w,Sim F ⟨e,h,g,N⟩ a w→Sim F ⟨e',h',g,N'⟩ a w:=Sim.ren (s:=⟨e,h,g,N⟩) (s':=⟨e',h',g,N'⟩) σ hb rfl he hh
section
variable {F : Fr} {K : St→Prop} {Q : Exit→St→Prop} {s : St}
theorem thenQ_n (h : K s) : thenQ K Q .normal s:=h
theorem thenQ_r (h : Q .ret s) : thenQ K Q .ret s:=h
theorem thenQ_e {i : Nat} (h : Q (.exit i) s) : thenQ K Q (.exit i) s:=h
theorem inQ_n {i : Nat} (h : Q .normal s) : inQ i Q .normal s:=h
theorem inQ_r {i : Nat} (h : Q .ret s) : inQ i Q .ret s:=h
theorem inQ_e {i : Nat} (h : Q .normal s) : inQ i Q (.exit i) s:=by show (bif Nat.beq i i then _ else _);rw [Nat.beq_refl];exact h
theorem retQ_ok {T : List (Option TI)} {fn : Func} {R : AV→Asc→Prop} {r : AV} (hr : resAV T s fn.results.toList = some r) (h' : Asc) (hs : ∀ id av,get? h' id = some av→get? s.h id = some av) (hR : R r h') : retQ T fn R .ret s:=⟨trivial,r,h',hr,hs,hR⟩
theorem AllP.guard {l : List Prop} (h : AllP l) : AllP l:=h
theorem nil_sub {h : Asc} : ∀ id av,get? [] id = some av→get? h id = some av:=fun _ _ h=>by cases h
end
section
variable {A : Nat→Prop} {σ : Nat→Nat}
theorem EnvLe.nil {e : Asc} : EnvLe A σ e []:=trivial
theorem EnvLe.cons {e r : Asc} {t : Nat} {v u : AV} (h : get? e t = some u) (h1 : RelA A σ v u) (h2 : EnvLe A σ e r) : EnvLe A σ e ((t,v)::r):=⟨⟨u,h,h1⟩,h2⟩
theorem HeapLe.nil {e : Asc} : HeapLe A σ e []:=trivial
theorem HeapLe.cons {e r : Asc} {t : Nat} {v u : AV} (h : get? e (σ t) = some u) (h1 : RelA A σ v u) (h2 : HeapLe A σ e r) : HeapLe A σ e ((t,v)::r):=⟨⟨u,h,h1⟩,h2⟩
structure Keep (p : Prop) : Prop where
  out : p
theorem RelA.rsl {fr : Bool} {n sz : Nat} {f k : Nat→AV} (h : ∀ i,i < n→RelA A σ (f i) (k i)) : RelA A σ (.rsl fr n sz f) (.rsl fr n sz k):=⟨fr,k,rfl,id,h⟩
theorem RelA.rslw {fr : Bool} {n sz : Nat} {f k : Nat→AV} (h : ∀ i,i < n→RelA A σ (f i) (k i)) : RelA A σ (.rsl false n sz f) (.rsl fr n sz k):=⟨fr,k,rfl,(fun e=>by cases e),h⟩
theorem RelA.arr {n sz : Nat} {f k : Nat→AV} (h : ∀ i,i < n→RelA A σ (f i) (k i)) : RelA A σ (.arr n sz f) (.arr n sz k):=⟨k,rfl,h⟩
theorem RelA.pair {a b x y : AV} (h1 : RelA A σ a x) (h2 : RelA A σ b y) : RelA A σ (.pair a b) (.pair x y):=⟨x,y,rfl,h1,h2⟩
theorem RelA.int {k : IntKind} {n n' : Int} (h : Keep (n' = n)) : RelA A σ (.int k n) (.int k n'):=by rw [h.out];exact rfl
end
end Go.V
namespace Go.V
open Go.RowKit Go.L
def NoFr : AV→Prop
  | .mo n ks vs=>∀ i,i < n→NoFr (ks i)∧NoFr (vs i)
  | .ob ..=>True
  | .pair a b=>NoFr a∧NoFr b
  | .arr n _ f=>∀ i,i < n→NoFr (f i)
  | .rsl fr n _ f=>fr = false∧∀ i,i < n→NoFr (f i)
  | .rptr fr a=>fr = false∧NoFr a
  | .tup a=>NoFr a
  | .fn _ a b=>NoFr a∧NoFr b
  | .ifc _ a=>NoFr a
  | _=>True
structure Pass (p q : Bool) (c c' : Ctx) (D : Nat→Prop) (σ : Nat→Nat) : Prop where
  w : c'.w = c.w
  A : ∀ i,D i→c'.A i
  ρ : ∀ i,D i→c'.ρ i = c.ρ (σ i)
  G : ∀ i,D i→(c'.G i ↔ c.G (σ i))
  S : ∀ b,c.S b→(q = true→c.B ≤ b)→c'.S b
  B : p = false→c'.B ≤ c.B
theorem Rep.pass {p q : Bool} {c c' : Ctx} {D : Nat→Prop} {σ : Nat→Nat} (h : Pass p q c c' D σ) : ∀ {a u : AV} {m : Md} {vs : List Value},RelA D σ a u→(p = true→NoFr a)→(q = true→AllFr u)→Rep c u m vs→Rep c' a m vs:=by
  intro a
  induction a with
  | int | bool | str=>intro u m vs hr _ _ hu;rw [show u = _ from hr] at hu;exact hu
  | val v=>intro u m vs hr _ _ hu;rw [show u = _ from hr] at hu;exact hu
  | emp=>intro u m vs hr _ _ hu;rw [show u = _ from hr] at hu;exact hu
  | nul=>intro u m vs hr _ _ hu;rw [show u = _ from hr] at hu;exact hu
  | pair a b iha ihb =>
    intro u m vs hr hp hq hu
    obtain ⟨x,y,rfl,h1,h2⟩:=hr
    cases m <;> obtain ⟨p,q,e,h3,h4⟩:=hu <;> exact ⟨p,q,e,iha h1 (fun e=>(hp e).1) (fun e=>(hq e).1) h3,ihb h2 (fun e=>(hp e).2) (fun e=>(hq e).2) h4⟩
  | arr n sz f ih =>
    intro u m vs hr hp hq hu
    obtain ⟨k,rfl,h1⟩:=hr
    cases m
    · exact ⟨hu.1,fun i hi=>ih i (h1 i hi) (fun e=>hp e i hi) (fun e=>hq e i hi) (hu.2 i hi)⟩
    · obtain ⟨xs,e,h2,h3⟩:=hu;exact ⟨xs,e,h2,fun i hi=>ih i (h1 i hi) (fun e=>hp e i hi) (fun e=>hq e i hi) (h3 i hi)⟩
    · obtain ⟨xs,e,h2,h3⟩:=hu;exact ⟨xs,e,h2,fun i hi=>ih i (h1 i hi) (fun e=>hp e i hi) (fun e=>hq e i hi) (h3 i hi)⟩
  | mp id =>
    intro u m vs hr _ _ hu
    obtain ⟨rfl,hA⟩:=hr
    obtain ⟨_,h2,h3⟩:=hu
    exact ⟨h.A _ hA,fun e=>h2 ((h.G _ hA).1 e),by rw [h.ρ _ hA];exact h3⟩
  | mo=>intro u m vs hr _ _ hu;obtain ⟨k,v,rfl,_⟩:=hr;exact hu.elim
  | ob=>intro u m vs hr _ _ hu;rw [show u = _ from hr] at hu;exact hu.elim
  | ptr id p =>
    intro u m vs hr _ _ hu
    obtain ⟨rfl,hA⟩:=hr
    obtain ⟨_,h2,h3⟩:=hu
    exact ⟨h.A _ hA,fun e=>h2 ((h.G _ hA).1 e),by rw [h.ρ _ hA];exact h3⟩
  | sl id p sz off len =>
    intro u m vs hr _ _ hu
    obtain ⟨rfl,hA⟩:=hr
    obtain ⟨_,h2⟩:=hu
    refine ⟨h.A _ hA,?_⟩
    rcases h2 with ⟨g1,g2,g3⟩ | ⟨g1,o,cap,g2,g3,g4,g5,g6⟩
    · exact .inl ⟨(h.G _ hA).2 g1,g2,g3⟩
    · exact .inr ⟨fun e=>g1 ((h.G _ hA).1 e),o,cap,by rw [h.ρ _ hA];exact g2,g3,g4,g5,by rw [h.ρ _ hA,h.w];exact g6⟩
  | rsl fr n sz f ih =>
    intro u m vs hr hp hq hu
    obtain ⟨fr',k,rfl,hf,h1⟩:=hr
    obtain ⟨a,cap,e,h2,h3,h4⟩:=hu
    refine ⟨a,cap,e,h2,h3,?_⟩
    rcases h4 with h4 | ⟨b,o,xs,e1,hS,hB,hc,hl,hx⟩
    · exact .inl h4
    · refine .inr ⟨b,o,xs,e1,h.S b hS (fun e=>hB (hq e).1),fun e=>?_,by rw [h.w];exact hc,hl,fun i hi=>ih i (h1 i hi) (fun e=>(hp e).2 i hi) (fun e=>(hq e).2 i hi) (hx i hi)⟩
      cases p with
      | true=>have:=(hp rfl).1;rw [this] at e;cases e
      | false=>exact Nat.le_trans (h.B rfl) (hB (hf e))
  | rptr fr a ih =>
    intro u m vs hr hp hq hu
    obtain ⟨fr',x,rfl,hf,h1⟩:=hr
    obtain ⟨b,o,xs,e,hS,hB,hc,hx⟩:=hu
    refine ⟨b,o,xs,e,h.S b hS (fun e=>hB (hq e).1),fun e=>?_,by rw [h.w];exact hc,ih h1 (fun e=>(hp e).2) (fun e=>(hq e).2) hx⟩
    cases p with
    | true=>have:=(hp rfl).1;rw [this] at e;cases e
    | false=>exact Nat.le_trans (h.B rfl) (hB (hf e))
  | tup a ih =>
    intro u m vs hr hp hq hu
    obtain ⟨x,rfl,h1⟩:=hr
    cases m
    · exact hu
    · obtain ⟨xs,e,hx⟩:=hu;exact ⟨xs,e,ih h1 hp hq hx⟩
    · obtain ⟨xs,e,hx⟩:=hu;exact ⟨xs,e,ih h1 hp hq hx⟩
  | fn f a b iha ihb =>
    intro u m vs hr hp hq hu
    obtain ⟨x,y,rfl,h1,h2⟩:=hr
    obtain ⟨fs,cs,e,h3,h4⟩:=hu
    exact ⟨fs,cs,e,iha h1 (fun e=>(hp e).1) (fun e=>(hq e).1) h3,ihb h2 (fun e=>(hp e).2) (fun e=>(hq e).2) h4⟩
  | ifc t a ih =>
    intro u m vs hr hp hq hu
    obtain ⟨x,rfl,h1⟩:=hr
    obtain ⟨v,e,h2⟩:=hu
    exact ⟨v,e,ih h1 hp hq h2⟩
inductive View (H : Asc) (bor : Nat→Prop) (D : Nat→Prop) (σ : Nat→Nat) : AV→AV→Prop
  | rel {a u : AV} : RelA D σ a u→View H bor D σ a u
  | sl {id n' sz off n : Nat} {p : List Step} {av : AV} {f k : Nat→AV} : get? H id = some av→getp av p = some (.arr n' sz k)→AllP (inbL av p)→off + n ≤ n'→bor id→(∀ i,i < n→RelA D σ (f i) (k (off + i)))→View H bor D σ (.rsl false n sz f) (.sl id p sz off n)
  | nil {sz : Nat} {f : Nat→AV} : View H bor D σ (.rsl false 0 sz f) (.val (.slice none 0 0))
  | emp {sz : Nat} {f : Nat→AV} : View H bor D σ (.rsl false 0 sz f) .emp
  | ptr {id : Nat} {p : List Step} {av w a : AV} : get? H id = some av→getp av p = some w→AllP (inbL av p)→w.isMo = false→bor id→RelA D σ a w→View H bor D σ (.rptr false a) (.ptr id p)
  | pair {a b x y : AV} : View H bor D σ a x→View H bor D σ b y→View H bor D σ (.pair a b) (.pair x y)
  | fn {f : Fn} {a b x y : AV} : View H bor D σ a x→View H bor D σ b y→View H bor D σ (.fn f a b) (.fn f x y)
  | ifc {t : TypeId} {a x : AV} : View H bor D σ a x→View H bor D σ (.ifc t a) (.ifc t x)
theorem View.rep {H : Asc} {bor D : Nat→Prop} {σ : Nat→Nat} {c c0 : Ctx} (hp : Pass true false c c0 D σ) (hh : HeapRep c H) (hb : ∀ id av,get? H id = some av→bor id→¬ c.G id→c0.S (c.ρ id)) {a u : AV} (h : View H bor D σ a u) :
    ∀ {m : Md} {vs : List Value},NoFr a→Rep c u m vs→Rep c0 a m vs:=by
  induction h with
  | rel hr=>intro m vs hn hu;exact hu.pass hp hr (fun _=>hn) (fun e=>by cases e)
  | nil =>
    intro m vs _ hu
    exact ⟨none,0,hu.1,Nat.le_refl _,Nat.zero_le _,.inl rfl⟩
  | emp =>
    intro m vs _ hu
    obtain ⟨ad,hu⟩:=hu
    exact ⟨ad,0,hu,Nat.le_refl _,Nat.zero_le _,.inl rfl⟩
  | @sl id n' sz off n p av f k h1 h2 h3 h4 h5 h6 =>
    intro m vs hn hu
    obtain ⟨_,⟨_,hz,ad,e⟩ | ⟨hG,o,cap,e,ho,h7,h8,_⟩⟩:=hu
    · exact ⟨ad,0,by rw [e,hz],by omega,Nat.zero_le _,.inl hz⟩
    · refine ⟨_,cap,e,h7,h8,?_⟩
      by_cases hn0 : n = 0
      · exact .inl hn0
      obtain ⟨xs,q1,q2,q3⟩:=(hh.obj id av h1 hG).path h2 (inbL_ok h3) rfl
      have hmul : off * sz + n * sz ≤ n' * sz:=by rw [← Nat.add_mul];exact Nat.mul_le_mul_right _ h4
      have ho3 : o = pathOff p + off * sz:=by rcases ho with ho | ho;omega;exact ho
      refine .inr ⟨c.ρ id,o,sub xs (off * sz) (n * sz),rfl,hb id av h1 h5 hG,(fun e=>by cases e),by rw [ho3,hp.w];exact q1.sub _ _,sub_len (by omega),fun i hi=>?_⟩
      have hm2 : i * sz + sz ≤ n * sz:=by
        have:=Nat.mul_le_mul_right sz (show i + 1 ≤ n from hi)
        rwa [Nat.add_mul,Nat.one_mul] at this
      rw [sub_sub _ _ _ _ _ hm2,← Nat.add_mul]
      exact (q3 _ (by omega)).pass hp (h6 i hi) (fun _=>hn.2 i hi) (fun e=>by cases e)
  | @ptr id p av w a h1 h2 h3 hmo h4 h5 =>
    intro m vs hn hu
    obtain ⟨_,hG,e⟩:=hu
    obtain ⟨xs,q1,q2⟩:=(hh.obj id av h1 hG).path h2 (inbL_ok h3) hmo
    exact ⟨c.ρ id,pathOff p,xs,e,hb id av h1 h4 hG,(fun e=>by cases e),by rw [hp.w];exact q1,q2.pass hp h5 (fun _=>hn.2) (fun e=>by cases e)⟩
  | pair _ _ iha ihb =>
    intro m vs hn hu
    cases m <;> obtain ⟨p,q,e,h3,h4⟩:=hu <;> exact ⟨p,q,e,iha hn.1 h3,ihb hn.2 h4⟩
  | fn _ _ iha ihb =>
    intro m vs hn hu
    obtain ⟨fs,cs,e,h3,h4⟩:=hu
    exact ⟨fs,cs,e,iha hn.1 h3,ihb hn.2 h4⟩
  | ifc _ ih =>
    intro m vs hn hu
    obtain ⟨v,e,h3⟩:=hu
    exact ⟨v,e,ih hn h3⟩
def catC : AV→AV→AV
  | .pair a b,c=>.pair a (catC b c)
  | _,c=>c
theorem rep_cat {c : Ctx} : ∀ {a b : AV} {vs ws : List Value},isChain a = true→Rep c a .T vs→Rep c b .T ws→Rep c (catC a b) .T (vs ++ ws):=by
  intro a
  induction a with
  | pair a b _ ih =>
    intro b' vs ws hc h1 h2
    obtain ⟨x,y,rfl,h3,h4⟩:=h1
    exact ⟨x,y ++ ws,rfl,h3,ih hc h4 h2⟩
  | nul=>intro b vs ws _ h1 h2;have h1 : vs = []:=h1;subst h1;exact h2
  | int | bool | str | val | emp | arr | ptr | sl | rsl | rptr | tup | fn | ifc | mp | mo | ob=>intro b vs ws hc;cases hc
def keepL : Asc→List Nat→Asc
  | [],_=>[]
  | (k,v)::r,l=>bif memB k l then (k,v)::keepL r l else keepL r l
def dropL : Asc→List Nat→Asc
  | [],_=>[]
  | (k,v)::r,l=>bif memB k l then dropL r l else (k,v)::dropL r l
theorem get?_keep : ∀ (h : Asc) (l : List Nat) (i : Nat),get? (keepL h l) i = if memB i l = true then get? h i else none
  | [],l,i=>by simp [keepL,get?]
  | (k,v)::r,l,i=>by
    unfold keepL
    by_cases e : k = i
    · subst e
      cases hm : memB k l
      · simp only [cond_false];rw [get?_keep r l k,hm];simp
      · simp only [cond_true,get?_cons];simp
    · cases hm : memB k l
      · simp only [cond_false,get?_cons,if_neg e];exact get?_keep r l i
      · simp only [cond_true,get?_cons,if_neg e];exact get?_keep r l i
theorem get?_drop : ∀ (h : Asc) (l : List Nat) (i : Nat),get? (dropL h l) i = if memB i l = true then none else get? h i
  | [],l,i=>by simp [dropL,get?]
  | (k,v)::r,l,i=>by
    unfold dropL
    by_cases e : k = i
    · subst e
      cases hm : memB k l
      · simp only [cond_false,get?_cons];simp
      · simp only [cond_true];rw [get?_drop r l k,hm];simp
    · cases hm : memB k l
      · simp only [cond_false,get?_cons,if_neg e];exact get?_drop r l i
      · simp only [cond_true,get?_cons,if_neg e];exact get?_drop r l i
theorem get?_app : ∀ (h k : Asc) (i : Nat),get? (h ++ k) i = (get? h i).or (get? k i)
  | [],k,i=>by simp [get?]
  | (j,v)::r,k,i=>by
    rw [List.cons_append,get?_cons,get?_cons]
    by_cases e : j = i
    · simp [e]
    · simp [e,get?_app r k i]
def passB (σ : List (Nat × Nat)) (ks : List Nat) : Bool:=ks.all fun i=>ks.all fun j=>Nat.beq i j || !Nat.beq (sg σ i) (sg σ j)
def passed (σ : List (Nat × Nat)) (hin : Asc) : List Nat:=(keys hin).map (sg σ)
def backB (σ τ : List (Nat × Nat)) (hin hn : Asc) (N N' : Nat) : Bool :=
  Nat.ble N N' && ((keys hn).all (fun i=>(Nat.ble N i && Nat.blt i N') || (memB (sg τ i) (keys hin) && Nat.beq (sg σ (sg τ i)) i)) && (keys hn).all fun i=>(keys hn).all fun j=>Nat.beq i j || !Nat.beq (sg τ i) (sg τ j))
structure Back (bw : Bool) (σ τ : List (Nat × Nat)) (hin : Asc) (N N' : Nat) (r : AV) (h' : Asc) (v : AV) (hn : Asc) : Prop where
  rel : RelA (fun i=>memB i (keys hn) = true) (sg τ) v r
  heap : HeapLe (fun i=>memB i (keys hn) = true) (sg τ) h' hn
  fr : bw = true→AllFr r∧∀ i u,get? h' i = some u→AllFr u
  ids : backB σ τ hin hn N N' = true
theorem inj_of {σ : List (Nat × Nat)} {ks : List Nat} (h : (ks.all fun i=>ks.all fun j=>Nat.beq i j || !Nat.beq (sg σ i) (sg σ j)) = true) {i j : Nat} (hi : i ∈ ks) (hj : j ∈ ks) (e : sg σ i = sg σ j) : i = j:=by
  have h1:=List.all_eq_true.1 (List.all_eq_true.1 h i hi) j hj
  rw [Bool.or_eq_true] at h1
  rcases h1 with h1 | h1
  · exact Nat.eq_of_beq_eq_true h1
  · rw [e] at h1;simp at h1
theorem run_call {P : Program} {o : Oper} {a : Act} {w : World} {K : Act→World→Prop} {Q : Exit→Act→World→Prop} {fid : FuncId} {fn : Func} {callee : Operand} {xs : Array Operand} {tys : Array TypeId} {fs cs : List Value}
    (ho : o.op = .call ⟨.value callee,xs,tys⟩) (hce : a.eval callee = .func (.func fid) fs.toArray cs.toArray) (hf : P.funcs[fid]? = some fn) (hbd : fn.body.isNone = false) (hnm : (fn.name == "runtime.NumGoroutine") = false)
    (hc : Calls P fid (fs ++ (xs.toList.map a.eval ++ cs)).toArray w fun e w'=>∃ v,e = .returned v∧K (a.put o.dst v) w') : o.wp P a w K Q:=by
  have hrun : (execOp a.eval o).run P w = .ok (.enter fid (fs ++ (xs.toList.map a.eval ++ cs)).toArray) w:=by
    have hargs : (fs.toArray ++ xs.map a.eval) ++ cs.toArray = (fs ++ (xs.toList.map a.eval ++ cs)).toArray:=by apply Array.ext';simp
    simp only [execOp,ho,resolve,hce,Deferred.ofValue,invoke,callFunc,Sem.run_bind,Sem.run_pure,Result.andThen_ok,hargs]
    have h1 : fn.name ≠ "runtime.NumGoroutine" := by simpa using hnm
    have h2 : fn.body ≠ none:=fun e=>by rw [e] at hbd;cases hbd
    simp [program,Sem.run,hf,h1,h2]
  unfold Oper.wp
  rw [hrun]
  refine hc.mono fun e w' he=>?_
  obtain ⟨v,rfl,hk⟩:=he
  exact hk
theorem keys_get : ∀ {h : Asc} {i : Nat},i ∈ keys h→∃ av,get? h i = some av
  | [],i,hi=>by cases hi
  | (k, v)::r,i,hi=>by
    rw [show keys ((k,v)::r) = k::keys r from rfl] at hi
    by_cases e : k = i
    · exact ⟨v,by rw [get?_cons,if_pos e]⟩
    · rcases List.mem_cons.1 hi with h1 | h1
      · exact absurd h1.symm e
      · obtain ⟨av,h2⟩:=keys_get h1
        exact ⟨av,by rw [get?_cons,if_neg e];exact h2⟩
def OkE (E : Value→Ending) (P : Program) (f : FuncId) (g h : Asc) (args : AV) (R : AV→Asc→Prop) : Prop :=
  ∀ c,(∀ x v,get? g x = some v→Rep c (.rptr false v) .V [.pointer (some ⟨x,0,none⟩)])→HeapRep c h→CtxOk c→c.B = c.w.heap.size→(∀ i,c.A i→∃ av,get? h i = some av)→∀ vs,Rep c args .T vs →
    Calls P f vs.toArray c.w fun e w'=>∃ c' v r h' ns,e = E v∧c'.w = w'∧Out c h h' ns c'∧Rep c' r .V [v]∧R r h'
theorem call_coreE {E : Value→Ending} {W : Prop} {P : Program} {e h g : Asc} {N : Nat} {fid : FuncId} {callee : Operand} {xs : Array Operand} {u1 u2 ax args : AV} {g' hin : Asc} {R : AV→Asc→Prop} {S' : AV→Asc→Nat→Prop}
    (hce : ev g e callee = some (.fn (.func fid) u1 u2)) (hax : evs g e xs.toList = some ax) (hc1 : isChain u1 = true) (hc2 : isChain ax = true)
    (ct : OkE E P fid g' hin args R)
    (hg' : ∀ x v,get? g' x = some v→get? g x = some v∧NoFr v∧∀ D σ,RelA D σ v v) (σ : List (Nat × Nat)) (bw : Bool) (hσ : passB σ (keys hin) = true)
    (hv : View h (fun id=>bw = true∧memB id (passed σ hin) = false) (fun i=>memB i (keys hin) = true) (sg σ) args (catC u1 (catC ax u2))) (hnf : NoFr args)
    (hhin : HeapLe (fun i=>memB i (keys hin) = true) (sg σ) h hin) (hnfh : ∀ i av,get? hin i = some av→NoFr av)
    (ret : ∀ r h',R r h'→∃ v hn τ N',Back bw σ τ hin N N' r h' v hn∧S' v hn N')
    {c : Ctx} {a : Act} (hen : EnvRep c g e a) (hh : HeapRep c h) (hc : CtxOk c) {K : Value→World→Prop} (hwp : ∀ fs cs,a.eval callee = .func (.func fid) fs.toArray cs.toArray→Calls P fid (fs ++ (xs.toList.map a.eval ++ cs)).toArray c.w (fun e w'=>∃ v,e = E v∧K v w')→W)
    (hfr : ∀ v hn N',S' v hn N'→∀ i,memB i (keys hn) = true→N ≤ i→i < N'→¬ c.A i)
    (hK : ∀ v hn N' c2 x,S' v hn N'→N ≤ N'→Out c h (hn ++ dropL h (passed σ hin)) (keys hn) c2→Rep c2 v .V [x]→(∀ i,memB i (keys hn) = true→(N ≤ i∧i < N') ∨ c.A i)→K x c2.w) : W:=by
  obtain ⟨fs,cs,hce1,hr1,hr2⟩:=ev_rep hen hce
  simp only [List.cons.injEq,and_true] at hce1
  have hargsC:=rep_cat hc1 hr1 (rep_cat hc2 (evs_rep hen hax) hr2)
  have hmem : ∀ i av,get? hin i = some av→memB i (keys hin) = true:=fun i av hi=>memB_ok.2 (get?_keys hi)
  have hpm : ∀ i,memB i (keys hin) = true→memB (sg σ i) (passed σ hin) = true:=fun i hi=>memB_ok.2 (List.mem_map.2 ⟨i,memB_ok.1 hi,rfl⟩)
  have hinjσ : ∀ i j,memB i (keys hin) = true→memB j (keys hin) = true→sg σ i = sg σ j→i = j:=fun i j hi hj=>inj_of hσ (memB_ok.1 hi) (memB_ok.1 hj)
  let bor : Nat→Prop:=fun b=>∃ j av,bw = true∧get? h j = some av∧memB j (passed σ hin) = false∧¬ c.G j∧c.ρ j = b
  let c0 : Ctx:={ w:=c.w,ρ:=fun i=>c.ρ (sg σ i),A:=fun i=>memB i (keys hin) = true,G:=fun i=>c.G (sg σ i),S:=fun b=>c.S b ∨ bor b,B:=c.w.heap.size }
  have hp0 : Pass true false c c0 (fun i=>memB i (keys hin) = true) (sg σ):=⟨rfl,fun i hi=>hi,fun _ _=>rfl,fun _ _=>Iff.rfl,fun b hb _=>.inl hb,fun e=>by cases e⟩
  have hh0 : HeapRep c0 hin:=by
    refine ⟨fun i av hi=>hmem i av hi,fun i av hi hG=>?_,fun i av hi hG=>?_,fun i av hi hG hS=>?_,fun i j x y hi hj hgi hgj e=>?_⟩
    · obtain ⟨u,h1,h2⟩:=heapLe_get hhin i av hi
      refine (hh.obj _ _ h1 hG).to rfl (fun xs hx=>hx.pass hp0 h2 (fun _=>hnfh i av hi) (fun e=>by cases e)) (fun n k v e=>?_) (fun b o e=>by subst e;exact relA_ob h2)
      subst e
      obtain ⟨ks,vs,rfl,e2⟩:=relA_mo h2
      have hnf:=hnfh i _ hi
      exact ⟨ks,vs,rfl,fun i hi=>⟨fun x hx=>hx.pass hp0 (e2 i hi).1 (fun _=>(hnf i hi).1) (fun e=>by cases e),fun x hx=>hx.pass hp0 (e2 i hi).2 (fun _=>(hnf i hi).2) (fun e=>by cases e)⟩⟩
    · obtain ⟨u,h1,h2⟩:=heapLe_get hhin i av hi
      rw [h2.size];exact hh.gh _ _ h1 hG
    · obtain ⟨u,h1,h2⟩:=heapLe_get hhin i av hi
      rcases hS with hS | ⟨j,av',_,hj,hjp,hgj,e⟩
      · exact hh.nS _ _ h1 hG hS
      · have:=hh.inj j (sg σ i) _ _ hj h1 hgj hG e
        rw [this,hpm i (hmem i av hi)] at hjp;cases hjp
    · obtain ⟨u,h1,_⟩:=heapLe_get hhin i x hi
      obtain ⟨u',h1',_⟩:=heapLe_get hhin j y hj
      exact hinjσ i j (hmem i x hi) (hmem j y hj) (hh.inj _ _ _ _ h1 h1' hgi hgj e)
  have hc0 : CtxOk c0:=⟨fun b hb=>by
    rcases hb with hb | ⟨j,av',_,hj,_,hgj,e⟩
    · exact hc.S b hb
    · rw [← e];exact (hh.obj j av' hj hgj).lt,Nat.le_refl _⟩
  have hva : Rep c0 args .T (fs ++ (xs.toList.map a.eval ++ cs)):=hv.rep hp0 hh (fun id av hi hbo hG=>.inr ⟨id,av,hbo.1,hi,hbo.2,hG,rfl⟩) hnf hargsC
  have hg0 : ∀ x v,get? g' x = some v→Rep c0 (.rptr false v) .V [.pointer (some ⟨x,0,none⟩)]:=fun x v hx=>by
    obtain ⟨h1,h2,h3⟩:=hg' x v hx
    exact (hen.glob x v h1).pass hp0 (a:=.rptr false v) ⟨false,v,rfl,id,h3 _ _⟩ (fun _=>⟨rfl,h2⟩) (fun e=>by cases e)
  have hct:=ct c0 hg0 hh0 hc0 rfl (fun i hi=>keys_get (memB_ok.1 hi)) _ hva
  refine hwp fs cs hce1 (hct.mono fun en w' hw'=>?_)
  obtain ⟨c',v,r,h',ns,rfl,rfl,hoc,hrr,hR⟩:=hw'
  obtain ⟨v',hn,τ,N',hback,hS'⟩:=ret r h' hR
  refine ⟨v,rfl,?_⟩
  have hid:=hback.ids
  simp only [backB,Bool.and_eq_true] at hid
  obtain ⟨hNN,hid1,hid2⟩:=hid
  have hNN:=Nat.le_of_ble_eq_true hNN
  have hkn : ∀ i,memB i (keys hn) = true→(N ≤ i∧i < N') ∨ (memB (sg τ i) (keys hin) = true∧sg σ (sg τ i) = i):=fun i hi=>by
    have h1:=List.all_eq_true.1 hid1 i (memB_ok.1 hi)
    rw [Bool.or_eq_true,Bool.and_eq_true,Bool.and_eq_true] at h1
    rcases h1 with ⟨h1,h2⟩ | ⟨h1,h2⟩
    · exact .inl ⟨Nat.le_of_ble_eq_true h1,by simpa [Nat.blt_eq] using h2⟩
    · exact .inr ⟨h1,Nat.eq_of_beq_eq_true h2⟩
  have hold : ∀ i,c.A i→memB i (keys hn) = true→memB (sg τ i) (keys hin) = true∧sg σ (sg τ i) = i:=fun i hA hi=>by
    rcases hkn i hi with h1 | h1
    · exact absurd hA (hfr v' hn N' hS' i hi h1.1 h1.2)
    · exact h1
  have hinjτ : ∀ i j,memB i (keys hn) = true→memB j (keys hn) = true→sg τ i = sg τ j→i = j:=fun i j hi hj=>inj_of hid2 (memB_ok.1 hi) (memB_ok.1 hj)
  have hmn : ∀ i av,get? hn i = some av→memB i (keys hn) = true:=fun i av hi=>memB_ok.2 (get?_keys hi)
  let c2 : Ctx:={ w:=c'.w,ρ:=fun i=>if memB i (keys hn) = true then c'.ρ (sg τ i) else c.ρ i,A:=fun i=>c.A i ∨ memB i (keys hn) = true,G:=fun i=>if memB i (keys hn) = true then c'.G (sg τ i) else c.G i,S:=fun b=>c.S b ∨ (c'.S b∧¬ bor b),B:=c.B }
  have hρ2 : ∀ i,memB i (keys hn) = true→c2.ρ i = c'.ρ (sg τ i):=fun i hi=>if_pos hi
  have hG2 : ∀ i,memB i (keys hn) = true→(c2.G i ↔ c'.G (sg τ i)):=fun i hi=>by
    show (if memB i (keys hn) = true then _ else _) ↔ _
    rw [if_pos hi]
  have hG2' : ∀ i,¬ memB i (keys hn) = true→(c2.G i ↔ c.G i):=fun i hi=>by
    show (if memB i (keys hn) = true then _ else _) ↔ _
    rw [if_neg hi]
  have hborlt : ∀ b,bor b→b < c.w.heap.size:=fun b ⟨j,av',_,hj,_,hgj,e⟩=>by rw [← e];exact (hh.obj j av' hj hgj).lt
  have hp2 : Pass false bw c' c2 (fun i=>memB i (keys hn) = true) (sg τ):=by
    refine ⟨rfl,fun i hi=>.inr hi,hρ2,hG2,fun b hb hfr=>.inr ⟨hb,fun hbo=>?_⟩,fun _=>by show c.B ≤ c'.B;rw [hoc.B];exact hc.B⟩
    obtain ⟨j,av',hbw,_⟩:=id hbo
    have h1:=hfr hbw
    rw [hoc.B] at h1
    have h2:=hborlt b hbo
    have h1 : c.w.heap.size ≤ b:=h1
    omega
  have hA0 : ∀ i,c0.A i→memB i (keys hin) = true:=fun i hi=>hi
  have hle : Le c c2:=by
    refine ⟨fun i hi=>.inl hi,fun i hi=>?_,fun i hi=>?_,fun i hi hG=>?_,fun b hb _=>⟨.inl hb,fun h=>h,?_⟩⟩
    · by_cases hm : memB i (keys hn) = true
      · obtain ⟨h1,h2⟩:=hold i hi hm
        rw [hρ2 i hm,hoc.le.ρ _ h1]
        show c.ρ (sg σ (sg τ i)) = _
        rw [h2]
      · exact if_neg hm
    · by_cases hm : memB i (keys hn) = true
      · obtain ⟨h1,h2⟩:=hold i hi hm
        rw [hG2 i hm,hoc.le.G _ h1]
        show c.G (sg σ (sg τ i)) ↔ _
        rw [h2]
      · exact hG2' i hm
    · have hsame : c2.ρ i = c.ρ i:=by
        by_cases hm : memB i (keys hn) = true
        · obtain ⟨h1,h2⟩:=hold i hi hm
          rw [hρ2 i hm,hoc.le.ρ _ h1]
          show c.ρ (sg σ (sg τ i)) = _
          rw [h2]
        · exact if_neg hm
      rw [hsame]
      show bsize c.w (c.ρ i) ≤ bsize c'.w (c.ρ i)
      rcases Nat.lt_or_ge (c.ρ i) c.w.heap.size with hb1 | hb1
      · by_cases hex : ∃ j av,get? hin j = some av∧¬ c0.G j∧c0.ρ j = c.ρ i
        · obtain ⟨j,av,hj,hgj,e⟩:=hex
          have:=hoc.le.sz j (hmem j av hj) hgj
          rw [hoc.le.ρ j (hmem j av hj),e] at this
          exact this
        · rw [bsize_congr (hoc.frame _ hb1 fun j av hj hgj e=>hex ⟨j,av,hj,hgj,e⟩)];exact Nat.le_refl _
      · rw [bsize_none hb1];exact Nat.zero_le _
    · exact (hoc.le.S b (.inl hb) (fun e=>by cases e)).2.2
  have hsplit : Split h (keepL h (passed σ hin)) (dropL h (passed σ hin)):=by
    refine ⟨fun i=>?_,fun i av hi=>?_⟩
    · rw [get?_keep,get?_drop]
      by_cases hm : memB i (passed σ hin) = true
      · rw [if_pos hm,if_pos hm];cases get? h i <;> rfl
      · rw [if_neg hm,if_neg hm];rfl
    · rw [get?_drop] at hi
      rw [get?_keep]
      by_cases hm : memB i (passed σ hin) = true
      · rw [if_pos hm] at hi;cases hi
      · rw [if_neg hm]
  have hkp : ∀ j av,get? hin j = some av→∃ u,get? (keepL h (passed σ hin)) (sg σ j) = some u:=fun j av hj=>by
    obtain ⟨u,h1,_⟩:=heapLe_get hhin j av hj
    exact ⟨u,by rw [get?_keep,if_pos (hpm j (hmem j av hj))];exact h1⟩
  have hheap2 : HeapRep c2 hn:=by
    refine ⟨fun i av hi=>.inr (hmn i av hi),fun i av hi hG=>?_,fun i av hi hG=>?_,fun i av hi hG hS=>?_,fun i j x y hi hj hgi hgj e=>?_⟩
    · obtain ⟨u,h1,h2⟩:=heapLe_get hback.heap i av hi
      have hG' : ¬ c'.G (sg τ i):=fun x=>hG ((hG2 i (hmn i av hi)).2 x)
      rw [hρ2 i (hmn i av hi)]
      refine (hoc.heap.obj _ _ h1 hG').to rfl (fun xs hx=>hx.pass hp2 h2 (fun e=>by cases e) (fun e=>(hback.fr e).2 _ _ h1)) (fun n k v e=>?_) (fun b o e=>by subst e;exact relA_ob h2)
      subst e
      obtain ⟨ks,vs,rfl,e2⟩:=relA_mo h2
      exact ⟨ks,vs,rfl,fun i hi=>⟨fun x hx=>hx.pass hp2 (e2 i hi).1 (fun e=>by cases e) (fun e=>((hback.fr e).2 _ _ h1 i hi).1),fun x hx=>hx.pass hp2 (e2 i hi).2 (fun e=>by cases e) (fun e=>((hback.fr e).2 _ _ h1 i hi).2)⟩⟩
    · obtain ⟨u,h1,h2⟩:=heapLe_get hback.heap i av hi
      rw [h2.size];exact hoc.heap.gh _ _ h1 ((hG2 i (hmn i av hi)).1 hG)
    · obtain ⟨u,h1,h2⟩:=heapLe_get hback.heap i av hi
      have hG' : ¬ c'.G (sg τ i):=fun x=>hG ((hG2 i (hmn i av hi)).2 x)
      rw [hρ2 i (hmn i av hi)] at hS
      have hn':=hoc.heap.nS _ _ h1 hG'
      rcases hS with hS | hS
      · exact hn' (hoc.le.S _ (.inl hS) (fun e=>by cases e)).1
      · exact hn' hS.1
    · obtain ⟨u,h1,_⟩:=heapLe_get hback.heap i x hi
      obtain ⟨u',h1',_⟩:=heapLe_get hback.heap j y hj
      rw [hρ2 i (hmn i x hi),hρ2 j (hmn j y hj)] at e
      exact hinjτ i j (hmn i x hi) (hmn j y hj) (hoc.heap.inj _ _ _ _ h1 h1' (fun x=>hgi ((hG2 i (hmn i _ hi)).2 x)) (fun x=>hgj ((hG2 j (hmn j _ hj)).2 x)) e)
  have hsz2 : c.w.heap.size ≤ c'.w.heap.size:=hoc.size
  have hout2 : Out c (keepL h (passed σ hin)) hn (keys hn) c2:=by
    refine ⟨hle,rfl,fun i hi=>hi.imp id memB_ok.1,hheap2,⟨fun b hb=>?_,Nat.le_trans hc.B hsz2⟩,hoc.os,hoc.tape,hoc.output,hsz2,fun b hb hn'=>?_,fun i av hi hG=>?_,fun b hb=>?_⟩
    · rcases hb with hb | hb
      · exact Nat.lt_of_lt_of_le (hc.S b hb) hsz2
      · exact hoc.ok.S b hb.1
    · refine hoc.frame b hb fun j av hj hgj e=>?_
      obtain ⟨u,hu⟩:=hkp j av hj
      exact hn' (sg σ j) u hu hgj e
    · obtain ⟨u,h1,_⟩:=heapLe_get hback.heap i av hi
      rw [hρ2 i (hmn i av hi)]
      rcases hoc.own _ _ h1 (fun x=>hG ((hG2 i (hmn i av hi)).2 x)) with ⟨j,av',hj,hgj,e⟩ | h2
      · obtain ⟨u',hu⟩:=hkp j av' hj
        exact .inl ⟨sg σ j,u',hu,hgj,e⟩
      · exact .inr h2
    · rcases hb with hb | ⟨hb,hnb⟩
      · exact .inl hb
      · rcases hoc.newS b hb with h1 | h1 | ⟨j,av,hj,hgj,e⟩
        · rcases h1 with h1 | h1
          · exact .inl h1
          · exact absurd h1 hnb
        · exact .inr (.inl h1)
        · obtain ⟨u',hu⟩:=hkp j av hj
          exact .inr (.inr ⟨sg σ j,u',hu,hgj,e⟩)
  have hfull:=hout2.framed hh hsplit (H':=hn ++ dropL h (passed σ hin)) (fun i=>get?_app _ _ _)
  refine hK v' hn N' c2 v hS' hNN hfull (hrr.pass hp2 hback.rel (fun e=>by cases e) (fun e=>(hback.fr e).1)) fun i hi=>?_
  rcases hkn i hi with h1 | h1
  · exact .inl h1
  · obtain ⟨av,hav⟩:=keys_get (memB_ok.1 h1.1)
    obtain ⟨u,hu,_⟩:=heapLe_get hhin _ _ hav
    right;rw [← h1.2];exact hh.A _ _ hu
theorem call_core {P : Program} {o : Oper} {e h g : Asc} {N : Nat} {fid : FuncId} {fn : Func} {callee : Operand} {xs : Array Operand} {tys : Array TypeId} {u1 u2 ax args : AV} {g' hin : Asc} {R : AV→Asc→Prop} {S' : AV→Asc→Nat→Prop}
    (ho : o.op = .call ⟨.value callee,xs,tys⟩) (hce : ev g e callee = some (.fn (.func fid) u1 u2)) (hax : evs g e xs.toList = some ax) (hc1 : isChain u1 = true) (hc2 : isChain ax = true)
    (hf : P.funcs[fid]? = some fn) (hbd : fn.body.isNone = false) (hnm : (fn.name == "runtime.NumGoroutine") = false) (ct : Ok P fid g' hin args R)
    (hg' : ∀ x v,get? g' x = some v→get? g x = some v∧NoFr v∧∀ D σ,RelA D σ v v) (σ : List (Nat × Nat)) (bw : Bool) (hσ : passB σ (keys hin) = true)
    (hv : View h (fun id=>bw = true∧memB id (passed σ hin) = false) (fun i=>memB i (keys hin) = true) (sg σ) args (catC u1 (catC ax u2))) (hnf : NoFr args)
    (hhin : HeapLe (fun i=>memB i (keys hin) = true) (sg σ) h hin) (hnfh : ∀ i av,get? hin i = some av→NoFr av)
    (ret : ∀ r h',R r h'→∃ v hn τ N',Back bw σ τ hin N N' r h' v hn∧S' v hn N')
    {c : Ctx} {a : Act} (hen : EnvRep c g e a) (hh : HeapRep c h) (hc : CtxOk c) {K : Act→World→Prop} {Q : Exit→Act→World→Prop}
    (hfr : ∀ v hn N',S' v hn N'→∀ i,memB i (keys hn) = true→N ≤ i→i < N'→¬ c.A i)
    (hK : ∀ v hn N' c2 x,S' v hn N'→N ≤ N'→Out c h (hn ++ dropL h (passed σ hin)) (keys hn) c2→Rep c2 v .V [x]→(∀ i,memB i (keys hn) = true→(N ≤ i∧i < N') ∨ c.A i)→K (a.put o.dst x) c2.w) : o.wp P a c.w K Q :=
  call_coreE (E:=.returned) (K:=fun x w'=>K (a.put o.dst x) w') hce hax hc1 hc2 ct hg' σ bw hσ hv hnf hhin hnfh ret hen hh hc (fun _ _ hce1 hct=>run_call ho hce1 hf hbd hnm hct) hfr hK
theorem dropL_nil : ∀ h : Asc,dropL h [] = h
  | []=>rfl
  | (k,v)::r=>by unfold dropL;simp only [memB,cond_false];rw [dropL_nil]
theorem call_det {P : Program} {e h g : Asc} {N : Nat} {d : Option Tmp} {ty : TypeId} {pos : String} {af : Array Edge} {gd : Option (Nat × Bool)} {fid : FuncId} {fn : Func} {callee : Operand} {xs : Array Operand} {tys : Array TypeId} {u1 u2 ax args argsC r0 v : AV} {g' h0 hn : Asc} {N' : Nat}
    (hce : ev g e callee = some (.fn (.func fid) u1 u2)) (hax : evs g e xs.toList = some ax) (hc1 : isChain u1 = true) (hc2 : isChain ax = true) (hcat : catC u1 (catC ax u2) = argsC)
    (hf : P.funcs[fid]? = some fn) (hbd : fn.body.isNone = false) (hnm : (fn.name == "runtime.NumGoroutine") = false) (ct : Ok P fid g' [] args (fun r h'=>r = r0∧h' = h0))
    (hg' : ∀ x v,get? g' x = some v→get? g x = some v∧NoFr v∧∀ D σ,RelA D σ v v) (bw : Bool)
    (hv : View h (fun id=>bw = true∧memB id (passed [] []) = false) (fun i=>memB i (keys ([] : Asc)) = true) (sg []) args argsC) (hnf : NoFr args) (τ : List (Nat × Nat)) (hback : Back bw [] τ [] N N' r0 h0 v hn) :
    OpOk P ⟨d,.call ⟨.value callee,xs,tys⟩,ty,pos,af,gd⟩ g e h (some v) (hn ++ h) (keys hn):=by
  subst hcat
  intro c a hen hh hc hn' K Q hK
  refine call_core (N:=N) (S':=fun v' hn1 N1=>v' = v∧hn1 = hn∧N1 = N') (o:=⟨d,.call ⟨.value callee,xs,tys⟩,ty,pos,af,gd⟩) rfl hce hax hc1 hc2 hf hbd hnm ct hg' [] bw rfl hv hnf trivial (fun i av hi=>by cases hi) (fun r h' hr=>?_) hen hh hc (fun v' hn1 N1 hS i hi h1 h2 hA=>?_) fun v' hn1 N1 c2 x hS hNN ho hx hi=>?_
  · obtain ⟨rfl,rfl⟩:=hr
    exact ⟨v,hn,τ,N',hback,rfl,rfl,rfl⟩
  · obtain ⟨rfl,rfl,rfl⟩:=hS
    exact hn' i (memB_ok.1 hi) hA
  · obtain ⟨rfl,rfl,rfl⟩:=hS
    have : passed ([] : List (Nat × Nat)) [] = []:=rfl
    rw [this,dropL_nil] at ho
    exact hK c2 x ho fun y hy=>by cases hy;exact hx
theorem Seq.calld {F : Fr} {ops : Array Oper} {l : List Oper} {e h g : Asc} {N : Nat} {K : St→Prop} {d : Tmp} {ty : TypeId} {pos : String} {af : Array Edge} {gd : Option (Nat × Bool)} {fid : FuncId} {fn : Func} {callee : Operand} {xs : Array Operand} {tys : Array TypeId} {u1 u2 ax args argsC r0 v : AV} {g' h0 hn : Asc} {N' : Nat} (bw : Bool) (τ : List (Nat × Nat))
    (ct : Ok F.P fid g' [] args (fun r h'=>r = r0∧h' = h0))
    (hce : V.ev g e callee = some (.fn (.func fid) u1 u2)) (hax : evs g e xs.toList = some ax) (hc1 : isChain u1 = true) (hc2 : isChain ax = true) (hcat : catC u1 (catC ax u2) = argsC)
    (hf : F.P.funcs[fid]? = some fn) (hbd : fn.body.isNone = false) (hnm : (fn.name == "runtime.NumGoroutine") = false)
    (hg' : ∀ x v,get? g' x = some v→get? g x = some v∧NoFr v∧∀ D σ,RelA D σ v v)
    (hv : View h (fun id=>bw = true∧memB id (passed [] []) = false) (fun i=>memB i (keys ([] : Asc)) = true) (sg []) args argsC) (hnf : NoFr args) (hback : Back bw [] τ [] N N' r0 h0 v hn)
    (hw : wants ops ⟨some d,.call ⟨.value callee,xs,tys⟩,ty,pos,af,gd⟩ e = some true) (hd2 : Nat.blt d F.n = true) (hk : Seq F ops l ⟨(d,v)::e,hn ++ h,g,N'⟩ K) : Seq F ops (⟨some d,.call ⟨.value callee,xs,tys⟩,ty,pos,af,gd⟩::l) ⟨e,h,g,N⟩ K:=by
  have hid:=hback.ids
  simp only [backB,Bool.and_eq_true] at hid
  obtain ⟨hNN,hid1,_⟩:=hid
  refine Seq.step (s:=⟨e,h,g,N⟩) N' hw (call_det hce hax hc1 hc2 hcat hf hbd hnm ct hg' bw hv hnf τ hback) (fun n hn'=>?_) (Nat.le_of_ble_eq_true hNN) hd2 hk
  have h1:=List.all_eq_true.1 hid1 n hn'
  simp only [keys,memB,Bool.false_and,Bool.or_false,Bool.and_eq_true] at h1
  exact ⟨Nat.le_of_ble_eq_true h1.1,by simpa [Nat.blt_eq] using h1.2⟩
end Go.V
