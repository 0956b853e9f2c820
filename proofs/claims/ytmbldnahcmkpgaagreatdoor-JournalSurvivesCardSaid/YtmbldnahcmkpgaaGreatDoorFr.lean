/- Calls that panic, and functions that defer a call. == of structs of two numbers. A contract whose new objects get other names; objects that hold objects become memory that stays. -/
import Derived.Test.YtmbldnahcmkpgaaGreatDoorFo
import Derived.Defers
import Derived.Recover
import Derived.Laws.StructEq
set_option linter.unusedSimpArgs false
set_option linter.unusedVariables false
namespace Go.V
open Go.RowKit Go.L
abbrev pan (v : Value) : List PanicEntry:=[{ v:=v,recovered:=false }]
def OkP (P : Program) (f : FuncId) (g h : Asc) (args : AV) (pv : Value) (h1 : Asc) : Prop:=OkE (fun _=>.panicked (pan pv)) P f g h args (fun r h'=>r = .tup .nul∧h' = h1)
def PanTo (F : Fr) (ops : Array Oper) (o : Oper) (s : St) (Q : Exit→St→Prop) : Prop :=
  wants ops o s.e = some true∧∀ a w,Sim F s a w→∀ (K : Act→World→Prop) (QC : Exit→Act→World→Prop),(∀ e s' a' w',Q e s'→Sim F s' a' w'→QC e a' w')→o.wp F.P a w K QC
theorem Seq.wpp {F : Fr} {ops : Array Oper} {l : List Oper} {s : St} {K : St→Prop} (h : Seq F ops l s K) {Q : Exit→Act→World→Prop} {o : Oper} {r : List Oper} (hQ : ∀ s' a w,K s'→Sim F s' a w→oList F.L.O ops Q (o::r) a w) : (F.L.top || l.all notDef) = true→∀ a w,Sim F s a w→oList F.L.O ops Q (l ++ o::r) a w:=by
  induction h with
  | nil hk=>intro hd a w hs;exact hQ _ a w hk hs
  | step N' hw ok hn hN hdd _ ih =>
    intro hd a w hs
    show oList F.L.O ops Q (_::_) a w
    unfold oList
    rw [if_pos (wants_ok hs hw)]
    exact F.L.op (all_cons hd).1 (step_wp (ops:=ops) ok hn hN hdd hs fun a' w' hs'=>ih hQ (all_cons hd).2 a' w' hs')
  | skip hw hdd _ ih =>
    intro hd a w hs
    show oList F.L.O ops Q (_::_) a w
    unfold oList
    rw [if_neg (by rw [wants_ok hs hw];simp)]
    exact ih hQ (all_cons hd).2 _ _ (skip_sim hdd hs)
  | to S' hw ok _ ih =>
    intro hd a w hs
    show oList F.L.O ops Q (_::_) a w
    unfold oList
    rw [if_pos (wants_ok hs hw)]
    exact F.L.op (all_cons hd).1 (ok a w hs _ _ fun s' a' w' hs' hsim=>ih s' hs' hQ (all_cons hd).2 a' w' hsim)
  | conv h _ ih=>intro hd a w hs;exact ih hQ hd a w (h a w hs)
def splitO {α : Type} : Nat→List Oper→(List Oper→Oper→List Oper→Option α)→Option α
  | 0,o::r,k=>k [] o r
  | n + 1,o::r,k=>splitO n r fun p q t=>k (o::p) q t
  | _,[],_=>none
theorem splitO_ok {α : Type} : ∀ {n : Nat} {l : List Oper} {k : List Oper→Oper→List Oper→Option α} {x : α},splitO n l k = some x→∃ p o r,l = p ++ o::r∧k p o r = some x
  | 0,o::r,k,x,h=>⟨[],o,r,rfl,h⟩
  | n + 1,o::r,k,x,h=>by
    obtain ⟨p,q,t,h1,h2⟩:=splitO_ok (n:=n) (l:=r) h
    exact ⟨o::p,q,t,by rw [h1];rfl,h2⟩
  | 0,[],_,_,h=>by cases h
  | n + 1,[],_,_,h=>by cases h
def panQ (F : Fr) (pv : Value) (h1 : Asc) (e : Exit) (s : St) : Prop:=e = .panic (pan pv)∧∃ s' : St,(∀ a w,Sim F s a w→Sim F s' a w)∧∀ id av,get? h1 id = some av→get? s'.h id = some av
theorem Ok.start {P : Program} {fn : Func} {g h : Asc} {args : AV} (hch : isChain args = true) (hn : chainLen args ≤ fn.ntmps) (N : Nat) (hN : ∀ i av,get? h i = some av→i < N) {c : Ctx} (hg : ∀ x v,get? g x = some v→Rep c (.rptr false v) .V [.pointer (some ⟨x,0,none⟩)]) (hh : HeapRep c h) (hc : CtxOk c) (hA : ∀ i,c.A i→∃ av,get? h i = some av) {vs : List Value} (hvs : Rep c args .T vs) :
    Sim ⟨P,c,h,fn.ntmps,N,[],.plain P⟩ ⟨envOf args 0,h,g,N⟩ { tmps:=vs.toArray ++ Array.replicate (fn.ntmps - vs.toArray.size) undef,defers:=[] } c.w:=by
  have hlen:=chain_len hch hvs
  refine ⟨c,[],rfl,.refl hh hc,⟨fun t v ht=>?_,hg⟩,fun i hi=>?_,?_,rfl,fun i hi=>?_,hg⟩
  · obtain ⟨_,u,q2,q3⟩:=env_of hvs ht
    have hlt : t < vs.length:=by
      rcases Nat.lt_or_ge t vs.length with h1 | h1
      · exact h1
      · rw [Nat.sub_zero,List.getElem?_eq_none h1] at q2;cases q2
    refine ⟨by simp;omega,?_⟩
    have : (vs.toArray ++ Array.replicate (fn.ntmps - vs.toArray.size) undef).getD t undef = u:=by
      rw [Nat.sub_zero,List.getElem?_eq_getElem hlt] at q2
      cases q2
      have h1 : t < vs.length + (fn.ntmps - vs.length):=by omega
      simp [h1,Array.getElem_append,hlt]
    rw [this];exact q3
  · obtain ⟨av,hi⟩:=hA i hi;exact hN i av hi
  · simp;omega
  · obtain ⟨av,hi⟩:=hA i hi;exact hN i av hi
structure Behind (F F' : Fr) : Prop where
  P : F'.P = F.P
  n : F'.n = F.n
  out : (F'.c0 = F.c0∧F'.h0 = F.h0) ∨ ∃ ns,Out F.c0 F.h0 F'.h0 ns F'.c0
theorem Behind.refl (F : Fr) : Behind F F:=⟨rfl,rfl,.inl ⟨rfl,rfl⟩⟩
theorem Behind.to {F F' : Fr} (h : Behind F F') {h' : Asc} {ns : List Nat} {c : Ctx} (o : Out F'.c0 F'.h0 h' ns c) : ∃ ns',Out F.c0 F.h0 h' ns' c:=by
  rcases h.out with ⟨e1,e2⟩ | ⟨ms,o1⟩
  · rw [e1,e2] at o;exact ⟨ns,o⟩
  · exact ⟨ms ++ ns,o1.trans o⟩
def VCX (F : Fr) (x : Code) (Q : Fr→Exit→St→Prop) (s : St) : Prop:=∀ a w,Sim F s a w→∀ QC : Exit→Act→World→Prop,(∀ F' e s' a' w',Behind F F'→Q F' e s'→Sim F' s' a' w'→QC e a' w')→F.L.W x QC a w
theorem VCX.of_vc {F : Fr} {x : Code} {Q : Fr→Exit→St→Prop} {s : St} (h : VC F x (Q F) s) : VCX F x Q s:=fun a w hs QC hQ=>h a w hs QC fun e s' a' w' hq hs'=>hQ F e s' a' w' (.refl F) hq hs'
theorem VCX.seqV {F : Fr} {x y : Code} {Q : Fr→Exit→St→Prop} {s : St} (h : VC F x (thenQ (VCX F y Q) (Q F)) s) : VCX F (.seq x y) Q s:=fun a w hs QC hQ=>F.L.seq (h a w hs _ fun e s' a' w' hq hs'=>by
  cases e <;> first | exact hq a' w' hs' QC hQ | exact hQ F _ _ _ _ (.refl F) hq hs')
abbrev defOf (f : FuncId) (c : Ctx) (id : Nat) : Deferred:=⟨.fn (.func f) #[],#[.pointer (some ⟨c.ρ id,0,none⟩)]⟩
structure Catches (P : Program) (fd : FuncId) (te : TypeId) : Prop where
  inv : ∀ v w,(invoke (.fn (.func fd) #[]) #[v]).run P w = .ok (.enter fd #[v]) w
  idle : ∀ v w,CallsD P fd #[v] .returning w fun e u' w'=>(∃ r,e = .returned r)∧u' = .returning∧w' = w
  hit : ∀ (c : Ctx) (h : Asc) (N id : Nat) (k' : IntKind) (n' n : Int),HeapRep c h→CtxOk c→(∀ i,c.A i→i < N)→get? h id = some (.int k' n')→¬ c.G id →
    CallsD P fd #[.pointer (some ⟨c.ρ id,0,none⟩)] (.panicking (pan (.iface te (.int .i64 n)))) c.w fun e u' w'=>(∃ r,e = .returned r)∧u' = .panicking [{ v:=.iface te (.int .i64 n),recovered:=true }]∧∃ c' ns,c'.w = w'∧Out c h (putL h id (.int .i64 n)) ns c'∧∀ i,c'.A i→i < N
end Go.V

namespace Go.V
open Go.RowKit Go.L
structure TwoInts (P : Program) (t : TypeId) : Prop where
  und : ∃ f0 f1 : Field,P.underlying t = some (.struct #[f0,f1])∧f0.name ≠ "_" ∧ f1.name ≠ "_" ∧ f0.offset = 0∧f1.offset = 1∧P.underlying f0.type = some (.int .i64)∧P.underlying f1.type = some (.int .i64)
  st : P.stoodInHeld t = false
  gd : P.eqGuardType P.depth t = false
variable {P : Program} {t yt ty : TypeId} {g e h : Asc} {x y : Operand} {d : Option Tmp} {pos : String} {af : Array Edge} {gd : Option (Nat × Bool)}
def allJ (p : Nat→Prop) : List Nat→Prop
  | []=>True
  | j::r=>p j∧allJ p r
def SeqT (F : Fr) (ops : Array Oper) (K : St→Prop) : Nat→Array Bool→St→Prop
  | 0,listed,s=>Region.ready .any ops listed = []∧K s
  | n + 1,listed,s=>Region.ready .any ops listed ≠ []∧allJ (fun j=>∃ o,ops[j]? = some o∧Seq F ops [o] s (SeqT F ops K n (listed.setIfInBounds j true))) (Region.ready .any ops listed)
end Go.V

namespace Go.V
open Go.RowKit Go.L
inductive ViewN (H : Asc) (bor D : Nat→Prop) : AV→AV→Prop
  | rel {a u : AV} : RelA D (fun i=>i) a u→ViewN H bor D a u
  | sl {id n' sz off n m : Nat} {p : List Step} {av : AV} {f k : Nat→AV} : get? H id = some av→getp av p = some (.arr n' sz k)→AllP (inbL av p)→off + n ≤ n'→m = n→bor id→(∀ i,i < n→ViewN H bor D (f i) (k (off + i)))→ViewN H bor D (.rsl false m sz f) (.sl id p sz off n)
  | nil {sz : Nat} {f : Nat→AV} : ViewN H bor D (.rsl false 0 sz f) (.val (.slice none 0 0))
  | emp {sz : Nat} {f : Nat→AV} : ViewN H bor D (.rsl false 0 sz f) .emp
  | ptr {id : Nat} {p : List Step} {av w a : AV} : get? H id = some av→getp av p = some w→AllP (inbL av p)→w.isMo = false→bor id→ViewN H bor D a w→ViewN H bor D (.rptr false a) (.ptr id p)
  | pair {a b x y : AV} : ViewN H bor D a x→ViewN H bor D b y→ViewN H bor D (.pair a b) (.pair x y)
  | tup {a x : AV} : ViewN H bor D a x→ViewN H bor D (.tup a) (.tup x)
  | fn {f : Fn} {a b x y : AV} : ViewN H bor D a x→ViewN H bor D b y→ViewN H bor D (.fn f a b) (.fn f x y)
  | ifc {t : TypeId} {a x : AV} : ViewN H bor D a x→ViewN H bor D (.ifc t a) (.ifc t x)
  | arr {n m sz : Nat} {f k : Nat→AV} : n = m→(∀ i,i < n→ViewN H bor D (f i) (k i))→ViewN H bor D (.arr n sz f) (.arr m sz k)
def HeapN (H : Asc) (bor D : Nat→Prop) : Asc→Prop
  | []=>True
  | (t,v)::r=>(∃ u,get? H t = some u∧ViewN H bor D v u∧v.size = u.size)∧HeapN H bor D r
def EnvN (H : Asc) (bor D : Nat→Prop) (e : Asc) : Asc→Prop
  | []=>True
  | (t,v)::r=>(∃ u,get? e t = some u∧ViewN H bor D v u)∧EnvN H bor D e r
def EatenQ (F : Fr) (ops : Array Oper) (tops : List Oper) (e0 hA g : Asc) (K : St→Prop) (its : List It) (N' : Nat) (B' : Asc) : Prop:=B' = []∧Seq F ops tops (V.drawn its e0 (B' ++ hA) g N') K
def EatenT (F : Fr) (ops : Array Oper) (K : St→Prop) (m : Nat) (listed : Array Bool) (e0 hA g : Asc) (its : List It) (N' : Nat) (B' : Asc) : Prop:=B' = []∧SeqT F ops K m listed (V.drawn its e0 (B' ++ hA) g N')
section
variable {P : Program} {g e h : Asc} {x y : Operand} {d : Option Tmp} {ty t yt : TypeId} {pos : String} {af : Array Edge} {gd : Option (Nat × Bool)}
end
end Go.V
