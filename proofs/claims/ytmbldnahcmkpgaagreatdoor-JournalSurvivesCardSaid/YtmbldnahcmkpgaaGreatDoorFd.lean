/- A region that draws its order and makes memory in several operations that do not wait for each other: each operation is shown once, against what those that it waits for have left. Regions that draw their order: each operation that makes or reads memory is shown once, against what those that it waits for leave; those that write come last. Steps for use: regions that draw their order, calls of the common shapes. From contracts over worlds to contracts over abstract values. == of arrays of integers, of bools. []byte of a constant: the row gets a mark behind its end; it can be read from then on. More steps of regions that draw their order: values in other words, == of arrays. From a contract over abstract values without objects to a call in a given world: what a law's frame needs. The frame of a law: what its parameters' data are as abstract values; its claim's post out of 'the elder blocks are as they were'. -/
import Derived.WalkKit
import Derived.OrdersHeld
import Derived.Test.YtmbldnahcmkpgaaGreatDoorFb
import Derived.Test.YtmbldnahcmkpgaaGreatDoorFc
import Derived.ChangeKeysEq
import Derived.ReadAgain
import Derived.OpenShut
import Derived.ChangeSame
import Derived.RowKit
set_option linter.unusedSimpArgs false
set_option linter.unusedVariables false
namespace Go.Og
open Go.RowKit Go.Chain
def Ext (w w' : World) : Prop:=Below w.heap.size w w'
def lay (ds : List (Nat × Tmp)) (u : Nat→Value) (t : Array Value) : Array Value:=ds.foldl (fun t p=>t.setIfInBounds p.2 (u p.1)) t
def fr (a : Act) (ds : List (Nat × Tmp)) (u : Nat→Value) : Act:={ a with tmps:=lay ds u a.tmps }
section
variable {P : Program} {ops : Array Oper} {Q : Exit→Act→World→Prop}
def dclosed (ops : Array Oper) (listed : Array Bool) : Prop:=∀ j o,ops[j]? = some o→listed.getD j false = true→∀ e ∈ o.after,Region.binds .any e = true→listed.getD e.on false = true
def cov (ops : Array Oper) (l : List Nat) : Nat→Nat→Nat→Bool
  | 0,j,i=>waits .any ops j i
  | n + 1,j,i=>waits .any ops j i || l.any fun q=>waits .any ops q i && cov ops l n j q
def acyc0 (ops : Array Oper) : Bool:=(List.range ops.size).all fun j=>((ops[j]?).map fun o=>o.after.all fun e=>!Region.binds .any e || decide (e.on < j)).getD true
def after (ops : Array Oper) (ds : List (Nat × Tmp)) : Array Bool:=((List.range ops.size).map fun j=>(ds.map (·.1)).contains j).toArray
def acyc (ops : Array Oper) : Bool:=acyc0 ops && ops.toList.all Go.V.notDef
theorem acyc_0 {ops : Array Oper} (h : acyc ops = true) : acyc0 ops = true:=by unfold acyc at h;rw [Bool.and_eq_true] at h;exact h.1
theorem acyc_def {ops : Array Oper} {t : Bool} (h : acyc ops = true) : (t || ops.toList.all Go.V.notDef) = true:=by unfold acyc at h;rw [Bool.and_eq_true] at h;rw [h.2,Bool.or_true]
theorem waits_listed {listed : Array Bool} {j i : Nat} (hr : j ∈ Region.ready .any ops listed) (h : waits .any ops j i = true) : listed.getD i false = true:=by
  cases hl : listed.getD i false with
  | true=>rfl
  | false=>rw [not_waits_of_ready hr hl] at h;cases h
theorem cov_listed {listed : Array Bool} {l : List Nat} {j : Nat} (hd : dclosed ops listed) (hr : j ∈ Region.ready .any ops listed) : ∀ (n i : Nat),cov ops l n j i = true→listed.getD i false = true
  | 0,i,h=>waits_listed hr h
  | n + 1,i,h=>by
    unfold cov at h
    rw [Bool.or_eq_true,List.any_eq_true] at h
    rcases h with h | ⟨q,_,h⟩
    · exact waits_listed hr h
    · rw [Bool.and_eq_true] at h
      have hq:=cov_listed hd hr n q h.2
      have hw:=h.1
      unfold waits at hw
      split at hw
      · rename_i o ho
        obtain ⟨e,he,hb⟩:=Array.any_eq_true'.1 hw
        rw [Bool.and_eq_true,beq_iff_eq] at hb
        rw [← hb.2]
        exact hd q o ho hq e he hb.1
      · cases hw
theorem dclosed_set {listed : Array Bool} {j : Nat} (hd : dclosed ops listed) (hr : j ∈ Region.ready .any ops listed) : dclosed ops (listed.setIfInBounds j true):=by
  intro k o ho hk e he hb
  refine getD_set_true ?_
  by_cases hjk : j = k
  · subst hjk
    obtain ⟨_,o',ho',hall⟩:=mem_ready.1 hr
    rw [ho] at ho'
    cases ho'
    exact hall e he hb
  · rw [getD_set_ne false hjk] at hk
    exact hd k o ho hk e he hb
theorem progress {listed : Array Bool} (hsz : listed.size = ops.size) (hac : acyc ops = true) : ∀ j,j < ops.size→listed.getD j false = false→Region.ready .any ops listed ≠ []:=by
  have hac:=acyc_0 hac
  unfold acyc0 at hac
  intro j
  induction j using Nat.strongRecOn with
  | _ j ih =>
    intro hj hl hr
    have hlt : listed.getD j true = false:=by
      have h' : j < listed.size:=by omega
      simp [h'] at hl ⊢;exact hl
    have ho : ops[j]? = some ops[j]:=Array.getElem?_eq_getElem hj
    by_cases hall : ∀ e ∈ (ops[j]).after,Region.binds .any e = true→listed.getD e.on false = true
    · have : j ∈ Region.ready .any ops listed:=mem_ready.2 ⟨hlt,_,ho,hall⟩
      rw [hr] at this
      cases this
    · simp only [Classical.not_forall] at hall
      obtain ⟨e,he,hb,hn⟩:=hall
      have hac':=List.all_eq_true.1 hac j (List.mem_range.2 hj)
      rw [ho] at hac'
      simp only [Option.map_some,Option.getD_some] at hac'
      have:=Array.all_eq_true_iff_forall_mem.1 hac' e he
      rw [hb] at this
      simp only [Bool.not_true,Bool.false_or,decide_eq_true_eq] at this
      exact ih e.on this (by omega) (by simpa using hn) hr
theorem repF (n i : Nat) : (Array.replicate n false).getD i false = false:=by
  by_cases h : i < n <;> simp [h]
end
end Go.Og
namespace Go.V
open Go.RowKit Go.L Go.Chain
section
variable {P : Program} {ops : Array Oper} {Q : Exit→Act→World→Prop}
def afterL (ops : Array Oper) (ds : List Nat) : Array Bool:=((List.range ops.size).map fun j=>ds.contains j).toArray
theorem dclosed_waits {listed : Array Bool} (hd : Og.dclosed ops listed) {i k : Nat} (hi : listed.getD i false = true) (hw : waits .any ops i k = true) : listed.getD k false = true:=by
  unfold waits at hw
  split at hw
  · rename_i o ho
    obtain ⟨e,he,hb⟩:=Array.any_eq_true'.1 hw
    rw [Bool.and_eq_true,beq_iff_eq] at hb
    rw [← hb.2]
    exact hd i o ho hi e he hb.1
  · cases hw
theorem og2 {I : List Nat→Act→World→Prop} {ds : List Nat} {m : Nat} (h1 : ds.Nodup) (hlt : ∀ j ∈ ds,j < ops.size) (hac : Og.acyc ops = true)
    (htail : ∀ j,j < ops.size→j ∈ ds ∨ ∀ i ∈ ds,Og.cov ops ds ds.length j i = true)
    (items : ∀ rem : List Nat,rem.Nodup→(∀ i ∈ rem,i ∈ ds)→∀ j ∈ rem,(∀ i,waits .any ops j i = true→i ∈ ds→i ∉ rem)→(∀ i k,i ∈ ds→i ∉ rem→waits .any ops i k = true→k ∈ ds→k ∉ rem)→∀ a w,I rem a w→wpOp P ops Q j (fun a' w'=>I (rem.erase j) a' w') a w)
    (rest : ∀ a w,I [] a w→wpAny P .any ops Q m (afterL ops ds) a w) :
    ∀ (k : Nat) (rem : List Nat) (listed : Array Bool) (a : Act) (w : World),rem.length = k→rem.Nodup→(∀ i ∈ rem,i ∈ ds)→listed.size = ops.size →
      (∀ i,i < ops.size→(listed.getD i false = true ↔ i ∈ ds∧i ∉ rem))→Og.dclosed ops listed→I rem a w→wpAny P .any ops Q (m + k) listed a w:=by
  intro k
  induction k with
  | zero =>
    intro rem listed a w hk _ _ hsz hiff _ hI
    have hrem : rem = []:=List.length_eq_zero_iff.1 hk
    subst hrem
    have : listed = afterL ops ds:=by
      refine Array.ext (by simp [afterL,hsz]) ?_
      intro i hi hi'
      have:=hiff i (by omega)
      have hin : (afterL ops ds)[i] = ds.contains i:=by simp [afterL]
      rw [hin,Bool.eq_iff_iff]
      have hge : listed.getD i false = listed[i]:=by simp [hi]
      rw [hge] at this
      rw [this]
      simp
    rw [this]
    exact rest a w hI
  | succ k ih =>
    intro rem listed a w hk hnd hsub hsz hiff hdc hI
    obtain ⟨p0,hp0⟩ : ∃ p,p ∈ rem:=by
      cases rem with
      | nil=>cases hk
      | cons p _=>exact ⟨p,List.mem_cons_self⟩
    have hun : ∀ p ∈ rem,listed.getD p false = false:=by
      intro p hp
      cases hv : listed.getD p false with
      | false=>rfl
      | true=>exact absurd hp ((hiff p (hlt p (hsub p hp))).1 hv).2
    refine ⟨fun hr=>absurd hr (Og.progress hsz hac p0 (hlt p0 (hsub p0 hp0)) (hun p0 hp0)),fun j hj=>?_⟩
    have hjs : j < ops.size:=by
      obtain ⟨_,o,ho,_⟩:=mem_ready.1 hj
      exact (Array.getElem?_eq_some_iff.1 ho).1
    rcases htail j hjs with hp | hc
    · have hpr : j ∈ rem:=by
        refine Classical.byContradiction fun hn=>?_
        have ht:=(hiff j hjs).2 ⟨hp,hn⟩
        have hf:=(mem_ready.1 hj).1
        rw [getD_false_of_true hf] at ht
        cases ht
      refine wpOp_mono ?_ (items rem hnd hsub j hpr (fun i hw hi=>((hiff i (hlt i hi)).1 (Og.waits_listed hj hw)).2) (fun i k hi hir hw hkd=>((hiff k (hlt k hkd)).1 (dclosed_waits hdc ((hiff i (hlt i hi)).2 ⟨hi,hir⟩) hw)).2) a w hI)
      intro a' w' hI'
      refine ih (rem.erase j) (listed.setIfInBounds j true) a' w' ?_ (hnd.erase j) (fun q hq=>hsub q (List.mem_of_mem_erase hq)) (by simpa using hsz) ?_ (Og.dclosed_set hdc hj) hI'
      · rw [List.length_erase_of_mem hpr,hk];rfl
      · intro i hi
        by_cases hpi : j = i
        · subst hpi
          constructor
          · intro _;exact ⟨hp,hnd.not_mem_erase⟩
          · intro _
            have h' : j < listed.size:=by omega
            simp [h']
        · rw [getD_set_ne false hpi,hiff i hi]
          constructor
          · rintro ⟨h2,h3⟩;exact ⟨h2,fun h=>h3 (List.mem_of_mem_erase h)⟩
          · rintro ⟨h2,h3⟩
            exact ⟨h2,fun h=>h3 ((hnd.mem_erase_iff).2 ⟨fun e=>hpi e.symm,h⟩)⟩
    · have:=Og.cov_listed hdc hj _ _ (hc p0 (hsub p0 hp0))
      rw [hun p0 hp0] at this
      cases this
end
structure It where
  j : Nat
  d : Tmp
  v : AV
  n : Asc
def selE (p : Nat→Bool) : List It→Asc
  | []=>[]
  | it::r=>bif p it.j then (it.d,it.v)::selE p r else selE p r
def selH (p : Nat→Bool) : List It→Asc
  | []=>[]
  | it::r=>bif p it.j then it.n ++ selH p r else selH p r
theorem selE_get {p : Nat→Bool} : ∀ {its : List It} {t : Nat} {v : AV},get? (selE p its) t = some v→∃ it ∈ its,p it.j = true∧it.d = t∧it.v = v
  | [],t,v,h=>by cases h
  | it::r,t,v,h=>by
    unfold selE at h
    cases hp : p it.j with
    | false =>
      rw [hp] at h
      obtain ⟨x,h1,h2⟩:=selE_get h
      exact ⟨x,List.mem_cons_of_mem _ h1,h2⟩
    | true =>
      rw [hp] at h
      simp only [cond_true,get?_cons] at h
      by_cases e : it.d = t
      · rw [if_pos e] at h;cases h;exact ⟨it,List.mem_cons_self,hp,e,rfl⟩
      · rw [if_neg e] at h
        obtain ⟨x,h1,h2⟩:=selE_get h
        exact ⟨x,List.mem_cons_of_mem _ h1,h2⟩
def Uniq (its : List It) : Prop:=∀ it ∈ its,∀ it' ∈ its,∀ i,i ∈ keys it.n→i ∈ keys it'.n→it = it'
theorem get?_none {h : Asc} {i : Nat} (hn : i ∉ keys h) : get? h i = none:=by
  cases hg : get? h i with
  | none=>rfl
  | some v=>exact absurd (get?_keys hg) hn
theorem selH_out {p : Nat→Bool} : ∀ {its : List It} {i : Nat},(∀ it ∈ its,p it.j = true→i ∉ keys it.n)→get? (selH p its) i = none
  | [],i,_=>rfl
  | it::r,i,h=>by
    unfold selH
    cases hp : p it.j with
    | false=>exact selH_out fun x hx=>h x (List.mem_cons_of_mem _ hx)
    | true =>
      simp only [cond_true,get?_app]
      rw [get?_none (h it List.mem_cons_self hp),selH_out fun x hx=>h x (List.mem_cons_of_mem _ hx)];rfl
theorem selH_in {p : Nat→Bool} : ∀ {its : List It} {i : Nat} {it : It},Uniq its→it ∈ its→i ∈ keys it.n→get? (selH p its) i = if p it.j = true then get? it.n i else none
  | x :: r,i,it,hu,hm,hk=>by
    have hu' : Uniq r:=fun a ha b hb=>hu a (List.mem_cons_of_mem _ ha) b (List.mem_cons_of_mem _ hb)
    by_cases hx : i ∈ keys x.n
    · have he:=hu it hm x List.mem_cons_self i hk hx
      subst he
      unfold selH
      cases hp : p it.j with
      | false =>
        simp only [cond_false]
        have : get? (selH p r) i = none:=selH_out fun y hy hpy hky=>by
          have:=hu y (List.mem_cons_of_mem _ hy) it List.mem_cons_self i hky hx
          subst this
          rw [hp] at hpy;cases hpy
        rw [this];simp
      | true =>
        simp only [cond_true,get?_app,if_true]
        obtain ⟨v,hv⟩:=keys_get hx
        rw [hv];rfl
    · have hm' : it ∈ r:=by
        rcases List.mem_cons.1 hm with e | e
        · subst e;exact absurd hk hx
        · exact e
      unfold selH
      cases hp : p x.j with
      | false=>exact selH_in hu' hm' hk
      | true =>
        simp only [cond_true,get?_app,get?_none hx]
        exact selH_in hu' hm' hk
inductive ItOk (P : Program) (ops : Array Oper) (g e0 h0 : Asc) (its : List It) (anc : List Nat) (o : Oper) (it : It) : Prop
  | run : wants ops o (selE (fun i=>memB i anc) its ++ e0) = some true→o.dst = some it.d →
      OpOk P o g (selE (fun i=>memB i anc) its ++ e0) (selH (fun i=>memB i anc) its ++ h0) (some it.v) (it.n ++ (selH (fun i=>memB i anc) its ++ h0)) (keys it.n)→ItOk P ops g e0 h0 its anc o it
  | skip : wants ops o (selE (fun i=>memB i anc) its ++ e0) = some false→o.dst = some it.d→it.v = .val undef→it.n = []→ItOk P ops g e0 h0 its anc o it
structure EatOk (P : Program) (ops : Array Oper) (g e0 h0 B : Asc) (its : List It) (anc : List Nat) (o : Oper) (it : It) (ns : List Nat) : Prop where
  wants : wants ops o (selE (fun i=>memB i anc) its ++ e0) = some true
  dst : o.dst = some it.d
  ok : OpOk P o g (selE (fun i=>memB i anc) its ++ e0) (selH (fun i=>memB i anc) its ++ (B ++ h0)) (some it.v) (it.n ++ (selH (fun i=>memB i anc) its ++ h0)) ns
inductive DSeq (P : Program) (ops : Array Oper) (g e0 h0 : Asc) : List (Nat × List Nat)→List It→Nat→Asc→(List It→Nat→Asc→Prop)→Prop
  | nil {its : List It} {N : Nat} {B : Asc} {K : List It→Nat→Asc→Prop} : K its N B→DSeq P ops g e0 h0 [] its N B K
  | cons {j : Nat} {anc : List Nat} {r : List (Nat × List Nat)} {its : List It} {N : Nat} {B : Asc} {K : List It→Nat→Asc→Prop} (o : Oper) (it : It) (N' : Nat) : ops[j]? = some o→it.j = j→ItOk P ops g e0 h0 its anc o it→(∀ i ∈ keys it.n,N ≤ i∧i < N')→N ≤ N' →
      DSeq P ops g e0 h0 r (its ++ [it]) N' B K→DSeq P ops g e0 h0 ((j,anc)::r) its N B K
  | eat {j : Nat} {anc : List Nat} {r : List (Nat × List Nat)} {its : List It} {N : Nat} {b : Nat × AV} {B : Asc} {K : List It→Nat→Asc→Prop} (o : Oper) (it : It) (N' : Nat) (ns : List Nat) : ops[j]? = some o→it.j = j→EatOk P ops g e0 h0 (b::B) its anc o it ns→(∀ i ∈ ns,i ∈ keys it.n∧N ≤ i)→(∀ i ∈ keys it.n,(N ≤ i∧i < N') ∨ i ∈ keys (b::B))→N ≤ N' →
      DSeq P ops g e0 h0 r (its ++ [it]) N' [] K→DSeq P ops g e0 h0 ((j,anc)::r) its N (b::B) K
structure Eats (B B' : Asc) (post : List It) (eat : Nat→Bool) : Prop where
  none : (∀ it ∈ post,eat it.j = false)→B' = B
  some : ∀ it ∈ post,eat it.j = true→B' = []
  one : ∀ it ∈ post,∀ it' ∈ post,eat it.j = true→eat it'.j = true→it.j = it'.j
theorem OpOk.more {P : Program} {o : Oper} {g e h h' : Asc} {v : Option AV} {ns ns' : List Nat} (ok : OpOk P o g e h v h' ns) (hs : ∀ i ∈ ns,i ∈ ns') : OpOk P o g e h v h' ns' :=
  fun c a he hh hc hn K Q hK=>ok c a he hh hc (fun n hn'=>hn n (hs n hn')) K Q fun c' v' ho hv=>hK c' v' { ho with A:=fun i hi=>(ho.A i hi).imp (fun h=>h) (hs i) } hv
theorem DSeq.out {P : Program} {ops : Array Oper} {g e0 h0 : Asc} {plan : List (Nat × List Nat)} {its0 : List It} {N : Nat} {B : Asc} {K : List It→Nat→Asc→Prop} (h : DSeq P ops g e0 h0 plan its0 N B K) : (plan.map (·.1)).Nodup→(∀ i ∈ keys B,i < N) →
    ∃ post N' B' eat,K (its0 ++ post) N' B'∧post.map (·.j) = plan.map (·.1)∧N ≤ N'∧(∀ it ∈ post,∀ i ∈ keys it.n,(N ≤ i∧i < N') ∨ (eat it.j = true∧i ∈ keys B))∧Uniq post∧Eats B B' post eat ∧
      ∀ a it b,post = a ++ it::b→∃ anc o,(it.j,anc) ∈ plan∧ops[it.j]? = some o∧((eat it.j = false∧ItOk P ops g e0 h0 (its0 ++ a) anc o it) ∨ (eat it.j = true∧∃ ns,EatOk P ops g e0 h0 B (its0 ++ a) anc o it ns∧∀ i ∈ ns,i ∈ keys it.n∧N ≤ i)):=by
  induction h with
  | @nil its N B K hk=>exact fun _ _=>⟨[],N,B,fun _=>false,(by simpa using hk),rfl,Nat.le_refl _,(fun it h=>by cases h),(fun it h=>by cases h),⟨fun _=>rfl,(fun it h=>by cases h),fun it h=>by cases h⟩,(fun a it b h=>by cases a <;> cases h)⟩
  | @cons j anc r its N B K o it N' ho hj hok hkeys hN _ ih =>
    intro hnd hBN
    rw [List.map_cons,List.nodup_cons] at hnd
    obtain ⟨post,N2,B2,eat,h1,h2,h3,h4,h5,h7,h6⟩:=ih hnd.2 (fun i hi=>Nat.lt_of_lt_of_le (hBN i hi) hN)
    have hpj : ∀ x ∈ post,x.j ≠ j:=fun x hx e=>hnd.1 (by rw [← h2];exact List.mem_map.2 ⟨x,hx,e⟩)
    have heat : ∀ x ∈ post,(bif Nat.beq x.j j then false else eat x.j) = eat x.j:=fun x hx=>by rw [beq_ne (hpj x hx)];rfl
    have hb : ∀ x ∈ it::post,∀ i ∈ keys x.n,(N ≤ i∧i < N2) ∨ ((bif Nat.beq x.j j then false else eat x.j) = true∧i ∈ keys B):=fun x hx i hi=>by
      rcases List.mem_cons.1 hx with e | e
      · subst e;have:=hkeys i hi;exact .inl (by omega)
      · rw [heat x e]
        exact (h4 x e i hi).imp (fun h=>by omega) (fun h=>h)
    refine ⟨it::post,N2,B2,fun i=>bif Nat.beq i j then false else eat i,by simpa using h1,by simp [h2,hj],Nat.le_trans hN h3,hb,fun x hx y hy i hxi hyi=>?_,⟨fun hn=>h7.none fun x hx=>?_,fun x hx hxe=>?_,fun x hx y hy hxe hye=>?_⟩,fun a x b e=>?_⟩
    · rcases List.mem_cons.1 hx with e | e <;> rcases List.mem_cons.1 hy with e' | e'
      · rw [e,e']
      · subst e
        have h8:=hkeys i hxi
        rcases h4 y e' i hyi with h9 | ⟨_,h9⟩
        · omega
        · have:=hBN i h9;omega
      · subst e'
        have h8:=hkeys i hyi
        rcases h4 x e i hxi with h9 | ⟨_,h9⟩
        · omega
        · have:=hBN i h9;omega
      · exact h5 x e y e' i hxi hyi
    · rw [← heat x hx];exact hn x (List.mem_cons_of_mem _ hx)
    · rcases List.mem_cons.1 hx with e | hx
      · subst e;rw [hj] at hxe;simp at hxe
      · rw [heat x hx] at hxe;exact h7.some x hx hxe
    · rcases List.mem_cons.1 hx with e | hx
      · subst e;rw [hj] at hxe;simp at hxe
      rcases List.mem_cons.1 hy with e | hy
      · subst e;rw [hj] at hye;simp at hye
      rw [heat x hx] at hxe
      rw [heat y hy] at hye
      exact h7.one x hx y hy hxe hye
    · cases a with
      | nil =>
        simp only [List.nil_append,List.cons.injEq] at e
        obtain ⟨rfl,rfl⟩:=e
        subst hj
        exact ⟨anc,o,List.mem_cons_self,ho,.inl ⟨by simp,by simpa using hok⟩⟩
      | cons y a =>
        simp only [List.cons_append,List.cons.injEq] at e
        obtain ⟨rfl,e⟩:=e
        obtain ⟨anc',o',q1,q2,q3⟩:=h6 a x b e
        have hq:=heat x (by rw [e];simp)
        refine ⟨anc',o',List.mem_cons_of_mem _ q1,q2,?_⟩
        show ((bif Nat.beq x.j j then false else eat x.j) = false∧_) ∨ ((bif Nat.beq x.j j then false else eat x.j) = true∧_)
        rw [hq]
        rcases q3 with ⟨q3,q4⟩ | ⟨q3,ns,q4,q5⟩
        · exact .inl ⟨q3,by simpa using q4⟩
        · exact .inr ⟨q3,ns,by simpa using q4,fun i hi=>⟨(q5 i hi).1,Nat.le_trans hN (q5 i hi).2⟩⟩
  | @eat j anc r its N b B K o it N' ns ho hj hok hns hkeys hN _ ih =>
    intro hnd hBN
    rw [List.map_cons,List.nodup_cons] at hnd
    obtain ⟨post,N2,B2,eat,h1,h2,h3,h4,h5,h7,h6⟩:=ih hnd.2 (fun i hi=>by cases hi)
    have h4 : ∀ x ∈ post,∀ i ∈ keys x.n,N' ≤ i∧i < N2:=fun x hx i hi=>by
      rcases h4 x hx i hi with h | ⟨_,h⟩
      · exact h
      · cases h
    have hpj : ∀ x ∈ post,x.j ≠ j:=fun x hx e=>hnd.1 (by rw [← h2];exact List.mem_map.2 ⟨x,hx,e⟩)
    have hB2 : B2 = []:=by
      by_cases hx : ∃ x ∈ post,eat x.j = true
      · obtain ⟨x,hx,hxe⟩:=hx;exact h7.some x hx hxe
      · refine h7.none fun x hx'=>?_
        cases he : eat x.j with
        | false=>rfl
        | true=>exact absurd ⟨x,hx',he⟩ hx
    have h6' : ∀ a x b',post = a ++ x::b'→∃ anc o,(x.j,anc) ∈ r∧ops[x.j]? = some o∧ItOk P ops g e0 h0 ((its ++ [it]) ++ a) anc o x:=fun a x b' e=>by
      obtain ⟨anc',o',q1,q2,q3⟩:=h6 a x b' e
      refine ⟨anc',o',q1,q2,?_⟩
      rcases q3 with ⟨_,q3⟩ | ⟨_,q3⟩
      · exact q3
      · obtain ⟨ns',q3,q4⟩:=q3
        have hnil : ∀ i ∈ ns',i ∈ keys x.n:=fun i hi=>(q4 i hi).1
        exact .run q3.wants q3.dst (q3.ok.more hnil)
    refine ⟨it::post,N2,B2,fun i=>Nat.beq i j,by simpa using h1,by simp [h2,hj],Nat.le_trans hN h3,fun x hx i hi=>?_,fun x hx y hy i hxi hyi=>?_,⟨fun hn=>?_,fun x hx hxe=>hB2,fun x hx y hy hxe hye=>?_⟩,fun a x b e=>?_⟩
    · rcases List.mem_cons.1 hx with e | e
      · subst e
        rcases hkeys i hi with h | h
        · exact .inl (by omega)
        · exact .inr ⟨by rw [hj];simp,h⟩
      · have:=h4 x e i hi;exact .inl (by omega)
    · have hlow : ∀ i ∈ keys it.n,i < N':=fun i hi=>by
        rcases hkeys i hi with h | h
        · exact h.2
        · have:=hBN i h;omega
      rcases List.mem_cons.1 hx with e | e <;> rcases List.mem_cons.1 hy with e' | e'
      · rw [e,e']
      · subst e;have:=hlow i hxi;have:=h4 y e' i hyi;omega
      · subst e';have:=hlow i hyi;have:=h4 x e i hxi;omega
      · exact h5 x e y e' i hxi hyi
    · have:=hn it List.mem_cons_self
      rw [hj] at this;simp at this
    · rw [Nat.eq_of_beq_eq_true hxe,Nat.eq_of_beq_eq_true hye]
    · cases a with
      | nil =>
        simp only [List.nil_append,List.cons.injEq] at e
        obtain ⟨rfl,rfl⟩:=e
        subst hj
        exact ⟨anc,o,List.mem_cons_self,ho,.inr ⟨by simp,ns,by simpa using hok,hns⟩⟩
      | cons y a =>
        simp only [List.cons_append,List.cons.injEq] at e
        obtain ⟨rfl,e⟩:=e
        obtain ⟨anc',o',q1,q2,q3⟩:=h6' a x b e
        exact ⟨anc',o',List.mem_cons_of_mem _ q1,q2,.inl ⟨beq_ne (hpj x (by rw [e];simp)),by simpa using q3⟩⟩
def nodupB : List Nat→Bool
  | []=>true
  | a::r=>!memB a r && nodupB r
theorem nodupB_ok : ∀ {l : List Nat},nodupB l = true→l.Nodup
  | [],_=>List.nodup_nil
  | a::r,h=>by
    simp only [nodupB,Bool.and_eq_true,Bool.not_eq_true'] at h
    refine List.nodup_cons.2 ⟨fun hm=>?_,nodupB_ok h.2⟩
    rw [memB_ok.2 hm] at h;cases h.1
def dstOf (ops : Array Oper) (j : Nat) : Option Tmp:=(ops[j]?).bind (·.dst)
def dstsOf (ops : Array Oper) : List (Nat × List Nat)→List Nat
  | []=>[]
  | (j,_)::r=>match dstOf ops j with
    | some d=>d::dstsOf ops r
    | none=>dstsOf ops r
def dropO {α : Type} : Asc→List Nat→(Asc→α)→α
  | [],_,k=>k []
  | (i,v)::r,l,k=>bif memB i l then dropO r l k else dropO r l (fun r'=>k ((i,v)::r'))
theorem dropO_eq {α : Type} : ∀ (h : Asc) (l : List Nat) (k : Asc→α),dropO h l k = k (dropL h l)
  | [],_,_=>rfl
  | (i,v)::r,l,k=>by
    unfold dropO dropL
    cases memB i l
    · simp only [cond_false];rw [dropO_eq]
    · simp only [cond_true];rw [dropO_eq]
def tailB (ops : Array Oper) : List Nat→Array Bool→Bool
  | [],listed=>(Region.ready .any ops listed).isEmpty
  | j::r,listed=>Region.ready .any ops listed == [j] && tailB ops r (listed.setIfInBounds j true)
def ancB (ops : Array Oper) (plan : List (Nat × List Nat)) : List (Nat × List Nat)→List Nat→Bool
  | [],_=>true
  | (j,anc)::r,before=>anc.all (fun i=>memB i before && (waits .any ops j i || plan.any fun q=>waits .any ops j q.1 && memB i q.2)) && ancB ops plan r (j::before)
def drawB (ops : Array Oper) (n : Nat) (plan : List (Nat × List Nat)) (tail : List Nat) : Bool :=
  nodupB (plan.map (·.1)) && ((plan.map (·.1)).all (fun j=>Nat.blt j ops.size && (match dstOf ops j with | some d=>Nat.blt d n | none=>false)) && (nodupB (dstsOf ops plan) && (Og.acyc ops && (((List.range ops.size).all fun j=>memB j (plan.map (·.1)) || (plan.map (·.1)).all fun i=>Og.cov ops (plan.map (·.1)) (plan.map (·.1)).length j i) &&
    (ancB ops plan plan [] && (tailB ops tail (afterL ops (plan.map (·.1))) && Nat.beq ((plan.map (·.1)).length + tail.length) ops.size))))))
theorem wants_env {c : Ctx} {g e : Asc} {a : Act} {ops : Array Oper} {o : Oper} {b : Bool} (he : EnvRep c g e a) (h : wants ops o e = some b) : Region.wanted o (yielded ops a.tmps) = b:=by
  unfold wants at h
  cases hg : o.guard with
  | none=>simp only [hg,Option.some.injEq] at h;subst h;simp [Region.wanted,hg]
  | some p =>
    obtain ⟨j,want⟩:=p
    simp only [hg] at h
    cases hd : (ops[j]?).bind (·.dst) with
    | none=>simp [hd] at h
    | some d =>
      simp only [hd] at h
      cases hq : get? e d with
      | none=>simp [hq] at h
      | some u =>
        cases u <;> simp only [hq,reduceCtorEq] at h
        · rename_i q
          obtain ⟨h1,h2⟩:=he.slot d _ hq
          have h2:=rep_bool h2
          have hy : yielded ops a.tmps j = some q:=by
            unfold yielded
            rw [hd]
            have : a.tmps[d]? = some (.bool q):=by
              rw [Array.getElem?_eq_getElem h1]
              simp [h1] at h2
              rw [h2]
            simp [this]
          simp only [Region.wanted,hg,hy]
          cases q <;> cases want <;> simp at h <;> subst h <;> rfl
        · rename_i v
          cases v <;> simp only [reduceCtorEq] at h
          rename_i t
          obtain ⟨h1,h2⟩:=he.slot d _ hq
          have h2:=rep_val h2
          have hy : yielded ops a.tmps j = none:=by
            unfold yielded
            rw [hd]
            have : a.tmps[d]? = some (.tuple t):=by
              rw [Array.getElem?_eq_getElem h1]
              simp [h1] at h2
              rw [h2]
            simp [this]
          simp only [Region.wanted,hg,hy]
          cases h
          rfl
theorem tail_wp {F : Fr} {ops : Array Oper} {Q : Exit→Act→World→Prop} {l : List Oper} {s : St} {K : St→Prop} (h : Seq F ops l s K) (hQ : ∀ s' a w,K s'→Sim F s' a w→Q .normal a w) :
    ∀ (js : List Nat) (listed : Array Bool),js.map (ops[·]?) = l.map some→tailB ops js listed = true→∀ a w,Sim F s a w→wpAny F.P .any ops Q js.length listed a w:=by
  have key : ∀ {o : Oper} {l : List Oper} {js : List Nat} {listed : Array Bool} {a : Act} {w : World},js.map (ops[·]?) = (o::l).map some→tailB ops js listed = true →
      (∀ j r,js = j::r→tailB ops r (listed.setIfInBounds j true) = true→r.map (ops[·]?) = l.map some→ops[j]? = some o→wpOp F.P ops Q j (wpAny F.P .any ops Q r.length (listed.setIfInBounds j true)) a w)→wpAny F.P .any ops Q js.length listed a w:=by
    intro o l js listed a w hm ht hk
    cases js with
    | nil=>cases hm
    | cons j r =>
      simp only [List.map_cons,List.cons.injEq] at hm
      simp only [tailB,Bool.and_eq_true,beq_iff_eq] at ht
      refine ⟨(fun hr=>by rw [ht.1] at hr;cases hr),fun i hi=>?_⟩
      rw [ht.1,List.mem_singleton] at hi
      subst hi
      exact hk _ r rfl ht.2 hm.2 hm.1
  induction h with
  | nil hk =>
    intro js listed hm ht a w hs
    cases js with
    | cons=>cases hm
    | nil=>exact ⟨by simpa [tailB] using ht,hQ _ a w hk hs⟩
  | step N' hw ok hn hN hd _ ih =>
    intro js listed hm ht a w hs
    refine key hm ht fun j r _ ht' hm' ho=>?_
    unfold wpOp
    simp only [ho]
    rw [if_pos (wants_ok hs hw)]
    exact .inl (step_wp (ops:=ops) ok hn hN hd hs fun a' w' hs'=>ih hQ r _ hm' ht' a' w' hs')
  | skip hw hd _ ih =>
    intro js listed hm ht a w hs
    refine key hm ht fun j r _ ht' hm' ho=>?_
    unfold wpOp
    simp only [ho]
    rw [if_neg (by rw [wants_ok hs hw];simp)]
    exact ih hQ r _ hm' ht' _ _ (skip_sim hd hs)
  | to S' hw ok _ ih =>
    intro js listed hm ht a w hs
    refine key hm ht fun j r _ ht' hm' ho=>?_
    unfold wpOp
    simp only [ho]
    rw [if_pos (wants_ok hs hw)]
    exact .inl (ok a w hs _ _ fun s' a' w' hs' hsim=>ih s' hs' hQ r _ hm' ht' a' w' hsim)
  | conv h _ ih=>intro js listed hm ht a w hs;exact ih hQ js listed hm ht a w (h a w hs)
def allB (_ : Nat) : Bool:=true
def drawn (its : List It) (e0 h g : Asc) (N : Nat) : St:=⟨selE allB its ++ e0,selH allB its ++ h,g,N⟩
theorem dstsOf_mem {ops : Array Oper} : ∀ {plan : List (Nat × List Nat)} {j d : Nat},j ∈ plan.map (·.1)→dstOf ops j = some d→d ∈ dstsOf ops plan
  | [],j,d,h,_=>by cases h
  | (k,anc)::r,j,d,h,hd=>by
    unfold dstsOf
    rcases List.mem_cons.1 h with e | h
    · have e : j = k:=e
      subst e;rw [hd];exact List.mem_cons_self
    · cases dstOf ops k with
      | none=>exact dstsOf_mem h hd
      | some x=>exact List.mem_cons_of_mem _ (dstsOf_mem h hd)
theorem dsts_inj {ops : Array Oper} : ∀ {plan : List (Nat × List Nat)} {i j d : Nat},(dstsOf ops plan).Nodup→i ∈ plan.map (·.1)→j ∈ plan.map (·.1)→dstOf ops i = some d→dstOf ops j = some d→i = j
  | [],i,j,d,_,h,_,_,_=>by cases h
  | (k,anc)::r,i,j,d,hn,hi,hj,hdi,hdj=>by
    unfold dstsOf at hn
    rcases List.mem_cons.1 hi with e | hi2 <;> rcases List.mem_cons.1 hj with e' | hj2
    · exact e.trans e'.symm
    · have e : i = k:=e
      subst e
      rw [hdi] at hn
      exact absurd (dstsOf_mem hj2 hdj) (List.nodup_cons.1 hn).1
    · have e' : j = k:=e'
      subst e'
      rw [hdj] at hn
      exact absurd (dstsOf_mem hi2 hdi) (List.nodup_cons.1 hn).1
    · cases hk : dstOf ops k with
      | none=>rw [hk] at hn;exact dsts_inj hn hi2 hj2 hdi hdj
      | some x=>rw [hk] at hn;exact dsts_inj (List.nodup_cons.1 hn).2 hi2 hj2 hdi hdj
theorem ancB_spec {ops : Array Oper} {plan : List (Nat × List Nat)} : ∀ {r : List (Nat × List Nat)} {before : List Nat},ancB ops plan r before = true→∀ {a b : List (Nat × List Nat)} {j : Nat} {anc : List Nat},r = a ++ (j,anc)::b →
    ∀ i ∈ anc,(i ∈ a.map (·.1) ∨ i ∈ before)∧(waits .any ops j i = true ∨ ∃ q ∈ plan,waits .any ops j q.1 = true∧i ∈ q.2)
  | [],_,_,a,b,j,anc,e=>by cases a <;> cases e
  | (k, ank)::r,before,h,a,b,j,anc,e=>by
    simp only [ancB,Bool.and_eq_true] at h
    intro i hi
    cases a with
    | nil =>
      simp only [List.nil_append,List.cons.injEq,Prod.mk.injEq] at e
      obtain ⟨⟨rfl,rfl⟩,_⟩:=e
      have h1:=List.all_eq_true.1 h.1 i hi
      simp only [Bool.and_eq_true,Bool.or_eq_true,List.any_eq_true] at h1
      refine ⟨.inr (memB_ok.1 h1.1),h1.2.imp id fun ⟨q,q1,q2,q3⟩=>⟨q,q1,q2,memB_ok.1 q3⟩⟩
    | cons x a =>
      simp only [List.cons_append,List.cons.injEq] at e
      obtain ⟨rfl,e⟩:=e
      obtain ⟨h1,h2⟩:=ancB_spec h.2 e i hi
      refine ⟨?_,h2⟩
      rcases h1 with h1 | h1
      · exact .inl (List.mem_cons_of_mem _ h1)
      · rcases List.mem_cons.1 h1 with e | h1
        · exact .inl (by rw [e];exact List.mem_cons_self)
        · exact .inr h1
theorem acyc_lt {ops : Array Oper} (h : Og.acyc ops = true) {j k : Nat} (hj : j < ops.size) (hw : waits .any ops j k = true) : k < j:=by
  have h1:=List.all_eq_true.1 (Og.acyc_0 h) j (List.mem_range.2 hj)
  unfold waits at hw
  cases ho : ops[j]? with
  | none=>simp [ho] at hw
  | some o =>
    simp only [ho] at hw
    obtain ⟨e,he,hb⟩:=Array.any_eq_true'.1 hw
    rw [Bool.and_eq_true,beq_iff_eq] at hb
    simp only [ho,Option.map_some,Option.getD_some] at h1
    have:=Array.all_eq_true_iff_forall_mem.1 h1 e he
    rw [hb.1] at this
    simp only [Bool.not_true,Bool.false_or,decide_eq_true_eq] at this
    omega
theorem VC.drawn {F : Fr} {id : Nat} {l : List Oper} {e h B g : Asc} {N : Nat} {Q : Exit→St→Prop} (plan : List (Nat × List Nat)) (tail : List Nat) (hBd : ∀ i av,get? B i = some av→get? h i = none) (hm : F.P.follows .mixedOrders = true) (hst : drawB l.toArray F.n plan tail = true) {e0 : Asc} (he0 : dropO e (dstsOf l.toArray plan) some = some e0)
    {tops : List Oper} (htops : tail.map (l.toArray[·]?) = tops.map some)
    (hD : DSeq F.P l.toArray g e0 h plan [] N B (fun its N' B'=>Seq F l.toArray tops (V.drawn its e0 (B' ++ h) g N') (Q .normal))) : VC F (.region id l.toArray true) Q ⟨e,B ++ h,g,N⟩:=by
  rw [dropO_eq] at he0
  simp only [Option.some.injEq] at he0
  simp only [drawB,Bool.and_eq_true] at hst
  obtain ⟨s1,s2,s3,s4,s5,s6,s7,s8⟩:=hst
  have s1:=nodupB_ok s1
  intro a w hsim
  have hBN : ∀ i ∈ keys B,i < N:=fun i hi=>by
    obtain ⟨av,hav⟩:=keys_get hi
    obtain ⟨c1,n1,_,ho1,_,hb1,_⟩:=hsim
    exact hb1 i (ho1.heap.A i av (by rw [get?_app,hav];rfl))
  have hhN : ∀ i av,get? h i = some av→i < N:=fun i av hi=>by
    obtain ⟨c1,n1,_,ho1,_,hb1,_⟩:=hsim
    refine hb1 i (ho1.heap.A i av (?_ : get? (B ++ h) i = some av))
    rw [get?_app]
    cases hb : get? B i with
    | none=>exact hi
    | some u=>have:=hBd i u hb;rw [hi] at this;cases this
  obtain ⟨its,N',B',eat,hK,hmap,hNN,hkeys,huniq,heats,hitems⟩:=hD.out s1 hBN
  rw [List.nil_append] at hK
  have s3:=nodupB_ok s3
  have s8:=Nat.eq_of_beq_eq_true s8
  have hlt : ∀ j ∈ plan.map (·.1),j < l.toArray.size:=fun j hj=>by
    have:=List.all_eq_true.1 s2 j hj
    simp only [Bool.and_eq_true] at this
    simpa [Nat.blt_eq] using this.1
  have hdst : ∀ j ∈ plan.map (·.1),∃ d,dstOf l.toArray j = some d∧d < F.n:=fun j hj=>by
    have:=List.all_eq_true.1 s2 j hj
    simp only [Bool.and_eq_true] at this
    cases hd : dstOf l.toArray j with
    | none=>simp [hd] at this
    | some d=>simp only [hd] at this;exact ⟨d,rfl,by simpa [Nat.blt_eq] using this.2⟩
  intro QC hQ
  refine F.L.any hm (Og.acyc_def s4) ?_
  let nr (rem : List Nat) : Nat→Bool:=fun j=>!memB j rem
  have hnr : ∀ rem j,nr rem j = true ↔ j ∉ rem:=fun rem j=>by
    show (!memB j rem) = true ↔ _
    rw [Bool.not_eq_true',← Bool.not_eq_true,memB_ok]
  let be (rem : List Nat) : Asc:=bif its.all (fun it=>!eat it.j || memB it.j rem) then B else []
  let I : List Nat→Act→World→Prop:=fun rem a w=>∃ c ns,c.w = w∧Out F.c0 F.h0 (selH (nr rem) its ++ (be rem ++ h)) ns c∧EnvRep c g e0 a∧(∀ it ∈ its,it.j ∉ rem→it.d < a.tmps.size∧Rep c it.v .V [a.tmps.getD it.d undef]) ∧
    (∀ i,c.A i→i < N ∨ ∃ it ∈ its,it.j ∉ rem∧i ∈ keys it.n)∧a.tmps.size = F.n∧a.defers = F.D∧(∀ i,F.c0.A i→i < F.N0)∧∀ x v,get? g x = some v→Rep F.c0 (.rptr false v) .V [.pointer (some ⟨x,0,none⟩)]
  have hjs : ∀ it ∈ its,it.j ∈ plan.map (·.1):=fun it hit=>by rw [← hmap];exact List.mem_map.2 ⟨it,hit,rfl⟩
  have hitem : ∀ it ∈ its,∃ a b anc o,its = a ++ it::b∧(it.j,anc) ∈ plan∧l.toArray[it.j]? = some o∧((eat it.j = false∧ItOk F.P l.toArray g e0 h a anc o it) ∨ (eat it.j = true∧∃ ns,EatOk F.P l.toArray g e0 h B a anc o it ns∧∀ i ∈ ns,i ∈ keys it.n∧N ≤ i)):=fun it hit=>by
    obtain ⟨a,b,e⟩:=List.append_of_mem hit
    obtain ⟨anc,o,q1,q2,q3⟩:=hitems a it b e
    exact ⟨a,b,anc,o,e,q1,q2,by simpa using q3⟩
  have hdj : ∀ it ∈ its,dstOf l.toArray it.j = some it.d:=fun it hit=>by
    obtain ⟨a,b,anc,o,_,_,q2,q3⟩:=hitem it hit
    unfold dstOf
    rw [q2]
    rcases q3 with ⟨_,q3⟩ | ⟨_,_,q3,_⟩
    · cases q3 with
      | run _ hd _=>exact hd
      | skip _ hd _ _=>exact hd
    · exact q3.dst
  have hjnd : (its.map (·.j)).Nodup:=by rw [hmap];exact s1
  have hjinj : ∀ x ∈ its,∀ y ∈ its,x.j = y.j→x = y:=by
    have : ∀ {L : List It},(L.map (·.j)).Nodup→∀ x ∈ L,∀ y ∈ L,x.j = y.j→x = y:=by
      intro L
      induction L with
      | nil=>intro _ x hx;cases hx
      | cons z L ih =>
        intro hn x hx y hy e
        simp only [List.map_cons,List.nodup_cons] at hn
        rcases List.mem_cons.1 hx with hx2 | hx2 <;> rcases List.mem_cons.1 hy with hy2 | hy2
        · rw [hx2,hy2]
        · exact absurd (List.mem_map.2 ⟨y,hy2,by rw [← hx2];exact e.symm⟩) hn.1
        · exact absurd (List.mem_map.2 ⟨x,hx2,by rw [← hy2];exact e⟩) hn.1
        · exact ih hn.2 x hx2 y hy2 e
    exact this hjnd
  have he0k : ∀ t v,get? e0 t = some v→get? e t = some v∧t ∉ dstsOf l.toArray plan:=fun t v ht=>by
    rw [← he0,get?_drop] at ht
    by_cases hm : memB t (dstsOf l.toArray plan) = true
    · rw [if_pos hm] at ht;cases ht
    · rw [if_neg hm] at ht;exact ⟨ht,fun x=>hm (memB_ok.2 x)⟩
  have hbesub : ∀ rem i av,get? (be rem) i = some av→get? B i = some av:=fun rem i av hi=>by
    show get? B i = some av
    have hi : get? (bif its.all (fun it=>!eat it.j || memB it.j rem) then B else []) i = some av:=hi
    cases hc : its.all (fun it=>!eat it.j || memB it.j rem) with
    | true=>rw [hc] at hi;exact hi
    | false=>rw [hc] at hi;cases hi
  have hanc : ∀ rem : List Nat,(∀ i k,i ∈ plan.map (·.1)→i ∉ rem→waits .any l.toArray i k = true→k ∈ plan.map (·.1)→k ∉ rem)→∀ k anck,k ∉ rem→(k,anck) ∈ plan→∀ i ∈ anck,i ∈ plan.map (·.1)∧i ∉ rem:=by
    intro rem hdown k
    induction k using Nat.strongRecOn with
    | _ k ih =>
      intro anck hk hp i hi
      obtain ⟨a,b,e⟩:=List.append_of_mem hp
      obtain ⟨h1,h2⟩:=ancB_spec s6 e i hi
      have hkd : k ∈ plan.map (·.1):=List.mem_map.2 ⟨_,hp,rfl⟩
      have hid : i ∈ plan.map (·.1):=by
        rcases h1 with h1 | h1
        · rw [e];simp only [List.map_append];exact List.mem_append_left _ h1
        · cases h1
      refine ⟨hid,?_⟩
      rcases h2 with h2 | ⟨q,q1,q2,q3⟩
      · exact hdown k i hkd hk h2 hid
      · have hqd : q.1 ∈ plan.map (·.1):=List.mem_map.2 ⟨q,q1,rfl⟩
        exact (ih q.1 (acyc_lt s4 (hlt k hkd) q2) q.2 (hdown k q.1 hkd hk q2 hqd) q1 i q3).2
  have hitems2 : ∀ rem : List Nat,rem.Nodup→(∀ i ∈ rem,i ∈ plan.map (·.1))→∀ j ∈ rem,(∀ i,waits .any l.toArray j i = true→i ∈ plan.map (·.1)→i ∉ rem)→(∀ i k,i ∈ plan.map (·.1)→i ∉ rem→waits .any l.toArray i k = true→k ∈ plan.map (·.1)→k ∉ rem) →
      ∀ a w,I rem a w→wpOp F.P l.toArray QC j (fun a' w'=>I (rem.erase j) a' w') a w:=by
    intro rem hnd hsub j hj hw1 hdown a w hI
    obtain ⟨c,ns,rfl,hout,hen,hsl,hA,hsz,hdf,hN0,hgl⟩:=hI
    obtain ⟨it,hit,rfl⟩ : ∃ it ∈ its,it.j = j:=by
      have:=hsub j hj
      rw [← hmap] at this
      obtain ⟨it,h1,h2⟩:=List.mem_map.1 this
      exact ⟨it,h1,h2⟩
    obtain ⟨pre,post,anc,o,hsp,hpl,ho,hok⟩:=hitem it hit
    have hjd:=hjs it hit
    have hancx : ∀ i ∈ anc,i ∈ plan.map (·.1)∧i ∉ rem:=fun i hi=>by
      obtain ⟨a',b',e⟩:=List.append_of_mem hpl
      obtain ⟨h1,h2⟩:=ancB_spec s6 e i hi
      have hid : i ∈ plan.map (·.1):=by
        rcases h1 with h1 | h1
        · rw [e];simp only [List.map_append];exact List.mem_append_left _ h1
        · cases h1
      refine ⟨hid,?_⟩
      rcases h2 with h2 | ⟨q,q1,q2,q3⟩
      · exact hw1 i h2 hid
      · have hqd : q.1 ∈ plan.map (·.1):=List.mem_map.2 ⟨q,q1,rfl⟩
        exact (hanc rem hdown q.1 q.2 (hw1 q.1 q2 hqd) q1 i q3).2
    have hpre : ∀ x ∈ its,x.j ∈ anc→x ∈ pre:=fun x hx hxa=>by
      obtain ⟨a',b',e⟩:=List.append_of_mem hpl
      have h1:=(ancB_spec s6 e x.j hxa).1
      have h1 : x.j ∈ a'.map (·.1):=by rcases h1 with h1 | h1;exact h1;cases h1
      have hm1 : pre.map (·.j) ++ it.j::post.map (·.j) = a'.map (·.1) ++ it.j::b'.map (·.1):=by
        have:=hmap
        rw [hsp,e] at this
        simpa using this
      have hlen : (pre.map (·.j)) = a'.map (·.1):=by
        have hn1 : (pre.map (·.j) ++ it.j::post.map (·.j)).Nodup:=by
          have:=hjnd
          rw [hsp] at this
          simpa using this
        have aux : ∀ {A B C D : List Nat} {z : Nat},A ++ z::B = C ++ z::D→(A ++ z::B).Nodup→A = C:=by
          intro A
          induction A with
          | nil =>
            intro B C D z e hn
            cases C with
            | nil=>rfl
            | cons y C =>
              simp only [List.nil_append,List.cons_append,List.cons.injEq] at e
              obtain ⟨rfl,e⟩:=e
              simp only [List.nil_append,List.nodup_cons] at hn
              exact absurd (by rw [e];simp) hn.1
          | cons y A ih =>
            intro B C D z e hn
            cases C with
            | nil =>
              simp only [List.nil_append,List.cons_append,List.cons.injEq] at e
              obtain ⟨rfl,e⟩:=e
              simp only [List.cons_append,List.nodup_cons] at hn
              exact absurd (by simp) hn.1
            | cons y' C =>
              simp only [List.cons_append,List.cons.injEq] at e
              obtain ⟨rfl,e⟩:=e
              simp only [List.cons_append,List.nodup_cons] at hn
              rw [ih e hn.2]
        exact aux hm1 hn1
      rw [← hlen] at h1
      obtain ⟨y,hy,hyj⟩:=List.mem_map.1 h1
      have hyi : y ∈ its:=by rw [hsp];exact List.mem_append_left _ hy
      rw [← hjinj y hyi x hx hyj];exact hy
    have hpsub : ∀ x ∈ pre,x ∈ its:=fun x hx=>by rw [hsp];exact List.mem_append_left _ hx
    have hupre : Uniq pre:=fun x hx y hy=>huniq x (hpsub x hx) y (hpsub y hy)
    have henv : EnvRep c g (selE (fun i=>memB i anc) pre ++ e0) a:=by
      refine ⟨fun t v ht=>?_,hen.glob⟩
      rw [get?_app] at ht
      cases hs : get? (selE (fun i=>memB i anc) pre) t with
      | none=>rw [hs] at ht;exact hen.slot t v ht
      | some u =>
        rw [hs] at ht
        simp only [Option.some_or,Option.some.injEq] at ht
        subst ht
        obtain ⟨x,hx,hxa,rfl,rfl⟩:=selE_get hs
        exact hsl x (hpsub x hx) (hancx x.j (memB_ok.1 hxa)).2
    have hHor : ∀ i av,get? h i = some av→∀ x ∈ its,i ∉ keys x.n:=fun i av hi x hx hk=>by
      have h1:=hhN i av hi
      rcases hkeys x hx i hk with h2 | ⟨_,h2⟩
      · omega
      · obtain ⟨u,hu⟩:=keys_get h2
        have:=hBd i u hu
        rw [hi] at this;cases this
    have hBor : ∀ i av,get? B i = some av→∀ x ∈ its,i ∈ keys x.n→eat x.j = true:=fun i av hi x hx hk=>by
      rcases hkeys x hx i hk with h2 | ⟨h2,_⟩
      · have:=hBN i (get?_keys hi);omega
      · exact h2
    let Off (X : Asc) : Prop:=∀ i av,get? X i = some av→∀ x ∈ its,i ∈ keys x.n→nr rem x.j = false∧memB x.j anc = false
    have hcore : ∀ (Y Z : Asc),Off Y→Off Z→(∀ i av,get? Z i = some av→get? Y i = none) →
        Split (selH (nr rem) its ++ (Z ++ Y)) (selH (fun i=>memB i anc) pre ++ Y) (selH (fun i=>nr rem i && !memB i anc) its ++ Z):=fun Y Z hY hZ hZY=>by
      have key : ∀ i,(∃ x ∈ its,i ∈ keys x.n) ∨ ∀ x ∈ its,i ∉ keys x.n:=fun i=>by
        by_cases hx : ∃ x ∈ its,i ∈ keys x.n
        · exact .inl hx
        · exact .inr fun x hx' hk=>hx ⟨x,hx',hk⟩
      have hpreg : ∀ i x,x ∈ its→i ∈ keys x.n→get? (selH (fun i=>memB i anc) pre) i = if memB x.j anc = true then get? x.n i else none:=fun i x hx hk=>by
        by_cases hm : memB x.j anc = true
        · exact selH_in hupre (hpre x hx (memB_ok.1 hm)) hk
        · rw [if_neg hm]
          exact selH_out fun y hy hya hyk=>by
            have:=huniq y (hpsub y hy) x hx i hyk hk
            rw [this] at hya;exact hm hya
      refine ⟨fun i=>?_,fun i av hi=>?_⟩
      · rw [get?_app,get?_app,get?_app,get?_app]
        rcases key i with ⟨x,hx,hk⟩ | hnk
        · rw [hpreg i x hx hk,selH_in huniq hx hk,selH_in huniq hx hk]
          by_cases hm : memB x.j anc = true
          · have hxr:=(hancx x.j (memB_ok.1 hm)).2
            have hn : nr rem x.j = true:=(hnr rem x.j).2 hxr
            have hyn : get? Y i = none:=by
              cases h : get? Y i with
              | none=>rfl
              | some u=>have:=(hY i u h x hx hk).1;rw [hn] at this;cases this
            have hzn : get? Z i = none:=by
              cases h : get? Z i with
              | none=>rfl
              | some u=>have:=(hZ i u h x hx hk).1;rw [hn] at this;cases this
            rw [if_pos hn,if_pos hm,if_neg (by rw [hm];simp),hyn,hzn]
            cases get? x.n i <;> rfl
          · have hmf : memB x.j anc = false:=by simpa using hm
            rw [if_neg hm,hmf]
            simp only [Bool.not_false,Bool.and_true]
            cases hn : nr rem x.j with
            | true =>
              have hyn : get? Y i = none:=by
                cases h : get? Y i with
                | none=>rfl
                | some u=>have:=(hY i u h x hx hk).1;rw [hn] at this;cases this
              have hzn : get? Z i = none:=by
                cases h : get? Z i with
                | none=>rfl
                | some u=>have:=(hZ i u h x hx hk).1;rw [hn] at this;cases this
              rw [hyn,hzn]
              simp
            | false =>
              cases hz : get? Z i with
              | none=>cases get? Y i <;> simp
              | some u=>rw [hZY i u hz];simp
        · rw [selH_out fun x hx _=>hnk x hx,selH_out fun x hx _=>hnk x (hpsub x hx),selH_out fun x hx _=>hnk x hx]
          cases hz : get? Z i with
          | none=>cases get? Y i <;> rfl
          | some u=>rw [hZY i u hz];rfl
      · rw [get?_app] at hi ⊢
        rcases key i with ⟨x,hx,hk⟩ | hnk
        · rw [selH_in huniq hx hk] at hi
          rw [hpreg i x hx hk]
          by_cases hm : memB x.j anc = true
          · rw [if_neg (by rw [hm];simp)] at hi
            have hi : get? Z i = some av:=hi
            have:=(hZ i av hi x hx hk).2
            rw [hm] at this;cases this
          · rw [if_neg hm]
            cases hn : nr rem x.j with
            | true =>
              cases h : get? Y i with
              | none=>rfl
              | some u=>have:=(hY i u h x hx hk).1;rw [hn] at this;cases this
            | false =>
              rw [hn] at hi
              simp only [Bool.false_and,Bool.false_eq_true,if_false] at hi
              have hi : get? Z i = some av:=hi
              rw [hZY i av hi];rfl
        · rw [selH_out fun x hx _=>hnk x hx] at hi
          have hi : get? Z i = some av:=hi
          rw [selH_out fun x hx _=>hnk x (hpsub x hx),hZY i av hi];rfl
    have hnext : ∀ (Y Y' Z : Asc),Split (selH (nr rem) its ++ (Z ++ Y)) (selH (fun i=>memB i anc) pre ++ Y) (selH (fun i=>nr rem i && !memB i anc) its ++ Z)→Off Y→(∀ i av,get? Z i = some av→get? Y i = none)→(∀ i av,get? Y' i = some av→get? Y i = some av) →
        ∀ i,get? (selH (nr (rem.erase it.j)) its ++ (Z ++ Y')) i = (get? (it.n ++ (selH (fun i=>memB i anc) pre ++ Y')) i).or (get? (selH (fun i=>nr rem i && !memB i anc) its ++ Z) i):=by
      intro Y Y' Z hsp hY hZY hYY i
      rw [get?_app,get?_app,get?_app,get?_app,get?_app]
      by_cases hk : i ∈ keys it.n
      · obtain ⟨v,hv⟩:=keys_get hk
        have : nr (rem.erase it.j) it.j = true:=(hnr _ _).2 hnd.not_mem_erase
        rw [selH_in huniq hit hk,if_pos this,hv];rfl
      · rw [get?_none hk]
        have hsame : get? (selH (nr (rem.erase it.j)) its) i = get? (selH (nr rem) its) i:=by
          by_cases hx : ∃ x ∈ its,i ∈ keys x.n
          · obtain ⟨x,hx,hxk⟩:=hx
            have hxj : x.j ≠ it.j:=fun e=>by
              have:=hjinj x hx it hit e
              rw [this] at hxk;exact hk hxk
            rw [selH_in huniq hx hxk,selH_in huniq hx hxk]
            have : nr (rem.erase it.j) x.j = nr rem x.j:=by
              rw [Bool.eq_iff_iff,hnr,hnr,hnd.mem_erase_iff]
              constructor
              · intro h1 h2;exact h1 ⟨hxj,h2⟩
              · intro h1 h2;exact h1 h2.2
            rw [this]
          · rw [selH_out fun x hx' _ hxk=>hx ⟨x,hx',hxk⟩,selH_out fun x hx' _ hxk=>hx ⟨x,hx',hxk⟩]
        rw [hsame]
        have hold:=hsp.get i
        have hap:=hsp.apart i
        rw [get?_app,get?_app,get?_app,get?_app] at hold
        rw [get?_app,get?_app] at hap
        cases hz : get? Z i with
        | some u =>
          have h1:=hZY i u hz
          have h2 : get? Y' i = none:=by
            cases h3 : get? Y' i with
            | none=>rfl
            | some q=>have:=hYY i q h3;rw [h1] at this;cases this
          rw [h1,hz] at hold
          rw [h2]
          rw [hz] at hap
          cases h4 : get? (selH (nr rem) its) i with
          | some q=>rw [h4] at hold;simpa using hold
          | none=>rw [h4] at hold;simpa using hold
        | none =>
          rw [hz] at hold
          cases h4 : get? (selH (nr rem) its) i with
          | some q =>
            have hexx : ∃ x ∈ its,i ∈ keys x.n:=by
              refine Classical.byContradiction fun hn=>?_
              rw [selH_out fun x hx _ hxk=>hn ⟨x,hx,hxk⟩] at h4;cases h4
            obtain ⟨x,hx,hxk⟩:=hexx
            have h5 : get? Y i = none:=by
              cases h6 : get? Y i with
              | none=>rfl
              | some r =>
                have:=(hY i r h6 x hx hxk).1
                rw [selH_in huniq hx hxk,this] at h4
                simp at h4
            have h7 : get? Y' i = none:=by
              cases h6 : get? Y' i with
              | none=>rfl
              | some r=>have:=hYY i r h6;rw [h5] at this;cases this
            rw [h4,h5] at hold
            rw [h7]
            simpa using hold
          | none =>
            rw [h4] at hold
            cases h6 : get? Y' i with
            | some r =>
              have h8:=hYY i r h6
              rw [h8] at hold
              cases h9 : get? (selH (fun i=>memB i anc) pre) i with
              | some q =>
                exfalso
                have : get? (selH (fun i=>memB i anc) pre) i = none:=selH_out fun x hx hxa hxk=>by
                  have:=(hY i r h8 x (hpsub x hx) hxk).2
                  rw [hxa] at this;cases this
                rw [h9] at this;cases this
              | none=>simp
            | none =>
              cases h8 : get? Y i with
              | some r =>
                rw [h8] at hold
                rw [selH_out (its:=pre) fun x hx hxa hxk=>by
                  have:=(hY i r h8 x (hpsub x hx) hxk).2
                  rw [hxa] at this;cases this]
                rw [selH_out (its:=its) fun x hx hxa hxk=>by
                  have:=(hY i r h8 x hx hxk).1
                  rw [this] at hxa;simp at hxa]
                rfl
              | none =>
                rw [h8] at hold
                simpa using hold
    have hfin : ∀ (c' : Ctx) (v' : Value) (nn : List Nat),(∀ i ∈ nn,i ∈ keys it.n)→Out c (selH (nr rem) its ++ (be rem ++ h)) (selH (nr (rem.erase it.j)) its ++ (be (rem.erase it.j) ++ h)) nn c'→Rep c' it.v .V [v']→I (rem.erase it.j) (a.put (some it.d) v') c'.w:=by
      intro c' v' nn hnn ho' hv'
      have hdd:=hdst it.j hjd
      rw [hdj it hit] at hdd
      obtain ⟨d,hd1,hd2⟩:=hdd
      cases hd1
      refine ⟨c',ns ++ nn,rfl,hout.trans ho',?_,fun x hx hxr=>?_,fun i hi=>?_,by rw [put_size];exact hsz,by rw [put_defers];exact hdf,hN0,hgl⟩
      · refine ⟨fun t v ht=>?_,(hen.le ho'.le).glob⟩
        have hne : t ≠ it.d:=fun e=>(he0k t v ht).2 (by rw [e];exact dstsOf_mem hjd (hdj it hit))
        obtain ⟨q1,q2⟩:=hen.slot t v ht
        refine ⟨by rw [put_size];exact q1,?_⟩
        have : (a.put (some it.d) v').tmps.getD t undef = a.tmps.getD t undef:=by simp [Act.put,Array.getElem?_setIfInBounds,Ne.symm hne]
        rw [this];exact q2.le ho'.le
      · by_cases e : x = it
        · subst e
          refine ⟨by rw [put_size,hsz];exact hd2,?_⟩
          have : (a.put (some x.d) v').tmps.getD x.d undef = v':=by
            have : x.d < a.tmps.size:=by rw [hsz];exact hd2
            simp [Act.put,this]
          rw [this];exact hv'
        · have hxj : x.j ≠ it.j:=fun e'=>e (hjinj x hx it hit e')
          have hxr' : x.j ∉ rem:=fun h1=>hxr ((hnd.mem_erase_iff).2 ⟨hxj,h1⟩)
          obtain ⟨q1,q2⟩:=hsl x hx hxr'
          have hne : x.d ≠ it.d:=fun e'=>hxj (dsts_inj s3 (hjs x hx) hjd (hdj x hx) (by rw [e'];exact hdj it hit))
          refine ⟨by rw [put_size];exact q1,?_⟩
          have : (a.put (some it.d) v').tmps.getD x.d undef = a.tmps.getD x.d undef:=by simp [Act.put,Array.getElem?_setIfInBounds,Ne.symm hne]
          rw [this];exact q2.le ho'.le
      · rcases ho'.A i hi with h1 | h1
        · rcases hA i h1 with h2 | ⟨x,hx,hxr,hxk⟩
          · exact .inl h2
          · exact .inr ⟨x,hx,fun h3=>hxr (List.mem_of_mem_erase h3),hxk⟩
        · exact .inr ⟨it,hit,hnd.not_mem_erase,hnn i h1⟩
    have hfresh : ∀ n ∈ keys it.n,N ≤ n→¬ c.A n:=fun n hn hNn hAn=>by
      rcases hA n hAn with h1 | ⟨x,hx,hxr,hxk⟩
      · omega
      · have:=huniq x hx it hit n hxk hn
        subst this
        exact hxr hj
    have hanj : memB it.j anc = false:=by
      cases hm : memB it.j anc with
      | false=>rfl
      | true=>exact absurd hj (hancx it.j (memB_ok.1 hm)).2
    have hOh : Off h:=fun i av hi x hx hk=>absurd hk (hHor i av hi x hx)
    unfold wpOp
    simp only [ho]
    rcases hok with ⟨heo,hok⟩ | ⟨heo,ns',hok,hns'⟩
    · have hbe : be (rem.erase it.j) = be rem:=by
        show (bif its.all _ then B else []) = bif its.all _ then B else []
        congr 1
        rw [Bool.eq_iff_iff,List.all_eq_true,List.all_eq_true]
        refine forall_congr' fun x=>forall_congr' fun hx=>?_
        by_cases e : x.j = it.j
        · rw [e,heo];simp
        · rw [Bool.or_eq_true,Bool.or_eq_true,memB_ok,memB_ok,hnd.mem_erase_iff]
          exact ⟨fun h=>h.imp (fun h=>h) fun h=>h.2,fun h=>h.imp (fun h=>h) fun h=>⟨e,h⟩⟩
      have hZ : Off (be rem):=fun i av hi x hx hk=>by
        have hex:=hBor i av (hbesub rem i av hi) x hx hk
        have hxr : x.j ∈ rem:=by
          refine Classical.byContradiction fun hn=>?_
          have : its.all (fun y=>!eat y.j || memB y.j rem) = false:=List.all_eq_false.2 ⟨x,hx,by
            have : ¬ memB x.j rem = true:=fun h=>hn (memB_ok.1 h)
            rw [hex];simpa using this⟩
          have hi : get? (bif its.all (fun y=>!eat y.j || memB y.j rem) then B else []) i = some av:=hi
          rw [this] at hi;cases hi
        refine ⟨by show (!memB x.j rem) = false;rw [memB_ok.2 hxr];rfl,?_⟩
        cases hm : memB x.j anc with
        | false=>rfl
        | true=>exact absurd hxr (hancx x.j (memB_ok.1 hm)).2
      have hZY : ∀ i av,get? (be rem) i = some av→get? h i = none:=fun i av hi=>hBd i av (hbesub rem i av hi)
      have hsplit:=hcore h (be rem) hOh hZ hZY
      have hnew:=hnext h h (be rem) hsplit hOh hZY (fun i av hi=>hi)
      have hfr2 : ∀ n ∈ keys it.n,¬ c.A n:=fun n hn=>by
        rcases hkeys it hit n hn with h1 | ⟨h1,_⟩
        · exact hfresh n hn h1.1
        · rw [heo] at h1;cases h1
      rw [hbe] at hfin
      cases hok with
      | run hw hd hop =>
        rw [if_pos (wants_env henv hw)]
        left
        refine hop c a henv (hout.heap.left hsplit) hout.ok hfr2 _ _ fun c' v' ho' hv'=>?_
        rw [hd]
        exact hfin c' v' _ (fun i hi=>hi) (ho'.framed hout.heap hsplit hnew) (hv' _ rfl)
      | skip hw hd hv hn =>
        rw [if_neg (by rw [wants_env henv hw];simp),hd]
        refine hfin c undef [] (fun i hi=>by cases hi) ?_ (by rw [hv];exact ⟨rfl,trivial⟩)
        have : Out c (selH (nr rem) its ++ (be rem ++ h)) (selH (nr rem) its ++ (be rem ++ h)) [] c:=.refl hout.heap hout.ok
        exact this.shrink (h'':=selH (nr (rem.erase it.j)) its ++ (be rem ++ h)) fun i av hi=>by
          rw [hnew,hn] at hi
          rw [hsplit.get];exact hi
    · have hbe1 : be rem = B:=by
        have : its.all (fun x=>!eat x.j || memB x.j rem) = true:=List.all_eq_true.2 fun x hx=>by
          cases he : eat x.j with
          | false=>rfl
          | true=>rw [heats.one x hx it hit he heo,memB_ok.2 hj];rfl
        show (bif its.all _ then B else []) = B
        rw [this];rfl
      have hbe2 : be (rem.erase it.j) = []:=by
        have : its.all (fun x=>!eat x.j || memB x.j (rem.erase it.j)) = false:=by
          rw [List.all_eq_false]
          refine ⟨it,hit,?_⟩
          rw [heo]
          have : ¬ memB it.j (rem.erase it.j) = true:=fun h=>hnd.not_mem_erase (memB_ok.1 h)
          simpa using this
        show (bif its.all _ then B else []) = []
        rw [this];rfl
      rw [hbe1,hbe2] at hfin
      have hnil : ∀ (i : Nat) (av : AV) {p : Prop},get? ([] : Asc) i = some av→p:=fun i av p h=>by cases h
      have hOB : Off (B ++ h):=fun i av hi x hx hk=>by
        rw [get?_app] at hi
        cases hb : get? B i with
        | none=>rw [hb] at hi;exact hOh i av hi x hx hk
        | some u =>
          have hex:=hBor i u hb x hx hk
          have e:=heats.one x hx it hit hex heo
          rw [e]
          exact ⟨by show (!memB it.j rem) = false;rw [memB_ok.2 hj];rfl,hanj⟩
      have hsplit:=hcore (B ++ h) [] hOB (fun i av hi=>hnil i av hi) (fun i av hi=>hnil i av hi)
      have hnew:=hnext (B ++ h) h [] hsplit hOB (fun i av hi=>hnil i av hi) (fun i av hi=>by
        rw [get?_app]
        cases hb : get? B i with
        | none=>exact hi
        | some u=>have:=hBd i u hb;rw [hi] at this;cases this)
      rw [List.nil_append] at hsplit
      have hheap:=hout.heap
      rw [hbe1] at hheap
      rw [if_pos (wants_env henv hok.wants)]
      left
      refine hok.ok c a henv (hheap.left hsplit) hout.ok (fun n hn=>hfresh n (hns' n hn).1 (hns' n hn).2) _ _ fun c' v' ho' hv'=>?_
      rw [hok.dst]
      exact hfin c' v' _ (fun i hi=>(hns' i hi).1) (ho'.framed hheap hsplit hnew) (hv' _ rfl)
  have hsz0 : l.toArray.size = tail.length + (plan.map (·.1)).length:=by omega
  suffices hgoal : wpAny F.P .any l.toArray QC (tail.length + (plan.map (·.1)).length) (Array.replicate l.toArray.size false) a { w with drawn:=w.drawn + 1 } by rw [hsz0.symm] at hgoal;exact hgoal
  refine og2 (I:=I) (ds:=plan.map (·.1)) s1 hlt s4 (fun j hj=>?_) hitems2 (fun a w hI=>?_) _ (plan.map (·.1)) (Array.replicate l.toArray.size false) a _ rfl s1 (fun i hi=>hi) (by simp) (fun i hi=>?_) (fun j o ho hl=>?_) ?_
  · have:=List.all_eq_true.1 s5 j (List.mem_range.2 hj)
    rw [Bool.or_eq_true] at this
    exact this.imp memB_ok.1 fun h1 i hi=>List.all_eq_true.1 h1 i hi
  · obtain ⟨c,ns,rfl,hout,hen,hsl,hA,hsz,hdf,hN0,hgl⟩:=hI
    have hall : (fun j=>nr [] j) = allB:=by funext j;rfl
    have hbe : be [] = B':=by
      by_cases hx : ∃ x ∈ its,eat x.j = true
      · obtain ⟨x,hx,hxe⟩:=hx
        have : its.all (fun x=>!eat x.j || memB x.j []) = false:=List.all_eq_false.2 ⟨x,hx,by rw [hxe];simp [memB]⟩
        show (bif its.all _ then B else []) = B'
        rw [this,heats.some x hx hxe];rfl
      · have hnone : ∀ x ∈ its,eat x.j = false:=fun x hx'=>by
          cases he : eat x.j with
          | false=>rfl
          | true=>exact absurd ⟨x,hx',he⟩ hx
        have : its.all (fun x=>!eat x.j || memB x.j []) = true:=List.all_eq_true.2 fun x hx=>by rw [hnone x hx];rfl
        show (bif its.all _ then B else []) = B'
        rw [this,heats.none hnone];rfl
    rw [hbe] at hout
    refine tail_wp hK (fun s' a' w' hq hs'=>hQ _ _ _ _ hq hs') tail _ htops s7 a _ ⟨c,ns,rfl,hout,⟨fun t v ht=>?_,hen.glob⟩,fun i hi=>?_,hsz,hdf,hN0,hgl⟩
    · have ht : get? (selE allB its ++ e0) t = some v:=ht
      rw [get?_app] at ht
      cases hs : get? (selE allB its) t with
      | none=>rw [hs] at ht;exact hen.slot t v ht
      | some u =>
        rw [hs] at ht
        simp only [Option.some_or,Option.some.injEq] at ht
        subst ht
        obtain ⟨x,hx,_,rfl,rfl⟩:=selE_get hs
        exact hsl x hx (by simp)
    · show i < N'
      rcases hA i hi with h1 | ⟨x,hx,_,hxk⟩
      · omega
      · rcases hkeys x hx i hxk with h2 | ⟨_,h2⟩
        · exact h2.2
        · have:=hBN i h2;omega
  · constructor
    · intro h;rw [Og.repF] at h;cases h
    · rintro ⟨h1,h2⟩;exact absurd h1 h2
  · rw [Og.repF] at hl;cases hl
  · obtain ⟨c,ns,rfl,hout,hen,hb,hsz,hdf,hN0,hgl⟩:=hsim
    have hd:=Out.drew hout.heap hout.ok
    have hsel0 : selH (nr (plan.map (·.1))) its = []:=by
      have : ∀ {L : List It},(∀ x ∈ L,x.j ∈ plan.map (·.1))→selH (nr (plan.map (·.1))) L = []:=by
        intro L
        induction L with
        | nil=>intro _;rfl
        | cons x L ih =>
          intro hx
          unfold selH
          have : nr (plan.map (·.1)) x.j = false:=by
            show (!memB x.j _) = false
            rw [memB_ok.2 (hx x List.mem_cons_self)];rfl
          rw [this]
          exact ih fun y hy=>hx y (List.mem_cons_of_mem _ hy)
      exact this hjs
    refine ⟨{ c with w:=c.w.drew },ns ++ [],rfl,?_,?_,fun it hit hn=>absurd (hjs it hit) hn,fun i hi=>.inl (hb i hi),hsz,hdf,hN0,hgl⟩
    · have hbe : be (plan.map (·.1)) = B:=by
        have : its.all (fun x=>!eat x.j || memB x.j (plan.map (·.1))) = true:=List.all_eq_true.2 fun x hx=>by rw [memB_ok.2 (hjs x hx)];simp
        show (bif its.all _ then B else []) = B
        rw [this];rfl
      rw [hsel0,hbe];exact hout.trans hd
    · have:=hen.le hd.le
      exact ⟨fun t v ht=>this.slot t v (he0k t v ht).1,this.glob⟩
end Go.V
namespace Go.V
open Go.RowKit Go.L
def holds8 : IntKind→Bool
  | .i64 | .u64 | .u32 | .u16 | .i32 | .i16=>true
  | _=>false
def holds32 : IntKind→Bool
  | .i64 | .u64=>true
  | _=>false
theorem u8_in {k : IntKind} (x : UInt8) (h : holds8 k = true) : AllP (inK k ((x.toNat : Nat) : Int)):=by
  have:=x.toNat_lt
  cases k <;> first | cases h;done | (simp only [inK,inI,AllP];omega)
section
variable {α : Type}
def snocO : List It→It→(List It→α)→α
  | [],x,k=>k [x]
  | a::r,x,k=>snocO r x (fun r'=>k (a::r'))
theorem snocO_eq : ∀ (l : List It) (x : It) (k : List It→α),snocO l x k = k (l ++ [x])
  | [],_,_=>rfl
  | a::r,x,k=>by unfold snocO;rw [snocO_eq];rfl
def selEO (p : Nat→Bool) (e0 : Asc) : List It→(Asc→α)→α
  | [],k=>k e0
  | ⟨j,d,v,_⟩::r,k=>bif p j then selEO p e0 r (fun r'=>k ((d,v)::r')) else selEO p e0 r k
theorem selEO_eq {p : Nat→Bool} {e0 : Asc} : ∀ (l : List It) (k : Asc→α),selEO p e0 l k = k (selE p l ++ e0)
  | [],_=>rfl
  | ⟨j,d,v,n⟩::r,k=>by
    unfold selEO selE
    cases h : p j
    · simp only [cond_false];rw [selEO_eq]
    · simp only [cond_true];rw [selEO_eq];rfl
def catO : Asc→Asc→(Asc→α)→α
  | [],h,k=>k h
  | x::r,h,k=>catO r h (fun r'=>k (x::r'))
theorem catO_eq : ∀ (l h : Asc) (k : Asc→α),catO l h k = k (l ++ h)
  | [],_,_=>rfl
  | x::r,h,k=>by unfold catO;rw [catO_eq];rfl
def selHO (p : Nat→Bool) (h0 : Asc) : List It→(Asc→α)→α
  | [],k=>k h0
  | ⟨j,_,_,n⟩::r,k=>bif p j then selHO p h0 r (fun r'=>catO n r' k) else selHO p h0 r k
theorem selHO_eq {p : Nat→Bool} {h0 : Asc} : ∀ (l : List It) (k : Asc→α),selHO p h0 l k = k (selH p l ++ h0)
  | [],_=>rfl
  | ⟨j,d,v,n⟩::r,k=>by
    unfold selHO selH
    cases h : p j
    · simp only [cond_false];rw [selHO_eq]
    · simp only [cond_true];rw [selHO_eq,catO_eq,List.append_assoc]
def topsO (ops : Array Oper) : List Nat→(List Oper→Option α)→Option α
  | [],k=>k []
  | j::r,k=>match ops[j]? with
    | some o=>topsO ops r (fun l=>k (o::l))
    | none=>none
end
theorem topsO_ok {ops : Array Oper} : ∀ {l : List Nat} {α : Type} {k : List Oper→Option α} {x : α},topsO ops l k = some x→∃ tops,l.map (ops[·]?) = tops.map some∧k tops = some x
  | [],_,k,x,h=>⟨[],rfl,h⟩
  | j :: r,_,k,x,h=>by
    unfold topsO at h
    cases ho : ops[j]? with
    | none=>simp [ho] at h
    | some o =>
      simp only [ho] at h
      obtain ⟨tops,h1,h2⟩:=topsO_ok h
      exact ⟨o::tops,by simp [ho,h1],h2⟩
theorem VC.draw {F : Fr} {id : Nat} {l : List Oper} {e h g : Asc} {N : Nat} {Q : Exit→St→Prop} (plan : List (Nat × List Nat)) (tail : List Nat) (hm : F.P.follows .mixedOrders = true) (hst : drawB l.toArray F.n plan tail = true) {e0 : Asc} (he0 : dropO e (dstsOf l.toArray plan) some = some e0)
    {tops : List Oper} (htops : topsO l.toArray tail some = some tops)
    (hD : DSeq F.P l.toArray g e0 h plan [] N [] (fun its N' B=>Seq F l.toArray tops (V.drawn its e0 (B ++ h) g N') (Q .normal))) : VC F (.region id l.toArray true) Q ⟨e,h,g,N⟩:=by
  obtain ⟨t,h1,h2⟩:=topsO_ok htops
  cases h2
  exact VC.drawn (B:=[]) plan tail (fun i av h=>by cases h) hm hst he0 h1 hD
theorem Seq.drawn {F : Fr} {ops : Array Oper} {l : List Oper} {its : List It} {e0 h0 g e' h' : Asc} {N : Nat} {K : St→Prop} (hE : selEO allB e0 its some = some e') (hH : selHO allB h0 its some = some h') (h : Seq F ops l ⟨e',h',g,N⟩ K) : Seq F ops l (V.drawn its e0 h0 g N) K:=by
  rw [selEO_eq] at hE
  rw [selHO_eq] at hH
  cases hE;cases hH
  exact h
section
variable {P : Program} {ops : Array Oper} {g e0 h0 : Asc} {j : Nat} {anc : List Nat} {r : List (Nat × List Nat)} {its its' : List It} {N : Nat} {B : Asc} {K : List It→Nat→Asc→Prop} {eL hL : Asc}
theorem DSeq.put {d : Tmp} {op : Op} {ty : TypeId} {pos : String} {af : Array Edge} {gd : Option (Nat × Bool)} {v : AV} {n : Asc} {N' : Nat} (ho : ops[j]? = some ⟨some d,op,ty,pos,af,gd⟩)
    (hE : selEO (fun i=>memB i anc) e0 its some = some eL) (hH : selHO (fun i=>memB i anc) h0 its some = some hL)
    (hw : wants ops ⟨some d,op,ty,pos,af,gd⟩ eL = some true) (hk : OpOk P ⟨some d,op,ty,pos,af,gd⟩ g eL hL (some v) (n ++ hL) (keys n)) (hks : ∀ i ∈ keys n,N ≤ i∧i < N') (hN : N ≤ N')
    (hs : snocO its ⟨j,d,v,n⟩ some = some its') (h : DSeq P ops g e0 h0 r its' N' B K) : DSeq P ops g e0 h0 ((j,anc)::r) its N B K:=by
  rw [selEO_eq] at hE
  rw [selHO_eq] at hH
  rw [snocO_eq] at hs
  cases hE;cases hH;cases hs
  exact .cons _ ⟨j,d,v,n⟩ N' ho rfl (.run hw rfl hk) hks hN h
theorem DSeq.ev0 (m : Bool) {T : List (Option TI)} (hT : TabOk P T) {d : Tmp} {op : Op} {ty : TypeId} {pos : String} {af : Array Edge} {gd : Option (Nat × Bool)} {v : AV} {ps : List Prop} (ho : ops[j]? = some ⟨some d,op,ty,pos,af,gd⟩)
    (hE : selEO (fun i=>memB i anc) e0 its some = some eL) (hH : selHO (fun i=>memB i anc) h0 its some = some hL)
    (he : evalOp m T g eL hL N op = some ⟨ps,some v,hL,0⟩) (hp : AllP ps) (hw : wants ops ⟨some d,op,ty,pos,af,gd⟩ eL = some true) (hd : notStore op = true)
    (hs : snocO its ⟨j,d,v,[]⟩ some = some its') (h : DSeq P ops g e0 h0 r its' N B K) : DSeq P ops g e0 h0 ((j,anc)::r) its N B K :=
  DSeq.put ho hE hH hw (evalOp_ok hT (by cases op <;> first | rfl | cases hd) he hp) (fun i hi=>by cases hi) (Nat.le_refl _) hs h
theorem DSeq.ev1 (m : Bool) {T : List (Option TI)} (hT : TabOk P T) {d : Tmp} {op : Op} {ty : TypeId} {pos : String} {af : Array Edge} {gd : Option (Nat × Bool)} {v u : AV} {ps : List Prop} (ho : ops[j]? = some ⟨some d,op,ty,pos,af,gd⟩)
    (hE : selEO (fun i=>memB i anc) e0 its some = some eL) (hH : selHO (fun i=>memB i anc) h0 its some = some hL)
    (he : evalOp m T g eL hL N op = some ⟨ps,some v,(N,u)::hL,1⟩) (hp : AllP ps) (hw : wants ops ⟨some d,op,ty,pos,af,gd⟩ eL = some true) (hd : notStore op = true)
    (hs : snocO its ⟨j,d,v,[(N,u)]⟩ some = some its') (h : DSeq P ops g e0 h0 r its' (N + 1) B K) : DSeq P ops g e0 h0 ((j,anc)::r) its N B K :=
  DSeq.put (n:=[(N,u)]) (N':=N + 1) ho hE hH hw (evalOp_ok hT (by cases op <;> first | rfl | cases hd) he hp) (fun i hi=>by
    rcases List.mem_cons.1 hi with e | e
    · subst e;omega
    · cases e) (Nat.le_succ _) hs h
theorem DSeq.pass {d : Tmp} {op : Op} {ty : TypeId} {pos : String} {af : Array Edge} {gd : Option (Nat × Bool)} (ho : ops[j]? = some ⟨some d,op,ty,pos,af,gd⟩)
    (hE : selEO (fun i=>memB i anc) e0 its some = some eL) (hw : wants ops ⟨some d,op,ty,pos,af,gd⟩ eL = some false)
    (hs : snocO its ⟨j,d,.val undef,[]⟩ some = some its') (h : DSeq P ops g e0 h0 r its' N B K) : DSeq P ops g e0 h0 ((j,anc)::r) its N B K:=by
  rw [selEO_eq] at hE
  rw [snocO_eq] at hs
  cases hE;cases hs
  exact .cons _ ⟨j,d,.val undef,[]⟩ N ho rfl (.skip hw rfl rfl rfl) (fun i hi=>by cases hi) (Nat.le_refl _) h
theorem DSeq.calld {d : Tmp} {ty : TypeId} {pos : String} {af : Array Edge} {gd : Option (Nat × Bool)} {fid : FuncId} {fn : Func} {callee : Operand} {xs : Array Operand} {tys : Array TypeId} {u1 u2 ax args argsC r0 v : AV} {g' h1 hn : Asc} {N' : Nat} (bw : Bool) (τ : List (Nat × Nat))
    (ct : Ok P fid g' [] args (fun r h'=>r = r0∧h' = h1)) (ho : ops[j]? = some ⟨some d,.call ⟨.value callee,xs,tys⟩,ty,pos,af,gd⟩)
    (hE : selEO (fun i=>memB i anc) e0 its some = some eL) (hH : selHO (fun i=>memB i anc) h0 its some = some hL)
    (hce : V.ev g eL callee = some (.fn (.func fid) u1 u2)) (hax : evs g eL xs.toList = some ax) (hc1 : isChain u1 = true) (hc2 : isChain ax = true) (hcat : catC u1 (catC ax u2) = argsC)
    (hf : P.funcs[fid]? = some fn) (hbd : fn.body.isNone = false) (hnm : (fn.name == "runtime.NumGoroutine") = false)
    (hg' : ∀ x v,get? g' x = some v→get? g x = some v∧NoFr v∧∀ D σ,RelA D σ v v)
    (hv : View hL (fun id=>bw = true∧memB id (passed [] []) = false) (fun i=>memB i (keys ([] : Asc)) = true) (sg []) args argsC) (hnf : NoFr args) (hback : Back bw [] τ [] N N' r0 h1 v hn)
    (hw : wants ops ⟨some d,.call ⟨.value callee,xs,tys⟩,ty,pos,af,gd⟩ eL = some true) (hs : snocO its ⟨j,d,v,hn⟩ some = some its') (h : DSeq P ops g e0 h0 r its' N' B K) : DSeq P ops g e0 h0 ((j,anc)::r) its N B K:=by
  have hid:=hback.ids
  simp only [backB,Bool.and_eq_true] at hid
  obtain ⟨hNN,hid1,_⟩:=hid
  refine DSeq.put ho hE hH hw (call_det hce hax hc1 hc2 hcat hf hbd hnm ct hg' bw hv hnf τ hback) (fun n hn'=>?_) (Nat.le_of_ble_eq_true hNN) hs h
  have h1:=List.all_eq_true.1 hid1 n hn'
  simp only [keys,memB,Bool.false_and,Bool.or_false,Bool.and_eq_true] at h1
  exact ⟨Nat.le_of_ble_eq_true h1.1,by simpa [Nat.blt_eq] using h1.2⟩
end
def NoId : AV→Prop
  | .pair a b=>NoId a∧NoId b
  | .arr n _ f=>∀ i,i < n→NoId (f i)
  | .rsl _ n _ f=>∀ i,i < n→NoId (f i)
  | .rptr _ a=>NoId a
  | .tup a=>NoId a
  | .fn _ a b=>NoId a∧NoId b
  | .ifc _ a=>NoId a
  | .ptr .. | .sl .. | .mp _=>False
  | .mo n ks vs=>∀ i,i < n→NoId (ks i)∧NoId (vs i)
  | .ob ..=>True
  | _=>True
theorem NoId.self {D : Nat→Prop} {σ : Nat→Nat} : ∀ {a : AV},NoId a→RelA D σ a a:=by
  intro a
  induction a with
  | pair a b iha ihb=>intro h;exact ⟨a,b,rfl,iha h.1,ihb h.2⟩
  | arr n s f ih=>intro h;exact ⟨f,rfl,fun i hi=>ih i (h i hi)⟩
  | rsl fr n s f ih=>intro h;exact ⟨fr,f,rfl,id,fun i hi=>ih i (h i hi)⟩
  | rptr fr a ih=>intro h;exact ⟨fr,a,rfl,id,ih h⟩
  | tup a ih=>intro h;exact ⟨a,rfl,ih h⟩
  | fn f a b iha ihb=>intro h;exact ⟨a,b,rfl,iha h.1,ihb h.2⟩
  | ifc t a ih=>intro h;exact ⟨a,rfl,ih h⟩
  | ptr | sl | mp=>intro h;exact h.elim
  | mo n ks vs ih1 ih2=>intro h;exact ⟨ks,vs,rfl,fun i hi=>⟨ih1 i (h i hi).1,ih2 i (h i hi).2⟩⟩
  | ob b o=>intro h;rfl
  | int | bool | str | val | emp | nul=>intro _;rfl
def GOk (g : Asc) : Prop:=∀ x v,get? g x = some v→NoFr v∧NoId v
def subG : Asc→Asc→Prop:=fun g' g=>∀ x v,get? g' x = some v→get? g x = some v
theorem GOk.hand {g g' : Asc} (h : GOk g) (hs : subG g' g) : ∀ x v,get? g' x = some v→get? g x = some v∧NoFr v∧∀ D σ,RelA D σ v v:=fun x v hx=>⟨hs x v hx,(h x v (hs x v hx)).1,fun D σ=>(h x v (hs x v hx)).2.self⟩
theorem subG.nil {g : Asc} : subG [] g:=fun x v h=>by cases h
theorem subG.refl {g : Asc} : subG g g:=fun x v h=>h
theorem GOk.nil : GOk []:=fun x v h=>by cases h
theorem back_pure {N : Nat} {r0 : AV} {bw : Bool} (h1 : NoId r0) (h2 : bw = true→AllFr r0) : Back bw [] [] [] N N r0 [] r0 []:=⟨h1.self,trivial,fun e=>⟨h2 e,fun i u hi=>by cases hi⟩,by simp [backB,keys]⟩
abbrev ViewD (bw : Bool) (h : Asc):=View h (fun id=>bw = true∧memB id (passed [] []) = false) (fun i=>memB i (keys ([] : Asc)) = true) (sg [])
theorem View.sln {H : Asc} {bor D : Nat→Prop} {σ : Nat→Nat} {id n' sz off n n2 : Nat} {p : List Step} {av : AV} {f k : Nat→AV} (h1 : get? H id = some av) (h2 : getp av p = some (.arr n' sz k)) (h3 : AllP (inbL av p)) (h4 : off + n2 ≤ n') (h5 : bor id) (hn : n = n2) (h6 : ∀ i,i < n→RelA D σ (f i) (k (off + i))) : View H bor D σ (.rsl false n sz f) (.sl id p sz off n2):=by
  subst hn;exact .sl h1 h2 h3 h4 h5 h6
theorem Seq.callp {F : Fr} {ops : Array Oper} {l : List Oper} {e h g : Asc} {N : Nat} {K : St→Prop} {d : Tmp} {ty : TypeId} {pos : String} {af : Array Edge} {gd : Option (Nat × Bool)} {fid : FuncId} {fn : Func} {callee : Operand} {xs : Array Operand} {tys : Array TypeId} {u1 u2 ax args argsC r0 : AV} {g' : Asc} (bw : Bool)
    (ct : Ok F.P fid g' [] args (fun r h'=>r = r0∧h' = [])) (hf : F.P.funcs[fid]? = some fn) (hG : GOk g) (hg' : subG g' g)
    (hce : V.ev g e callee = some (.fn (.func fid) u1 u2)) (hax : evs g e xs.toList = some ax) (hc1 : isChain u1 = true) (hc2 : isChain ax = true) (hcat : catC u1 (catC ax u2) = argsC)
    (hbd : fn.body.isNone = false) (hnm : (fn.name == "runtime.NumGoroutine") = false) (hw : wants ops ⟨some d,.call ⟨.value callee,xs,tys⟩,ty,pos,af,gd⟩ e = some true) (hd2 : Nat.blt d F.n = true)
    (hv : ViewD bw h args argsC) (hnf : NoFr args) (hi : NoId r0) (hr : bw = true→AllFr r0)
    (hk : Seq F ops l ⟨(d,r0)::e,h,g,N⟩ K) : Seq F ops (⟨some d,.call ⟨.value callee,xs,tys⟩,ty,pos,af,gd⟩::l) ⟨e,h,g,N⟩ K :=
  Seq.calld bw [] ct hce hax hc1 hc2 hcat hf hbd hnm (hG.hand hg') hv hnf (back_pure hi hr) hw hd2 hk
theorem DSeq.callp {P : Program} {ops : Array Oper} {g e0 h0 : Asc} {j : Nat} {anc : List Nat} {r : List (Nat × List Nat)} {its its' : List It} {N : Nat} {B : Asc} {K : List It→Nat→Asc→Prop} {eL hL : Asc} {d : Tmp} {ty : TypeId} {pos : String} {af : Array Edge} {gd : Option (Nat × Bool)} {fid : FuncId} {fn : Func} {callee : Operand} {xs : Array Operand} {tys : Array TypeId} {u1 u2 ax args argsC r0 : AV} {g' : Asc} (bw : Bool)
    (ct : Ok P fid g' [] args (fun r h'=>r = r0∧h' = [])) (hf : P.funcs[fid]? = some fn) (hG : GOk g) (hg' : subG g' g) (ho : ops[j]? = some ⟨some d,.call ⟨.value callee,xs,tys⟩,ty,pos,af,gd⟩)
    (hE : selEO (fun i=>memB i anc) e0 its some = some eL) (hH : selHO (fun i=>memB i anc) h0 its some = some hL)
    (hce : V.ev g eL callee = some (.fn (.func fid) u1 u2)) (hax : evs g eL xs.toList = some ax) (hc1 : isChain u1 = true) (hc2 : isChain ax = true) (hcat : catC u1 (catC ax u2) = argsC)
    (hbd : fn.body.isNone = false) (hnm : (fn.name == "runtime.NumGoroutine") = false) (hw : wants ops ⟨some d,.call ⟨.value callee,xs,tys⟩,ty,pos,af,gd⟩ eL = some true) (hs : snocO its ⟨j,d,r0,[]⟩ some = some its')
    (hv : ViewD bw hL args argsC) (hnf : NoFr args) (hi : NoId r0) (hr : bw = true→AllFr r0) (h : DSeq P ops g e0 h0 r its' N B K) : DSeq P ops g e0 h0 ((j,anc)::r) its N B K :=
  DSeq.calld bw [] ct ho hE hH hce hax hc1 hc2 hcat hf hbd hnm (hG.hand hg') hv hnf (back_pure hi hr) hw hs h
theorem back_new {N k sz n : Nat} {u : AV} {bw : Bool} (h1 : NoId u) (h2 : bw = true→AllFr u) : Back bw [] [(N,k)] [] N (N + 1) (.sl k [] sz 0 n) [(k,u)] (.sl N [] sz 0 n) [(N,u)]:=by
  have hs : sg [(N,k)] N = k:=by simp [sg]
  refine ⟨⟨by rw [hs],by simp [keys,memB]⟩,⟨⟨u,by rw [hs,get?_cons,if_pos rfl],h1.self⟩,trivial⟩,fun e=>⟨trivial,fun i w hi=>?_⟩,?_⟩
  · rw [get?_cons] at hi
    split at hi
    · cases hi;exact h2 e
    · cases hi
  · simp [backB,keys]
theorem Seq.calln {F : Fr} {ops : Array Oper} {l : List Oper} {e h g : Asc} {N : Nat} {K : St→Prop} {d : Tmp} {ty : TypeId} {pos : String} {af : Array Edge} {gd : Option (Nat × Bool)} {fid : FuncId} {fn : Func} {callee : Operand} {xs : Array Operand} {tys : Array TypeId} {u1 u2 ax args argsC u : AV} {k sz n : Nat} {g' : Asc} (bw : Bool)
    (ct : Ok F.P fid g' [] args (fun r h'=>r = .sl k [] sz 0 n∧h' = [(k,u)])) (hf : F.P.funcs[fid]? = some fn) (hG : GOk g) (hg' : subG g' g)
    (hce : V.ev g e callee = some (.fn (.func fid) u1 u2)) (hax : evs g e xs.toList = some ax) (hc1 : isChain u1 = true) (hc2 : isChain ax = true) (hcat : catC u1 (catC ax u2) = argsC)
    (hbd : fn.body.isNone = false) (hnm : (fn.name == "runtime.NumGoroutine") = false) (hw : wants ops ⟨some d,.call ⟨.value callee,xs,tys⟩,ty,pos,af,gd⟩ e = some true) (hd2 : Nat.blt d F.n = true)
    (hv : ViewD bw h args argsC) (hnf : NoFr args) (hi : NoId u) (hr : bw = true→AllFr u)
    (hk : Seq F ops l ⟨(d,.sl N [] sz 0 n)::e,(N,u)::h,g,N + 1⟩ K) : Seq F ops (⟨some d,.call ⟨.value callee,xs,tys⟩,ty,pos,af,gd⟩::l) ⟨e,h,g,N⟩ K :=
  Seq.calld bw [(N,k)] ct hce hax hc1 hc2 hcat hf hbd hnm (hG.hand hg') hv hnf (back_new hi hr) hw hd2 hk
theorem Seq.str {F : Fr} {ops : Array Oper} {lo : List Oper} {e h g : Asc} {N : Nat} {K : St→Prop} {d : Tmp} {ty : TypeId} {pos : String} {af : Array Edge} {gd : Option (Nat × Bool)} (l : List UInt8) {T : List (Option TI)} (hT : TabOk F.P T) {src dst eT : TypeId} {x : Operand} {u : AV} {m sz : Nat} {f : Nat→AV} {ps : List Prop}
    (h1 : (tget T src).map (·.kind) = some (.slice eT)) (h2 : (tget T dst).map (·.kind) = some .str) (h3 : (tget T eT).map (·.kind) = some (.int .u8)) (hx : V.ev g e x = some u) (hs : evSrc h u = some (ps,sz,m,f)) (hp : AllP ps) (hk : notStr u = true) (hsz : sz = 1 ∨ m = 0)
    (hw : wants ops ⟨some d,.convert src dst x,ty,pos,af,gd⟩ e = some true) (hd2 : Nat.blt d F.n = true) (hl : l.length = m) (hf : ∀ i,i < m→f i = .int .u8 ((l.getD i 0).toNat : Nat))
    (hn : Seq F ops lo ⟨(d,.str l)::e,h,g,N⟩ K) : Seq F ops (⟨some d,.convert src dst x,ty,pos,af,gd⟩::lo) ⟨e,h,g,N⟩ K :=
  Seq.step (s:=⟨e,h,g,N⟩) N hw (toStr_ok hT h1 h2 h3 hx hs hp hk hsz l hl hf) (fun n hn=>by cases hn) (Nat.le_refl _) hd2 hn
theorem DSeq.str {P : Program} {ops : Array Oper} {g e0 h0 : Asc} {j : Nat} {anc : List Nat} {r : List (Nat × List Nat)} {its its' : List It} {N : Nat} {B : Asc} {K : List It→Nat→Asc→Prop} {eL hL : Asc} {d : Tmp} {ty : TypeId} {pos : String} {af : Array Edge} {gd : Option (Nat × Bool)} (l : List UInt8) {T : List (Option TI)} (hT : TabOk P T) {src dst eT : TypeId} {x : Operand} {u : AV} {m sz : Nat} {f : Nat→AV} {ps : List Prop}
    (ho : ops[j]? = some ⟨some d,.convert src dst x,ty,pos,af,gd⟩) (hE : selEO (fun i=>memB i anc) e0 its some = some eL) (hH : selHO (fun i=>memB i anc) h0 its some = some hL)
    (h1 : (tget T src).map (·.kind) = some (.slice eT)) (h2 : (tget T dst).map (·.kind) = some .str) (h3 : (tget T eT).map (·.kind) = some (.int .u8)) (hx : V.ev g eL x = some u) (hs : evSrc hL u = some (ps,sz,m,f)) (hp : AllP ps) (hk : notStr u = true) (hsz : sz = 1 ∨ m = 0)
    (hw : wants ops ⟨some d,.convert src dst x,ty,pos,af,gd⟩ eL = some true) (hsn : snocO its ⟨j,d,.str l,[]⟩ some = some its') (hl : l.length = m) (hf : ∀ i,i < m→f i = .int .u8 ((l.getD i 0).toNat : Nat))
    (h : DSeq P ops g e0 h0 r its' N B K) : DSeq P ops g e0 h0 ((j,anc)::r) its N B K :=
  DSeq.put (n:=[]) ho hE hH hw (toStr_ok hT h1 h2 h3 hx hs hp hk hsz l hl hf) (fun i hi=>by cases hi) (Nat.le_refl _) hsn h
end Go.V
namespace Go.V
open Go.RowKit Go.L
theorem Sim.same {F : Fr} {e h g : Asc} {N : Nat} (t : Nat) {u u' : AV} (hu : get? e t = some u) (hn : u = u') : ∀ a w,Sim F ⟨e,h,g,N⟩ a w→Sim F ⟨(t,u')::e,h,g,N⟩ a w:=by
  subst hn
  rintro a w ⟨c,ns,rfl,ho,he,r⟩
  refine ⟨c,ns,rfl,ho,⟨fun t' v hv=>?_,he.glob⟩,r⟩
  by_cases e1 : t = t'
  · subst e1
    rw [get?_cons,if_pos rfl] at hv
    cases hv
    exact he.slot t u hu
  · rw [get?_cons,if_neg e1] at hv
    exact he.slot t' v hv
theorem Seq.same {F : Fr} {ops : Array Oper} {l : List Oper} {e h g : Asc} {N : Nat} {K : St→Prop} (t : Nat) {u u' : AV} (hu : get? e t = some u) (hn : u = u') (hk : Seq F ops l ⟨(t,u')::e,h,g,N⟩ K) : Seq F ops l ⟨e,h,g,N⟩ K:=Seq.conv (Sim.same t hu hn) hk
theorem Sim.ghost {F : Fr} {e h g : Asc} {N : Nat} (t sz : Nat) (f : Nat→AV) {u : AV} (hu : get? e t = some u) (hn : u = .val (.slice none 0 0) ∨ u = .emp) : ∀ a w,Sim F ⟨e,h,g,N⟩ a w→Sim F ⟨(t,.sl N [] sz 0 0)::e,(N,.arr 0 sz f)::h,g,N + 1⟩ a w:=by
  rintro a w ⟨c,ns,rfl,ho,he,hA,r⟩
  have hN : ¬ c.A N:=fun h=>by have : N < N:=hA N h;omega
  have ho2:=Out.ghost (N:=N) (av:=.arr 0 sz f) ho.heap ho.ok hN (by simp [AV.size])
  refine ⟨{ c with A:=fun i=>c.A i ∨ i = N,G:=fun i=>c.G i ∨ i = N },_,rfl,ho.trans ho2,⟨fun t' v hv=>?_,(he.le ho2.le).glob⟩,fun i hi=>?_,r⟩
  · by_cases e1 : t = t'
    · subst e1
      rw [get?_cons,if_pos rfl] at hv
      cases hv
      obtain ⟨h1,h2⟩:=he.slot t u hu
      refine ⟨h1,.inr rfl,.inl ⟨.inr rfl,rfl,?_⟩⟩
      rcases hn with rfl | rfl
      · exact ⟨none,congrArg (fun x=>[x]) (rep_val h2)⟩
      · exact h2
    · rw [get?_cons,if_neg e1] at hv
      exact (he.le ho2.le).slot t' v hv
  · show i < N + 1
    rcases hi with hi | hi
    · have : i < N:=hA i hi
      omega
    · omega
def Later (c : Ctx) (w' : World) : Ctx:={ c with w:=w',S:=fun b=>c.S b ∨ (c.w.heap.size ≤ b∧b < w'.heap.size) }
theorem out_later {c : Ctx} {w' : World} (hc : CtxOk c) (hB : c.B = c.w.heap.size) (hb : Below c.w.heap.size c.w w') : Out c [] [] [] (Later c w'):=by
  have hle : Le c (Later c w'):=⟨fun _ h=>h,fun _ _=>rfl,fun _ _=>Iff.rfl,fun i _ _=>by
    show bsize c.w (c.ρ i) ≤ bsize w' (c.ρ i)
    rcases Nat.lt_or_ge (c.ρ i) c.w.heap.size with h | h
    · rw [bsize_congr (hb.block _ h)];exact Nat.le_refl _
    · rw [bsize_none h];exact Nat.zero_le _,fun b hS _=>⟨.inl hS,fun h=>h,hb.block b (hc.S b hS)⟩⟩
  have hnil : ∀ {id : Nat} {av : AV} {p : Prop},get? ([] : Asc) id = some av→p:=fun h=>by cases h
  refine ⟨hle,rfl,fun _ h=>.inl h,⟨fun _ _ h=>hnil h,fun _ _ h=>hnil h,fun _ _ h=>hnil h,fun _ _ h=>hnil h,fun _ _ _ _ h=>hnil h⟩,⟨fun b h=>?_,?_⟩,hb.os,hb.tape,hb.output,hb.size,fun b h _=>hb.block b h,fun _ _ h=>hnil h,fun b h=>?_⟩
  · rcases h with h | h
    · exact Nat.lt_of_lt_of_le (hc.S b h) hb.size
    · exact h.2
  · show c.B ≤ w'.heap.size
    rw [hB];exact hb.size
  · rcases h with h | h
    · exact .inl h
    · exact .inr (.inl h.1)
theorem Ok.of_calls {P : Program} {f : FuncId} {g : Asc} {args : AV} {R : AV→Asc→Prop}
    (H : ∀ c vs,CtxOk c→c.B = c.w.heap.size→(∀ x v,get? g x = some v→Rep c (.rptr false v) .V [.pointer (some ⟨x,0,none⟩)])→Rep c args .T vs →
      Calls P f vs.toArray c.w fun e w'=>Below c.w.heap.size c.w w'∧∃ v r,e = .returned v∧R r []∧Rep (Later c w') r .V [v]) : Ok P f g [] args R:=by
  intro c hg hh hc hB hA vs hvs
  refine (H c vs hc hB hg hvs).mono fun e w' h=>?_
  obtain ⟨hb,v,r,rfl,hR,hr⟩:=h
  exact ⟨Later c w',v,r,[],[],rfl,rfl,out_later hc hB hb,hr,hR⟩
theorem rep_arr1 {c : Ctx} {n : Nat} {f : Nat→AV} (l : List Value) (hl : l.length = n) (hf : ∀ i (h : i < l.length) ws,Rep c (f i) .C ws ↔ ws = [l[i]]) {vs : List Value} : Rep c (.arr n 1 f) .C vs ↔ vs = l:=by
  constructor
  · rintro ⟨h1,h2⟩
    refine List.ext_getElem (by omega) fun i hi hi'=>?_
    have h3:=(hf i hi' _).1 (h2 i (by omega))
    have h4 : (sub vs (i * 1) 1)[0]? = some l[i]:=by rw [h3];rfl
    rw [sub_get] at h4
    simpa [hi] using h4
  · rintro rfl
    refine ⟨by omega,fun i hi=>(hf i (by omega) _).2 ?_⟩
    have hi' : i < vs.length:=by omega
    unfold V.sub
    rw [Nat.mul_one,List.drop_eq_getElem_cons hi']
    rfl
theorem cpF_in {off q i : Nat} {k f : Nat→AV} (h : off ≤ i) (h2 : i < off + q) : cpF off q k f i = k (i - off):=by
  have hb : (Nat.ble off i && Nat.blt i (off + q)) = true:=by simp [Nat.blt_eq,h,h2]
  unfold cpF;rw [hb,cond_true]
theorem cpF_out {off q i : Nat} {k f : Nat→AV} (h : i < off ∨ off + q ≤ i) : cpF off q k f i = f i:=by
  have hb : (Nat.ble off i && Nat.blt i (off + q)) = false:=by
    cases h3 : (Nat.ble off i && Nat.blt i (off + q)) with
    | false=>rfl
    | true=>simp [Nat.blt_eq] at h3;omega
  unfold cpF;rw [hb,cond_false]
theorem bif_eq {i k : Nat} {α : Type} {x y : α} (h : i = k) : (bif Nat.beq i k then x else y) = x:=by subst h;simp
theorem bif_ne {i k : Nat} {α : Type} {x y : α} (h : i ≠ k) : (bif Nat.beq i k then x else y) = y:=by rw [beq_ne h];rfl
theorem joinF_lt {n i : Nat} {f k : Nat→AV} (h : i < n) : joinF n f k i = f i:=by
  have hb : Nat.blt i n = true:=by simp [Nat.blt_eq,h]
  unfold joinF;rw [hb];rfl
theorem joinF_ge {n i : Nat} {f k : Nat→AV} (h : n ≤ i) : joinF n f k i = k (i - n):=by
  have : Nat.blt i n = false:=by
    cases h3 : Nat.blt i n with
    | false=>rfl
    | true=>rw [Nat.blt_eq] at h3;omega
  unfold joinF;rw [this];rfl
end Go.V
namespace Go.V
open Go.RowKit Go.L
theorem run_part_int {P : Program} {e : TypeId} {k : IntKind} (he : P.underlying e = some (.int k)) (cs : Array Value) (i : Nat) {v : Value} (hv : cs[i]? = some v) (w : World) : (part e cs i).run P w = .ok v w:=by
  have hag : (isAgg e).run P w = .ok false w:=by simp [isAgg,run_underlying he]
  simp [part,hag,hv]
theorem run_eqItems_int {P : Program} {e : TypeId} {k : IntKind} (he : P.underlying e = some (.int k)) (d : Nat) (xs ys : Array Value) (a b : Nat→Int) (n : Nat) (ha : ∀ i,i < n→xs[i]? = some (.int k (a i))) (hb : ∀ i,i < n→ys[i]? = some (.int k (b i))) (w : World) :
    ∀ is : List Nat,(∀ i ∈ is,i < n)→(Op.eqItems (d + 1) e 1 xs ys is).run P w = .ok (is.all fun i=>decide (a i = b i)) w
  | [],_=>rfl
  | i::is,h=>by
    have hi:=h i List.mem_cons_self
    have ih:=run_eqItems_int he d xs ys a b n ha hb w is fun j hj=>h j (List.mem_cons_of_mem _ hj)
    have hq : (Op.equalIn (d + 1) e (.int k (a i)) (.int k (b i))).run P w = .ok (a i == b i) w:=by simp [Op.equalIn,run_underlying he]
    have hab : (a i == b i) = decide (a i = b i):=beq_dec _ _
    simp only [Op.eqItems,Nat.mul_one,Sem.run_bind,run_part_int he _ _ (ha i hi),run_part_int he _ _ (hb i hi),hq,Result.andThen_ok,List.all_cons]
    rw [hab]
    cases hd : decide (a i = b i) with
    | false=>simp
    | true=>simpa using ih
section
variable {P : Program} {t : TypeId} {g e h : Asc} {x y : Operand} {d : Option Tmp} {ty : TypeId} {pos : String} {af : Array Edge} {gd : Option (Nat × Bool)}
theorem arr_vals {c : Ctx} {k : IntKind} {n : Nat} {a : Nat→Int} {v : Value} (h : Rep c (.arr n 1 (fun i=>.int k (a i))) .V [v]) : ∃ xs : Array Value,v = .agg xs∧∀ i,i < n→xs[i]? = some (.int k (a i)):=by
  obtain ⟨xs,e,h1,h2⟩:=h
  simp only [List.cons.injEq,and_true] at e
  refine ⟨xs.toArray,e,fun i hi=>?_⟩
  have h3 : V.sub xs (i * 1) 1 = [.int k (a i)]:=h2 i hi
  have h4 : (V.sub xs (i * 1) 1)[0]? = some (.int k (a i)):=by rw [h3];rfl
  rw [sub_get] at h4
  simpa using h4
theorem eqarr_ok {T : List (Option TI)} (hT : TabOk P T) {n eT : Nat} {k : IntKind} {a b : Nat→Int} {yt : TypeId} (hk : (tget T t).map (·.kind) = some (.array n eT)) (hke : (tget T eT).map (·.kind) = some (.int k)) (hsz : (tget T eT).map (·.lay.size) = some 1)
    (hg : P.eqGuardType P.depth t = false) (hx : ev g e x = some (.arr n 1 (fun i=>.int k (a i)))) (hy : ev g e y = some (.arr n 1 (fun i=>.int k (b i)))) (r : Bool) (hr : r = true ↔ ∀ i,i < n→a i = b i) :
    OpOk P ⟨d,.binOp .eql t x y yt,ty,pos,af,gd⟩ g e h (some (.bool r)) h []:=by
  refine OpOk.val fun c ac he hh hc=>⟨.bool r,?_,rfl⟩
  obtain ⟨xs,hvx,hxs⟩:=arr_vals (ev_rep he hx)
  obtain ⟨ys,hvy,hys⟩:=arr_vals (ev_rep he hy)
  cases htt : tget T t with
  | none=>simp [htt] at hk
  | some ti =>
  cases hte : tget T eT with
  | none=>simp [hte] at hke
  | some tie =>
  simp only [htt,hte,Option.map_some,Option.some.injEq] at hk hke hsz
  have hu:=(hT _ _ htt).und
  have hue:=(hT _ _ hte).und
  rw [hk] at hu
  rw [hke] at hue
  simp only [TK.fits] at hu hue
  obtain ⟨ie,z,hie,hse,_⟩:=(hT _ _ hte).info
  have hce : P.cellsOf eT = 1:=by simp [Program.cellsOf,hie,hse,hsz]
  have hall : ((List.range n).all fun i=>decide (a i = b i)) = r:=by
    rw [Bool.eq_iff_iff,List.all_eq_true,hr]
    constructor
    · intro h i hi;simpa using h i (List.mem_range.2 hi)
    · intro h i hi;simpa using h i (List.mem_range.1 hi)
  have heq : (Op.equal t (.agg xs) (.agg ys)).run P c.w = .ok r c.w:=by
    show (Op.equalIn (9998 + 1 + 1) t (.agg xs) (.agg ys)).run P c.w = _
    rw [run_equalIn_array c.w _ xs ys hu hie,hce,run_eqItems_int hue _ xs ys a b n hxs hys c.w _ (fun i hi=>List.mem_range.1 hi),hall]
  have hgd : (eqGuard .eql t x y (.agg xs) (.agg ys)).run P c.w = .ok () c.w:=by simp [eqGuard,program,Sem.run,hg]
  simp only [execOp,hvx,hvy,Sem.run_bind,hgd,Result.andThen_ok,binOp,heq,Sem.run_pure]
end
theorem Seq.eqarr {F : Fr} {ops : Array Oper} {lo : List Oper} {e h g : Asc} {N : Nat} {K : St→Prop} {d : Tmp} {ty : TypeId} {pos : String} {af : Array Edge} {gd : Option (Nat × Bool)} (r : Bool) {T : List (Option TI)} (hT : TabOk F.P T) {t yt : TypeId} {x y : Operand} {n eT : Nat} {k : IntKind} {a b : Nat→Int}
    (hk : (tget T t).map (·.kind) = some (.array n eT)) (hke : (tget T eT).map (·.kind) = some (.int k)) (hsz : (tget T eT).map (·.lay.size) = some 1) (hg : F.P.eqGuardType F.P.depth t = false)
    (hx : V.ev g e x = some (.arr n 1 (fun i=>.int k (a i)))) (hy : V.ev g e y = some (.arr n 1 (fun i=>.int k (b i)))) (hw : wants ops ⟨some d,.binOp .eql t x y yt,ty,pos,af,gd⟩ e = some true) (hd2 : Nat.blt d F.n = true) (hr : r = true ↔ ∀ i,i < n→a i = b i)
    (hn : Seq F ops lo ⟨(d,.bool r)::e,h,g,N⟩ K) : Seq F ops (⟨some d,.binOp .eql t x y yt,ty,pos,af,gd⟩::lo) ⟨e,h,g,N⟩ K :=
  Seq.step (s:=⟨e,h,g,N⟩) N hw (eqarr_ok hT hk hke hsz hg hx hy r hr) (fun n hn=>by cases hn) (Nat.le_refl _) hd2 hn
end Go.V
namespace Go.V
open Go.RowKit Go.L
theorem freeze_other {w : World} {b b' : Nat} (n k : Nat) (h : b' ≠ b) : (w.freeze ⟨b,n,none⟩ k).heap[b']? = w.heap[b']?:=by
  unfold World.freeze
  split
  · rfl
  · show (w.heap.modify b _)[b']? = _
    rw [Array.getElem?_modify,if_neg (Ne.symm h)]
theorem freeze_size (w : World) (a : Addr) (n : Nat) : (w.freeze a n).heap.size = w.heap.size:=by
  unfold World.freeze
  split
  · rfl
  · show (w.heap.modify _ _).size = _
    simp
section
variable {P : Program} {t : TypeId} {g e h : Asc} {x y : Operand} {d : Option Tmp} {ty : TypeId} {pos : String} {af : Array Edge} {gd : Option (Nat × Bool)}
end
end Go.V
namespace Go.V
open Go.RowKit Go.L
section
variable {P : Program} {ops : Array Oper} {g e0 h0 : Asc} {j : Nat} {anc : List Nat} {r : List (Nat × List Nat)} {its its' : List It} {N : Nat} {B : Asc} {K : List It→Nat→Asc→Prop} {eL hL : Asc}
end
end Go.V
namespace Go.V
open Go.RowKit Go.L
def ctxAt (W : World) : Ctx:={ w:=W,ρ:=id,A:=fun _=>False,G:=fun _=>False,S:=fun b=>b < W.heap.size,B:=W.heap.size }
theorem Ok.run {P : Program} {f : FuncId} {g : Asc} {args : AV} {R : AV→Asc→Prop} (ct : Ok P f g [] args R) (W : World) (hg : ∀ x v,get? g x = some v→Rep (ctxAt W) (.rptr false v) .V [.pointer (some ⟨x,0,none⟩)]) {vs : List Value} (hvs : Rep (ctxAt W) args .T vs) :
    Calls P f vs.toArray W fun e W'=>∃ v r h' c',e = .returned v∧R r h'∧Rep c' r .V [v]∧Below W.heap.size W W':=by
  have hnil : ∀ {id : Nat} {av : AV} {p : Prop},get? ([] : Asc) id = some av→p:=fun h=>by cases h
  refine (ct (ctxAt W) hg ⟨fun _ _ h=>hnil h,fun _ _ h=>hnil h,fun _ _ h=>hnil h,fun _ _ h=>hnil h,fun _ _ _ _ h=>hnil h⟩ ⟨fun b h=>h,Nat.le_refl _⟩ rfl (fun i h=>h.elim) vs hvs).mono fun e W' h=>?_
  obtain ⟨c',v,r,h',ns,rfl,rfl,ho,hr,hR⟩:=h
  exact ⟨v,r,h',c',rfl,hR,hr,⟨ho.os,ho.tape,ho.output,ho.size,fun k hk=>ho.frame k hk fun _ _ h=>hnil h⟩⟩
end Go.V
namespace Go.V
open Go.RowKit Go.L Go.ChangeShapes Go.WideShapes
def Opens {H : Type} (enc : TypeId × Value→H) (P : Program) (W : World) (t : TypeId) {X : Type} (F : X→AV) (Q : X→Prop) : Prop :=
  ∀ n cs d q,DataW.trod enc P W 0 (fun _=>true) true n t cs = some (d,q)→∃ x,Rep (ctxAt W) (F x) .C cs∧Q x
section
variable {H : Type} {enc : TypeId × Value→H} {P : Program} {W : World} {t : TypeId}
theorem Opens.int {k : IntKind} (ht : P.underlying t = some (.int k)) : Opens enc P W t (fun n : Int=>.int k n) (fun n=>(Lit.int k n).wf = true):=fun n cs d q h=>by
  obtain ⟨x,rfl,_,hw⟩:=DataW.trod_int ht h
  exact ⟨x,rfl,hw⟩
theorem Opens.str (ht : P.underlying t = some .string) : Opens enc P W t (fun l : List UInt8=>.str l) (fun l=>l.length ≤ maxLen):=fun n cs d q h=>by
  obtain ⟨s,rfl,_,hs⟩:=DataW.trod_string ht h
  exact ⟨s.data.toList,rfl,hs⟩
theorem Opens.as {X Y : Type} {F : X→AV} {Q : X→Prop} (g : X→Y) {G : Y→AV} {R : Y→Prop} (h : Opens enc P W t F Q) (hf : ∀ x,Q x→F x = G (g x)) (hq : ∀ x,Q x→R (g x)) : Opens enc P W t G R:=fun n cs d q h1=>by
  obtain ⟨x,h2,h3⟩:=h n cs d q h1
  exact ⟨g x,hf x h3 ▸ h2,hq x h3⟩
theorem list_of {X : Type} (x0 : X) {p : Nat→X→Prop} : ∀ {n : Nat},(∀ i,i < n→∃ x,p i x)→∃ l : List X,l.length = n∧∀ i,i < n→p i (l.getD i x0)
  | 0,_=>⟨[],rfl,fun i hi=>absurd hi (by omega)⟩
  | n + 1,h=>by
    obtain ⟨l,hl,hp⟩:=list_of x0 (n:=n) fun i hi=>h i (by omega)
    obtain ⟨x,hx⟩:=h n (by omega)
    refine ⟨l ++ [x],by simp [hl],fun i hi=>?_⟩
    by_cases e : i < n
    · have:=hp i e
      rw [List.getD_eq_getElem?_getD,List.getElem?_append_left (by omega),← List.getD_eq_getElem?_getD]
      exact this
    · obtain rfl : i = n:=by omega
      subst hl
      simpa using hx
theorem all_of {X : Type} {x0 : X} {l : List X} {Q : X→Prop} (h : ∀ i,i < l.length→Q (l.getD i x0)) : ∀ x ∈ l,Q x:=fun x hx=>by
  obtain ⟨i,hi,rfl⟩:=List.getElem_of_mem hx
  simpa [hi] using h i hi
theorem cell_spot {w : World} {a : Addr} {v : Value} (h : w.cell? a = some v) : a.spot = none:=by
  unfold World.cell? at h
  split at h
  · split at h
    · cases h
    · rename_i hs;simpa using hs
  · cases h
theorem cell_lt {w : World} {a : Addr} {v : Value} (h : w.cell? a = some v) : a.block < w.heap.size:=by
  unfold World.cell? at h
  split at h
  · rename_i hb
    exact (Array.getElem?_eq_some_iff.1 hb).1
  · cases h
theorem Opens.slice {X : Type} (x0 : X) {F : X→AV} {Q : X→Prop} {e : TypeId} {sz : Nat} (ht : P.underlying t = some (.slice e)) (hsz : P.cellsOf e = sz) (hp : 0 < sz) (he : Opens enc P W e F Q) :
    Opens enc P W t (fun l : List X=>.rsl false l.length sz (fun i=>F (l.getD i x0))) (fun l=>l.length ≤ maxLen∧∀ x ∈ l,Q x):=fun n cs d q h=>by
  rcases DataW.trod_slice ht h with ⟨rfl,_⟩ | ⟨a,len,cap,elems,rest,m,_,rfl,_,_,hl,hm,hlen,hel,_⟩
  · exact ⟨[],⟨none,0,rfl,Nat.le_refl _,Nat.zero_le _,.inl rfl⟩,Nat.zero_le _,fun _ h=>by cases h⟩
  · have h1 : ∀ i,i < len→∃ cs' d' q',W.cells? 0 (a.add (i * sz)) sz = some cs'∧DataW.trod enc P W 0 (fun _=>true) true m e cs' = some (d',q'):=fun i hi=>by
      have h2:=hel i hi
      rw [hsz,List.getElem?_eq_getElem (by omega)] at h2
      obtain ⟨cs',h3,h4⟩:=Option.bind_eq_some_iff.1 h2
      exact ⟨cs',_,_,h3,h4⟩
    have h2 : ∀ i,i < len→∃ x,(∃ cs',W.cells? 0 (a.add (i * sz)) sz = some cs'∧Rep (ctxAt W) (F x) .C cs')∧Q x:=fun i hi=>by
      obtain ⟨cs',d',q',h3,h4⟩:=h1 i hi
      obtain ⟨x,h5,h6⟩:=he m cs' d' q' h4
      exact ⟨x,⟨cs',h3,h5⟩,h6⟩
    obtain ⟨l,hl2,hx⟩:=list_of x0 h2
    subst hl2
    refine ⟨l,⟨some a,cap,rfl,hl,hm,?_⟩,Nat.le_trans hl hm,all_of (x0:=x0) fun i hi=>(hx i hi).2⟩
    rcases Nat.eq_zero_or_pos l.length with h0 | h0
    · exact .inl h0
    · right
      have hc : ∀ j,j < l.length * sz→∃ v,W.cell? (a.add j) = some v:=fun j hj=>by
        have hi : j / sz < l.length:=by rw [Nat.div_lt_iff_lt_mul hp];exact hj
        obtain ⟨⟨cs',h3,_⟩,_⟩:=hx _ hi
        obtain ⟨_,h4,h5⟩:=World.cells?_some h3
        have hk : j % sz < sz:=Nat.mod_lt _ hp
        have h6:=h5 _ hk
        rw [List.getElem?_eq_getElem (by omega)] at h6
        have e1 : (a.add (j / sz * sz)).add (j % sz) = a.add j:=by
          have e0 : j / sz * sz + j % sz = j:=Nat.div_add_mod' j sz
          unfold Addr.add
          by_cases z1 : j / sz * sz = 0
          · rw [if_pos z1]
            rw [z1,Nat.zero_add] at e0
            rw [e0]
          · rw [if_neg z1]
            by_cases z2 : j % sz = 0
            · rw [if_pos z2,if_neg (by omega)]
              rw [z2,Nat.add_zero] at e0
              rw [e0]
            · rw [if_neg z2,if_neg (by omega)]
              simp only [Addr.mk.injEq,and_true,true_and]
              omega
        exact ⟨_,e1 ▸ h6⟩
      obtain ⟨v0,hv0⟩:=hc 0 (Nat.mul_pos h0 hp)
      have hsp : a.spot = none:=by have:=cell_spot hv0;simpa [Addr.add] using this
      have hlt : a.block < W.heap.size:=by have:=cell_lt hv0;simpa [Addr.add] using this
      obtain ⟨b,o,sp⟩:=a
      simp only at hsp hlt
      subst hsp
      have hadd : ∀ o j,(⟨b,o,none⟩ : Addr).add j = ⟨b,o + j,none⟩:=fun o j=>by
        unfold Addr.add
        split
        · rename_i z;rw [z];rfl
        · rfl
      obtain ⟨xs,hxl,hxv⟩:=list_of undef hc
      have hcell : ∀ j,j < l.length * sz→W.cell? ⟨b,o + j,none⟩ = xs[j]?:=fun j hj=>by
        have:=hxv j hj
        rw [hadd] at this
        rw [this,List.getD_eq_getElem?_getD,List.getElem?_eq_getElem (by omega)]
        rfl
      refine ⟨b,o,xs,rfl,hlt,(fun e=>by cases e),fun j u hu=>?_,hxl,fun i hi=>?_⟩
      · have hj : j < xs.length:=by
          rcases Nat.lt_or_ge j xs.length with h7 | h7
          · exact h7
          · rw [List.getElem?_eq_none h7] at hu;cases hu
        rw [← hu]
        exact hcell j (by omega)
      · obtain ⟨⟨cs',h3,h4⟩,_⟩:=hx i hi
        obtain ⟨_,h5,h6⟩:=World.cells?_some h3
        have hle : i * sz + sz ≤ l.length * sz:=by
          have : (i + 1) * sz ≤ l.length * sz:=Nat.mul_le_mul_right _ hi
          rw [Nat.add_mul,Nat.one_mul] at this
          exact this
        have e2 : V.sub xs (i * sz) sz = cs':=by
          refine List.ext_getElem? fun k=>?_
          by_cases hk : k < sz
          · unfold V.sub
            rw [List.getElem?_take_of_lt hk,List.getElem?_drop,← h6 k hk,← hcell _ (by omega)]
            rw [hadd,hadd,Nat.add_assoc]
          · rw [List.getElem?_eq_none (by rw [V.sub_len (by omega)];omega),List.getElem?_eq_none (by omega)]
        rw [e2]
        exact h4
def OpensF (enc : TypeId × Value→H) (P : Program) (W : World) (fs : List Field) (o size : Nat) {X : Type} (F : X→AV) (Q : X→Prop) : Prop :=
  ∀ cs : List Value,cs.length = size→(∀ f ∈ fs,∃ n d q,DataW.trod enc P W 0 (fun _=>true) true n f.type ((cs.drop f.offset).take (P.cellsOf f.type)) = some (d,q))→∃ x,Rep (ctxAt W) (F x) .C (cs.drop o)∧Q x
theorem OpensF.nil {size : Nat} : OpensF enc P W [] size size (fun _ : Unit=>.nul) (fun _=>True):=fun cs hl _=>⟨(),by show cs.drop size = [];simp [hl],trivial⟩
theorem OpensF.cons {f : Field} {fs : List Field} {o o' size : Nat} {X Y : Type} {F : X→AV} {Q : X→Prop} {G : Y→AV} {R : Y→Prop} (ho : f.offset = o) (ho' : o + P.cellsOf f.type = o') (h1 : Opens enc P W f.type F Q) (h2 : OpensF enc P W fs o' size G R) :
    OpensF enc P W (f::fs) o size (fun p : X × Y=>.pair (F p.1) (G p.2)) (fun p=>Q p.1∧R p.2):=fun cs hl hf=>by
  obtain ⟨n,d,q,h3⟩:=hf f List.mem_cons_self
  obtain ⟨x,h4,h5⟩:=h1 n _ d q h3
  obtain ⟨y,h6,h7⟩:=h2 cs hl fun g hg=>hf g (List.mem_cons_of_mem _ hg)
  refine ⟨(x,y),⟨_,_,?_,h4,h6⟩,h5,h7⟩
  rw [ho,← ho',← List.drop_drop]
  exact (List.take_append_drop _ _).symm
theorem Opens.struct {fs : Array Field} {size : Nat} {X : Type} {F : X→AV} {Q : X→Prop} (ht : P.underlying t = some (.struct fs)) (hs : P.cellsOf t = size) (h : OpensF enc P W fs.toList 0 size F Q) : Opens enc P W t F Q:=fun n cs d q hd=>by
  obtain ⟨xs,m,_,_,hl,hxl,hx⟩:=DataW.trod_struct ht hd
  have:=h cs (by omega) fun f hf=>by
    obtain ⟨i,hi,rfl⟩:=List.getElem_of_mem hf
    have hi' : i < fs.size:=by simpa using hi
    have h2:=hx i fs[i] (by simp [hi'])
    rw [List.getElem?_eq_getElem (by omega)] at h2
    exact ⟨m,xs[i].1,xs[i].2,by simpa using h2⟩
  simpa using this
theorem Opens.u8 (ht : P.underlying t = some (.int .u8)) : Opens enc P W t (fun x : UInt8=>.int .u8 ((x.toNat : Nat) : Int)) (fun _=>True) :=
  (Opens.int ht).as (fun n=>UInt8.ofNat n.toNat) (fun n h=>by
    have h2 : 0 ≤ n∧n ≤ 255:=by simpa [Lit.wf,IntKind.min,IntKind.max,IntKind.signed,IntKind.bits] using h
    refine congrArg (AV.int .u8) ?_
    rw [UInt8.toNat_ofNat']
    omega) (fun _ _=>trivial)
theorem Opens.arg {X : Type} {F : X→AV} {Q : X→Prop} (h : Opens enc P W t F Q) {r : Reach} {base : Nat} {v : Value} {d : DataW H} {p : List MemPlace} (hk : ∀ x,(F x).isAgg = (match P.underlying t with | some (.struct _) | some (.array _ _)=>true | _=>false))
    (hm : ∀ k e,P.underlying t ≠ some (.map k e)) (hval : Value.okWide P W r base t v) (hd : DataW.Trod enc P W 0 (fun _=>true) true t v d p) : ∃ x,Rep (ctxAt W) (F x) .V [v]∧Q x:=by
  obtain ⟨n,hn⟩:=hd
  obtain ⟨x,h1,h2⟩:=h n _ d p hn
  refine ⟨x,?_,h2⟩
  have hk:=hk x
  unfold Value.okWide at hval
  split at hval
  · rename_i e
    rw [e] at hk
    obtain ⟨cs,rfl,_⟩:=hval
    exact (Rep.agg (xs:=cs.toList) hk).2 h1
  · rename_i e
    rw [e] at hk
    obtain ⟨cs,rfl,_⟩:=hval
    exact (Rep.agg (xs:=cs.toList) hk).2 h1
  · rename_i e1 e2
    have hk : (F x).isAgg = false:=by
      rw [hk]
      split
      · rename_i e;exact absurd e (e1 _)
      · rename_i e;exact absurd e (e2 _ _)
      · rfl
    have hv : v.cells.toList = [v]:=by
      unfold Cell.okWide Cell.ok at hval
      cases v <;> first | rfl | (exfalso;split at hval <;> first | exact hval | (simp_all;done) | (split at hval <;> simp_all))
    rw [hv] at h1
    exact Rep.one hk h1
end
section
variable {H : Type} {enc : TypeId × Value→H} {P : Program} {W W' : World}
theorem keptBut_below (hb : Below W.heap.size W W') (may : MemPlace→Prop) : W.keptBut W' may:=by
  refine ⟨hb.os,hb.output,fun i hi=>?_⟩
  rw [hb.block i hi]
  cases W.heap[i]? with
  | none=>rfl
  | some o=>cases o <;> first | exact ⟨rfl,rfl,rfl,fun _ _=>rfl⟩ | exact .inr ⟨rfl,rfl⟩ | rfl
theorem sameAt_below (hb : Below W.heap.size W W') {p : MemPlace} (hp : p.block < W.heap.size) : W.sameAt W' p:=by
  cases p with
  | cell b o=>exact World.cell?_of_block (w:=W) (w':=W') (a:=⟨b,o,none⟩) (hb.block b hp)
  | map b=>exact hb.block b hp
theorem trodAll_carry {w w' : World} {base : Nat} {spare : Nat→Bool} {held : Bool} : ∀ {ts : List TypeId} {vs : List Value} {ds : List (DataW H)} {ps : List MemPlace},DataW.TrodAll enc P w base spare held ts vs ds ps→(∀ p ∈ ps,w.sameAt w' p)→DataW.TrodAll enc P w' base spare held ts vs ds ps
  | [],[],[],_,h,_=>h
  | _::_,_::_,_::_,_,⟨p,q,⟨n,h1⟩,h2,e⟩,hs=>⟨p,q,⟨n,DataW.trod_carry n _ _ _ h1 fun x hx=>hs x (by rw [e];exact List.mem_append_left _ hx)⟩,trodAll_carry h2 fun x hx=>hs x (by rw [e];exact List.mem_append_right _ hx),e⟩
theorem post_law {f : Func} {s : ChangeSpec} {args : Array Value} {ds gs : List (DataW H)} {before : List MemPlace} {tb : TypeId} {apart : Bool} (hK : Kids P (· < P.types.size)) (hz : ∀ t e,t < P.types.size→P.underlying t = some (.slice e)→0 < P.cellsOf e) (hts : f.params.toList.all (fun t=>decide (t < P.types.size)) = true) (hvars : s.vars = [])
    (hW : DataW.Whole enc P f.params.toList s.vars apart W args.toList ds gs before) (hres : f.resultTypes = #[tb]) (htb : P.underlying tb = some .bool) (hr : (s.fn H ds).results = [.lit (.bool true)]) (ha : (s.fn H ds).args = ds) (hv : (s.fn H ds).vars = []) (hb : Below W.heap.size W W') :
    s.post enc P f apart true false false W args (.bool true) W':=by
  have hlt:=fun p hp=>hW.lt p hp
  have hW0:=hW
  obtain ⟨p,q,hA,hV,rfl,hfz,hnd⟩:=hW
  rw [hvars] at hV
  cases gs with
  | cons g gs=>exact hV.elim
  | nil =>
    have hq : q = []:=hV
    subst hq
    have hlt2 : ∀ x ∈ p,x.block < W.heap.size:=fun x hx=>hlt x (List.mem_append_left _ hx)
    have hA2:=hA.respare (spare':=fun b=>decide (b < W.heap.size)) hK hz (fun t ht=>by have:=List.all_eq_true.1 hts t ht;simpa using this) (fun x hx=>by simpa using hlt2 x hx)
    have hA3:=trodAll_carry hA2 fun x hx=>sameAt_below hb (hlt2 x hx)
    have e0 : ds ++ [] = ds:=List.append_nil ds
    refine ⟨ds,[],_,[],p,[],hW0,?_,?_,?_,keptBut_below hb _,fun e=>by cases e⟩
    · rw [e0,hr,hres]
      exact ⟨[],[],⟨1,by simp [DataW.trod,Value.cells,htb]⟩,rfl,rfl⟩
    · rw [e0,ha];exact hA3
    · rw [e0,hv,hvars];rfl
end
end Go.V
