/- A region that draws its order: some operations eat objects, and pure reads may come behind a store. -/
import Derived.Test.YtmbldnahcmkpgaaGreatDoorFr
set_option linter.unusedSimpArgs false
set_option linter.unusedVariables false
namespace Go.V
open Go.RowKit Go.L Go.Chain
def filA (q : Nat→Bool) : Asc→Asc
  | []=>[]
  | p::r=>bif q p.1 then p::filA q r else filA q r
theorem get?_filA (q : Nat→Bool) : ∀ (h : Asc) (i : Nat),get? (filA q h) i = if q i = true then get? h i else none
  | [],i=>by
    show get? [] i = _
    split <;> rfl
  | (k,v)::r,i=>by
    have ih:=get?_filA q r i
    unfold filA
    cases hk : q k with
    | true =>
      show get? ((k,v)::filA q r) i = _
      rw [get?_cons,get?_cons,ih]
      by_cases e : k = i
      · subst e;rw [if_pos rfl,if_pos rfl,if_pos hk]
      · rw [if_neg e,if_neg e]
    | false =>
      show get? (filA q r) i = _
      rw [get?_cons,ih]
      by_cases e : k = i
      · subst e;rw [if_neg (by rw [hk];decide),if_neg (by rw [hk];decide)]
      · rw [if_neg e]
theorem filA_congr {q r : Nat→Bool} : ∀ {h : Asc},(∀ i ∈ keys h,q i = r i)→filA q h = filA r h
  | [],_=>rfl
  | p::t,hq=>by
    unfold filA
    rw [hq p.1 List.mem_cons_self,filA_congr (h:=t) fun i hi=>hq i (List.mem_cons_of_mem _ hi)]
theorem filA_all {q : Nat→Bool} : ∀ {h : Asc},(∀ i ∈ keys h,q i = true)→filA q h = h
  | [],_=>rfl
  | p::t,hq=>by
    unfold filA
    rw [hq p.1 List.mem_cons_self,filA_all (h:=t) fun i hi=>hq i (List.mem_cons_of_mem _ hi)];rfl
theorem filA_none {q : Nat→Bool} : ∀ {h : Asc},(∀ i ∈ keys h,q i = false)→filA q h = []
  | [],_=>rfl
  | p::t,hq=>by
    unfold filA
    rw [hq p.1 List.mem_cons_self,filA_none (h:=t) fun i hi=>hq i (List.mem_cons_of_mem _ hi)];rfl
theorem filA_app {q : Nat→Bool} : ∀ (h k : Asc),filA q (h ++ k) = filA q h ++ filA q k
  | [],k=>rfl
  | p::t,k=>by
    show (bif q p.1 then p::filA q (t ++ k) else filA q (t ++ k)) = (bif q p.1 then p::filA q t else filA q t) ++ filA q k
    rw [filA_app t k]
    cases q p.1 <;> rfl
structure Feed (P : Program) (ops : Array Oper) (g e0 h B : Asc) (plan : List (Nat × List Nat)) (its : List It) (N N' : Nat) (ea : Nat→Nat→Bool) : Prop where
  map : its.map (·.j) = plan.map (·.1)
  keys : ∀ it ∈ its,∀ i ∈ keys it.n,N ≤ i∧i < N'
  le : N ≤ N'
  uniq : Uniq its
  item : ∀ it ∈ its,∃ a b anc o,its = a ++ it::b∧(it.j,anc) ∈ plan∧ops[it.j]? = some o∧(((∀ i ∈ V.keys B,ea it.j i = false)∧ItOk P ops g e0 h a anc o it) ∨ ∃ ns,EatOk P ops g e0 h (filA (ea it.j) B) a anc o it ns∧∀ i ∈ ns,i ∈ V.keys it.n∧N ≤ i)
  one : ∀ i,∀ x ∈ its,∀ y ∈ its,ea x.j i = true→ea y.j i = true→x.j = y.j
set_option maxHeartbeats 4000000 in
theorem drawn_core3 {F : Fr} {l : List Oper} {e h B g : Asc} {N : Nat} (plan : List (Nat × List Nat)) (hBd : ∀ i av,get? B i = some av→get? h i = none)
    (s1 : nodupB (plan.map (·.1)) = true) (s2 : ((plan.map (·.1)).all (fun j=>Nat.blt j l.toArray.size && (match dstOf l.toArray j with | some d=>Nat.blt d F.n | none=>false))) = true) (s3 : nodupB (dstsOf l.toArray plan) = true) (s4 : Og.acyc l.toArray = true) (s6 : ancB l.toArray plan plan [] = true)
    {e0 : Asc} (he0 : dropO e (dstsOf l.toArray plan) some = some e0) {its : List It} {N' : Nat} {ea : Nat→Nat→Bool} (hF : Feed F.P l.toArray g e0 h B plan its N N' ea) (a : Act) (w : World) (hsim : Sim F ⟨e,B ++ h,g,N⟩ a w) :
    ∃ (I : List Nat→Act→World→Prop),(∀ it ∈ its,dstOf l.toArray it.j = some it.d) ∧
      (∀ (QC : Exit→Act→World→Prop) (rem : List Nat),rem.Nodup→(∀ i ∈ rem,i ∈ plan.map (·.1))→∀ j ∈ rem,(∀ i,waits .any l.toArray j i = true→i ∈ plan.map (·.1)→i ∉ rem)→(∀ i k,i ∈ plan.map (·.1)→i ∉ rem→waits .any l.toArray i k = true→k ∈ plan.map (·.1)→k ∉ rem) →
        ∀ a w,I rem a w→wpOp F.P l.toArray QC j (fun a' w'=>I (rem.erase j) a' w') a w) ∧
      I (plan.map (·.1)) a { w with drawn:=w.drawn + 1 } ∧
      (∀ rem a w,I rem a w→∃ (c : Ctx) (ns : List Nat) (Bx : Asc),(∀ i av,get? Bx i = some av→get? B i = some av)∧c.w = w∧Out F.c0 F.h0 (selH (nrem rem) its ++ (Bx ++ h)) ns c∧EnvRep c g e0 a∧(∀ it ∈ its,it.j ∉ rem→it.d < a.tmps.size∧Rep c it.v .V [a.tmps.getD it.d undef]) ∧
        (∀ i,c.A i→i < N')∧a.tmps.size = F.n∧a.defers = F.D∧(∀ i,F.c0.A i→i < F.N0)∧(∀ x v,get? g x = some v→Rep F.c0 (.rptr false v) .V [.pointer (some ⟨x,0,none⟩)])):=by
  rw [dropO_eq] at he0
  simp only [Option.some.injEq] at he0
  have s1:=nodupB_ok s1
  have hBN : ∀ i ∈ keys B,i < N:=fun i hi=>by
    obtain ⟨av,hav⟩:=keys_get hi
    obtain ⟨c1,n1,_,ho1,_,hb1,_⟩:=hsim
    exact hb1 i (ho1.heap.A i av (by rw [get?_app,hav];rfl))
  have hhN : ∀ i av,get? h i = some av→i < N:=fun i av hi=>by
    obtain ⟨c1,n1,_,ho1,_,hb1,_⟩:=hsim
    refine hb1 i (ho1.heap.A i av (?_ : get? (B ++ h) i = some av))
    rw [get?_app]
    cases hb : get? B i with
    | none=>exact hi
    | some u=>have:=hBd i u hb;rw [hi] at this;cases this
  obtain ⟨hmap,hkeys,hNN,huniq,hitem,hone⟩:=hF
  have s3:=nodupB_ok s3
  have hlt : ∀ j ∈ plan.map (·.1),j < l.toArray.size:=fun j hj=>by
    have:=List.all_eq_true.1 s2 j hj
    simp only [Bool.and_eq_true] at this
    simpa [Nat.blt_eq] using this.1
  have hdst : ∀ j ∈ plan.map (·.1),∃ d,dstOf l.toArray j = some d∧d < F.n:=fun j hj=>by
    have:=List.all_eq_true.1 s2 j hj
    simp only [Bool.and_eq_true] at this
    cases hd : dstOf l.toArray j with
    | none=>simp [hd] at this
    | some d=>simp only [hd] at this;exact ⟨d,rfl,by simpa [Nat.blt_eq] using this.2⟩
  let nr (rem : List Nat) : Nat→Bool:=nrem rem
  have hnr : ∀ rem j,nr rem j = true ↔ j ∉ rem:=fun rem j=>by
    show (!memB j rem) = true ↔ _
    rw [Bool.not_eq_true',← Bool.not_eq_true,memB_ok]
  let be (rem : List Nat) : Asc:=filA (fun i=>its.all (fun it=>!ea it.j i || memB it.j rem)) B
  let I : List Nat→Act→World→Prop:=fun rem a w=>∃ c ns,c.w = w∧Out F.c0 F.h0 (selH (nr rem) its ++ (be rem ++ h)) ns c∧EnvRep c g e0 a∧(∀ it ∈ its,it.j ∉ rem→it.d < a.tmps.size∧Rep c it.v .V [a.tmps.getD it.d undef]) ∧
    (∀ i,c.A i→i < N ∨ ∃ it ∈ its,it.j ∉ rem∧i ∈ keys it.n)∧a.tmps.size = F.n∧a.defers = F.D∧(∀ i,F.c0.A i→i < F.N0)∧∀ x v,get? g x = some v→Rep F.c0 (.rptr false v) .V [.pointer (some ⟨x,0,none⟩)]
  have hjs : ∀ it ∈ its,it.j ∈ plan.map (·.1):=fun it hit=>by rw [← hmap];exact List.mem_map.2 ⟨it,hit,rfl⟩
  have hdj : ∀ it ∈ its,dstOf l.toArray it.j = some it.d:=fun it hit=>by
    obtain ⟨a,b,anc,o,_,_,q2,q3⟩:=hitem it hit
    unfold dstOf
    rw [q2]
    rcases q3 with ⟨_,q3⟩ | ⟨_,q3,_⟩
    · cases q3 with
      | run _ hd _=>exact hd
      | skip _ hd _ _=>exact hd
    · exact q3.dst
  have hjnd : (its.map (·.j)).Nodup:=by rw [hmap];exact s1
  have hjinj : ∀ x ∈ its,∀ y ∈ its,x.j = y.j→x = y:=by
    have : ∀ {L : List It},(L.map (·.j)).Nodup→∀ x ∈ L,∀ y ∈ L,x.j = y.j→x = y:=by
      intro L
      induction L with
      | nil=>intro _ x hx;cases hx
      | cons z L ih =>
        intro hn x hx y hy e
        simp only [List.map_cons,List.nodup_cons] at hn
        rcases List.mem_cons.1 hx with hx2 | hx2 <;> rcases List.mem_cons.1 hy with hy2 | hy2
        · rw [hx2,hy2]
        · exact absurd (List.mem_map.2 ⟨y,hy2,by rw [← hx2];exact e.symm⟩) hn.1
        · exact absurd (List.mem_map.2 ⟨x,hx2,by rw [← hy2];exact e⟩) hn.1
        · exact ih hn.2 x hx2 y hy2 e
    exact this hjnd
  have he0k : ∀ t v,get? e0 t = some v→get? e t = some v∧t ∉ dstsOf l.toArray plan:=fun t v ht=>by
    rw [← he0,get?_drop] at ht
    by_cases hm : memB t (dstsOf l.toArray plan) = true
    · rw [if_pos hm] at ht;cases ht
    · rw [if_neg hm] at ht;exact ⟨ht,fun x=>hm (memB_ok.2 x)⟩
  have hbeq : ∀ rem i,get? (be rem) i = if its.all (fun it=>!ea it.j i || memB it.j rem) = true then get? B i else none:=fun rem i=>get?_filA _ B i
  have hbesub : ∀ rem i av,get? (be rem) i = some av→get? B i = some av:=fun rem i av hi=>by
    rw [hbeq] at hi
    split at hi
    · exact hi
    · cases hi
  have hanc : ∀ rem : List Nat,(∀ i k,i ∈ plan.map (·.1)→i ∉ rem→waits .any l.toArray i k = true→k ∈ plan.map (·.1)→k ∉ rem)→∀ k anck,k ∉ rem→(k,anck) ∈ plan→∀ i ∈ anck,i ∈ plan.map (·.1)∧i ∉ rem:=by
    intro rem hdown k
    induction k using Nat.strongRecOn with
    | _ k ih =>
      intro anck hk hp i hi
      obtain ⟨a,b,e⟩:=List.append_of_mem hp
      obtain ⟨h1,h2⟩:=ancB_spec s6 e i hi
      have hkd : k ∈ plan.map (·.1):=List.mem_map.2 ⟨_,hp,rfl⟩
      have hid : i ∈ plan.map (·.1):=by
        rcases h1 with h1 | h1
        · rw [e];simp only [List.map_append];exact List.mem_append_left _ h1
        · cases h1
      refine ⟨hid,?_⟩
      rcases h2 with h2 | ⟨q,q1,q2,q3⟩
      · exact hdown k i hkd hk h2 hid
      · have hqd : q.1 ∈ plan.map (·.1):=List.mem_map.2 ⟨q,q1,rfl⟩
        exact (ih q.1 (acyc_lt s4 (hlt k hkd) q2) q.2 (hdown k q.1 hkd hk q2 hqd) q1 i q3).2
  have hitems2 : ∀ (QC : Exit→Act→World→Prop) (rem : List Nat),rem.Nodup→(∀ i ∈ rem,i ∈ plan.map (·.1))→∀ j ∈ rem,(∀ i,waits .any l.toArray j i = true→i ∈ plan.map (·.1)→i ∉ rem)→(∀ i k,i ∈ plan.map (·.1)→i ∉ rem→waits .any l.toArray i k = true→k ∈ plan.map (·.1)→k ∉ rem) →
      ∀ a w,I rem a w→wpOp F.P l.toArray QC j (fun a' w'=>I (rem.erase j) a' w') a w:=by
    intro QC rem hnd hsub j hj hw1 hdown a w hI
    obtain ⟨c,ns,rfl,hout,hen,hsl,hA,hsz,hdf,hN0,hgl⟩:=hI
    obtain ⟨it,hit,rfl⟩ : ∃ it ∈ its,it.j = j:=by
      have:=hsub j hj
      rw [← hmap] at this
      obtain ⟨it,h1,h2⟩:=List.mem_map.1 this
      exact ⟨it,h1,h2⟩
    obtain ⟨pre,post,anc,o,hsp,hpl,ho,hok⟩:=hitem it hit
    have hjd:=hjs it hit
    have hancx : ∀ i ∈ anc,i ∈ plan.map (·.1)∧i ∉ rem:=fun i hi=>by
      obtain ⟨a',b',e⟩:=List.append_of_mem hpl
      obtain ⟨h1,h2⟩:=ancB_spec s6 e i hi
      have hid : i ∈ plan.map (·.1):=by
        rcases h1 with h1 | h1
        · rw [e];simp only [List.map_append];exact List.mem_append_left _ h1
        · cases h1
      refine ⟨hid,?_⟩
      rcases h2 with h2 | ⟨q,q1,q2,q3⟩
      · exact hw1 i h2 hid
      · have hqd : q.1 ∈ plan.map (·.1):=List.mem_map.2 ⟨q,q1,rfl⟩
        exact (hanc rem hdown q.1 q.2 (hw1 q.1 q2 hqd) q1 i q3).2
    have hpre : ∀ x ∈ its,x.j ∈ anc→x ∈ pre:=fun x hx hxa=>by
      obtain ⟨a',b',e⟩:=List.append_of_mem hpl
      have h1:=(ancB_spec s6 e x.j hxa).1
      have h1 : x.j ∈ a'.map (·.1):=by rcases h1 with h1 | h1;exact h1;cases h1
      have hm1 : pre.map (·.j) ++ it.j::post.map (·.j) = a'.map (·.1) ++ it.j::b'.map (·.1):=by
        have:=hmap
        rw [hsp,e] at this
        simpa using this
      have hlen : (pre.map (·.j)) = a'.map (·.1):=by
        have hn1 : (pre.map (·.j) ++ it.j::post.map (·.j)).Nodup:=by
          have:=hjnd
          rw [hsp] at this
          simpa using this
        have aux : ∀ {A B C D : List Nat} {z : Nat},A ++ z::B = C ++ z::D→(A ++ z::B).Nodup→A = C:=by
          intro A
          induction A with
          | nil =>
            intro B C D z e hn
            cases C with
            | nil=>rfl
            | cons y C =>
              simp only [List.nil_append,List.cons_append,List.cons.injEq] at e
              obtain ⟨rfl,e⟩:=e
              simp only [List.nil_append,List.nodup_cons] at hn
              exact absurd (by rw [e];simp) hn.1
          | cons y A ih =>
            intro B C D z e hn
            cases C with
            | nil =>
              simp only [List.nil_append,List.cons_append,List.cons.injEq] at e
              obtain ⟨rfl,e⟩:=e
              simp only [List.cons_append,List.nodup_cons] at hn
              exact absurd (by simp) hn.1
            | cons y' C =>
              simp only [List.cons_append,List.cons.injEq] at e
              obtain ⟨rfl,e⟩:=e
              simp only [List.cons_append,List.nodup_cons] at hn
              rw [ih e hn.2]
        exact aux hm1 hn1
      rw [← hlen] at h1
      obtain ⟨y,hy,hyj⟩:=List.mem_map.1 h1
      have hyi : y ∈ its:=by rw [hsp];exact List.mem_append_left _ hy
      rw [← hjinj y hyi x hx hyj];exact hy
    have hpsub : ∀ x ∈ pre,x ∈ its:=fun x hx=>by rw [hsp];exact List.mem_append_left _ hx
    have hupre : Uniq pre:=fun x hx y hy=>huniq x (hpsub x hx) y (hpsub y hy)
    have henv : EnvRep c g (selE (fun i=>memB i anc) pre ++ e0) a:=by
      refine ⟨fun t v ht=>?_,hen.glob⟩
      rw [get?_app] at ht
      cases hs : get? (selE (fun i=>memB i anc) pre) t with
      | none=>rw [hs] at ht;exact hen.slot t v ht
      | some u =>
        rw [hs] at ht
        simp only [Option.some_or,Option.some.injEq] at ht
        subst ht
        obtain ⟨x,hx,hxa,rfl,rfl⟩:=selE_get hs
        exact hsl x (hpsub x hx) (hancx x.j (memB_ok.1 hxa)).2
    have hHor : ∀ i av,get? h i = some av→∀ x ∈ its,i ∉ keys x.n:=fun i av hi x hx hk=>by
      have h1:=hhN i av hi
      have:=(hkeys x hx i hk).1
      omega
    have hBor : ∀ i av,get? B i = some av→∀ x ∈ its,i ∉ keys x.n:=fun i av hi x hx hk=>by
      have h1:=hBN i (get?_keys hi)
      have:=(hkeys x hx i hk).1
      omega
    let Off (X : Asc) : Prop:=∀ i av,get? X i = some av→∀ x ∈ its,i ∈ keys x.n→nr rem x.j = false∧memB x.j anc = false
    have hcore : ∀ (Y Z : Asc),Off Y→Off Z→(∀ i av,get? Z i = some av→get? Y i = none) →
        Split (selH (nr rem) its ++ (Z ++ Y)) (selH (fun i=>memB i anc) pre ++ Y) (selH (fun i=>nr rem i && !memB i anc) its ++ Z):=fun Y Z hY hZ hZY=>by
      have key : ∀ i,(∃ x ∈ its,i ∈ keys x.n) ∨ ∀ x ∈ its,i ∉ keys x.n:=fun i=>by
        by_cases hx : ∃ x ∈ its,i ∈ keys x.n
        · exact .inl hx
        · exact .inr fun x hx' hk=>hx ⟨x,hx',hk⟩
      have hpreg : ∀ i x,x ∈ its→i ∈ keys x.n→get? (selH (fun i=>memB i anc) pre) i = if memB x.j anc = true then get? x.n i else none:=fun i x hx hk=>by
        by_cases hm : memB x.j anc = true
        · exact selH_in hupre (hpre x hx (memB_ok.1 hm)) hk
        · rw [if_neg hm]
          exact selH_out fun y hy hya hyk=>by
            have:=huniq y (hpsub y hy) x hx i hyk hk
            rw [this] at hya;exact hm hya
      refine ⟨fun i=>?_,fun i av hi=>?_⟩
      · rw [get?_app,get?_app,get?_app,get?_app]
        rcases key i with ⟨x,hx,hk⟩ | hnk
        · rw [hpreg i x hx hk,selH_in huniq hx hk,selH_in huniq hx hk]
          by_cases hm : memB x.j anc = true
          · have hxr:=(hancx x.j (memB_ok.1 hm)).2
            have hn : nr rem x.j = true:=(hnr rem x.j).2 hxr
            have hyn : get? Y i = none:=by
              cases h : get? Y i with
              | none=>rfl
              | some u=>have:=(hY i u h x hx hk).1;rw [hn] at this;cases this
            have hzn : get? Z i = none:=by
              cases h : get? Z i with
              | none=>rfl
              | some u=>have:=(hZ i u h x hx hk).1;rw [hn] at this;cases this
            rw [if_pos hn,if_pos hm,if_neg (by rw [hm];simp),hyn,hzn]
            cases get? x.n i <;> rfl
          · have hmf : memB x.j anc = false:=by simpa using hm
            rw [if_neg hm,hmf]
            simp only [Bool.not_false,Bool.and_true]
            cases hn : nr rem x.j with
            | true =>
              have hyn : get? Y i = none:=by
                cases h : get? Y i with
                | none=>rfl
                | some u=>have:=(hY i u h x hx hk).1;rw [hn] at this;cases this
              have hzn : get? Z i = none:=by
                cases h : get? Z i with
                | none=>rfl
                | some u=>have:=(hZ i u h x hx hk).1;rw [hn] at this;cases this
              rw [hyn,hzn]
              simp
            | false =>
              cases hz : get? Z i with
              | none=>cases get? Y i <;> simp
              | some u=>rw [hZY i u hz];simp
        · rw [selH_out fun x hx _=>hnk x hx,selH_out fun x hx _=>hnk x (hpsub x hx),selH_out fun x hx _=>hnk x hx]
          cases hz : get? Z i with
          | none=>cases get? Y i <;> rfl
          | some u=>rw [hZY i u hz];rfl
      · rw [get?_app] at hi ⊢
        rcases key i with ⟨x,hx,hk⟩ | hnk
        · rw [selH_in huniq hx hk] at hi
          rw [hpreg i x hx hk]
          by_cases hm : memB x.j anc = true
          · rw [if_neg (by rw [hm];simp)] at hi
            have hi : get? Z i = some av:=hi
            have:=(hZ i av hi x hx hk).2
            rw [hm] at this;cases this
          · rw [if_neg hm]
            cases hn : nr rem x.j with
            | true =>
              cases h : get? Y i with
              | none=>rfl
              | some u=>have:=(hY i u h x hx hk).1;rw [hn] at this;cases this
            | false =>
              rw [hn] at hi
              simp only [Bool.false_and,Bool.false_eq_true,if_false] at hi
              have hi : get? Z i = some av:=hi
              rw [hZY i av hi];rfl
        · rw [selH_out fun x hx _=>hnk x hx] at hi
          have hi : get? Z i = some av:=hi
          rw [selH_out fun x hx _=>hnk x (hpsub x hx),hZY i av hi];rfl
    have hnext : ∀ (Y Y' Z : Asc),Split (selH (nr rem) its ++ (Z ++ Y)) (selH (fun i=>memB i anc) pre ++ Y) (selH (fun i=>nr rem i && !memB i anc) its ++ Z)→Off Y→(∀ i av,get? Z i = some av→get? Y i = none)→(∀ i av,get? Y' i = some av→get? Y i = some av) →
        ∀ i,get? (selH (nr (rem.erase it.j)) its ++ (Z ++ Y')) i = (get? (it.n ++ (selH (fun i=>memB i anc) pre ++ Y')) i).or (get? (selH (fun i=>nr rem i && !memB i anc) its ++ Z) i):=by
      intro Y Y' Z hsp hY hZY hYY i
      rw [get?_app,get?_app,get?_app,get?_app,get?_app]
      by_cases hk : i ∈ keys it.n
      · obtain ⟨v,hv⟩:=keys_get hk
        have : nr (rem.erase it.j) it.j = true:=(hnr _ _).2 hnd.not_mem_erase
        rw [selH_in huniq hit hk,if_pos this,hv];rfl
      · rw [get?_none hk]
        have hsame : get? (selH (nr (rem.erase it.j)) its) i = get? (selH (nr rem) its) i:=by
          by_cases hx : ∃ x ∈ its,i ∈ keys x.n
          · obtain ⟨x,hx,hxk⟩:=hx
            have hxj : x.j ≠ it.j:=fun e=>by
              have:=hjinj x hx it hit e
              rw [this] at hxk;exact hk hxk
            rw [selH_in huniq hx hxk,selH_in huniq hx hxk]
            have : nr (rem.erase it.j) x.j = nr rem x.j:=by
              rw [Bool.eq_iff_iff,hnr,hnr,hnd.mem_erase_iff]
              constructor
              · intro h1 h2;exact h1 ⟨hxj,h2⟩
              · intro h1 h2;exact h1 h2.2
            rw [this]
          · rw [selH_out fun x hx' _ hxk=>hx ⟨x,hx',hxk⟩,selH_out fun x hx' _ hxk=>hx ⟨x,hx',hxk⟩]
        rw [hsame]
        have hold:=hsp.get i
        have hap:=hsp.apart i
        rw [get?_app,get?_app,get?_app,get?_app] at hold
        rw [get?_app,get?_app] at hap
        cases hz : get? Z i with
        | some u =>
          have h1:=hZY i u hz
          have h2 : get? Y' i = none:=by
            cases h3 : get? Y' i with
            | none=>rfl
            | some q=>have:=hYY i q h3;rw [h1] at this;cases this
          rw [h1,hz] at hold
          rw [h2]
          rw [hz] at hap
          cases h4 : get? (selH (nr rem) its) i with
          | some q=>rw [h4] at hold;simpa using hold
          | none=>rw [h4] at hold;simpa using hold
        | none =>
          rw [hz] at hold
          cases h4 : get? (selH (nr rem) its) i with
          | some q =>
            have hexx : ∃ x ∈ its,i ∈ keys x.n:=by
              refine Classical.byContradiction fun hn=>?_
              rw [selH_out fun x hx _ hxk=>hn ⟨x,hx,hxk⟩] at h4;cases h4
            obtain ⟨x,hx,hxk⟩:=hexx
            have h5 : get? Y i = none:=by
              cases h6 : get? Y i with
              | none=>rfl
              | some r =>
                have:=(hY i r h6 x hx hxk).1
                rw [selH_in huniq hx hxk,this] at h4
                simp at h4
            have h7 : get? Y' i = none:=by
              cases h6 : get? Y' i with
              | none=>rfl
              | some r=>have:=hYY i r h6;rw [h5] at this;cases this
            rw [h4,h5] at hold
            rw [h7]
            simpa using hold
          | none =>
            rw [h4] at hold
            cases h6 : get? Y' i with
            | some r =>
              have h8:=hYY i r h6
              rw [h8] at hold
              cases h9 : get? (selH (fun i=>memB i anc) pre) i with
              | some q =>
                exfalso
                have : get? (selH (fun i=>memB i anc) pre) i = none:=selH_out fun x hx hxa hxk=>by
                  have:=(hY i r h8 x (hpsub x hx) hxk).2
                  rw [hxa] at this;cases this
                rw [h9] at this;cases this
              | none=>simp
            | none =>
              cases h8 : get? Y i with
              | some r =>
                rw [h8] at hold
                rw [selH_out (its:=pre) fun x hx hxa hxk=>by
                  have:=(hY i r h8 x (hpsub x hx) hxk).2
                  rw [hxa] at this;cases this]
                rw [selH_out (its:=its) fun x hx hxa hxk=>by
                  have:=(hY i r h8 x hx hxk).1
                  rw [this] at hxa;simp at hxa]
                rfl
              | none =>
                rw [h8] at hold
                simpa using hold
    have hfin : ∀ (c' : Ctx) (v' : Value) (nn : List Nat),(∀ i ∈ nn,i ∈ keys it.n)→Out c (selH (nr rem) its ++ (be rem ++ h)) (selH (nr (rem.erase it.j)) its ++ (be (rem.erase it.j) ++ h)) nn c'→Rep c' it.v .V [v']→I (rem.erase it.j) (a.put (some it.d) v') c'.w:=by
      intro c' v' nn hnn ho' hv'
      have hdd:=hdst it.j hjd
      rw [hdj it hit] at hdd
      obtain ⟨d,hd1,hd2⟩:=hdd
      cases hd1
      refine ⟨c',ns ++ nn,rfl,hout.trans ho',?_,fun x hx hxr=>?_,fun i hi=>?_,by rw [put_size];exact hsz,by rw [put_defers];exact hdf,hN0,hgl⟩
      · refine ⟨fun t v ht=>?_,(hen.le ho'.le).glob⟩
        have hne : t ≠ it.d:=fun e=>(he0k t v ht).2 (by rw [e];exact dstsOf_mem hjd (hdj it hit))
        obtain ⟨q1,q2⟩:=hen.slot t v ht
        refine ⟨by rw [put_size];exact q1,?_⟩
        have : (a.put (some it.d) v').tmps.getD t undef = a.tmps.getD t undef:=by simp [Act.put,Array.getElem?_setIfInBounds,Ne.symm hne]
        rw [this];exact q2.le ho'.le
      · by_cases e : x = it
        · subst e
          refine ⟨by rw [put_size,hsz];exact hd2,?_⟩
          have : (a.put (some x.d) v').tmps.getD x.d undef = v':=by
            have : x.d < a.tmps.size:=by rw [hsz];exact hd2
            simp [Act.put,this]
          rw [this];exact hv'
        · have hxj : x.j ≠ it.j:=fun e'=>e (hjinj x hx it hit e')
          have hxr' : x.j ∉ rem:=fun h1=>hxr ((hnd.mem_erase_iff).2 ⟨hxj,h1⟩)
          obtain ⟨q1,q2⟩:=hsl x hx hxr'
          have hne : x.d ≠ it.d:=fun e'=>hxj (dsts_inj s3 (hjs x hx) hjd (hdj x hx) (by rw [e'];exact hdj it hit))
          refine ⟨by rw [put_size];exact q1,?_⟩
          have : (a.put (some it.d) v').tmps.getD x.d undef = a.tmps.getD x.d undef:=by simp [Act.put,Array.getElem?_setIfInBounds,Ne.symm hne]
          rw [this];exact q2.le ho'.le
      · rcases ho'.A i hi with h1 | h1
        · rcases hA i h1 with h2 | ⟨x,hx,hxr,hxk⟩
          · exact .inl h2
          · exact .inr ⟨x,hx,fun h3=>hxr (List.mem_of_mem_erase h3),hxk⟩
        · exact .inr ⟨it,hit,hnd.not_mem_erase,hnn i h1⟩
    have hfresh : ∀ n ∈ keys it.n,N ≤ n→¬ c.A n:=fun n hn hNn hAn=>by
      rcases hA n hAn with h1 | ⟨x,hx,hxr,hxk⟩
      · omega
      · have:=huniq x hx it hit n hxk hn
        subst this
        exact hxr hj
    have hanj : memB it.j anc = false:=by
      cases hm : memB it.j anc with
      | false=>rfl
      | true=>exact absurd hj (hancx it.j (memB_ok.1 hm)).2
    have hOh : Off h:=fun i av hi x hx hk=>absurd hk (hHor i av hi x hx)
    unfold wpOp
    simp only [ho]
    rcases hok with ⟨heo,hok⟩ | ⟨ns',hok,hns'⟩
    · have hbe : be (rem.erase it.j) = be rem:=filA_congr fun i hi=>by
        rw [Bool.eq_iff_iff,List.all_eq_true,List.all_eq_true]
        refine forall_congr' fun x=>forall_congr' fun hx=>?_
        by_cases e : x.j = it.j
        · rw [e,heo i hi];simp
        · rw [Bool.or_eq_true,Bool.or_eq_true,memB_ok,memB_ok,hnd.mem_erase_iff]
          exact ⟨fun h=>h.imp (fun h=>h) fun h=>h.2,fun h=>h.imp (fun h=>h) fun h=>⟨e,h⟩⟩
      have hZ : Off (be rem):=fun i av hi x hx hk=>absurd hk (hBor i av (hbesub rem i av hi) x hx)
      have hZY : ∀ i av,get? (be rem) i = some av→get? h i = none:=fun i av hi=>hBd i av (hbesub rem i av hi)
      have hsplit:=hcore h (be rem) hOh hZ hZY
      have hnew:=hnext h h (be rem) hsplit hOh hZY (fun i av hi=>hi)
      have hfr2 : ∀ n ∈ keys it.n,¬ c.A n:=fun n hn=>hfresh n hn (hkeys it hit n hn).1
      rw [hbe] at hfin
      cases hok with
      | run hw hd hop =>
        rw [if_pos (wants_env henv hw)]
        left
        refine hop c a henv (hout.heap.left hsplit) hout.ok hfr2 _ _ fun c' v' ho' hv'=>?_
        rw [hd]
        exact hfin c' v' _ (fun i hi=>hi) (ho'.framed hout.heap hsplit hnew) (hv' _ rfl)
      | skip hw hd hv hn =>
        rw [if_neg (by rw [wants_env henv hw];simp),hd]
        refine hfin c undef [] (fun i hi=>by cases hi) ?_ (by rw [hv];exact ⟨rfl,trivial⟩)
        have : Out c (selH (nr rem) its ++ (be rem ++ h)) (selH (nr rem) its ++ (be rem ++ h)) [] c:=.refl hout.heap hout.ok
        exact this.shrink (h'':=selH (nr (rem.erase it.j)) its ++ (be rem ++ h)) fun i av hi=>by
          rw [hnew,hn] at hi
          rw [hsplit.get];exact hi
    · have hbor : ∀ i,get? (be rem) i = (get? (be (rem.erase it.j)) i).or (get? (filA (ea it.j) B) i):=fun i=>by
        rw [hbeq,hbeq,get?_filA]
        cases he : ea it.j i with
        | true =>
          have h1 : its.all (fun x=>!ea x.j i || memB x.j rem) = true:=List.all_eq_true.2 fun x hx=>by
            cases hx2 : ea x.j i with
            | false=>rfl
            | true=>rw [hone i x hx it hit hx2 he,memB_ok.2 hj];rfl
          have h2 : its.all (fun x=>!ea x.j i || memB x.j (rem.erase it.j)) = false:=by
            rw [List.all_eq_false]
            refine ⟨it,hit,?_⟩
            rw [he]
            have : ¬ memB it.j (rem.erase it.j) = true:=fun h=>hnd.not_mem_erase (memB_ok.1 h)
            simpa using this
          rw [h1,h2,if_pos rfl,if_neg (by decide)]
          cases get? B i <;> rfl
        | false =>
          have h1 : its.all (fun x=>!ea x.j i || memB x.j (rem.erase it.j)) = its.all (fun x=>!ea x.j i || memB x.j rem):=by
            rw [Bool.eq_iff_iff,List.all_eq_true,List.all_eq_true]
            refine forall_congr' fun x=>forall_congr' fun hx=>?_
            by_cases e : x.j = it.j
            · rw [e,he];simp
            · rw [Bool.or_eq_true,Bool.or_eq_true,memB_ok,memB_ok,hnd.mem_erase_iff]
              exact ⟨fun h=>h.imp (fun h=>h) fun h=>h.2,fun h=>h.imp (fun h=>h) fun h=>⟨e,h⟩⟩
          rw [h1,if_neg (show ¬ false = true by decide)]
          split <;> simp
      have hYn : ∀ i av,get? (be (rem.erase it.j)) i = some av→get? (filA (ea it.j) B) i = none:=fun i av hi=>by
        rw [hbeq] at hi
        split at hi
        · rename_i h2
          rw [get?_filA,if_neg]
          intro he
          have:=List.all_eq_true.1 h2 it hit
          rw [he] at this
          have h3 : ¬ memB it.j (rem.erase it.j) = true:=fun h=>hnd.not_mem_erase (memB_ok.1 h)
          simp at this
          exact h3 this
        · cases hi
      have hYB : ∀ i av,get? (filA (ea it.j) B) i = some av→get? B i = some av:=fun i av hi=>by
        rw [get?_filA] at hi
        split at hi
        · exact hi
        · cases hi
      have hX : ∀ i,get? (selH (nr rem) its ++ (be (rem.erase it.j) ++ (filA (ea it.j) B ++ h))) i = get? (selH (nr rem) its ++ (be rem ++ h)) i:=fun i=>by
        rw [get?_app,get?_app,get?_app,get?_app,get?_app,hbor i]
        cases get? (selH (nr rem) its) i <;> cases get? (be (rem.erase it.j)) i <;> cases get? (filA (ea it.j) B) i <;> rfl
      have hout2 : Out c (selH (nr rem) its ++ (be rem ++ h)) (selH (nr rem) its ++ (be (rem.erase it.j) ++ (filA (ea it.j) B ++ h))) [] c:=(Out.refl hout.heap hout.ok).shrink fun i av hi=>by rw [← hX];exact hi
      have hOB : Off (filA (ea it.j) B ++ h):=fun i av hi x hx hk=>by
        rw [get?_app] at hi
        cases hb : get? (filA (ea it.j) B) i with
        | none=>rw [hb] at hi;exact hOh i av hi x hx hk
        | some u=>exact absurd hk (hBor i u (hYB i u hb) x hx)
      have hOZ : Off (be (rem.erase it.j)):=fun i av hi x hx hk=>absurd hk (hBor i av (hbesub _ i av hi) x hx)
      have hZY : ∀ i av,get? (be (rem.erase it.j)) i = some av→get? (filA (ea it.j) B ++ h) i = none:=fun i av hi=>by
        rw [get?_app,hYn i av hi,hBd i av (hbesub _ i av hi)];rfl
      have hsplit:=hcore (filA (ea it.j) B ++ h) (be (rem.erase it.j)) hOB hOZ hZY
      have hnew:=hnext (filA (ea it.j) B ++ h) h (be (rem.erase it.j)) hsplit hOB hZY (fun i av hi=>by
        rw [get?_app]
        cases hb : get? (filA (ea it.j) B) i with
        | none=>exact hi
        | some u=>have:=hBd i u (hYB i u hb);rw [hi] at this;cases this)
      have hheap:=hout2.heap
      rw [if_pos (wants_env henv hok.wants)]
      left
      refine hok.ok c a henv (hheap.left hsplit) hout.ok (fun n hn=>hfresh n (hns' n hn).1 (hns' n hn).2) _ _ fun c' v' ho' hv'=>?_
      rw [hok.dst]
      exact hfin c' v' _ (fun i hi=>(hns' i (by simpa using hi)).1) (hout2.trans (ho'.framed hheap hsplit hnew)) (hv' _ rfl)
  refine ⟨I,hdj,hitems2,?_,fun rem a w hI=>?_⟩
  · obtain ⟨c,ns,rfl,hout,hen,hb,hsz,hdf,hN0,hgl⟩:=hsim
    have hd:=Out.drew hout.heap hout.ok
    have hsel0 : selH (nr (plan.map (·.1))) its = []:=by
      have : ∀ {L : List It},(∀ x ∈ L,x.j ∈ plan.map (·.1))→selH (nr (plan.map (·.1))) L = []:=by
        intro L
        induction L with
        | nil=>intro _;rfl
        | cons x L ih =>
          intro hx
          unfold selH
          have : nr (plan.map (·.1)) x.j = false:=by
            show (!memB x.j _) = false
            rw [memB_ok.2 (hx x List.mem_cons_self)];rfl
          rw [this]
          exact ih fun y hy=>hx y (List.mem_cons_of_mem _ hy)
      exact this hjs
    refine ⟨{ c with w:=c.w.drew },ns ++ [],rfl,?_,?_,fun it hit hn=>absurd (hjs it hit) hn,fun i hi=>.inl (hb i hi),hsz,hdf,hN0,hgl⟩
    · have hbe : be (plan.map (·.1)) = B:=filA_all fun i _=>List.all_eq_true.2 fun x hx=>by rw [memB_ok.2 (hjs x hx)];simp
      rw [hsel0,hbe];exact hout.trans hd
    · have:=hen.le hd.le
      exact ⟨fun t v ht=>this.slot t v (he0k t v ht).1,this.glob⟩
  · obtain ⟨c,ns,rfl,hout,hen,hsl,hA,hsz,hdf,hN0,hgl⟩:=hI
    refine ⟨c,ns,be rem,hbesub rem,rfl,hout,hen,hsl,fun i hi=>?_,hsz,hdf,hN0,hgl⟩
    rcases hA i hi with h1 | ⟨x,hx,_,hxk⟩
    · omega
    · exact (hkeys x hx i hxk).2
theorem mkP_app : ∀ (p q : List (Nat × Nat)),mkP (p ++ q) = mkP p ++ mkP q
  | [],q=>rfl
  | x::r,q=>by
    show mkP (x::(r ++ q)) = _
    obtain ⟨x1,x2⟩:=x
    show _::mkP (r ++ q) = (_::mkP r) ++ mkP q
    rw [mkP_app r q];rfl
theorem keys_app : ∀ (h k : Asc),keys (h ++ k) = keys h ++ keys k
  | [],k=>rfl
  | p::r,k=>by
    show p.1::keys (r ++ k) = p.1::(keys r ++ keys k)
    rw [keys_app r k]
set_option maxHeartbeats 4000000 in
theorem VC.drawLM2 {F : Fr} {id : Nat} {l : List Oper} {e h g : Asc} {N : Nat} {Q : Exit→St→Prop} (p1 p2 : List (Nat × Nat)) (late : List Nat) (t1 : Nat) (tail : List Nat) (eat1 eat2 : List Nat) (hm : F.P.follows .mixedOrders = true) (hst : drawLB l.toArray F.n (p1 ++ p2) late t1 tail = true) {e0 : Asc} (he0 : dropO e (dstsOf l.toArray (mkP (p1 ++ p2))) some = some e0)
    {op : Op} {ty : TypeId} {pos : String} {af : Array Edge} {gd : Option (Nat × Bool)} (ho1 : l.toArray[t1]? = some ⟨none,op,ty,pos,af,gd⟩) {tops : List Oper} (htops : topsO l.toArray tail some = some tops) {B1 B2 hA : Asc} (hB1 : keepO h eat1 some = some B1) (hB2 : keepO h eat2 some = some B2) (hDr : dropO h (eat1 ++ eat2) some = some hA) (hdis : (eat1.all fun i=>!memB i eat2) = true)
    (hD : DSeq F.P l.toArray g e0 hA (mkP p1) [] N B1 (fun its1 N1 B'=>B' = []∧DSeq F.P l.toArray g e0 hA (mkP p2) its1 N1 B2 (fun its N' B''=>B'' = []∧(its.all fun it=>(keys it.n).all (Nat.ble N)) = true∧∃ H2,OpOk F.P ⟨none,op,ty,pos,af,gd⟩ g (selE (nrem late) its ++ e0) (selH allB its ++ hA) none H2 []∧wants l.toArray ⟨none,op,ty,pos,af,gd⟩ (selE (nrem late) its ++ e0) = some true ∧
      (∀ it ∈ its,it.j ∈ late→LateOk F.P l.toArray g (selE (nrem late) its ++ e0) it)∧Seq F l.toArray tops ⟨selE allB its ++ e0,H2,g,N'⟩ (Q .normal)))) : VC F (.region id l.toArray true) Q ⟨e,h,g,N⟩:=by
  obtain ⟨plan,hpl⟩ : ∃ plan,plan = p1 ++ p2:=⟨_,rfl⟩
  rw [← hpl] at hst he0
  simp only [drawLB,Bool.and_eq_true] at hst
  obtain ⟨s1,s2,s3,s4,s6,s7,s8,s9,s10,s11,s12⟩:=hst
  obtain ⟨tops',htops1,htops2⟩:=topsO_ok htops
  cases htops2
  rw [keepO_eq] at hB1 hB2
  rw [dropO_eq] at hDr
  cases hB1;cases hB2;cases hDr
  have hP:=nodupB_ok s1
  have hmk : mkP plan = mkP p1 ++ mkP p2:=by rw [hpl,mkP_app]
  have hk1 : ∀ i,i ∈ keys (keepL h eat1)→memB i eat1 = true:=fun i hi=>by
    obtain ⟨av,hav⟩:=keys_get hi
    rw [get?_keep] at hav
    by_cases hm : memB i eat1 = true
    · exact hm
    · rw [if_neg hm] at hav;cases hav
  have hk2 : ∀ i,i ∈ keys (keepL h eat2)→memB i eat2 = true:=fun i hi=>by
    obtain ⟨av,hav⟩:=keys_get hi
    rw [get?_keep] at hav
    by_cases hm : memB i eat2 = true
    · exact hm
    · rw [if_neg hm] at hav;cases hav
  have hd12 : ∀ i,memB i eat1 = true→memB i eat2 = false:=fun i hi=>by
    have:=List.all_eq_true.1 hdis i (memB_ok.1 hi)
    simpa using this
  have hma : ∀ i,memB i (eat1 ++ eat2) = (memB i eat1 || memB i eat2):=fun i=>by
    rw [Bool.eq_iff_iff,Bool.or_eq_true,memB_ok,memB_ok,memB_ok,List.mem_append]
  have hBd : ∀ i av,get? (keepL h eat1 ++ keepL h eat2) i = some av→get? (dropL h (eat1 ++ eat2)) i = none:=fun i av hi=>by
    have hi2:=get?_keys hi
    rw [get?_drop,if_pos]
    rw [hma,Bool.or_eq_true]
    rw [keys_app,List.mem_append] at hi2
    exact hi2.imp (hk1 i) (hk2 i)
  refine VC.conv (s':=⟨e,(keepL h eat1 ++ keepL h eat2) ++ dropL h (eat1 ++ eat2),g,N⟩) (Sim.heap fun i=>?_) ?_
  · rw [get?_app,get?_app,get?_keep,get?_keep,get?_drop,hma]
    cases h1 : memB i eat1 <;> cases h2 : memB i eat2 <;> cases get? h i <;> rfl
  intro a w hsim QC hQ
  refine F.L.any hm (Og.acyc_def s4) ?_
  have hBN : ∀ i ∈ keys (keepL h eat1 ++ keepL h eat2),i < N:=fun i hi=>by
    obtain ⟨av,hav⟩:=keys_get hi
    obtain ⟨c1,n1,_,ho1,_,hb1,_⟩:=hsim
    exact hb1 i (ho1.heap.A i av (by rw [get?_app,hav];rfl))
  have hnd12 : ((mkP p1).map (·.1)).Nodup∧((mkP p2).map (·.1)).Nodup∧∀ x ∈ (mkP p1).map (·.1),∀ y ∈ (mkP p2).map (·.1),x ≠ y:=by
    have:=hP
    rw [hmk,List.map_append] at this
    exact List.nodup_append.1 this
  obtain ⟨post1,N1,B1',ea1,⟨hB1',hD2⟩,hmap1,hN1,hkeys1,huniq1,heats1,hitems1⟩:=hD.out hnd12.1 (fun i hi=>hBN i (by rw [keys_app,List.mem_append];exact .inl hi))
  rw [List.nil_append] at hD2
  obtain ⟨post2,N',B2',ea2,⟨hB2',hnew,H2,hok1,hw1,hlate,hseq⟩,hmap2,hN2,hkeys2,huniq2,heats2,hitems2⟩:=hD2.out hnd12.2.1 (fun i hi=>Nat.lt_of_lt_of_le (hBN i (by rw [keys_app,List.mem_append];exact .inr hi)) hN1)
  have hnw : ∀ it ∈ post1 ++ post2,∀ i ∈ keys it.n,N ≤ i:=fun it hit i hi=>by
    have:=List.all_eq_true.1 (List.all_eq_true.1 hnew it hit) i hi
    simpa [Nat.ble_eq] using this
  have hj1 : ∀ it ∈ post1,it.j ∈ (mkP p1).map (·.1):=fun it hit=>by rw [← hmap1];exact List.mem_map.2 ⟨it,hit,rfl⟩
  have hj2 : ∀ it ∈ post2,it.j ∈ (mkP p2).map (·.1):=fun it hit=>by rw [← hmap2];exact List.mem_map.2 ⟨it,hit,rfl⟩
  have hb1 : ∀ i ∈ keys (keepL h eat1),i < N:=fun i hi=>hBN i (by rw [keys_app,List.mem_append];exact .inl hi)
  have hb2 : ∀ i ∈ keys (keepL h eat2),i < N:=fun i hi=>hBN i (by rw [keys_app,List.mem_append];exact .inr hi)
  have hq1 : ∀ it ∈ post1,∀ i ∈ keys it.n,N ≤ i∧i < N1:=fun it hit i hi=>by
    have h1:=hnw it (List.mem_append_left _ hit) i hi
    rcases hkeys1 it hit i hi with h2 | ⟨_,h2⟩
    · exact h2
    · have:=hb1 i h2;omega
  have hq2 : ∀ it ∈ post2,∀ i ∈ keys it.n,N1 ≤ i∧i < N':=fun it hit i hi=>by
    have h1:=hnw it (List.mem_append_right _ hit) i hi
    rcases hkeys2 it hit i hi with h2 | ⟨_,h2⟩
    · exact h2
    · have:=hb2 i h2;omega
  have hmem : ∀ {x : Nat} {L : List Nat},memB x L = true ↔ x ∈ L:=memB_ok
  let its:=post1 ++ post2
  let ea : Nat→Nat→Bool:=fun j i=>(memB j ((mkP p1).map (·.1)) && ea1 j && memB i eat1) || (memB j ((mkP p2).map (·.1)) && ea2 j && memB i eat2)
  have hea1 : ∀ it ∈ post1,∀ i,ea it.j i = (ea1 it.j && memB i eat1):=fun it hit i=>by
    have h1 : memB it.j ((mkP p1).map (·.1)) = true:=memB_ok.2 (hj1 it hit)
    have h2 : memB it.j ((mkP p2).map (·.1)) = false:=by
      cases hx : memB it.j ((mkP p2).map (·.1)) with
      | false=>rfl
      | true=>exact absurd rfl (hnd12.2.2 _ (hj1 it hit) _ (memB_ok.1 hx))
    show ((memB it.j _ && ea1 it.j && memB i eat1) || (memB it.j _ && ea2 it.j && memB i eat2)) = _
    rw [h1,h2];simp
  have hea2 : ∀ it ∈ post2,∀ i,ea it.j i = (ea2 it.j && memB i eat2):=fun it hit i=>by
    have h1 : memB it.j ((mkP p2).map (·.1)) = true:=memB_ok.2 (hj2 it hit)
    have h2 : memB it.j ((mkP p1).map (·.1)) = false:=by
      cases hx : memB it.j ((mkP p1).map (·.1)) with
      | false=>rfl
      | true=>exact absurd rfl (hnd12.2.2 _ (memB_ok.1 hx) _ (hj2 it hit))
    show ((memB it.j _ && ea1 it.j && memB i eat1) || (memB it.j _ && ea2 it.j && memB i eat2)) = _
    rw [h1,h2];simp
  have hf1 : ∀ it ∈ post1,ea1 it.j = true→filA (ea it.j) (keepL h eat1 ++ keepL h eat2) = keepL h eat1:=fun it hit he=>by
    rw [filA_app,filA_all (fun i hi=>by rw [hea1 it hit,he,hk1 i hi];rfl),filA_none (fun i hi=>by
      rw [hea1 it hit]
      cases hx : memB i eat1 with
      | false=>simp
      | true=>have:=hd12 i hx;rw [hk2 i hi] at this;cases this),List.append_nil]
  have hf2 : ∀ it ∈ post2,ea2 it.j = true→filA (ea it.j) (keepL h eat1 ++ keepL h eat2) = keepL h eat2:=fun it hit he=>by
    rw [filA_app,filA_none (fun i hi=>by rw [hea2 it hit,hd12 i (hk1 i hi)];simp),filA_all (fun i hi=>by rw [hea2 it hit,he,hk2 i hi];rfl),List.nil_append]
  have hF : Feed F.P l.toArray g e0 (dropL h (eat1 ++ eat2)) (keepL h eat1 ++ keepL h eat2) (mkP plan) its N N' ea:=by
    refine ⟨by rw [hmk,List.map_append,List.map_append,hmap1,hmap2],fun it hit i hi=>?_,Nat.le_trans hN1 hN2,fun x hx y hy i hxi hyi=>?_,fun it hit=>?_,fun i x hx y hy hxe hye=>?_⟩
    · rcases List.mem_append.1 hit with h1 | h1
      · have:=hq1 it h1 i hi;omega
      · have:=hq2 it h1 i hi;omega
    · rcases List.mem_append.1 hx with h1 | h1 <;> rcases List.mem_append.1 hy with h2 | h2
      · exact huniq1 x h1 y h2 i hxi hyi
      · have:=hq1 x h1 i hxi;have:=hq2 y h2 i hyi;omega
      · have:=hq2 x h1 i hxi;have:=hq1 y h2 i hyi;omega
      · exact huniq2 x h1 y h2 i hxi hyi
    · rcases List.mem_append.1 hit with h1 | h1
      · obtain ⟨a1,b1,e1⟩:=List.append_of_mem h1
        obtain ⟨anc,o,q1,q2,q3⟩:=hitems1 a1 it b1 e1
        refine ⟨a1,b1 ++ post2,anc,o,by show post1 ++ post2 = _;rw [e1];simp,by rw [hmk];exact List.mem_append_left _ q1,q2,?_⟩
        rcases q3 with ⟨q3,q4⟩ | ⟨q3,ns,q4,q5⟩
        · exact .inl ⟨fun i _=>by rw [hea1 it h1,q3];rfl,by simpa using q4⟩
        · exact .inr ⟨ns,by rw [hf1 it h1 q3];simpa using q4,q5⟩
      · obtain ⟨a1,b1,e1⟩:=List.append_of_mem h1
        obtain ⟨anc,o,q1,q2,q3⟩:=hitems2 a1 it b1 e1
        refine ⟨post1 ++ a1,b1,anc,o,by show post1 ++ post2 = _;rw [e1];simp,by rw [hmk];exact List.mem_append_right _ q1,q2,?_⟩
        rcases q3 with ⟨q3,q4⟩ | ⟨q3,ns,q4,q5⟩
        · exact .inl ⟨fun i _=>by rw [hea2 it h1,q3];rfl,q4⟩
        · exact .inr ⟨ns,by rw [hf2 it h1 q3];exact q4,fun i hi=>⟨(q5 i hi).1,Nat.le_trans hN1 (q5 i hi).2⟩⟩
    · have he1 : ∀ it ∈ post1,ea it.j i = true→ea1 it.j = true∧memB i eat1 = true:=fun it hit he=>by
        rw [hea1 it hit,Bool.and_eq_true] at he;exact he
      have he2 : ∀ it ∈ post2,ea it.j i = true→ea2 it.j = true∧memB i eat2 = true:=fun it hit he=>by
        rw [hea2 it hit,Bool.and_eq_true] at he;exact he
      rcases List.mem_append.1 hx with h1 | h1 <;> rcases List.mem_append.1 hy with h2 | h2
      · exact heats1.one x h1 y h2 (he1 x h1 hxe).1 (he1 y h2 hye).1
      · have:=hd12 i (he1 x h1 hxe).2;rw [(he2 y h2 hye).2] at this;cases this
      · have:=hd12 i (he1 y h2 hye).2;rw [(he2 x h1 hxe).2] at this;cases this
      · exact heats2.one x h1 y h2 (he2 x h1 hxe).1 (he2 y h2 hye).1
  have hmap : its.map (·.j) = (mkP plan).map (·.1):=hF.map
  obtain ⟨I,hdj,hitems,hinit,hfin⟩:=drawn_core3 (mkP plan) hBd s1 s2 s3 s4 (ancM_ok (fun i hi=>by rw [tbb_zero] at hi;cases hi) s6) he0 hF a w hsim
  have hlt : ∀ j ∈ (mkP plan).map (·.1),j < l.toArray.size:=fun j hj=>by
    have:=List.all_eq_true.1 s2 j hj
    simp only [Bool.and_eq_true] at this
    simpa [Nat.blt_eq] using this.1
  have ht1 : t1 ∉ (mkP plan).map (·.1):=fun hx=>by rw [memB_ok.2 hx] at s7;cases s7
  have hds : ((mkP plan).map (·.1) ++ [t1]).Nodup:=List.nodup_append.2 ⟨hP,by simp,fun x hx y hy e=>by
    rw [List.mem_singleton.1 hy] at e
    exact ht1 (e ▸ hx)⟩
  have her : ((mkP plan).map (·.1) ++ [t1]).erase t1 = (mkP plan).map (·.1):=by
    rw [List.erase_append_right _ ht1];simp
  have hln : ∀ it ∈ its,it.j ∈ late→it.n = []:=fun it hit hj=>(hlate it hit hj).1
  let I2 : List Nat→Act→World→Prop:=fun rem a w=>(∀ i ∈ rem,i ∈ late∧i ∈ (mkP plan).map (·.1))∧∃ (c : Ctx) (ns : List Nat),c.w = w∧Out F.c0 F.h0 H2 ns c∧EnvRep c g e0 a∧(∀ it ∈ its,it.j ∉ rem→it.d < a.tmps.size∧Rep c it.v .V [a.tmps.getD it.d undef]) ∧
    (∀ i,c.A i→i < N')∧a.tmps.size = F.n∧a.defers = F.D∧(∀ i,F.c0.A i→i < F.N0)∧∀ x v,get? g x = some v→Rep F.c0 (.rptr false v) .V [.pointer (some ⟨x,0,none⟩)]
  let J : List Nat→Act→World→Prop:=fun rem a w=>if t1 ∈ rem then I (rem.erase t1) a w else I2 rem a w
  have henvL : ∀ {c : Ctx} {a : Act} {r : List Nat},(∀ i ∈ r,i ∈ late)→EnvRep c g e0 a→(∀ it ∈ its,it.j ∉ r→it.d < a.tmps.size∧Rep c it.v .V [a.tmps.getD it.d undef])→EnvRep c g (selE (nrem late) its ++ e0) a:=fun {c a r} hr hen hsl=>by
    refine ⟨fun t v ht=>?_,hen.glob⟩
    rw [get?_app] at ht
    cases hs : get? (selE (nrem late) its) t with
    | none=>rw [hs] at ht;exact hen.slot t v ht
    | some u =>
      rw [hs] at ht
      simp only [Option.some_or,Option.some.injEq] at ht
      subst ht
      obtain ⟨x,hx,hxl,rfl,rfl⟩:=selE_get hs
      refine hsl x hx fun hxr=>?_
      have:=hr _ hxr
      unfold nrem at hxl
      rw [memB_ok.2 this] at hxl;cases hxl
  have hjinj : ∀ x ∈ its,∀ y ∈ its,x.d = y.d→x.j = y.j:=fun x hx y hy e=>dsts_inj (nodupB_ok s3) (by rw [← hmap];exact List.mem_map.2 ⟨x,hx,rfl⟩) (by rw [← hmap];exact List.mem_map.2 ⟨y,hy,rfl⟩) (hdj x hx) (by rw [e];exact hdj y hy)
  have hjj : ∀ x ∈ its,∀ y ∈ its,x.j = y.j→x = y:=by
    have hnd : (its.map (·.j)).Nodup:=by rw [hmap];exact hP
    have : ∀ {L : List It},(L.map (·.j)).Nodup→∀ x ∈ L,∀ y ∈ L,x.j = y.j→x = y:=by
      intro L
      induction L with
      | nil=>intro _ x hx;cases hx
      | cons z L ih =>
        intro hn x hx y hy e
        simp only [List.map_cons,List.nodup_cons] at hn
        rcases List.mem_cons.1 hx with hx2 | hx2 <;> rcases List.mem_cons.1 hy with hy2 | hy2
        · rw [hx2,hy2]
        · exact absurd (List.mem_map.2 ⟨y,hy2,by rw [← hx2];exact e.symm⟩) hn.1
        · exact absurd (List.mem_map.2 ⟨x,hx2,by rw [← hy2];exact e⟩) hn.1
        · exact ih hn.2 x hx2 y hy2 e
    exact this hnd
  have he0k : ∀ t v,get? e0 t = some v→t ∉ dstsOf l.toArray (mkP plan):=fun t v ht=>by
    rw [dropO_eq] at he0
    simp only [Option.some.injEq] at he0
    rw [← he0,get?_drop] at ht
    by_cases hm : memB t (dstsOf l.toArray (mkP plan)) = true
    · rw [if_pos hm] at ht;cases ht
    · exact fun x=>hm (memB_ok.2 x)
  have hsz0 : l.toArray.size = tail.length + ((mkP plan).map (·.1) ++ [t1]).length:=by have:=Nat.eq_of_beq_eq_true s12;omega
  suffices hgoal : wpAny F.P .any l.toArray QC (tail.length + ((mkP plan).map (·.1) ++ [t1]).length) (Array.replicate l.toArray.size false) a { w with drawn:=w.drawn + 1 } by rw [hsz0.symm] at hgoal;exact hgoal
  refine og2 (I:=J) (ds:=(mkP plan).map (·.1) ++ [t1]) hds (fun j hj=>?_) s4 (fun j hj=>?_) (fun rem hnd hsub j hj hwj hdown a w hJ=>?_) (fun a w hJ=>?_) _ ((mkP plan).map (·.1) ++ [t1]) (Array.replicate l.toArray.size false) a _ rfl hds (fun i hi=>hi) (by simp) (fun i hi=>?_) (fun j o ho hl=>?_) ?_
  · rcases List.mem_append.1 hj with hj | hj
    · exact hlt j hj
    · rw [List.mem_singleton.1 hj];simpa [Nat.blt_eq] using s8
  · have:=List.all_eq_true.1 s9 j (List.mem_range.2 hj)
    rw [Bool.or_eq_true] at this
    exact this.imp memB_ok.1 fun h1 i hi=>List.all_eq_true.1 h1 i hi
  · by_cases ht : t1 ∈ rem
    · have hJ : I (rem.erase t1) a w:=by
        have hJ : (if t1 ∈ rem then I (rem.erase t1) a w else I2 rem a w):=hJ
        rwa [if_pos ht] at hJ
      have hsubP : ∀ i ∈ rem.erase t1,i ∈ (mkP plan).map (·.1):=fun i hi=>by
        have h2:=(hnd.mem_erase_iff).1 hi
        rcases List.mem_append.1 (hsub i h2.2) with h3 | h3
        · exact h3
        · exact absurd (List.mem_singleton.1 h3) h2.1
      have hnot : ∀ i ∈ (mkP plan).map (·.1),(i ∉ rem.erase t1 ↔ i ∉ rem):=fun i hi=>by
        rw [hnd.mem_erase_iff]
        exact ⟨fun h1 h2=>h1 ⟨fun e=>ht1 (e ▸ hi),h2⟩,fun h1 h2=>h1 h2.2⟩
      by_cases hjt : j = t1
      · subst hjt
        have hrl : ∀ i ∈ rem.erase j,i ∈ late:=fun i hi=>by
          have hiP:=hsubP i hi
          have h3:=List.all_eq_true.1 s10 i hiP
          rw [Bool.or_eq_true] at h3
          rcases h3 with h3 | h3
          · exact memB_ok.1 h3
          · refine absurd ((hnd.mem_erase_iff).1 hi).2 (cov_done (l:=(mkP plan).map (·.1)) (rem:=rem) (fun i k hi1 hi2 hw hk=>hdown i k (List.mem_append_left _ hi1) hi2 hw (List.mem_append_left _ hk)) _ j i (fun k hk hkP=>hwj k hk (List.mem_append_left _ hkP)) hiP h3)
        obtain ⟨c,ns,Bx,hBx,rfl,hout,hen,hsl,hA,hsz,hdf,hN0,hgl⟩:=hfin _ _ _ hJ
        rw [selH_late hln hrl] at hout
        have hsub : ∀ i av,get? (selH allB its ++ dropL h (eat1 ++ eat2)) i = some av→get? (selH allB its ++ (Bx ++ dropL h (eat1 ++ eat2))) i = some av:=fun i av hi=>by
          rw [get?_app]
          rw [get?_app] at hi
          cases hs : get? (selH allB its) i with
          | some u=>rw [hs] at hi;exact hi
          | none =>
            rw [hs] at hi
            rw [get?_app]
            cases hx : get? Bx i with
            | none=>exact hi
            | some u =>
              have:=hBd i u (hBx i u hx)
              simp only [Option.none_or] at hi
              rw [this] at hi;cases hi
        have hout:=hout.shrink hsub
        have henv:=henvL hrl hen hsl
        unfold wpOp
        simp only [ho1]
        rw [if_pos (wants_env henv hw1)]
        left
        refine hok1 c a henv hout.heap hout.ok (fun n hn=>by cases hn) _ _ fun c' v' ho' _=>?_
        show (if j ∈ rem.erase j then _ else I2 (rem.erase j) a c'.w)
        rw [if_neg hnd.not_mem_erase]
        refine ⟨fun i hi=>⟨hrl i hi,hsubP i hi⟩,c',_,rfl,hout.trans ho',hen.le ho'.le,fun x hx hxr=>⟨(hsl x hx hxr).1,(hsl x hx hxr).2.le ho'.le⟩,fun i hi=>?_,hsz,hdf,hN0,hgl⟩
        rcases ho'.A i hi with h1 | h1
        · exact hA i h1
        · cases h1
      · have hjP : j ∈ rem.erase t1:=(hnd.mem_erase_iff).2 ⟨hjt,hj⟩
        refine wpOp_mono (fun a' w' hI'=>?_) (hitems QC (rem.erase t1) (hnd.erase t1) hsubP j hjP (fun i hw hi=>(hnot i hi).2 (hwj i hw (List.mem_append_left _ hi))) (fun i k hi hir hw hk=>(hnot k hk).2 (hdown i k (List.mem_append_left _ hi) ((hnot i hi).1 hir) hw (List.mem_append_left _ hk))) a w hJ)
        show (if t1 ∈ rem.erase j then I ((rem.erase j).erase t1) a' w' else _)
        rw [if_pos ((hnd.mem_erase_iff).2 ⟨fun e=>hjt e.symm,ht⟩),List.erase_comm]
        exact hI'
    · have hJ : I2 rem a w:=by
        have hJ : (if t1 ∈ rem then I (rem.erase t1) a w else I2 rem a w):=hJ
        rwa [if_neg ht] at hJ
      obtain ⟨hrl,c,ns,rfl,hout,hen,hsl,hA,hsz,hdf,hN0,hgl⟩:=hJ
      obtain ⟨hjl,hjP⟩:=hrl j hj
      obtain ⟨it,hit,rfl⟩ : ∃ it ∈ its,it.j = j:=by
        rw [← hmap] at hjP
        obtain ⟨it,h1,h2⟩:=List.mem_map.1 hjP
        exact ⟨it,h1,h2⟩
      obtain ⟨_,o,ho,hod,how,hoo⟩:=hlate it hit hjl
      have henv:=henvL (fun i hi=>(hrl i hi).1) hen hsl
      unfold wpOp
      simp only [ho]
      rw [if_pos (wants_env henv how)]
      left
      refine hoo H2 c a henv hout.heap hout.ok (fun n hn=>by cases hn) _ _ fun c' v' ho' hv'=>?_
      rw [hod]
      show (if t1 ∈ rem.erase it.j then _ else I2 (rem.erase it.j) (a.put (some it.d) v') c'.w)
      rw [if_neg fun h1=>ht (List.mem_of_mem_erase h1)]
      have hdd:=(List.all_eq_true.1 s2 it.j hjP)
      simp only [Bool.and_eq_true,hdj it hit] at hdd
      have hd2 : it.d < F.n:=by simpa [Nat.blt_eq] using hdd.2
      refine ⟨fun i hi=>hrl i (List.mem_of_mem_erase hi),c',_,rfl,hout.trans ho',?_,fun x hx hxr=>?_,fun i hi=>?_,by rw [put_size];exact hsz,by rw [put_defers];exact hdf,hN0,hgl⟩
      · refine ⟨fun t v ht=>?_,(hen.le ho'.le).glob⟩
        have hne : t ≠ it.d:=fun e=>he0k t v ht (by rw [e];exact dstsOf_mem hjP (hdj it hit))
        obtain ⟨q1,q2⟩:=hen.slot t v ht
        refine ⟨by rw [put_size];exact q1,?_⟩
        have : (a.put (some it.d) v').tmps.getD t undef = a.tmps.getD t undef:=by simp [Act.put,Array.getElem?_setIfInBounds,Ne.symm hne]
        rw [this];exact q2.le ho'.le
      · by_cases ex : x = it
        · subst ex
          refine ⟨by rw [put_size,hsz];exact hd2,?_⟩
          have : (a.put (some x.d) v').tmps.getD x.d undef = v':=by
            have : x.d < a.tmps.size:=by rw [hsz];exact hd2
            simp [Act.put,this]
          rw [this];exact hv' _ rfl
        · have hxj : x.j ≠ it.j:=fun e'=>ex (hjj x hx it hit e')
          obtain ⟨q1,q2⟩:=hsl x hx (fun h1=>hxr ((hnd.mem_erase_iff).2 ⟨hxj,h1⟩))
          have hne : x.d ≠ it.d:=fun e'=>hxj (hjinj x hx it hit e')
          refine ⟨by rw [put_size];exact q1,?_⟩
          have : (a.put (some it.d) v').tmps.getD x.d undef = a.tmps.getD x.d undef:=by simp [Act.put,Array.getElem?_setIfInBounds,Ne.symm hne]
          rw [this];exact q2.le ho'.le
      · rcases ho'.A i hi with h1 | h1
        · exact hA i h1
        · cases h1
  · have hJ : I2 [] a w:=by
      have hJ : (if t1 ∈ ([] : List Nat) then I (([] : List Nat).erase t1) a w else I2 [] a w):=hJ
      rwa [if_neg (by simp)] at hJ
    obtain ⟨_,c,ns,rfl,hout,hen,hsl,hA,hsz,hdf,hN0,hgl⟩:=hJ
    refine tail_wp hseq (fun s' a' w' hq hs'=>hQ _ _ _ _ hq hs') tail _ htops1 s11 a _ ⟨c,ns,rfl,hout,⟨fun t v ht=>?_,hen.glob⟩,hA,hsz,hdf,hN0,hgl⟩
    have ht : get? (selE allB its ++ e0) t = some v:=ht
    rw [get?_app] at ht
    cases hs : get? (selE allB its) t with
    | none=>rw [hs] at ht;exact hen.slot t v ht
    | some u =>
      rw [hs] at ht
      simp only [Option.some_or,Option.some.injEq] at ht
      subst ht
      obtain ⟨x,hx,_,rfl,rfl⟩:=selE_get hs
      exact hsl x hx (by simp)
  · constructor
    · intro h;rw [Og.repF] at h;cases h
    · rintro ⟨h1,h2⟩;exact absurd h1 h2
  · rw [Og.repF] at hl;cases hl
  · show (if t1 ∈ (mkP plan).map (·.1) ++ [t1] then I (((mkP plan).map (·.1) ++ [t1]).erase t1) a _ else _)
    rw [if_pos (by simp),her]
    exact hinit
end Go.V
