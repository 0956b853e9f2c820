/- Journals, plain: the journal of records in a row. The reference's journals: has, blank. A region that draws its order, two operations of which take objects, one behind the other. -/
import Derived.Test.YtmbldnahcmkpgaaGreatDoorAr
import Derived.Test.YtmbldnahcmkpgaaGreatDoorFg
set_option linter.unusedSimpArgs false
set_option linter.unusedVariables false
namespace Go.Proofs.YtmbldnahcmkpgaaGreatDoor
open Go.V Go.RowKit Go.L Go.Lx Go.Jn Go.Dk
set_option maxRecDepth 20000
theorem unp_zs : unp zs = noPart:=unp_no fun h=>by
  have h1:=h.n1
  have : secNum zs = 0:=by decide
  omega
theorem blank_zs : isBlank zs:=by
  intro i _
  exact zs_get i
theorem nextOf_ge (L : List Bs) : ∀ k i,i < k→((unp (L.getD i [])).num : Int) + 1 ≤ nextOf L k
  | 0,i,h=>absurd h (Nat.not_lt_zero _)
  | k + 1,i,h=>by
    rw [nextOf]
    by_cases e : i = k
    · subst e;omega
    · have:=nextOf_ge L k i (by omega);omega
theorem nextOf_le' (L : List Bs) (m : Nat) : ∀ k,(∀ i,i < k→(unp (L.getD i [])).num ≤ m)→nextOf L k ≤ (m : Int) + 1
  | 0,_=>by rw [nextOf];omega
  | k + 1,h=>by
    have h1:=nextOf_le' L m k fun i hi=>h i (by omega)
    have h2:=h k (by omega)
    rw [nextOf];omega
theorem bads_nil (L : List Bs) : ∀ k,(∀ i,i < k→(unp (L.getD i [])).ok = true ∨ isBlank (L.getD i []))→bads L k = []
  | 0,_=>rfl
  | k + 1,h=>by
    rw [bads,bads_nil L k fun i hi=>h i (by omega),if_neg]
    rintro ⟨h1,h2⟩
    rcases h k (by omega) with h3 | h3
    · rw [h1] at h3;cases h3
    · exact h2 h3
theorem stopAt_down (L : List Bs) (j : Nat) : ∀ k,(∀ i,j ≤ i→i < j + k→isBlank (L.getD i []))→stopAt L (j + k) = stopAt L j
  | 0,_=>rfl
  | k + 1,h=>by
    show stopAt L ((j + k) + 1) = _
    rw [stopAt,if_pos (h (j + k) (by omega) (by omega))]
    exact stopAt_down L j k fun i h1 h2=>h i h1 (by omega)
theorem stopAt_full (L : List Bs) (j : Nat) (h : ∀ i,i < j→¬ isBlank (L.getD i [])) : stopAt L j = j:=by
  cases j with
  | zero=>rfl
  | succ j=>rw [stopAt,if_neg (h j (by omega))]
theorem app_l {X Y : List Bs} {i : Nat} (h : i < X.length) : (X ++ Y).getD i [] = X.getD i []:=app_lt h
theorem app_r {X Y : List Bs} {i : Nat} (h : X.length ≤ i) : (X ++ Y).getD i [] = Y.getD (i - X.length) []:=by
  rw [List.getD_eq_getElem?_getD,List.getElem?_append_right h,← List.getD_eq_getElem?_getD]
theorem allX_mem : ∀ (T : List Bs) (k : Nat) (s : Bs),s ∈ allX k T→∃ j q,j < T.length∧q < cnt (T.getD j []).length∧s = (parts (k + j) (T.getD j [])).getD q []
  | [],k,s,h=>by cases h
  | t :: r,k,s,h=>by
    rcases List.mem_append.1 h with h | h
    · obtain ⟨q,hq,e⟩:=List.mem_iff_getElem.1 h
      rw [parts_len] at hq
      refine ⟨0,q,by rw [List.length_cons];omega,hq,?_⟩
      show s = (parts (k + 0) t).getD q []
      rw [Nat.add_zero,List.getD_eq_getElem?_getD,List.getElem?_eq_getElem (by rw [parts_len];exact hq)]
      exact e.symm
    · obtain ⟨j,q,h1,h2,h3⟩:=allX_mem r (k + 1) s h
      refine ⟨j + 1,q,by rw [List.length_cons];omega,h2,?_⟩
      rw [h3,show k + 1 + j = k + (j + 1) by omega];rfl
theorem allX_fine {T : List Bs} {k : Nat} (h1 : 1 ≤ k) (h2 : k + T.length ≤ 4097) (h3 : ∀ t ∈ T,t.length ≤ 8000) {s : Bs} (hs : s ∈ allX k T) : (unp s).ok = true∧k ≤ (unp s).num∧(unp s).num < k + T.length∧¬ isBlank s∧s.length = 64:=by
  obtain ⟨j,q,q1,q2,q3⟩:=allX_mem T k s hs
  have ht : (T.getD j []).length ≤ 8000:=h3 _ (Go.Lx.getD_mem q1)
  have hu:=unp_parts (n:=k + j) (by omega) (by omega) ht q2
  rw [← q3] at hu
  rw [hu]
  refine ⟨rfl,by show k ≤ k + j;omega,by show k + j < _;omega,?_,?_⟩
  · rw [q3,parts_get q2]
    exact not_blank_sec (by omega) (by omega)
  · rw [q3,parts_get q2]
    exact sec_len _ _ _
theorem allX_last : ∀ (T : List Bs) (k : Nat),T ≠ []→1 ≤ k→k + T.length ≤ 4097→(∀ t ∈ T,t.length ≤ 8000)→∃ s ∈ allX k T,(unp s).num + 1 = k + T.length
  | [],k,h,_,_,_=>absurd rfl h
  | [t],k,_,h1,h2,h3=>by
    have ht:=h3 t List.mem_cons_self
    have hc : 0 < cnt t.length:=cnt_pos (by omega) (by omega)
    refine ⟨(parts k t).getD 0 [],List.mem_append_left _ (Go.Lx.getD_mem (by rw [parts_len];exact hc)),?_⟩
    rw [unp_parts h1 (by rw [List.length_singleton] at h2;omega) ht hc];rfl
  | t::u::r,k,_,h1,h2,h3=>by
    obtain ⟨s,hs,e⟩:=allX_last (u::r) (k + 1) (by simp) (by omega) (by rw [List.length_cons] at h2;omega) (fun t ht=>h3 t (List.mem_cons_of_mem _ ht))
    refine ⟨s,List.mem_append_right _ hs,?_⟩
    rw [e,List.length_cons]
    rw [List.length_cons,List.length_cons];omega
theorem opn_X {T : List Bs} {z : Nat} (hT : T.length ≤ 4096) (h3 : ∀ t ∈ T,t.length ≤ 8000) : opn (allX 1 T ++ List.replicate z zs) = ⟨allR 1 T,[],(T.length : Int) + 1,(allX 1 T).length,false⟩:=by
  have hf:=fun s hs=>allX_fine (T:=T) (k:=1) (by omega) (by omega) h3 (s:=s) hs
  generalize hL : allX 1 T ++ List.replicate z zs = L
  have hlen : L.length = (allX 1 T).length + z:=by rw [← hL];simp
  have hget : ∀ i,i < (allX 1 T).length→L.getD i [] ∈ allX 1 T:=fun i hi=>by
    rw [← hL,app_l hi];exact Go.Lx.getD_mem hi
  have hgz : ∀ i,(allX 1 T).length ≤ i→i < L.length→L.getD i [] = zs:=fun i h1 h2=>by
    rw [← hL,app_r h1,List.getD_eq_getElem?_getD,List.getElem?_replicate,if_pos (by omega)];rfl
  have hR : scan 0 (L.map unp) [] = allR 1 T:=by
    rw [← hL,List.map_append,scan_all T 1 _ [] (by omega) (by omega) h3 (fun i hi=>by cases hi),List.nil_append,scan_none]
    intro i hi
    rw [List.length_map,List.length_replicate] at hi
    rw [List.getD_eq_getElem?_getD,List.getElem?_map,List.getElem?_replicate,if_pos hi]
    show (unp zs).ok = false
    rw [unp_zs];rfl
  have hB : bads L L.length = []:=bads_nil L _ fun i hi=>by
    rcases Nat.lt_or_ge i (allX 1 T).length with h | h
    · exact .inl (hf _ (hget i h)).1
    · exact .inr (by rw [hgz i h hi];exact blank_zs)
  have hS : stopAt L L.length = (allX 1 T).length:=by
    rw [hlen,stopAt_down L _ z fun i h1 h2=>by rw [hgz i h1 (by omega)];exact blank_zs]
    exact stopAt_full L _ fun i hi=>(hf _ (hget i hi)).2.2.2.1
  have hN : nextOf L L.length = (T.length : Int) + 1:=by
    have h1 : nextOf L L.length ≤ (T.length : Int) + 1:=nextOf_le' L T.length _ fun i hi=>by
      rcases Nat.lt_or_ge i (allX 1 T).length with h | h
      · have:=(hf _ (hget i h)).2.2.1;omega
      · rw [hgz i h hi,unp_zs];exact Nat.zero_le _
    by_cases hT0 : T = []
    · have:=(nextOf_le L L.length).1
      rw [hT0] at h1 ⊢
      simp only [List.length_nil] at h1 ⊢
      omega
    · obtain ⟨s,hs,e⟩:=allX_last T 1 hT0 (by omega) (by omega) h3
      obtain ⟨i,hi,e2⟩:=List.mem_iff_getElem.1 hs
      have h2:=nextOf_ge L L.length i (by omega)
      have : L.getD i [] = s:=by rw [← hL,app_l hi,List.getD_eq_getElem?_getD,List.getElem?_eq_getElem hi];exact e2
      rw [this] at h2
      omega
  unfold opn
  rw [hR,hB,hS,hN]
theorem opn_blank (z : Nat) : opn (List.replicate z zs) = ⟨[],[],1,0,false⟩:=by
  have:=opn_X (T:=[]) (z:=z) (by decide) (fun t h=>by cases h)
  exact this
end Go.Proofs.YtmbldnahcmkpgaaGreatDoor

namespace Go.Proofs.YtmbldnahcmkpgaaGreatDoor
open Go.V Go.RowKit Go.L Go.Lx Go.Jn Go.Dk
set_option maxRecDepth 10000
set_option maxHeartbeats 4000000
theorem rhas_ok (l : List Int) (hl : l.length ≤ 9223372036854775807) (x : Int) : Ok Tryz.prog 56 [] [] (.pair (liV l) (.pair (.int .i64 x) .nul)) (fun r h'=>r = .bool (decide (x ∈ l))∧h' = []):=by
  refine Ok.of_vcC tt_ok Tryz.func56 rfl rfl (by show 2 ≤ _;decide) 0 (hlt_ok (by rfl)) fun c0=>?_
  repeat' (first | (refine SS_ ?_) | fail)
  refine VC.loop (fun k : Nat=>⟨[(5,.int .i64 (k : Nat)),(0,liV l),(1,.int .i64 x)],[],[],0⟩) (fun k=>k ≤ l.length∧∀ j,j < k→l.getD j 0 ≠ x) (fun k=>l.length - k) 0 ⟨by omega,fun j hj=>absurd hj (Nat.not_lt_zero _)⟩ (Sim.less [] (by rfl) R_ R_) fun k hk=>?_
  obtain ⟨hk,hr⟩:=hk
  by_cases hkl : k < l.length
  · have hget : l.getD ((k : Nat) : Int).toNat 0 = l.getD k 0:=by rw [Int.toNat_natCast]
    repeat' (first | (refine SS_ ?_) | (refine VC.litT (by rfl) LTR_ ?_) | (refine VC.cond (by rfl) (fun hb=>?_) (fun hb=>?_) <;> (fail_if_success (with_reducible have:=litT_ hb)) <;> (fail_if_success (with_reducible have:=litF_ hb)) <;> (try simp only [HB_] at hb) <;> (try (exfalso;first | omega | (cases hb;done)))) | fail)
    · rw [decide_eq_true (mem_getD.2 ⟨k,hkl,by omega⟩)]
      (refine retC_mk ([(4,.bool true)]) ([]) 0 (Sim.less [] (by rfl) R_ R_) (retQ_ok (by rfl) ([]) (fun i av h=>h) ⟨?_,?_⟩)) <;> rfl
    · refine ⟨k + 1,⟨by omega,fun j hj=>?_⟩,by omega,?_⟩
      · rcases Nat.lt_or_ge j k with h | h
        · exact hr j h
        · obtain rfl : j = k:=by omega
          omega
      exact (Sim.less [] (by rfl) R_ R_)
  · repeat' (first | (refine SS_ ?_) | (refine VC.litF (by rfl) LFA_ ?_) | fail)
    rw [decide_eq_false fun h=>by
      obtain ⟨j,hj,he⟩:=mem_getD.1 h
      exact hr j (by omega) he]
    (refine retC_mk ([(4,.bool false)]) ([]) 0 (Sim.less [] (by rfl) R_ R_) (retQ_ok (by rfl) ([]) (fun i av h=>h) ⟨?_,?_⟩)) <;> rfl
theorem rblank_ok (s : Bs) (hs : s.length ≤ 9223372036854775807) : Ok Tryz.prog 54 [] [] (.pair (.str s) .nul) (fun r h'=>r = .bool (decide (isBlank s))∧h' = []):=by
  refine Ok.of_vcC tt_ok Tryz.func54 rfl rfl (by show 1 ≤ _;decide) 0 (hlt_ok (by rfl)) fun c0=>?_
  repeat' (first | (refine SS_ ?_) | fail)
  refine VC.loop (fun k : Nat=>⟨[(3,.int .i64 (k : Nat)),(0,.str s)],[],[],0⟩) (fun k=>k ≤ s.length∧∀ j,j < k→s.getD j 0 = 0) (fun k=>s.length - k) 0 ⟨by omega,fun j hj=>absurd hj (Nat.not_lt_zero _)⟩ (Sim.less [] (by rfl) R_ R_) fun k hk=>?_
  obtain ⟨hk,hr⟩:=hk
  by_cases hkl : k < s.length
  · have hz : s.getD ((k : Nat) : Int).toNat 0 = 0 ↔ (((s.getD ((k : Nat) : Int).toNat 0).toNat : Nat) : Int) = 0:=by
      constructor
      · intro h;rw [h];rfl
      · intro h;exact UInt8.toNat_inj.1 (by show (s.getD ((k : Nat) : Int).toNat 0).toNat = 0;omega)
    repeat' (first | (refine SS_ ?_) | (refine VC.litT (by rfl) LTR_ ?_) | (refine VC.cond (by rfl) (fun hb=>?_) (fun hb=>?_) <;> (fail_if_success (with_reducible have:=litT_ hb)) <;> (fail_if_success (with_reducible have:=litF_ hb)) <;> (try simp only [HB_] at hb) <;> (try (exfalso;first | omega | (cases hb;done)))) | fail)
    · rw [decide_eq_false (fun q : isBlank s=>hb (by rw [Int.toNat_natCast,q k hkl];rfl))]
      (refine retC_mk ([(2,.bool false)]) ([]) 0 (Sim.less [] (by rfl) R_ R_) (retQ_ok (by rfl) ([]) (fun i av h=>h) ⟨?_,?_⟩)) <;> rfl
    · refine ⟨k + 1,⟨by omega,fun j hj=>?_⟩,by omega,by exact (Sim.less [] (by rfl) R_ R_)⟩
      rcases Nat.lt_or_ge j k with h | h
      · exact hr j h
      · obtain rfl : j = k:=by omega
        have:=hz.2 (by simpa using hb)
        rwa [Int.toNat_natCast] at this
  · repeat' (first | (refine SS_ ?_) | (refine VC.litF (by rfl) LFA_ ?_) | fail)
    rw [show decide (isBlank s) = true from decide_eq_true fun i hi=>hr i (by omega)]
    (refine retC_mk ([(2,.bool true)]) ([]) 0 (Sim.less [] (by rfl) R_ R_) (retQ_ok (by rfl) ([]) (fun i av h=>h) ⟨?_,?_⟩)) <;> rfl
end Go.Proofs.YtmbldnahcmkpgaaGreatDoor

namespace Go.V
open Go.RowKit Go.L
set_option maxHeartbeats 4000000 in
theorem VC.drawM2 {F : Fr} {id : Nat} {l : List Oper} {e h g : Asc} {N : Nat} {Q : Exit→St→Prop} (p1 p2 : List (Nat × Nat)) (tail : List Nat) (eat1 eat2 : List Nat) (hm : F.P.follows .mixedOrders = true) (hst : drawMB l.toArray F.n (p1 ++ p2) tail = true) {e0 : Asc} (he0 : dropO e (dstsOf l.toArray (mkP (p1 ++ p2))) some = some e0)
    {tops : List Oper} (htops : topsO l.toArray tail some = some tops) {B1 B2 hA : Asc} (hB1 : keepO h eat1 some = some B1) (hB2 : keepO h eat2 some = some B2) (hDr : dropO h (eat1 ++ eat2) some = some hA) (hdis : (eat1.all fun i=>!memB i eat2) = true)
    (hD : DSeq F.P l.toArray g e0 hA (mkP p1) [] N B1 (fun its1 N1 B'=>B' = []∧DSeq F.P l.toArray g e0 hA (mkP p2) its1 N1 B2 (fun its N' B''=>B'' = []∧(its.all fun it=>(keys it.n).all (Nat.ble N)) = true∧Seq F l.toArray tops ⟨selE allB its ++ e0,selH allB its ++ hA,g,N'⟩ (Q .normal)))) : VC F (.region id l.toArray true) Q ⟨e,h,g,N⟩:=by
  obtain ⟨plan,hpl⟩ : ∃ plan,plan = p1 ++ p2:=⟨_,rfl⟩
  rw [← hpl] at hst he0
  simp only [drawMB,Bool.and_eq_true] at hst
  obtain ⟨s1,s2,s3,s4,s5,s6,s7,s8⟩:=hst
  obtain ⟨tops',htops1,htops2⟩:=topsO_ok htops
  cases htops2
  rw [keepO_eq] at hB1 hB2
  rw [dropO_eq] at hDr
  cases hB1;cases hB2;cases hDr
  have hP:=nodupB_ok s1
  have hmk : mkP plan = mkP p1 ++ mkP p2:=by rw [hpl,mkP_app]
  have hk1 : ∀ i,i ∈ keys (keepL h eat1)→memB i eat1 = true:=fun i hi=>by
    obtain ⟨av,hav⟩:=keys_get hi
    rw [get?_keep] at hav
    by_cases hm : memB i eat1 = true
    · exact hm
    · rw [if_neg hm] at hav;cases hav
  have hk2 : ∀ i,i ∈ keys (keepL h eat2)→memB i eat2 = true:=fun i hi=>by
    obtain ⟨av,hav⟩:=keys_get hi
    rw [get?_keep] at hav
    by_cases hm : memB i eat2 = true
    · exact hm
    · rw [if_neg hm] at hav;cases hav
  have hd12 : ∀ i,memB i eat1 = true→memB i eat2 = false:=fun i hi=>by
    have:=List.all_eq_true.1 hdis i (memB_ok.1 hi)
    simpa using this
  have hma : ∀ i,memB i (eat1 ++ eat2) = (memB i eat1 || memB i eat2):=fun i=>by
    rw [Bool.eq_iff_iff,Bool.or_eq_true,memB_ok,memB_ok,memB_ok,List.mem_append]
  have hBd : ∀ i av,get? (keepL h eat1 ++ keepL h eat2) i = some av→get? (dropL h (eat1 ++ eat2)) i = none:=fun i av hi=>by
    have hi2:=get?_keys hi
    rw [get?_drop,if_pos]
    rw [hma,Bool.or_eq_true]
    rw [keys_app,List.mem_append] at hi2
    exact hi2.imp (hk1 i) (hk2 i)
  refine VC.conv (s':=⟨e,(keepL h eat1 ++ keepL h eat2) ++ dropL h (eat1 ++ eat2),g,N⟩) (Sim.heap fun i=>?_) ?_
  · rw [get?_app,get?_app,get?_keep,get?_keep,get?_drop,hma]
    cases h1 : memB i eat1 <;> cases h2 : memB i eat2 <;> cases get? h i <;> rfl
  intro a w hsim QC hQ
  refine F.L.any hm (Og.acyc_def s4) ?_
  have hBN : ∀ i ∈ keys (keepL h eat1 ++ keepL h eat2),i < N:=fun i hi=>by
    obtain ⟨av,hav⟩:=keys_get hi
    obtain ⟨c1,n1,_,ho1,_,hb1,_⟩:=hsim
    exact hb1 i (ho1.heap.A i av (by rw [get?_app,hav];rfl))
  have hnd12 : ((mkP p1).map (·.1)).Nodup∧((mkP p2).map (·.1)).Nodup∧∀ x ∈ (mkP p1).map (·.1),∀ y ∈ (mkP p2).map (·.1),x ≠ y:=by
    have:=hP
    rw [hmk,List.map_append] at this
    exact List.nodup_append.1 this
  obtain ⟨post1,N1,B1',ea1,⟨hB1',hD2⟩,hmap1,hN1,hkeys1,huniq1,heats1,hitems1⟩:=hD.out hnd12.1 (fun i hi=>hBN i (by rw [keys_app,List.mem_append];exact .inl hi))
  rw [List.nil_append] at hD2
  obtain ⟨post2,N',B2',ea2,⟨hB2',hnew,hseq⟩,hmap2,hN2,hkeys2,huniq2,heats2,hitems2⟩:=hD2.out hnd12.2.1 (fun i hi=>Nat.lt_of_lt_of_le (hBN i (by rw [keys_app,List.mem_append];exact .inr hi)) hN1)
  have hnw : ∀ it ∈ post1 ++ post2,∀ i ∈ keys it.n,N ≤ i:=fun it hit i hi=>by
    have:=List.all_eq_true.1 (List.all_eq_true.1 hnew it hit) i hi
    simpa [Nat.ble_eq] using this
  have hj1 : ∀ it ∈ post1,it.j ∈ (mkP p1).map (·.1):=fun it hit=>by rw [← hmap1];exact List.mem_map.2 ⟨it,hit,rfl⟩
  have hj2 : ∀ it ∈ post2,it.j ∈ (mkP p2).map (·.1):=fun it hit=>by rw [← hmap2];exact List.mem_map.2 ⟨it,hit,rfl⟩
  have hb1 : ∀ i ∈ keys (keepL h eat1),i < N:=fun i hi=>hBN i (by rw [keys_app,List.mem_append];exact .inl hi)
  have hb2 : ∀ i ∈ keys (keepL h eat2),i < N:=fun i hi=>hBN i (by rw [keys_app,List.mem_append];exact .inr hi)
  have hq1 : ∀ it ∈ post1,∀ i ∈ keys it.n,N ≤ i∧i < N1:=fun it hit i hi=>by
    have h1:=hnw it (List.mem_append_left _ hit) i hi
    rcases hkeys1 it hit i hi with h2 | ⟨_,h2⟩
    · exact h2
    · have:=hb1 i h2;omega
  have hq2 : ∀ it ∈ post2,∀ i ∈ keys it.n,N1 ≤ i∧i < N':=fun it hit i hi=>by
    have h1:=hnw it (List.mem_append_right _ hit) i hi
    rcases hkeys2 it hit i hi with h2 | ⟨_,h2⟩
    · exact h2
    · have:=hb2 i h2;omega
  have hmem : ∀ {x : Nat} {L : List Nat},memB x L = true ↔ x ∈ L:=memB_ok
  let its:=post1 ++ post2
  let ea : Nat→Nat→Bool:=fun j i=>(memB j ((mkP p1).map (·.1)) && ea1 j && memB i eat1) || (memB j ((mkP p2).map (·.1)) && ea2 j && memB i eat2)
  have hea1 : ∀ it ∈ post1,∀ i,ea it.j i = (ea1 it.j && memB i eat1):=fun it hit i=>by
    have h1 : memB it.j ((mkP p1).map (·.1)) = true:=memB_ok.2 (hj1 it hit)
    have h2 : memB it.j ((mkP p2).map (·.1)) = false:=by
      cases hx : memB it.j ((mkP p2).map (·.1)) with
      | false=>rfl
      | true=>exact absurd rfl (hnd12.2.2 _ (hj1 it hit) _ (memB_ok.1 hx))
    show ((memB it.j _ && ea1 it.j && memB i eat1) || (memB it.j _ && ea2 it.j && memB i eat2)) = _
    rw [h1,h2];simp
  have hea2 : ∀ it ∈ post2,∀ i,ea it.j i = (ea2 it.j && memB i eat2):=fun it hit i=>by
    have h1 : memB it.j ((mkP p2).map (·.1)) = true:=memB_ok.2 (hj2 it hit)
    have h2 : memB it.j ((mkP p1).map (·.1)) = false:=by
      cases hx : memB it.j ((mkP p1).map (·.1)) with
      | false=>rfl
      | true=>exact absurd rfl (hnd12.2.2 _ (memB_ok.1 hx) _ (hj2 it hit))
    show ((memB it.j _ && ea1 it.j && memB i eat1) || (memB it.j _ && ea2 it.j && memB i eat2)) = _
    rw [h1,h2];simp
  have hf1 : ∀ it ∈ post1,ea1 it.j = true→filA (ea it.j) (keepL h eat1 ++ keepL h eat2) = keepL h eat1:=fun it hit he=>by
    rw [filA_app,filA_all (fun i hi=>by rw [hea1 it hit,he,hk1 i hi];rfl),filA_none (fun i hi=>by
      rw [hea1 it hit]
      cases hx : memB i eat1 with
      | false=>simp
      | true=>have:=hd12 i hx;rw [hk2 i hi] at this;cases this),List.append_nil]
  have hf2 : ∀ it ∈ post2,ea2 it.j = true→filA (ea it.j) (keepL h eat1 ++ keepL h eat2) = keepL h eat2:=fun it hit he=>by
    rw [filA_app,filA_none (fun i hi=>by rw [hea2 it hit,hd12 i (hk1 i hi)];simp),filA_all (fun i hi=>by rw [hea2 it hit,he,hk2 i hi];rfl),List.nil_append]
  have hF : Feed F.P l.toArray g e0 (dropL h (eat1 ++ eat2)) (keepL h eat1 ++ keepL h eat2) (mkP plan) its N N' ea:=by
    refine ⟨by rw [hmk,List.map_append,List.map_append,hmap1,hmap2],fun it hit i hi=>?_,Nat.le_trans hN1 hN2,fun x hx y hy i hxi hyi=>?_,fun it hit=>?_,fun i x hx y hy hxe hye=>?_⟩
    · rcases List.mem_append.1 hit with h1 | h1
      · have:=hq1 it h1 i hi;omega
      · have:=hq2 it h1 i hi;omega
    · rcases List.mem_append.1 hx with h1 | h1 <;> rcases List.mem_append.1 hy with h2 | h2
      · exact huniq1 x h1 y h2 i hxi hyi
      · have:=hq1 x h1 i hxi;have:=hq2 y h2 i hyi;omega
      · have:=hq2 x h1 i hxi;have:=hq1 y h2 i hyi;omega
      · exact huniq2 x h1 y h2 i hxi hyi
    · rcases List.mem_append.1 hit with h1 | h1
      · obtain ⟨a1,b1,e1⟩:=List.append_of_mem h1
        obtain ⟨anc,o,q1,q2,q3⟩:=hitems1 a1 it b1 e1
        refine ⟨a1,b1 ++ post2,anc,o,by show post1 ++ post2 = _;rw [e1];simp,by rw [hmk];exact List.mem_append_left _ q1,q2,?_⟩
        rcases q3 with ⟨q3,q4⟩ | ⟨q3,ns,q4,q5⟩
        · exact .inl ⟨fun i _=>by rw [hea1 it h1,q3];rfl,by simpa using q4⟩
        · exact .inr ⟨ns,by rw [hf1 it h1 q3];simpa using q4,q5⟩
      · obtain ⟨a1,b1,e1⟩:=List.append_of_mem h1
        obtain ⟨anc,o,q1,q2,q3⟩:=hitems2 a1 it b1 e1
        refine ⟨post1 ++ a1,b1,anc,o,by show post1 ++ post2 = _;rw [e1];simp,by rw [hmk];exact List.mem_append_right _ q1,q2,?_⟩
        rcases q3 with ⟨q3,q4⟩ | ⟨q3,ns,q4,q5⟩
        · exact .inl ⟨fun i _=>by rw [hea2 it h1,q3];rfl,q4⟩
        · exact .inr ⟨ns,by rw [hf2 it h1 q3];exact q4,fun i hi=>⟨(q5 i hi).1,Nat.le_trans hN1 (q5 i hi).2⟩⟩
    · have he1 : ∀ it ∈ post1,ea it.j i = true→ea1 it.j = true∧memB i eat1 = true:=fun it hit he=>by
        rw [hea1 it hit,Bool.and_eq_true] at he;exact he
      have he2 : ∀ it ∈ post2,ea it.j i = true→ea2 it.j = true∧memB i eat2 = true:=fun it hit he=>by
        rw [hea2 it hit,Bool.and_eq_true] at he;exact he
      rcases List.mem_append.1 hx with h1 | h1 <;> rcases List.mem_append.1 hy with h2 | h2
      · exact heats1.one x h1 y h2 (he1 x h1 hxe).1 (he1 y h2 hye).1
      · have:=hd12 i (he1 x h1 hxe).2;rw [(he2 y h2 hye).2] at this;cases this
      · have:=hd12 i (he1 y h2 hye).2;rw [(he2 x h1 hxe).2] at this;cases this
      · exact heats2.one x h1 y h2 (he2 x h1 hxe).1 (he2 y h2 hye).1
  have hmap : its.map (·.j) = (mkP plan).map (·.1):=hF.map
  obtain ⟨I,hdj,hitems,hinit,hfin⟩:=drawn_core3 (mkP plan) hBd s1 s2 s3 s4 (ancM_ok (fun i hi=>by rw [tbb_zero] at hi;cases hi) s6) he0 hF a w hsim
  have hlt : ∀ j ∈ (mkP plan).map (·.1),j < l.toArray.size:=fun j hj=>by
    have:=List.all_eq_true.1 s2 j hj
    simp only [Bool.and_eq_true] at this
    simpa [Nat.blt_eq] using this.1
  have hsz0 : l.toArray.size = tail.length + ((mkP plan).map (·.1)).length:=by have:=Nat.eq_of_beq_eq_true s8;omega
  suffices hgoal : wpAny F.P .any l.toArray QC (tail.length + ((mkP plan).map (·.1)).length) (Array.replicate l.toArray.size false) a { w with drawn:=w.drawn + 1 } by rw [hsz0.symm] at hgoal;exact hgoal
  refine og2 (I:=I) (ds:=(mkP plan).map (·.1)) hP hlt s4 (fun j hj=>?_) (hitems QC) (fun a w hI=>?_) _ ((mkP plan).map (·.1)) (Array.replicate l.toArray.size false) a _ rfl hP (fun i hi=>hi) (by simp) (fun i hi=>?_) (fun j o ho hl=>?_) hinit
  · have:=List.all_eq_true.1 s5 j (List.mem_range.2 hj)
    rw [Bool.or_eq_true] at this
    exact this.imp memB_ok.1 fun h1 i hi=>List.all_eq_true.1 h1 i hi
  · obtain ⟨c,ns,Bx,hBx,rfl,hout,hen,hsl,hA,hsz,hdf,hN0,hgl⟩:=hfin _ _ _ hI
    have hall : (nrem []) = allB:=by funext j;rfl
    rw [hall] at hout
    have hsub : ∀ i av,get? (selH allB its ++ dropL h (eat1 ++ eat2)) i = some av→get? (selH allB its ++ (Bx ++ dropL h (eat1 ++ eat2))) i = some av:=fun i av hi=>by
      rw [get?_app]
      rw [get?_app] at hi
      cases hs : get? (selH allB its) i with
      | some u=>rw [hs] at hi;exact hi
      | none =>
        rw [hs] at hi
        rw [get?_app]
        cases hx : get? Bx i with
        | none=>exact hi
        | some u =>
          have:=hBd i u (hBx i u hx)
          simp only [Option.none_or] at hi
          rw [this] at hi;cases hi
    have hout:=hout.shrink hsub
    refine tail_wp hseq (fun s' a' w' hq hs'=>hQ _ _ _ _ hq hs') tail _ htops1 s7 a _ ⟨c,ns,rfl,hout,⟨fun t v ht=>?_,hen.glob⟩,hA,hsz,hdf,hN0,hgl⟩
    have ht : get? (selE allB its ++ e0) t = some v:=ht
    rw [get?_app] at ht
    cases hs : get? (selE allB its) t with
    | none=>rw [hs] at ht;exact hen.slot t v ht
    | some u =>
      rw [hs] at ht
      simp only [Option.some_or,Option.some.injEq] at ht
      subst ht
      obtain ⟨x,hx,_,rfl,rfl⟩:=selE_get hs
      exact hsl x hx (by simp)
  · constructor
    · intro h;rw [Og.repF] at h;cases h
    · rintro ⟨h1,h2⟩;exact absurd h1 h2
  · rw [Og.repF] at hl;cases hl
end Go.V
