/- Journals: a record of some sectors; whether a list holds a number; blank sectors. A map's keys, sorted by the library: the kit's contract as one over abstract values. -/
import Derived.Test.YtmbldnahcmkpgaaGreatDoorAh
import Derived.Test.YtmbldnahcmkpgaaGreatDoorFe
import Derived.Shelf.SlIterI.Nil
import Derived.Shelf.SortM.Plain
import Derived.Shelf.SortM.SortNone
set_option linter.unusedSimpArgs false
set_option linter.unusedVariables false
namespace Go.Jn
open Go.Dk (Bs)
structure POk (p : Part) : Prop where
  num : p.num ≤ 4096
  part : p.part ≤ 200
  left : p.left ≤ 8000
  text : p.text.length ≤ 48
theorem POk.zero : POk noPart:=⟨Nat.zero_le _,Nat.zero_le _,Nat.zero_le _,Nat.zero_le _⟩
theorem unp_pok (s : Bs) : POk (unp s):=by
  by_cases h : Fine s
  · rw [unp_yes h]
    have h1:=h.n2;have h2:=h.small
    exact ⟨h1,by show secPart s ≤ 200;omega,by show secLeft s ≤ 8000;omega,by show ((s.drop 8).take _).length ≤ 48;rw [List.length_take];omega⟩
  · rw [unp_no h];exact POk.zero
theorem POk.get {L : List Part} (h : ∀ p ∈ L,POk p) (i : Nat) : POk (L.getD i noPart):=by
  rcases Nat.lt_or_ge i L.length with hi | hi
  · rw [List.getD_eq_getElem?_getD,List.getElem?_eq_getElem hi];exact h _ (List.getElem_mem hi)
  · rw [List.getD_eq_getElem?_getD,List.getElem?_eq_none hi];exact POk.zero
theorem isRec_iff {L : List Part} (hL : L ≠ []) : IsRec L ↔ (L.getD 0 noPart).ok = true∧(L.getD 0 noPart).part = 0∧cnt (L.getD 0 noPart).left ≤ L.length∧∀ k,k < cnt (L.getD 0 noPart).left→(L.getD k noPart).ok = true∧(L.getD k noPart).num = (L.getD 0 noPart).num∧(L.getD k noPart).part = k∧(L.getD k noPart).left + 48 * k = (L.getD 0 noPart).left:=by
  cases L with
  | nil=>exact absurd rfl hL
  | cons p r=>exact Iff.rfl
theorem joined_len {L : List Part} (h : ∀ p ∈ L,POk p) : ∀ k,(joined L k).length ≤ 48 * k
  | 0=>Nat.le_refl _
  | k + 1=>by
    have h1:=joined_len h k
    have h2:=(POk.get h k).text
    rw [joined,List.length_append];omega
end Go.Jn
namespace Go.Proofs.YtmbldnahcmkpgaaGreatDoor
open Go.V Go.RowKit Go.L Go.Lx Go.Jn Go.Dk
set_option maxRecDepth 10000
set_option maxHeartbeats 4000000
abbrev partsV (L : List Part) : AV:=.rsl false L.length 5 (fun i=>partA (L.getD i noPart))
def recA (L : List Part) : AV:=.tup (.pair (.str (if IsRec L then recText L else [])) (.pair (.int .i64 ((if IsRec L then cnt (L.getD 0 noPart).left else 0 : Nat) : Int)) (.pair (.bool (decide (IsRec L))) .nul)))
theorem recA_no {L : List Part} (h : ¬ IsRec L) : recA L = .tup (.pair (.str []) (.pair (.int .i64 0) (.pair (.bool false) .nul))):=by
  unfold recA;rw [if_neg h,if_neg h,decide_eq_false h];rfl
theorem recA_yes {L : List Part} (h : IsRec L) : recA L = .tup (.pair (.str (joined L (cnt (L.getD 0 noPart).left))) (.pair (.int .i64 ((cnt (L.getD 0 noPart).left : Nat) : Int)) (.pair (.bool true) .nul))):=by
  unfold recA;rw [if_pos h,if_pos h,decide_eq_true h];unfold recText;rw [headD_eq]
theorem record_ok (L : List Part) (hL : L ≠ []) (hl : L.length ≤ 4096) (ok : ∀ p ∈ L,POk p) : Ok Tryz.prog 49 [] [] (.pair (partsV L) .nul) (fun r h'=>r = recA L∧h' = []):=by
  have hi:=isRec_iff hL
  have hpos : 0 < L.length:=List.length_pos_iff.2 hL
  have hg:=fun i=>POk.get ok i
  have hj:=joined_len ok
  have h0:=hg 0
  have hn:=h0.num;have hp:=h0.part;have hf:=h0.left
  have cc:=count_ok ((L.getD 0 noPart).left : Nat) ⟨by omega,by omega⟩
  have hcn:=cnt_le ((L.getD 0 noPart).left : Nat)
  have hy:=fun h=>recA_yes (L:=L) h
  have hz:=fun h=>recA_no (L:=L) h
  refine Ok.of_vcC tt_ok Tryz.func49 rfl rfl (by show 1 ≤ _;decide) 0 (hlt_ok (by rfl)) fun c0=>?_
  repeat' (first | (refine SS_ ?_) | (refine Seq.callp false (cc) Tryz.func41 GOk.nil subG.nil (by rfl) (by rfl) rfl rfl rfl rfl rfl (by rfl) rfl VW_ NI_ NI_ FR_ ?_) | (refine VC.litT (by rfl) LTR_ ?_) | (refine Seq.litC (by rfl) (by rfl) (fun hb=>?_) (fun hb=>?_) <;> (fail_if_success (with_reducible have:=litT_ hb)) <;> (fail_if_success (with_reducible have:=litF_ hb)) <;> (try simp only [HB_] at hb) <;> (try (exfalso;first | omega | (cases hb;done)))) | (refine VC.cond (by rfl) (fun hb=>?_) (fun hb=>?_) <;> (fail_if_success (with_reducible have:=litT_ hb)) <;> (fail_if_success (with_reducible have:=litF_ hb)) <;> (try simp only [HB_] at hb) <;> (try (exfalso;first | omega | (cases hb;done)))) | fail)
  · rw [hz (fun h=>by have q1:=(hi.1 h).1;have hb2 : (L.getD 0 noPart).ok = false:=hb;rw [q1] at hb2;cases hb2)]
    (refine retC_mk ([(2,.str []),(3,.int .i64 0),(4,.bool false)]) ([]) 1 (Sim.less [] (by rfl) R_ R_) (retQ_ok (by rfl) ([]) (fun i av h=>h) ⟨?_,?_⟩)) <;> rfl
  · rw [hz (fun h=>by have q1:=(hi.1 h).2.1;have hb2 : ¬ (((L.getD 0 noPart).part : Nat) : Int) = 0:=hb;omega)]
    (refine retC_mk ([(2,.str []),(3,.int .i64 0),(4,.bool false)]) ([]) 1 (Sim.less [] (by rfl) R_ R_) (retQ_ok (by rfl) ([]) (fun i av h=>h) ⟨?_,?_⟩)) <;> rfl
  · rw [hz (fun h=>by have q1:=(hi.1 h).2.2.1;omega)]
    (refine retC_mk ([(2,.str []),(3,.int .i64 0),(4,.bool false)]) ([]) 1 (Sim.less [] (by rfl) R_ R_) (retQ_ok (by rfl) ([]) (fun i av h=>h) ⟨?_,?_⟩)) <;> rfl
  rename_i hok hpart
  have hok : (L.getD 0 noPart).ok = true:=hok
  have hpart : (((L.getD 0 noPart).part : Nat) : Int) = 0:=by
    have hp2 : ¬ ¬ (((L.getD 0 noPart).part : Nat) : Int) = 0:=by simpa using hpart
    omega
  have hcl : cnt ((L.getD 0 noPart).left : Nat) ≤ L.length:=by omega
  refine VC.loop (fun k : Nat=>⟨[(34,.int .i64 (k : Nat)),(33,.int .i64 (cnt ((L.getD 0 noPart).left : Nat) : Nat)),(32,.rsl false (cnt ((L.getD 0 noPart).left : Nat)) 5 (fun i=>partA (L.getD i noPart))),(7,.str (joined L k)),(6,.int .i64 (cnt ((L.getD 0 noPart).left : Nat) : Nat)),(5,.ptr 0 [])],[(0,partA (L.getD 0 noPart))],[],1⟩) (fun k=>k ≤ cnt ((L.getD 0 noPart).left : Nat)∧∀ j,j < k→(L.getD j noPart).ok = true∧(L.getD j noPart).num = (L.getD 0 noPart).num∧(L.getD j noPart).part = j∧(L.getD j noPart).left + 48 * j = (L.getD 0 noPart).left) (fun k=>cnt ((L.getD 0 noPart).left : Nat) - k) 0 ⟨Nat.zero_le _,fun j hj=>absurd hj (Nat.not_lt_zero _)⟩ (by
    rw [Nat.sub_zero,Int.toNat_natCast]
    (refine Sim.less [] (by rfl) ?_ ?_ <;> (repeat' (first | (exact EnvLe.nil) | (exact HeapLe.nil) | (with_reducible apply EnvLe.cons) | (with_reducible apply HeapLe.cons) | ((with_reducible refine RelA.int ?_;first | (refine Keep.mk ?_;first | with_reducible rfl | omega | decide) | skip)) | (exact rfl) | (exact ⟨rfl,rfl⟩) | ((with_reducible refine RelA.rsl ?_;intro i hi)) | (with_reducible refine RelA.pair ?_ ?_) | fail)) <;> (try with_reducible refine Keep.mk ?_))
    all_goals first | exact rfl | (rw [Nat.zero_add];done) | (rw [Nat.zero_add];exact rfl)) fun k hk=>?_
  obtain ⟨hk1,hk2⟩:=hk
  by_cases hkc : k < cnt ((L.getD 0 noPart).left : Nat)
  · have hgk:=hg ((k : Int)).toNat
    have t1:=hgk.num;have t2:=hgk.part;have t3:=hgk.left;have t4:=hgk.text
    have hjk:=hj k
    have ek : L.getD ((k : Int)).toNat noPart = L.getD k noPart:=by rw [Int.toNat_natCast]
    have hik:=fun h=>(hi.1 h).2.2.2 k hkc
    rw [← ek] at hik
    repeat' (first | (refine SS_ ?_) | (refine VC.litT (by rfl) LTR_ ?_) | (refine Seq.litC (by rfl) (by rfl) (fun hb=>?_) (fun hb=>?_) <;> (fail_if_success (with_reducible have:=litT_ hb)) <;> (fail_if_success (with_reducible have:=litF_ hb)) <;> (try simp only [HB_] at hb) <;> (try (exfalso;first | omega | (cases hb;done)))) | (refine VC.cond (by rfl) (fun hb=>?_) (fun hb=>?_) <;> (fail_if_success (with_reducible have:=litT_ hb)) <;> (fail_if_success (with_reducible have:=litF_ hb)) <;> (try simp only [HB_] at hb) <;> (try (exfalso;first | omega | (cases hb;done)))) | fail)
    · rw [hz (fun h=>by have q1:=(hik h).1;rw [hb] at q1;cases q1)]
      (refine retC_mk ([(2,.str []),(3,.int .i64 0),(4,.bool false)]) ([]) 2 (Sim.less [] (by rfl) R_ R_) (retQ_ok (by rfl) ([]) (fun i av h=>h) ⟨?_,?_⟩)) <;> rfl
    · rw [hz (fun h=>by have q1:=hik h;omega)]
      (refine retC_mk ([(2,.str []),(3,.int .i64 0),(4,.bool false)]) ([]) 2 (Sim.less [] (by rfl) R_ R_) (retQ_ok (by rfl) ([]) (fun i av h=>h) ⟨?_,?_⟩)) <;> rfl
    · rw [hz (fun h=>by have q1:=hik h;omega)]
      (refine retC_mk ([(2,.str []),(3,.int .i64 0),(4,.bool false)]) ([]) 2 (Sim.less [] (by rfl) R_ R_) (retQ_ok (by rfl) ([]) (fun i av h=>h) ⟨?_,?_⟩)) <;> rfl
    · rw [hz (fun h=>by have q1:=hik h;omega)]
      (refine retC_mk ([(2,.str []),(3,.int .i64 0),(4,.bool false)]) ([]) 2 (Sim.less [] (by rfl) R_ R_) (retQ_ok (by rfl) ([]) (fun i av h=>h) ⟨?_,?_⟩)) <;> rfl
    · rename_i o1 o2 o3
      refine ⟨k + 1,⟨by omega,fun j hj=>?_⟩,by omega,?_⟩
      · by_cases e : j = k
        · rw [e,← ek]
          exact ⟨o1,by omega,by omega,by omega⟩
        · exact hk2 j (by omega)
      · rw [ek]
        show ∀ a w,_→Sim _ ⟨[(34,.int .i64 ((k + 1 : Nat) : Int)),(33,.int .i64 (cnt ((L.getD 0 noPart).left : Nat) : Nat)),(32,.rsl false (cnt ((L.getD 0 noPart).left : Nat)) 5 (fun i=>partA (L.getD i noPart))),(7,.str (joined L k ++ (L.getD k noPart).text)),(6,.int .i64 (cnt ((L.getD 0 noPart).left : Nat) : Nat)),(5,.ptr 0 [])],[(0,partA (L.getD 0 noPart))],[],1⟩ a w
        exact (Sim.less [] (by rfl) R_ R_)
  · obtain rfl : k = cnt ((L.getD 0 noPart).left : Nat):=by omega
    rw [hy (hi.2 ⟨hok,by omega,hcl,hk2⟩)]
    repeat' (first | (refine SS_ ?_) | (refine VC.litF (by rfl) LFA_ ?_) | fail)
    (refine retC_mk ([(2,.str (joined L (cnt ((L.getD 0 noPart).left : Nat)))),(3,.int .i64 (cnt ((L.getD 0 noPart).left : Nat) : Nat)),(4,.bool true)]) ([]) 1 (Sim.less [] (by rfl) R_ R_) (retQ_ok (by rfl) ([]) (fun i av h=>h) ⟨?_,?_⟩)) <;> rfl
end Go.Proofs.YtmbldnahcmkpgaaGreatDoor

namespace Go.V
open Go.RowKit Go.L Go.Maps Go.Proofs Go.Shelf
theorem Out.later {c : Ctx} {h : Asc} {w' : World} (hh : HeapRep c h) (hc : CtxOk c) (hB : c.B = c.w.heap.size) (hb : Below c.w.heap.size c.w w') : Out c h h [] (Later c w'):=by
  have h0:=out_later hc hB hb
  refine ⟨h0.le,h0.B,h0.A,⟨fun id av hi=>hh.A id av hi,fun id av hi hg=>?_,fun id av hi hg=>hh.gh id av hi hg,fun id av hi hg hS=>?_,fun i j a b hi hj hgi hgj e=>hh.inj i j a b hi hj hgi hgj e⟩,h0.ok,h0.os,h0.tape,h0.output,h0.size,fun b hb' _=>hb.block b hb',fun id av hi hg=>.inl ⟨id,av,hi,hg,rfl⟩,fun b hS=>?_⟩
  · exact (hh.obj id av hi hg).le h0.le (hb.block _ (hh.obj id av hi hg).lt)
  · have hlt:=(hh.obj id av hi hg).lt
    rcases hS with hS | hS
    · exact hh.nS id av hi hg hS
    · have : c.w.heap.size ≤ c.ρ id:=hS.1
      omega
  · rcases hS with hS | hS
    · exact .inl hS
    · exact .inr (.inl hS.1)
theorem Ok.of_callsH {P : Program} {f : FuncId} {g h h1 : Asc} {args : AV} {R : AV→Asc→Prop} (hs : ∀ i av,get? h1 i = some av→get? h i = some av)
    (H : ∀ c vs,CtxOk c→c.B = c.w.heap.size→HeapRep c h→Rep c args .T vs →
      Calls P f vs.toArray c.w fun e w'=>Below c.w.heap.size c.w w'∧∃ v r,e = .returned v∧R r h1∧Rep (Later c w') r .V [v]) : Ok P f g h args R:=by
  intro c hg hh hc hB hA vs hvs
  refine (H c vs hc hB hh hvs).mono fun e w' hx=>?_
  obtain ⟨hb,v,r,rfl,hR,hr⟩:=hx
  exact ⟨Later c w',v,r,h1,[],rfl,rfl,(Out.later hh hc hB hb).shrink hs,hr,hR⟩
theorem rep_ownsRow {c : Ctx} {w' : World} (hB : c.B = c.w.heap.size) (hb : Below c.w.heap.size c.w w') {e : TypeId} {v : Value} {l : List Int} {k : IntKind} (h : w'.ownsRow c.w.heap.size e 1 v l.length (l.map (Value.int k))) :
    Rep (Later c w') (.rsl true l.length 1 (fun i=>.int k (l.getD i 0))) .V [v]:=by
  obtain ⟨hl,h2⟩:=h
  rcases h2 with ⟨rfl,h0⟩ | ⟨g,cap,cur,rfl,hg,hcur,h3,h4,h5,h6⟩
  · exact ⟨none,0,by rw [h0],by omega,Nat.zero_le _,.inl h0⟩
  · refine ⟨_,cap,rfl,h3,h4,?_⟩
    refine .inr ⟨g,0,l.map (Value.int k),rfl,.inr ⟨hg,(Array.getElem?_eq_some_iff.1 hcur).1⟩,fun _=>by show c.B ≤ g;omega,fun j u hu=>?_,by simp,fun i hi=>?_⟩
    · show w'.cell? _ = _
      rw [cell_of_row _ _ _ _ _ _ hcur]
      rw [Nat.mul_one] at h6
      rw [← h6] at hu
      rw [List.getElem?_take] at hu
      split at hu
      · rw [Nat.zero_add,← Array.getElem?_toList];exact hu
      · cases hu
    · show sub (l.map (Value.int k)) (i * 1) 1 = [.int k (l.getD i 0)]
      apply List.ext_getElem?
      intro j
      rw [sub_get,Nat.mul_one]
      have : i < l.length:=hi
      split
      · obtain rfl : j = 0:=by omega
        simp [this]
      · rw [List.getElem?_eq_none (by simp;omega)]
theorem owns_of {P : Program} {kt : TypeId} (hk : P.underlying kt = some (.int .i64)) {w : World} {b clock : Nat} {es : Array MapEntry} {ks : List Int} (hb : w.heap[b]? = some (.map es clock)) (hkeys : es.toList.map (·.key) = ks.map (Value.int .i64)) (hnd : ks.Nodup)
    (hwf : ∀ k ∈ ks,(Lit.int .i64 k).wf = true) (h1 : ∀ i (h : i < es.size),es[i].born < clock) (h2 : ∀ i j (hi : i < es.size) (hj : j < es.size),es[i].born = es[j].born→i = j) (hsz : ks.length ≤ maxLen) :
    ∃ D0 : DataW Unit,w.ownsMap P kt (fun _=>some (.nil,[])) b ks.length D0∧(intKeys D0).Perm ks∧Maps.size D0 = ks.length:=by
  have hlen : es.size = ks.length:=by
    have:=congrArg List.length hkeys
    simpa using this
  have hkey : ∀ x ∈ es.toList,∃ k,x.key = .int .i64 k∧(Lit.int .i64 k).wf = true:=fun x hx=>by
    have : x.key ∈ es.toList.map (·.key):=List.mem_map.2 ⟨x,hx,rfl⟩
    rw [hkeys] at this
    obtain ⟨k,hk1,hk2⟩:=List.mem_map.1 this
    exact ⟨k,hk2.symm,hwf k hk1⟩
  have hread : ∀ x ∈ es.toList,WideElems.rd P kt (fun _=>some ((.nil : DataW Unit),[])) x = some (.int .i64 (match x.key with | .int _ k=>k | _=>0),.nil):=fun x hx=>by
    obtain ⟨k,e1,e2⟩:=hkey x hx
    simp [WideElems.rd,keyOf,hk,mapKey,e1,e2]
  have hrg : es.toList.map (WideElems.rg P kt (fun _=>some ((.nil : DataW Unit),[]))) = ks.map fun k=>(Lit.int .i64 k,.nil):=by
    have : es.toList.map (WideElems.rg P kt (fun _=>some ((.nil : DataW Unit),[]))) = (es.toList.map (·.key)).map fun v=>(Lit.int .i64 (match v with | .int _ k=>k | _=>0),.nil):=by
      rw [List.map_map]
      refine List.map_congr_left fun x hx=>?_
      rw [WideElems.rg_of (hread x hx)];rfl
    rw [this,hkeys,List.map_map];rfl
  refine ⟨_,⟨es,clock,hb,⟨by omega,⟨fun x hx=>?_,?_,?_⟩,fun x hx=>⟨_,hread x hx⟩⟩,by omega,rfl⟩,?_,?_⟩
  · obtain ⟨i,hi,rfl⟩:=List.getElem_of_mem hx
    exact h1 i (by simpa using hi)
  · rw [List.Nodup,List.pairwise_map,List.pairwise_iff_getElem]
    intro i j hi hj hij e
    have:=h2 i j (by simpa using hi) (by simpa using hj) (by simpa using e)
    omega
  · rw [hkeys]
    exact List.pairwise_map.2 (hnd.imp fun h e=>h (by simpa using e))
  · rw [hrg]
    show (((ks.map fun k=>(Lit.int .i64 k,(DataW.nil : DataW Unit))).foldr DataW.insert []).map fun p=>intOf p.1).Perm ks
    have:=(Go.WideShapes.sorted_perm (ks.map fun k=>(Lit.int .i64 k,(DataW.nil : DataW Unit)))).map fun p=>intOf p.1
    rw [List.map_map] at this
    have h3 : List.map ((fun p : Lit × DataW Unit=>intOf p.1) ∘ fun k=>(Lit.int .i64 k,DataW.nil)) ks = ks:=by
      conv=>rhs;rw [← List.map_id ks]
      rfl
    rw [h3] at this
    exact this
  · show (((es.toList.map (WideElems.rg P kt (fun _=>some ((.nil : DataW Unit),[])))).foldr DataW.insert [])).length = ks.length
    rw [hrg,(Go.WideShapes.sorted_perm _).length_eq,List.length_map]
end Go.V
