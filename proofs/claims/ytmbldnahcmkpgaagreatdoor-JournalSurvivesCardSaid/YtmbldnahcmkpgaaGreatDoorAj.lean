/- Journals: their memory; Open. -/
import Derived.Test.YtmbldnahcmkpgaaGreatDoorSg
import Derived.Test.YtmbldnahcmkpgaaGreatDoorCb
import Derived.Test.YtmbldnahcmkpgaaGreatDoorFg
set_option linter.unusedSimpArgs false
set_option linter.unusedVariables false
namespace Go.Proofs.YtmbldnahcmkpgaaGreatDoor
open Go.V Go.RowKit Go.L Go.Lx Go.Jn Go.Dk
set_option maxRecDepth 10000
set_option maxHeartbeats 4000000
def rdL (n : Nat) (D : Disk) : List Bs:=(List.range n).map fun k=>rdS n D.off D.B D.P (k : Nat)
theorem rdL_len (n : Nat) (D : Disk) : (rdL n D).length = n:=by unfold rdL;simp
theorem rdL_get {n k : Nat} {D : Disk} (h : k < n) : (rdL n D).getD k [] = rdS n D.off D.B D.P (k : Nat):=by
  unfold rdL
  rw [List.getD_eq_getElem?_getD,List.getElem?_map,List.getElem?_range h];rfl
theorem chk_in {n k : Nat} (h : k < n) : chk n false (k : Nat) = 0:=by
  unfold chk bad;rw [if_neg (by decide)];exact if_neg (by omega)
theorem rd_64 {n k : Nat} {D : Disk} (hG : GoodD n D) (ho : D.off = false) (h : k < n) : (rdS n D.off D.B D.P (k : Nat)).length = 64:=by
  unfold rdS
  rw [ho,chk_in h,if_neg (by decide)]
  cases hm : mFind D.P (k : Nat) with
  | some b=>exact hG.p64 _ (mFind_mem hm)
  | none =>
    have hl:=hG.len
    show (D.B.getD ((k : Nat) : Int).toNat []).length = 64
    rw [Int.toNat_natCast]
    exact hG.b64 _ (Go.Lx.getD_mem (by omega))
abbrev txO (T : List Bs) : AV:=.arr T.length 1 (fun i=>.str (T.getD i []))
abbrev jrA (d a b c : Nat) (N B : List Int) (T : List Bs) (next : Int) (stop : Nat) (shut : Bool) : AV:=.pair (.ptr d []) (.pair (.sl a [] 1 0 N.length) (.pair (.sl b [] 1 0 B.length) (.pair (.sl c [] 1 0 T.length) (.pair (.int .i64 next) (.pair (.int .i64 (stop : Nat)) (.pair (.bool shut) .nul))))))
abbrev jH (n : Nat) (D : Disk) (J : Jr) : Asc:=(4,jrA 0 5 6 7 (nums J) J.bad (texts J) J.next J.stop J.shut)::(5,liO (nums J))::(6,liO J.bad)::(7,txO (texts J))::dD n D
theorem blank_iff {s : Bs} (h : s.length = 64) : isBlank s ↔ ∀ i,i < 64→(((s.getD i 0).toNat : Nat) : Int) = 0:=by
  unfold isBlank
  rw [h]
  refine ⟨fun q i hi=>by rw [q i hi];rfl,fun q i hi=>UInt8.toNat_inj.1 ?_⟩
  have:=q i hi
  show (s.getD i 0).toNat = 0
  omega
abbrev oJ (n : Nat) (D : Disk) (L : List Bs) (k : Nat) : Asc:=(4,.pair (.ptr 0 []) (.pair (.sl 7 [] 1 0 0) (.pair (.sl 6 [] 1 0 (bads L k).length) (.pair (.sl 8 [] 1 0 0) (.pair (.int .i64 (nextOf L k)) (.pair (.int .i64 (stopAt L k : Nat)) (.pair (.bool false) .nul)))))))::(5,.arr k 5 (fun i=>partA ((L.map unp).getD i noPart)))::(6,.arr (bads L k).length 1 (fun i=>.int .i64 ((bads L k).getD i 0)))::(7,.arr 0 1 (fun i=>.int .i64 (([] : List Int).getD i 0)))::(8,.arr 0 1 (fun i=>.str (([] : List Bs).getD i [])))::dD n D
theorem rel_stepG {A : Nat→Prop} {σ : Nat→Nat} {Q : List Part} {k i : Nat} {p : Part} {K : Nat→AV} (hp : p = Q.getD k noPart) (hi : i < k + 1) (hK : K 0 = partA p:=by rfl) : RelA A σ (partA (Q.getD i noPart)) (joinF k (fun i=>partA (Q.getD i noPart)) K i):=by
  rcases Nat.lt_or_ge i k with h1 | h1
  · rw [joinF_lt h1];exact NoId.self NI_
  · obtain rfl : i = k:=by omega
    rw [joinF_ge (Nat.le_refl _),Nat.sub_self,hK,hp];exact NoId.self NI_
theorem view_parts {H : Asc} {bor D : Nat→Prop} {σ : Nat→Nat} {n x : Nat} {Q : List Part} (hn : Q.length = n) : View H bor D σ (partsV (Q.drop x)) (.rsl false (n - x) 5 (fun i=>(fun i=>partA (Q.getD i noPart)) (x + i))):=by
  refine View.rel (RelA.rslL (by rw [List.length_drop,hn]) fun i hi=>?_)
  rw [show (Q.drop x).getD i noPart = Q.getD (x + i) noPart from Go.Jn.getD_drop]
  exact NoId.self NI_
theorem view_partsN {H : Asc} {bor D : Nat→Prop} {σ : Nat→Nat} {id n : Nat} {Q : List Part} (h : get? H id = some (.arr n 5 (fun i=>partA (Q.getD i noPart)))) (hb : bor id) : View H bor D σ (.rsl false n 5 (fun i=>partA (Q.getD i noPart))) (.sl id [] 5 0 n) :=
  View.sln h rfl trivial (by omega) hb rfl fun i hi=>by rw [Nat.zero_add];exact NoId.self NI_
theorem bads_len (L : List Bs) : ∀ k,(bads L k).length ≤ k
  | 0=>Nat.le_refl _
  | k + 1=>by
    have:=bads_len L k
    rw [bads]
    split
    · rw [List.length_append,List.length_singleton];omega
    · omega
theorem nextOf_le (L : List Bs) : ∀ k,1 ≤ nextOf L k∧nextOf L k ≤ 4097
  | 0=>by rw [nextOf];omega
  | k + 1=>by
    have h1:=nextOf_le L k
    have h2:=(unp_pok (L.getD k [])).num
    rw [nextOf];omega
theorem stopAt_le (L : List Bs) : ∀ k,stopAt L k ≤ k
  | 0=>Nat.le_refl _
  | k + 1=>by
    have h1:=stopAt_le L k
    rw [stopAt]
    split <;> omega
theorem open_ok {n : Nat} {D : Disk} (hG : GoodD n D) (ho : D.off = false) : Ok Tryz.prog 11 gK (dD n D) (.pair (.ptr 0 []) .nul) (fun r h'=>r = .tup (.pair (.ptr 4 []) (.pair (.int .i64 0) .nul))∧h' = jH n D (opn (rdL n D))):=by
  have hlL:=rdL_len n D
  have hgL:=fun k (h : k < n)=>rdL_get (D:=D) h
  have h64:=fun k (h : k < n)=>rd_64 hG ho h
  have cl:=len_ok' (n:=n) (B:=D.B) (P:=D.P) (W:=D.W) (off:=D.off) (left:=D.left)
  have cr:=fun k (h : k < n)=>read_ok (n:=n) (B:=D.B) (P:=D.P) (W:=D.W) (off:=D.off) (left:=D.left) (k : Nat) hG.len hG.b64 hG.p64
  have hn:=hG.n1
  refine Ok.of_vcC tt_ok Tryz.func11 rfl rfl (by show 1 ≤ _;decide) 4 (hlt_ok (by rfl)) fun c0=>?_
  repeat' (first | (refine SS_ ?_) | (refine Seq.callo false [] [] (.int .i64 n) (dD n D) 5 (cl) Tryz.func46 gK_ok subG.nil (by rfl) (by rfl) rfl rfl rfl rfl rfl (by rfl) rfl (by rfl) (by rfl) (by rfl) (by rfl) VW_ NI_ R_ (noFrL_ok NI_) BK_ ?_) | fail)
  refine VC.conv (s':=⟨[(20,.int .i64 ((0 : Nat) : Int)),(19,.int .i64 n),(5,.val (.slice none 0 0)),(4,.ptr 4 []),(0,.ptr 0 [])],(4,.pair (.ptr 0 []) (.pair (.val (.slice none 0 0)) (.pair (.val (.slice none 0 0)) (.pair (.val (.slice none 0 0)) (.pair (.int .i64 1) (.pair (.int .i64 ((0 : Nat) : Int)) (.pair (.bool false) .nul)))))))::dD n D,gK,5⟩) (Sim.less [] (by rfl) R_ R_) ?_
  refine VC.conv (Sim.ghost 5 5 (fun _=>.nul) (by rfl) (.inl rfl)) ?_
  refine VC.conv (Sim.ghostF 4 2 1 (fun i=>.int .i64 (([] : List Int).getD i 0)) (by rfl) (by rfl) (by rfl)) ?_
  refine VC.conv (Sim.ghostF 4 1 1 (fun i=>.int .i64 (([] : List Int).getD i 0)) (by rfl) (by rfl) (by rfl)) ?_
  refine VC.conv (Sim.ghostF 4 3 1 (fun i=>.str (([] : List Bs).getD i [])) (by rfl) (by rfl) (by rfl)) ?_
  generalize hLL : rdL n D = L at *
  refine VC.loop (fun k : Nat=>⟨[(20,.int .i64 (k : Nat)),(19,.int .i64 n),(5,.sl 5 [] 5 0 k),(4,.ptr 4 []),(0,.ptr 0 [])],oJ n D L k,gK,9⟩) (fun k=>k ≤ n) (fun k=>n - k) 0 (by omega) (by
    (refine Sim.less [] (by rfl) ?_ ?_ <;> (repeat' (first | (exact EnvLe.nil) | (exact HeapLe.nil) | (with_reducible apply EnvLe.cons) | (with_reducible apply HeapLe.cons) | ((with_reducible refine RelA.int ?_;first | (refine Keep.mk ?_;first | with_reducible rfl | omega | decide) | skip)) | (exact rfl) | (exact ⟨rfl,rfl⟩) | ((with_reducible refine RelA.arr ?_;intro i hi)) | (with_reducible refine RelA.pair ?_ ?_) | ((refine RelA.arr ?_;intro i hi)) | (exact NoId.self (by first | ((repeat' (first | exact trivial | exact rfl | refine NoFr.bif ?_ ?_ | refine NoId.bif ?_ ?_ | refine AllFr.bif ?_ ?_ | (intro i hi) | (refine ⟨?_,?_⟩) | (intro e;cases e;done)));done) | fail)) | fail)) <;> (try with_reducible refine Keep.mk ?_))
    all_goals first | rfl | exact absurd (by assumption) (Nat.not_lt_zero _)) fun k hk=>?_
  by_cases hkn : k < n
  · have rd:=cr k hkn
    rw [← hgL k hkn] at rd
    have hs:=h64 k hkn
    rw [← hgL k hkn] at hs
    rw [show chk n D.off (k : Nat) = 0 by rw [ho];exact chk_in hkn] at rd
    have cu:=unpack_ok (L.getD k []) (by omega)
    have pk:=unp_pok (L.getD k [])
    have hb:=blank_iff hs
    have e1 : bads L (k + 1) = if (unp (L.getD k [])).ok = false∧¬ isBlank (L.getD k []) then bads L k ++ [(k : Int)] else bads L k:=rfl
    have e2 : stopAt L (k + 1) = if isBlank (L.getD k []) then stopAt L k else k + 1:=rfl
    have e3 : nextOf L (k + 1) = max (nextOf L k) ((unp (L.getD k [])).num + 1):=rfl
    have hlp : (L.map unp).getD k noPart = unp (L.getD k []):=by
      rw [List.getD_eq_getElem?_getD,List.getD_eq_getElem?_getD,List.getElem?_map,List.getElem?_eq_getElem (by omega)];rfl
    have hbl:=bads_len L k
    have hnx:=nextOf_le L k
    have hst:=stopAt_le L k
    generalize hp : unp (L.getD k []) = p at *
    generalize L.getD k [] = s at *
    obtain ⟨q1,q2,q3,q4,q5⟩:=p
    have pk1 : q1 ≤ 4096:=pk.num
    by_cases hz : isBlank s
    · rw [if_pos hz] at e2
      rw [if_neg (fun h=>h.2 hz)] at e1
      have hr:=hb.1 hz
      repeat' (first | (refine SS_ ?_) | (refine Seq.callo false [] [] (.tup (.pair (.str s) (.pair (.int .i64 0) .nul))) (dD n D) 9 (rd) Tryz.func47 gK_ok subG.nil (by rfl) (by rfl) rfl rfl rfl rfl rfl (by rfl) rfl (by rfl) (by rfl) (by rfl) (by rfl) VW_ NI_ R_ (noFrL_ok NI_) BK_ ?_) | (refine Seq.callp false (cu) Tryz.func48 gK_ok subG.refl (by rfl) (by rfl) rfl rfl rfl rfl rfl (by rfl) rfl VW_ NI_ NI_ FR_ ?_) | (refine Seq.eqarr (true) tt_ok (by rfl) (by rfl) (by rfl) (by kernel_rfl) (by rfl) (by rfl) (by rfl) rfl ⟨fun _=>hr,fun _=>rfl⟩ ?_) | (refine VC.drawm (id:=16) [(0,0),(1,0),(2,2),(3,6),(4,14),(5,0),(6,32),(7,96),(8,254),(9,511),(10,1023)] [11] (by rfl) (by kernel_rfl) (by rfl) ?_) | (refine DSeq.val (by rfl) (fastE (by rfl)) (fastH (by rfl)) (max_ok (by rfl) (by rfl)) (by rfl) (by rfl) ?_) | (refine Seq.lit (by rfl) (by rfl) LT2_ ?_) | (refine VC.litT (by rfl) LTR_ ?_) | (refine VC.litF (by rfl) LFA_ ?_) | (refine DD_ ?_) | (refine Seq.litC (by rfl) (by rfl) (fun hb=>?_) (fun hb=>?_) <;> (fail_if_success (with_reducible have:=litT_ hb)) <;> (fail_if_success (with_reducible have:=litF_ hb)) <;> (try simp only [HB_] at hb) <;> (try (exfalso;first | omega | (cases hb;done)))) | fail)
      all_goals
        refine ⟨k + 1,by omega,by omega,?_⟩
        unfold oJ
        rw [e1,e2,e3]
        (refine Sim.less [(5,11)] (by rfl) ?_ ?_ <;> (repeat' (first | (exact EnvLe.nil) | (exact HeapLe.nil) | (with_reducible apply EnvLe.cons) | (with_reducible apply HeapLe.cons) | ((with_reducible refine RelA.int ?_;first | (refine Keep.mk ?_;first | with_reducible rfl | omega | decide) | skip)) | (exact rfl) | (exact ⟨rfl,rfl⟩) | ((with_reducible refine RelA.arr ?_;intro i hi)) | (with_reducible refine RelA.pair ?_ ?_) | ((refine RelA.arr ?_;intro i hi)) | (exact NoId.self (by first | ((repeat' (first | exact trivial | exact rfl | refine NoFr.bif ?_ ?_ | refine NoId.bif ?_ ?_ | refine AllFr.bif ?_ ?_ | (intro i hi) | (refine ⟨?_,?_⟩) | (intro e;cases e;done)));done) | fail)) | fail)) <;> (try with_reducible refine Keep.mk ?_))
        exact rel_stepG hlp.symm (by assumption)
    · rw [if_neg hz] at e2
      have hr : ¬ ∀ i,i < 64→(((s.getD i 0).toNat : Nat) : Int) = 0:=fun h=>hz (hb.2 h)
      cases q5 with
      | true =>
        rw [if_neg (fun h=>by cases h.1)] at e1
        repeat' (first | (refine SS_ ?_) | (refine Seq.callo false [] [] (.tup (.pair (.str s) (.pair (.int .i64 0) .nul))) (dD n D) 9 (rd) Tryz.func47 gK_ok subG.nil (by rfl) (by rfl) rfl rfl rfl rfl rfl (by rfl) rfl (by rfl) (by rfl) (by rfl) (by rfl) VW_ NI_ R_ (noFrL_ok NI_) BK_ ?_) | (refine Seq.callp false (cu) Tryz.func48 gK_ok subG.refl (by rfl) (by rfl) rfl rfl rfl rfl rfl (by rfl) rfl VW_ NI_ NI_ FR_ ?_) | (refine Seq.eqarr (false) tt_ok (by rfl) (by rfl) (by rfl) (by kernel_rfl) (by rfl) (by rfl) (by rfl) rfl ⟨fun e=>(by cases e),fun e=>(hr e).elim⟩ ?_) | (refine VC.drawm (id:=16) [(0,0),(1,0),(2,2),(3,6),(4,14),(5,0),(6,32),(7,96),(8,254),(9,511),(10,1023)] [11] (by rfl) (by kernel_rfl) (by rfl) ?_) | (refine DSeq.val (by rfl) (fastE (by rfl)) (fastH (by rfl)) (max_ok (by rfl) (by rfl)) (by rfl) (by rfl) ?_) | (refine Seq.lit (by rfl) (by rfl) LT2_ ?_) | (refine VC.litT (by rfl) LTR_ ?_) | (refine VC.litF (by rfl) LFA_ ?_) | (refine DD_ ?_) | fail)
        all_goals
          refine ⟨k + 1,by omega,by omega,?_⟩
          unfold oJ
          rw [e1,e2,e3]
          (refine Sim.less [(5,11)] (by rfl) ?_ ?_ <;> (repeat' (first | (exact EnvLe.nil) | (exact HeapLe.nil) | (with_reducible apply EnvLe.cons) | (with_reducible apply HeapLe.cons) | ((with_reducible refine RelA.int ?_;first | (refine Keep.mk ?_;first | with_reducible rfl | omega | decide) | skip)) | (exact rfl) | (exact ⟨rfl,rfl⟩) | ((with_reducible refine RelA.arr ?_;intro i hi)) | (with_reducible refine RelA.pair ?_ ?_) | ((refine RelA.arr ?_;intro i hi)) | (exact NoId.self (by first | ((repeat' (first | exact trivial | exact rfl | refine NoFr.bif ?_ ?_ | refine NoId.bif ?_ ?_ | refine AllFr.bif ?_ ?_ | (intro i hi) | (refine ⟨?_,?_⟩) | (intro e;cases e;done)));done) | fail)) | fail)) <;> (try with_reducible refine Keep.mk ?_))
          exact rel_stepG hlp.symm (by assumption)
      | false =>
        rw [if_pos ⟨rfl,hz⟩] at e1
        repeat' (first | (refine SS_ ?_) | (refine Seq.callo false [] [] (.tup (.pair (.str s) (.pair (.int .i64 0) .nul))) (dD n D) 9 (rd) Tryz.func47 gK_ok subG.nil (by rfl) (by rfl) rfl rfl rfl rfl rfl (by rfl) rfl (by rfl) (by rfl) (by rfl) (by rfl) VW_ NI_ R_ (noFrL_ok NI_) BK_ ?_) | (refine Seq.callp false (cu) Tryz.func48 gK_ok subG.refl (by rfl) (by rfl) rfl rfl rfl rfl rfl (by rfl) rfl VW_ NI_ NI_ FR_ ?_) | (refine Seq.eqarr (false) tt_ok (by rfl) (by rfl) (by rfl) (by kernel_rfl) (by rfl) (by rfl) (by rfl) rfl ⟨fun e=>(by cases e),fun e=>(hr e).elim⟩ ?_) | (refine VC.drawm (id:=16) [(0,0),(1,0),(2,2),(3,6),(4,14),(5,0),(6,32),(7,96),(8,254),(9,511),(10,1023)] [11] (by rfl) (by kernel_rfl) (by rfl) ?_) | (refine DSeq.val (by rfl) (fastE (by rfl)) (fastH (by rfl)) (max_ok (by rfl) (by rfl)) (by rfl) (by rfl) ?_) | (refine Seq.lit (by rfl) (by rfl) LT2_ ?_) | (refine VC.litT (by rfl) LTR_ ?_) | (refine VC.litF (by rfl) LFA_ ?_) | (refine DD_ ?_) | fail)
        all_goals
          refine ⟨k + 1,by omega,by omega,?_⟩
          unfold oJ
          rw [e1,e2,e3,List.length_append,List.length_singleton]
          (refine Sim.less [(5,11),(6,13)] (by rfl) ?_ ?_ <;> (repeat' (first | (exact EnvLe.nil) | (exact HeapLe.nil) | (with_reducible apply EnvLe.cons) | (with_reducible apply HeapLe.cons) | ((with_reducible refine RelA.int ?_;first | (refine Keep.mk ?_;first | with_reducible rfl | omega | decide) | skip)) | (exact rfl) | (exact ⟨rfl,rfl⟩) | ((with_reducible refine RelA.arr ?_;intro i hi)) | (with_reducible refine RelA.pair ?_ ?_) | ((refine RelA.arr ?_;intro i hi)) | (exact NoId.self (by first | ((repeat' (first | exact trivial | exact rfl | refine NoFr.bif ?_ ?_ | refine NoId.bif ?_ ?_ | refine AllFr.bif ?_ ?_ | (intro i hi) | (refine ⟨?_,?_⟩) | (intro e;cases e;done)));done) | fail)) | fail)) <;> (try with_reducible refine Keep.mk ?_))
          all_goals first | exact rel_stepG hlp.symm (by assumption) | exact rel_snocG (G:=AV.int .i64) (fun e=>NI_) (by assumption)
  · obtain rfl : k = n:=by omega
    have hQl : (L.map unp).length = k:=by rw [List.length_map,hlL]
    have hQo : ∀ p ∈ L.map unp,POk p:=fun p hp=>by
      obtain ⟨s,_,rfl⟩:=List.mem_map.1 hp
      exact unp_pok s
    have hJ : opn L = ⟨scan 0 (L.map unp) [],bads L k,nextOf L k,stopAt L k,false⟩:=by unfold opn;rw [hlL]
    rw [hJ]
    unfold oJ
    generalize L.map unp = Q at *
    repeat' (first | (refine SS_ ?_) | (refine VC.litF (by rfl) LFA_ ?_) | fail)
    refine VC.conv (Sim.stillV (e':=[(11,.int .i64 ((0 : Nat) : Int)),(5,.rsl false k 5 (fun i=>partA (Q.getD i noPart))),(4,.ptr 4 []),(0,.ptr 0 [])]) (h':=(4,.pair (.ptr 0 []) (.pair (.sl 7 [] 1 0 0) (.pair (.sl 6 [] 1 0 (bads L k).length) (.pair (.sl 8 [] 1 0 0) (.pair (.int .i64 (nextOf L k)) (.pair (.int .i64 (stopAt L k : Nat)) (.pair (.bool false) .nul)))))))::(6,.arr (bads L k).length 1 (fun i=>.int .i64 ((bads L k).getD i 0)))::(7,.arr 0 1 (fun i=>.int .i64 (([] : List Int).getD i 0)))::(8,.arr 0 1 (fun i=>.str (([] : List Bs).getD i [])))::dD k D) [5] (by rfl) (by repeat' (first | exact HeapV.nil | refine HeapV.cons (by rfl) VW_ NI_ (by rfl) ?_)) (EnvV.cons (by rfl) VW_ NI_ (EnvV.cons (by rfl) (view_partsN (by rfl) ⟨rfl,rfl⟩) NI_ (EnvV.cons (by rfl) VW_ NI_ (EnvV.cons (by rfl) VW_ NI_ EnvV.nil))))) ?_
    have cc:=fun (x : Nat) (h : x < k)=>record_ok (Q.drop x) (fun e=>by have:=congrArg List.length e;rw [List.length_drop,hQl] at this;simp at this;omega) (by rw [List.length_drop];omega) (fun p hp=>hQo p (List.mem_of_mem_drop hp))
    generalize hR : scan 0 Q [] = R at *
    refine VC.loop (fun x : Nat × List (Int × Bs)=>⟨[(11,.int .i64 (x.1 : Nat)),(5,.rsl false k 5 (fun i=>partA (Q.getD i noPart))),(4,.ptr 4 []),(0,.ptr 0 [])],(4,.pair (.ptr 0 []) (.pair (.sl 7 [] 1 0 (x.2.map (·.1)).length) (.pair (.sl 6 [] 1 0 (bads L k).length) (.pair (.sl 8 [] 1 0 (x.2.map (·.2)).length) (.pair (.int .i64 (nextOf L k)) (.pair (.int .i64 (stopAt L k : Nat)) (.pair (.bool false) .nul)))))))::(6,.arr (bads L k).length 1 (fun i=>.int .i64 ((bads L k).getD i 0)))::(7,liO (x.2.map (·.1)))::(8,txO (x.2.map (·.2)))::dD k D,gK,9⟩) (fun x=>x.1 ≤ k∧x.2.length ≤ x.1∧scan 0 (Q.drop x.1) x.2 = R) (fun x=>k - x.1) (0,[]) ⟨Nat.zero_le _,Nat.le_refl _,hR⟩ (by
      (refine Sim.less [] (by rfl) ?_ ?_ <;> (repeat' (first | (exact EnvLe.nil) | (exact HeapLe.nil) | (with_reducible apply EnvLe.cons) | (with_reducible apply HeapLe.cons) | ((with_reducible refine RelA.int ?_;first | (refine Keep.mk ?_;first | with_reducible rfl | omega | decide) | skip)) | (exact rfl) | (exact ⟨rfl,rfl⟩) | ((with_reducible refine RelA.rsl ?_;intro i hi)) | ((with_reducible refine RelA.arr ?_;intro i hi)) | (with_reducible refine RelA.pair ?_ ?_) | ((refine RelA.arr ?_;intro i hi)) | (exact NoId.self (by first | ((repeat' (first | exact trivial | exact rfl | refine NoFr.bif ?_ ?_ | refine NoId.bif ?_ ?_ | refine AllFr.bif ?_ ?_ | (intro i hi) | (refine ⟨?_,?_⟩) | (intro e;cases e;done)));done) | fail)) | fail)) <;> (try with_reducible refine Keep.mk ?_))
      all_goals first | exact absurd (by assumption) (Nat.not_lt_zero _) | trace_state) fun x hx=>?_
    obtain ⟨x,a⟩:=x
    obtain ⟨hx1,hx2,hx3⟩:=hx
    have hx1 : x ≤ k:=hx1
    have hx2 : a.length ≤ x:=hx2
    have hx3 : scan 0 (Q.drop x) a = R:=hx3
    show VC _ _ _ ⟨[(11,.int .i64 (x : Nat)),(5,.rsl false k 5 (fun i=>partA (Q.getD i noPart))),(4,.ptr 4 []),(0,.ptr 0 [])],(4,.pair (.ptr 0 []) (.pair (.sl 7 [] 1 0 (a.map (·.1)).length) (.pair (.sl 6 [] 1 0 (bads L k).length) (.pair (.sl 8 [] 1 0 (a.map (·.2)).length) (.pair (.int .i64 (nextOf L k)) (.pair (.int .i64 (stopAt L k : Nat)) (.pair (.bool false) .nul)))))))::(6,.arr (bads L k).length 1 (fun i=>.int .i64 ((bads L k).getD i 0)))::(7,liO (a.map (·.1)))::(8,txO (a.map (·.2)))::dD k D,gK,9⟩
    have hln : (a.map (·.1)).length = a.length:=List.length_map _
    have hlt : (a.map (·.2)).length = a.length:=List.length_map _
    by_cases hxk : x < k
    · have c1:=cc x hxk
      by_cases hr : IsRec (Q.drop x)
      · rw [recA_yes hr] at c1
        have h0 : (Q.drop x).getD 0 noPart = Q.getD x noPart:=Go.Jn.getD_drop
        rw [h0] at c1
        have hrr:=(isRec_head hr).1
        have hcl : cnt ((Q.getD x noPart).left : Nat) ≤ k - x:=by
          have:=((isRec_iff (fun e=>by rw [e] at hr;exact hr.elim)).1 hr).2.2.1
          rw [h0,List.length_drop,hQl] at this;exact this
        have hp:=POk.get hQo x
        have hcp : 1 ≤ cnt ((Q.getD x noPart).left : Nat):=cnt_pos (by omega) (by have:=hp.left;omega)
        have hst : scan 0 (Q.drop x) a = scan 0 (Q.drop (x + cnt ((Q.getD x noPart).left : Nat))) (more a (Q.getD x noPart).num (joined (Q.drop x) (cnt ((Q.getD x noPart).left : Nat)))):=by
          rw [scan_rec hr (by rw [headD_eq,h0];exact hcp),headD_eq,h0,List.drop_drop]
          unfold recText
          rw [headD_eq,h0]
        have c2:=contains_ok (a.map (·.1)) (by omega) ((Q.getD ((x : Int)).toNat noPart).num : Nat)
        have en : (Q.getD ((x : Int)).toNat noPart).num = (Q.getD x noPart).num:=by rw [Int.toNat_natCast]
        rw [show decide ((((Q.getD ((x : Int)).toNat noPart).num : Nat) : Int) ∈ a.map (·.1)) = decide ((((Q.getD x noPart).num : Nat) : Int) ∈ a.map (·.1)) by rw [en]] at c2
        generalize joined (Q.drop x) (cnt ((Q.getD x noPart).left : Nat)) = tx at *
        by_cases hm : ((Q.getD x noPart).num : Int) ∈ a.map (·.1)
        · rw [decide_eq_true hm] at c2
          repeat' (first | (refine SS_ ?_) | (refine Seq.callp false (c1) Tryz.func49 gK_ok subG.nil (by rfl) (by rfl) rfl rfl rfl rfl rfl (by rfl) rfl (by exact View.pair (view_parts hQl) VW_) NI_ NI_ FR_ ?_) | (refine VC.drawm (id:=23) [(0,0),(1,1),(2,3),(3,7),(4,0),(5,0),(6,48),(7,112),(8,240),(9,511),(10,1023)] [] (by rfl) (by kernel_rfl) (by rfl) ?_) | (refine DSeq.callp true (c2) Tryz.func50 gK_ok subG.nil (by rfl) (fastE (by rfl)) (fastH (by rfl)) (by rfl) (by rfl) rfl rfl rfl rfl rfl (by rfl) (by rfl) (by exact View.pair (view_li (by rfl) ⟨rfl,rfl⟩ rfl) VW_) NI_ NI_ FR_ ?_) | (refine VC.litT (by rfl) LTR_ ?_) | (refine VC.litF (by rfl) LFA_ ?_) | (refine DD_ ?_) | fail)
          have hmo : more a (Q.getD x noPart).num tx = a:=by unfold more hasN;rw [if_pos (List.contains_iff_mem.2 hm)]
          rw [hmo] at hst
          refine ⟨(x + cnt ((Q.getD x noPart).left : Nat),a),⟨(by omega : x + _ ≤ k),(by omega : a.length ≤ x + _),by rw [← hst];exact hx3⟩,(by omega : k - (x + _) < k - x),?_⟩
          show ∀ a_1 w,_→Sim _ ⟨[(11,.int .i64 ((x + cnt ((Q.getD x noPart).left : Nat) : Nat) : Int)),(5,.rsl false k 5 (fun i=>partA (Q.getD i noPart))),(4,.ptr 4 []),(0,.ptr 0 [])],(4,.pair (.ptr 0 []) (.pair (.sl 7 [] 1 0 (a.map (·.1)).length) (.pair (.sl 6 [] 1 0 (bads L k).length) (.pair (.sl 8 [] 1 0 (a.map (·.2)).length) (.pair (.int .i64 (nextOf L k)) (.pair (.int .i64 (stopAt L k : Nat)) (.pair (.bool false) .nul)))))))::(6,.arr (bads L k).length 1 (fun i=>.int .i64 ((bads L k).getD i 0)))::(7,liO (a.map (·.1)))::(8,txO (a.map (·.2)))::dD k D,gK,9⟩ a_1 w
          exact (Sim.less [] (by rfl) R_ R_)
        · rw [decide_eq_false hm] at c2
          repeat' (first | (refine SS_ ?_) | (refine Seq.callp false (c1) Tryz.func49 gK_ok subG.nil (by rfl) (by rfl) rfl rfl rfl rfl rfl (by rfl) rfl (by exact View.pair (view_parts hQl) VW_) NI_ NI_ FR_ ?_) | (refine VC.drawm (id:=23) [(0,0),(1,1),(2,3),(3,7),(4,0),(5,0),(6,48),(7,112),(8,240),(9,511),(10,1023)] [] (by rfl) (by kernel_rfl) (by rfl) ?_) | (refine DSeq.callp true (c2) Tryz.func50 gK_ok subG.nil (by rfl) (fastE (by rfl)) (fastH (by rfl)) (by rfl) (by rfl) rfl rfl rfl rfl rfl (by rfl) (by rfl) (by exact View.pair (view_li (by rfl) ⟨rfl,rfl⟩ rfl) VW_) NI_ NI_ FR_ ?_) | (refine VC.drawLM2 (id:=24) [(0,0),(1,0),(2,0),(3,4),(4,12),(5,28),(6,0),(7,0),(8,192),(9,448),(10,960),(11,1984),(12,4092)] [(13,0),(14,8192),(15,24576),(16,57344),(17,0),(18,131072),(19,524284),(20,1048573),(21,2097149)] [1] 22 [23,24,25] [7] [8] (by rfl) (by kernel_rfl) (by rfl) (by rfl) (by rfl) (by rfl) (by rfl) (by rfl) (by rfl) ?_) | (refine DSeq.eata true tt_ok (by rfl) (fastE (by rfl)) (fastH (by rfl)) (fastH (by rfl)) (by rfl) (by (first | exact trivial | exact u8_in _ rfl | exact u32_in _ rfl | ((with_reducible refine AllP.guard ?_);simp only [AllP,inI,fitV,maxK,inK,inbL,inb,List.append,List.cons_append,List.nil_append,true_and,and_true];first | done | omega))) (by rfl) rfl (by rfl) ?_) | (refine DSeq.nil ⟨rfl,by rfl,late_end true tt_ok (by rfl) (by rfl) (by rfl) (by (first | exact trivial | exact u8_in _ rfl | exact u32_in _ rfl | ((with_reducible refine AllP.guard ?_);simp only [AllP,inI,fitV,maxK,inK,inbL,inb,List.append,List.cons_append,List.nil_append,true_and,and_true];first | done | omega))) (by rfl) (by repeat (first | exact trivial | refine ⟨trivial,?_⟩ | refine ⟨late_extract (by rfl) (by rfl) (by rfl) (by rfl),?_⟩ | refine ⟨late_move (by rfl) (by rfl) (by rfl),?_⟩)) (by rfl) ?_⟩) | (refine DSeq.nil ⟨rfl,?_⟩) | (refine VC.litT (by rfl) LTR_ ?_) | (refine VC.litF (by rfl) LFA_ ?_) | (refine DD_ ?_) | fail)
          have hmo : more a (Q.getD x noPart).num tx = a ++ [(((Q.getD x noPart).num : Int),tx)]:=by unfold more hasN;rw [if_neg (fun h=>hm (List.contains_iff_mem.1 h))]
          rw [hmo] at hst
          have hA1 : (a ++ [(((Q.getD x noPart).num : Int),tx)]).map (·.1) = a.map (·.1) ++ [((Q.getD x noPart).num : Int)]:=by rw [List.map_append];rfl
          have hA2 : (a ++ [(((Q.getD x noPart).num : Int),tx)]).map (·.2) = a.map (·.2) ++ [tx]:=by rw [List.map_append];rfl
          refine ⟨(x + cnt ((Q.getD x noPart).left : Nat),a ++ [(((Q.getD x noPart).num : Int),tx)]),⟨(by omega : x + _ ≤ k),(by rw [List.length_append,List.length_singleton];omega : (a ++ [(((Q.getD x noPart).num : Int),tx)]).length ≤ x + _),by rw [← hst];exact hx3⟩,(by omega : k - (x + _) < k - x),?_⟩
          show ∀ a_1 w,_→Sim _ ⟨[(11,.int .i64 ((x + cnt ((Q.getD x noPart).left : Nat) : Nat) : Int)),(5,.rsl false k 5 (fun i=>partA (Q.getD i noPart))),(4,.ptr 4 []),(0,.ptr 0 [])],(4,.pair (.ptr 0 []) (.pair (.sl 7 [] 1 0 ((a ++ [(((Q.getD x noPart).num : Int),tx)]).map (·.1)).length) (.pair (.sl 6 [] 1 0 (bads L k).length) (.pair (.sl 8 [] 1 0 ((a ++ [(((Q.getD x noPart).num : Int),tx)]).map (·.2)).length) (.pair (.int .i64 (nextOf L k)) (.pair (.int .i64 (stopAt L k : Nat)) (.pair (.bool false) .nul)))))))::(6,.arr (bads L k).length 1 (fun i=>.int .i64 ((bads L k).getD i 0)))::(7,liO ((a ++ [(((Q.getD x noPart).num : Int),tx)]).map (·.1)))::(8,txO ((a ++ [(((Q.getD x noPart).num : Int),tx)]).map (·.2)))::dD k D,gK,9⟩ a_1 w
          rw [hA1,hA2]
          unfold liO txO
          rw [List.length_append,List.length_append,List.length_singleton,List.length_singleton]
          (refine Sim.less [(7,10),(8,12)] (by rfl) ?_ ?_ <;> (repeat' (first | (exact EnvLe.nil) | (exact HeapLe.nil) | (with_reducible apply EnvLe.cons) | (with_reducible apply HeapLe.cons) | ((with_reducible refine RelA.int ?_;first | (refine Keep.mk ?_;first | with_reducible rfl | omega | decide) | skip)) | (exact rfl) | (exact ⟨rfl,rfl⟩) | ((with_reducible refine RelA.rsl ?_;intro i hi)) | ((with_reducible refine RelA.arr ?_;intro i hi)) | (with_reducible refine RelA.pair ?_ ?_) | ((refine RelA.arr ?_;intro i hi)) | (exact NoId.self (by first | ((repeat' (first | exact trivial | exact rfl | refine NoFr.bif ?_ ?_ | refine NoId.bif ?_ ?_ | refine AllFr.bif ?_ ?_ | (intro i hi) | (refine ⟨?_,?_⟩) | (intro e;cases e;done)));done) | fail)) | fail)) <;> (try with_reducible refine Keep.mk ?_))
          · exact rel_snocG (G:=AV.int .i64) (fun e=>NI_) (by assumption)
          · exact rel_snocG (G:=AV.str) (fun e=>NI_) (by assumption)
      · rw [recA_no hr] at c1
        repeat' (first | (refine SS_ ?_) | (refine Seq.callp false (c1) Tryz.func49 gK_ok subG.nil (by rfl) (by rfl) rfl rfl rfl rfl rfl (by rfl) rfl (by exact View.pair (view_parts hQl) VW_) NI_ NI_ FR_ ?_) | (refine VC.litT (by rfl) LTR_ ?_) | fail)
        have hst : scan 0 (Q.drop x) a = scan 0 (Q.drop (x + 1)) a:=by
          rw [scan_skip 1 (Q.drop x) a (fun j hj=>by rw [show j = 0 by omega];exact hr),List.drop_drop]
        refine ⟨(x + 1,a),⟨(by omega : x + 1 ≤ k),(by omega : a.length ≤ x + 1),by rw [← hst];exact hx3⟩,(by omega : k - (x + 1) < k - x),?_⟩
        show ∀ a_1 w,_→Sim _ ⟨[(11,.int .i64 ((x + 1 : Nat) : Int)),(5,.rsl false k 5 (fun i=>partA (Q.getD i noPart))),(4,.ptr 4 []),(0,.ptr 0 [])],(4,.pair (.ptr 0 []) (.pair (.sl 7 [] 1 0 (a.map (·.1)).length) (.pair (.sl 6 [] 1 0 (bads L k).length) (.pair (.sl 8 [] 1 0 (a.map (·.2)).length) (.pair (.int .i64 (nextOf L k)) (.pair (.int .i64 (stopAt L k : Nat)) (.pair (.bool false) .nul)))))))::(6,.arr (bads L k).length 1 (fun i=>.int .i64 ((bads L k).getD i 0)))::(7,liO (a.map (·.1)))::(8,txO (a.map (·.2)))::dD k D,gK,9⟩ a_1 w
        exact (Sim.less [] (by rfl) R_ R_)
    · obtain rfl : x = k:=by omega
      have hRa : a = R:=by rw [← hx3,List.drop_of_length_le (by omega),scan_nil]
      subst hRa
      repeat' (first | (refine SS_ ?_) | (refine VC.litF (by rfl) LFA_ ?_) | fail)
      refine retC_conv' (s':=⟨[(2,.ptr 4 []),(3,.int .i64 0)],(4,jrA 0 5 6 7 (a.map (·.1)) (bads L x) (a.map (·.2)) (nextOf L x) (stopAt L x) false)::(5,liO (a.map (·.1)))::(6,liO (bads L x))::(7,txO (a.map (·.2)))::dD x D,gK,9⟩) (Sim.less [(5,7),(7,8)] (by rfl) R_ R_) ?_
      (refine retC_mk ([(2,.ptr 4 []),(3,.int .i64 0)]) ((4,jrA 0 5 6 7 (a.map (·.1)) (bads L x) (a.map (·.2)) (nextOf L x) (stopAt L x) false)::(5,liO (a.map (·.1)))::(6,liO (bads L x))::(7,txO (a.map (·.2)))::dD x D) 9 (Sim.less [] (by rfl) R_ R_) (retQ_ok (by rfl) ((4,jrA 0 5 6 7 (a.map (·.1)) (bads L x) (a.map (·.2)) (nextOf L x) (stopAt L x) false)::(5,liO (a.map (·.1)))::(6,liO (bads L x))::(7,txO (a.map (·.2)))::dD x D) (fun i av h=>h) ⟨?_,?_⟩)) <;> rfl
end Go.Proofs.YtmbldnahcmkpgaaGreatDoor
