/- Journals: Append in one contract; what stays true of disks and journals. Journals, plain: what writing, the power's failure and switching on again leave on a disk. Journals, plain: what an append leaves on a disk that is switched on and has nothing pending. Journals, plain: records one after the other on a disk without worn sectors. -/
import Derived.Test.YtmbldnahcmkpgaaGreatDoorAn
set_option linter.unusedSimpArgs false
set_option linter.unusedVariables false
namespace Go.Proofs.YtmbldnahcmkpgaaGreatDoor
open Go.V Go.RowKit Go.L Go.Lx Go.Jn Go.Dk
set_option maxRecDepth 10000
set_option maxHeartbeats 4000000
structure JOkN (n c : Nat) (J : Jr) : Prop where
  n1 : 1 ≤ J.next
  n2 : J.next ≤ 4097
  stop : J.stop ≤ n
  len : J.R.length ≤ c
  bad : J.bad.length ≤ n
theorem scan_len : ∀ (l : List Part) (s : Nat) (a : List (Int × Bs)),(scan s l a).length ≤ a.length + l.length
  | [],s,a=>by rw [scan_nil];omega
  | p::r,s + 1,a=>by
    have:=scan_len r s a
    rw [scan,List.length_cons];omega
  | p :: r,0,a=>by
    rw [scan]
    split
    · have:=scan_len r (cnt p.left - 1) (more a p.num (recText (p::r)))
      have h2 : (more a p.num (recText (p::r))).length ≤ a.length + 1:=by
        unfold more
        split
        · omega
        · rw [List.length_append,List.length_singleton];omega
      rw [List.length_cons];omega
    · have:=scan_len r 0 a
      rw [List.length_cons];omega
theorem opn_ok {n : Nat} {L : List Bs} (h : L.length = n) : JOkN n n (opn L):=by
  have h1:=nextOf_le L L.length
  have h2:=stopAt_le L L.length
  have h3:=bads_len L L.length
  have h4:=scan_len (L.map unp) 0 []
  rw [List.length_map] at h4
  simp only [List.length_nil] at h4
  exact ⟨h1.1,h1.2,by show stopAt L L.length ≤ n;omega,by show (scan 0 (L.map unp) []).length ≤ n;omega,by show (bads L L.length).length ≤ n;omega⟩
theorem wfr_err {n : Nat} {D : Disk} {a : Nat} {l : List Bs} : (wfr n D a l).2.1 ≠ 0→(wfr n D a l).2.2 = false:=by
  unfold wfr
  split
  · intro _;rfl
  · split
    · intro _;rfl
    · intro h;exact absurd rfl h
theorem good_wfr {n : Nat} {D : Disk} (hG : GoodD n D) {a : Nat} {l : List Bs} (ha : a + l.length ≤ n) (hl : ∀ s ∈ l,s.length = 64) : GoodD n (wfr n D a l).1:=by
  have h1:=good_wrK hG ha hl l.length (Nat.le_refl _)
  unfold wfr
  split
  · exact h1
  · split
    · exact good_do h1 opF_ok
    · exact good_do h1 opF_ok
variable {n c : Nat} {D : Disk} {J : Jr}
theorem app_good (hG : GoodD n D) (hJ : JOkN n c J) (t : Bs) : GoodD n (app n D J t).1.1:=by
  unfold app
  split
  · exact hG
  · split
    · exact hG
    · split
      · exact hG
      · rename_i h1 h2 h3
        have h4:=hJ.stop
        have:=good_wfr hG (a:=J.stop) (l:=parts J.next.toNat t) (by rw [parts_len];omega) parts_64
        split
        · exact this
        · split <;> exact this
theorem app_jok (hJ : JOkN n c J) (t : Bs) : JOkN n (c + 1) (app n D J t).1.2:=by
  have h1:=hJ.n1;have h2:=hJ.n2;have h3:=hJ.stop;have h4:=hJ.len;have h5:=hJ.bad
  have h0 : JOkN n (c + 1) J:=⟨h1,h2,h3,by omega,h5⟩
  unfold app
  split
  · exact h0
  · split
    · exact h0
    · split
      · exact h0
      · rename_i q1 q2 q3
        have hw : ∀ sh,JOkN n (c + 1) (jWr J t sh):=fun sh=>⟨by show 1 ≤ J.next + 1;omega,by show J.next + 1 ≤ 4097;omega,by show J.stop + cnt t.length ≤ n;omega,by show J.R.length ≤ c + 1;omega,h5⟩
        split
        · exact hw true
        · split
          · exact hw false
          · exact ⟨by show 1 ≤ J.next + 1;omega,by show J.next + 1 ≤ 4097;omega,by show J.stop + cnt t.length ≤ n;omega,by show (J.R ++ [(J.next,t)]).length ≤ c + 1;rw [List.length_append,List.length_singleton];omega,h5⟩
theorem nums_len : (nums J).length = J.R.length:=List.length_map _
theorem texts_len : (texts J).length = J.R.length:=List.length_map _
theorem append_ok (hG : GoodD n D) (hJ : JOkN n c J) (hc : c ≤ 1048576) (t : Bs) (ht : t.length ≤ 9223372036854775807) : Ok Tryz.prog 19 gK (jH n D J) (.pair (.ptr 4 []) (.pair (.str t) .nul))
    (fun r h'=>r = .tup (.pair (.int .i64 (app n D J t).2.1) (.pair (.int .i64 (app n D J t).2.2) .nul))∧h' = jHn n (app n D J t).1.1 (app n D J t).1.2):=by
  have hn:=hG.n1
  have j1:=hJ.n1;have j2:=hJ.n2;have j3:=hJ.stop;have j4:=hJ.len
  have l1:=nums_len (J:=J)
  have l2:=texts_len (J:=J)
  obtain ⟨R,bd,next,stop,shut⟩:=J
  have j1 : 1 ≤ next:=j1
  have j2 : next ≤ 4097:=j2
  have j3 : stop ≤ n:=j3
  unfold app
  cases shut with
  | true =>
    rw [if_pos rfl]
    exact app_shut next t
  | false =>
    rw [if_neg (show ¬ false = true by decide)]
    by_cases h1 : 8000 < t.length ∨ 4096 < next
    · rw [if_pos h1]
      exact app_limit next t ht h1
    · rw [if_neg h1]
      by_cases h2 : (n : Int) - stop < cnt t.length
      · rw [if_pos h2]
        exact app_full next t hn j3 (by omega) (by omega) h2
      · rw [if_neg h2]
        obtain ⟨m,rfl⟩ : ∃ m : Nat,next = m:=⟨next.toNat,by omega⟩
        have hgo:=app_go (N:=nums ⟨R,bd,(m : Int),stop,false⟩) (B:=bd) (T:=texts ⟨R,bd,(m : Int),stop,false⟩) (stop:=stop) hG m t (by omega) (by omega) (by omega) (by omega) (by rw [l1];omega) (by rw [l2];omega) (D':=(wfr n D stop (parts m t)).1) (e:=(wfr n D stop (parts m t)).2.1) (b:=(wfr n D stop (parts m t)).2.2) rfl wfr_err
        simp only [Int.toNat_natCast]
        by_cases h3 : (wfr n D stop (parts m t)).2.1 ≠ 0
        · rw [if_pos h3,decide_eq_true h3,wfr_err h3] at hgo
          rw [if_pos h3]
          exact hgo
        · rw [if_neg h3,decide_eq_false h3] at hgo
          rw [if_neg h3]
          by_cases h4 : (wfr n D stop (parts m t)).2.2 = false
          · rw [h4] at hgo
            rw [if_pos h4]
            exact hgo
          · have h5 : (wfr n D stop (parts m t)).2.2 = true:=by simpa using h4
            rw [h5] at hgo
            rw [if_neg h4]
            rw [if_pos rfl,if_pos rfl,if_pos rfl,if_pos rfl] at hgo
            have e1 : nums (jAdd ⟨R,bd,(m : Int),stop,false⟩ t) = nums ⟨R,bd,(m : Int),stop,false⟩ ++ [(m : Int)]:=by unfold nums jAdd;rw [List.map_append];rfl
            have e2 : texts (jAdd ⟨R,bd,(m : Int),stop,false⟩ t) = texts ⟨R,bd,(m : Int),stop,false⟩ ++ [t]:=by unfold texts jAdd;rw [List.map_append];rfl
            rw [← e1,← e2] at hgo
            exact hgo
end Go.Proofs.YtmbldnahcmkpgaaGreatDoor

namespace Go.Proofs.YtmbldnahcmkpgaaGreatDoor
open Go.V Go.RowKit Go.L Go.Lx Go.Jn Go.Dk
theorem rmt_get (picks : List Int) (S : List Sec) : ∀ k,k ≤ S.length→(rmt picks k S).1.length = S.length∧∀ i,i < S.length→∃ m,m ≤ 64∧(picks = []→m = 64)∧(rmt picks k S).1.getD i secZ = if i < k∧(S.getD i secZ).D = true then setl (S.getD i secZ) m else S.getD i secZ
  | 0,_=>⟨rfl,fun i _=>⟨64,Nat.le_refl _,fun _=>rfl,by rw [if_neg (by omega)];rfl⟩⟩
  | k + 1,hk=>by
    obtain ⟨hl,ih⟩:=rmt_get picks S k (by omega)
    have hkk : (rmt picks k S).1.getD k secZ = S.getD k secZ:=by
      obtain ⟨m,_,_,h⟩:=ih k (by omega)
      rw [h,if_neg (by omega)]
    rw [rmt,hkk]
    by_cases hD : (S.getD k secZ).D = true
    · rw [if_pos hD]
      refine ⟨by rw [List.length_set];exact hl,fun i hi=>?_⟩
      by_cases e : i = k
      · subst e
        refine ⟨upto (pickAt picks (rmt picks i S).2),upto_le _,fun h=>?_,?_⟩
        · rw [h];unfold pickAt;rw [if_neg (by simp)];rfl
        · rw [if_pos ⟨by omega,hD⟩]
          exact set_get (by omega)
      · obtain ⟨m,h1,h2,h3⟩:=ih i hi
        refine ⟨m,h1,h2,?_⟩
        show ((rmt picks k S).1.set k _).getD i secZ = _
        rw [set_ne e,h3]
        by_cases hx : i < k∧(S.getD i secZ).D = true
        · rw [if_pos hx,if_pos ⟨by omega,hx.2⟩]
        · rw [if_neg hx,if_neg (by rintro ⟨h4,h5⟩;exact hx ⟨by omega,h5⟩)]
    · rw [if_neg hD]
      refine ⟨hl,fun i hi=>?_⟩
      obtain ⟨m,h1,h2,h3⟩:=ih i hi
      refine ⟨m,h1,h2,?_⟩
      rw [h3]
      by_cases hx : i < k∧(S.getD i secZ).D = true
      · rw [if_pos hx,if_pos ⟨by omega,hx.2⟩]
      · rw [if_neg hx]
        by_cases e : i = k
        · subst e;rw [if_neg (by rintro ⟨_,h5⟩;exact hD h5)]
        · rw [if_neg (by rintro ⟨h4,h5⟩;exact hx ⟨by omega,h5⟩)]
variable {n : Nat} {B : List Bs} {P : PM} {W : WM} {left : Int}
theorem allB_get (h : Good n B P W left) (picks : List Int) {i : Nat} (hi : i < n) : ∃ m,m ≤ 64∧(picks = []→m = 64)∧(allB picks B P W).1.getD i [] = if (mFind P (i : Nat)).isSome = true∧isW W (i : Nat) = false then tear m ((mFind P (i : Nat)).getD []) (B.getD i []) else B.getD i []:=by
  have h1:=mount_secs h picks
  obtain ⟨_,h2⟩:=rmt_get picks (secs n B P W) n (by rw [secs_len];omega)
  obtain ⟨m,m1,m2,m3⟩:=h2 i (by rw [secs_len];exact hi)
  refine ⟨m,m1,m2,?_⟩
  rw [h1,secs_get hi,secs_get hi] at m3
  have m4:=congrArg Sec.T m3
  have m5 : (secAt (allB picks B P W).1 (allB picks B P W).2 W i).T = (allB picks B P W).1.getD i []:=rfl
  rw [m5] at m4
  rw [m4]
  by_cases hs : (mFind P (i : Nat)).isSome = true
  · rw [if_pos ⟨hi,hs⟩]
    show (if isW W (i : Nat) = true then B.getD i [] else tear m ((mFind P (i : Nat)).getD []) (B.getD i [])) = _
    cases hw : isW W (i : Nat) with
    | true=>rw [if_pos rfl,if_neg (by rintro ⟨_,h⟩;cases h)]
    | false=>rw [if_neg (by decide),if_pos ⟨hs,rfl⟩]
  · rw [if_neg (fun h=>hs h.2),if_neg (fun h=>hs h.1)];rfl
theorem tear_full {x old : Bs} (hx : x.length = 64) (ho : old.length = 64) : tear 64 x old = x:=by
  unfold tear
  rw [List.take_of_length_le (by omega),List.drop_of_length_le (by omega),List.append_nil]
theorem wr1_eq {D : Disk} {i : Nat} {s : Bs} (hi : i < n) (hs : s.length = 64) : wr1 n D (i : Nat) s = (if D.off = true then D else if D.left = 0 then ⟨D.B,D.P,D.W,true,D.left⟩ else ⟨D.B,mSet D.P (i : Nat) s,D.W,false,stpL D.left⟩)∧wr1E n D (i : Nat) s = if D.off = true then 20 else if D.left = 0 then 20 else 0:=by
  have e1 : wr1 n D (i : Nat) s = ⟨D.B,if wrE n D.off D.left (i : Nat) (textS s) = 0 then mSet D.P (i : Nat) (textS s) else D.P,D.W,if wrGo n D.off (i : Nat) (textS s) = true then stpO D.off D.left else D.off,if wrGo n D.off (i : Nat) (textS s) = true then stpL D.left else D.left⟩:=rfl
  have e2 : wr1E n D (i : Nat) s = wrE n D.off D.left (i : Nat) (textS s):=rfl
  rw [e1,e2,textS_64 hs]
  unfold wrE wrGo
  cases ho : D.off with
  | true =>
    have hc : chk n true (i : Nat) = 20:=rfl
    rw [hc]
    refine ⟨?_,rfl⟩
    rw [if_pos rfl]
    simp
    cases D;cases ho;rfl
  | false =>
    rw [chk_in hi]
    simp only [hs,ne_eq,not_true_eq_false,if_false,decide_true,Bool.and_self,if_true]
    unfold stpE stpO stpL
    by_cases hl : D.left = 0
    · simp [hl]
    · simp [hl]
theorem wrK_spec {D : Disk} {a : Nat} {l : List Bs} (ho : D.off = false) (ha : a + l.length ≤ n) (hl : ∀ s ∈ l,s.length = 64) : ∀ k,k ≤ l.length→(wrK n D a l k).1.B = D.B∧(wrK n D a l k).1.W = D.W ∧
    (∃ j,j ≤ k∧(∀ x : Nat,mFind (wrK n D a l k).1.P (x : Nat) = if a ≤ x∧x < a + j then some (l.getD (x - a) []) else mFind D.P (x : Nat))∧((wrK n D a l k).2 = 0→j = k∧(wrK n D a l k).1.off = false))∧(D.left < 0→(wrK n D a l k).2 = 0∧(wrK n D a l k).1.left = D.left)
  | 0,_=>⟨rfl,rfl,⟨0,Nat.le_refl _,fun x=>by rw [if_neg (by omega)];rfl,fun _=>⟨rfl,ho⟩⟩,fun _=>⟨rfl,rfl⟩⟩
  | k + 1,hk=>by
    obtain ⟨i1,i2,⟨j,j1,j2,j3⟩,i4⟩:=wrK_spec ho ha hl k (by omega)
    obtain ⟨w1,w2⟩:=wr1_eq (n:=n) (D:=(wrK n D a l k).1) (i:=a + k) (s:=l.getD k []) (by omega) (hl _ (Go.Lx.getD_mem (by omega)))
    rw [wrK]
    by_cases h0 : (wrK n D a l k).2 = 0
    · rw [if_pos h0]
      obtain ⟨rfl,j4⟩:=j3 h0
      generalize wrK n D a l j = R at *
      show (wr1 n R.1 ((a + j : Nat) : Int) (l.getD j [])).B = _∧(wr1 n R.1 ((a + j : Nat) : Int) (l.getD j [])).W = _∧(∃ j',j' ≤ j + 1∧(∀ x : Nat,mFind (wr1 n R.1 ((a + j : Nat) : Int) (l.getD j [])).P (x : Nat) = _)∧(wr1E n R.1 ((a + j : Nat) : Int) (l.getD j []) = 0→j' = j + 1∧(wr1 n R.1 ((a + j : Nat) : Int) (l.getD j [])).off = false))∧(D.left < 0→wr1E n R.1 ((a + j : Nat) : Int) (l.getD j []) = 0∧(wr1 n R.1 ((a + j : Nat) : Int) (l.getD j [])).left = D.left)
      rw [w1,w2,j4,if_neg (show ¬ false = true by decide),if_neg (show ¬ false = true by decide)]
      by_cases hz : R.1.left = 0
      · rw [if_pos hz,if_pos hz]
        exact ⟨i1,i2,⟨j,by omega,j2,fun h=>by cases h⟩,fun h=>by have:=(i4 h).2;omega⟩
      · rw [if_neg hz,if_neg hz]
        refine ⟨i1,i2,⟨j + 1,Nat.le_refl _,fun x=>?_,fun _=>⟨rfl,rfl⟩⟩,fun h=>⟨rfl,?_⟩⟩
        · show mFind (mSet R.1.P ((a + j : Nat) : Int) (l.getD j [])) (x : Nat) = _
          rw [mFind_mSet,j2]
          by_cases e : x = a + j
          · subst e
            rw [if_pos rfl,if_pos (by omega),show a + j - a = j by omega]
          · rw [if_neg (by omega)]
            by_cases hx : a ≤ x∧x < a + j
            · rw [if_pos hx,if_pos (by omega)]
            · rw [if_neg hx,if_neg (by omega)]
        · have:=(i4 h).2
          show stpL R.1.left = _
          unfold stpL
          rw [if_neg (by omega)];exact this
    · rw [if_neg h0]
      exact ⟨i1,i2,⟨j,by omega,j2,fun h=>absurd h h0⟩,fun h=>absurd (i4 h).1 h0⟩
end Go.Proofs.YtmbldnahcmkpgaaGreatDoor

namespace Go.Proofs.YtmbldnahcmkpgaaGreatDoor
open Go.V Go.RowKit Go.L Go.Lx Go.Jn Go.Dk
variable {n : Nat}
theorem rd_calm {D : Disk} {i : Nat} (hi : i < n) (hP : D.P = []) (ho : D.off = false) : rdS n D.off D.B D.P (i : Nat) = D.B.getD i []:=by
  unfold rdS
  rw [ho,chk_in hi,if_neg (by decide),hP]
  show D.B.getD ((i : Nat) : Int).toNat [] = _
  rw [Int.toNat_natCast]
theorem sameK_iff {D : Disk} {a : Nat} {l : List Bs} : ∀ k,sameK n D a l k = true ↔ ∀ j,j < k→l.getD j [] = rdS n D.off D.B D.P ((a + j : Nat) : Int)
  | 0=>⟨fun _ j hj=>absurd hj (Nat.not_lt_zero _),fun _=>rfl⟩
  | k + 1=>by
    rw [sameK,Bool.and_eq_true,sameK_iff k,decide_eq_true_iff]
    constructor
    · rintro ⟨h1,h2⟩ j hj
      by_cases e : j = k
      · rw [e];exact h2
      · exact h1 j (by omega)
    · intro h
      exact ⟨fun j hj=>h j (by omega),h k (by omega)⟩
structure WfrOk (n : Nat) (D : Disk) (a : Nat) (l : List Bs) (R : Disk × (Int × Bool)) : Prop where
  W : R.1.W = D.W
  at_ : ∀ i,i < n→(mFind R.1.P (i : Nat) = none∧(R.1.B.getD i [] = D.B.getD i [] ∨ (a ≤ i∧i < a + l.length∧R.1.B.getD i [] = l.getD (i - a) []))) ∨ (a ≤ i∧i < a + l.length∧mFind R.1.P (i : Nat) = some (l.getD (i - a) [])∧R.1.B.getD i [] = D.B.getD i [])
  fine : R.2.1 = 0→R.1.P = []∧R.1.off = false∧(∀ i,i < n→R.1.B.getD i [] = if a ≤ i∧i < a + l.length∧isW D.W (i : Nat) = false then l.getD (i - a) [] else D.B.getD i [])∧(R.2.2 = true ↔ ∀ k,k < l.length→l.getD k [] = R.1.B.getD (a + k) [])
  calm : D.left < 0→R.2.1 = 0∧R.1.left = D.left
theorem wfr_spec {D : Disk} (hG : GoodD n D) (hP : D.P = []) (ho : D.off = false) {a : Nat} {l : List Bs} (ha : a + l.length ≤ n) (hl : ∀ s ∈ l,s.length = 64) : WfrOk n D a l (wfr n D a l):=by
  obtain ⟨i1,i2,⟨j,j1,j2,j3⟩,i4⟩:=wrK_spec (n:=n) ho ha hl l.length (Nat.le_refl _)
  have hg1:=good_wrK hG ha hl l.length (Nat.le_refl _)
  have hP0 : ∀ x : Nat,mFind D.P (x : Nat) = none:=fun x=>by rw [hP];rfl
  have hB64 : ∀ i,i < n→(D.B.getD i []).length = 64:=fun i hi=>hG.b64 _ (Go.Lx.getD_mem (by rw [hG.len];exact hi))
  have hl64 : ∀ k,k < l.length→(l.getD k []).length = 64:=fun k hk=>hl _ (Go.Lx.getD_mem hk)
  unfold wfr
  generalize wrK n D a l l.length = R at *
  have hpend : ∀ i,i < n→(mFind R.1.P (i : Nat) = none∧(R.1.B.getD i [] = D.B.getD i [] ∨ (a ≤ i∧i < a + l.length∧R.1.B.getD i [] = l.getD (i - a) []))) ∨ (a ≤ i∧i < a + l.length∧mFind R.1.P (i : Nat) = some (l.getD (i - a) [])∧R.1.B.getD i [] = D.B.getD i []):=fun i hi=>by
    rw [j2 i,i1]
    by_cases hx : a ≤ i∧i < a + j
    · rw [if_pos hx]
      exact .inr ⟨hx.1,by omega,rfl,rfl⟩
    · rw [if_neg hx]
      exact .inl ⟨hP0 i,.inl rfl⟩
  by_cases h0 : R.2 ≠ 0
  · rw [if_pos h0]
    exact ⟨i2,hpend,fun h=>absurd h h0,fun h=>absurd (i4 h).1 h0⟩
  · rw [if_neg h0]
    have h0 : R.2 = 0:=by simpa using h0
    obtain ⟨rfl,hon⟩:=j3 h0
    rw [doE_F,doD_F,hon,if_neg (show ¬ false = true by decide),if_neg (show ¬ false = true by decide)]
    by_cases hz : R.1.left = 0
    · rw [if_pos hz,if_pos hz,if_pos (by decide)]
      exact ⟨i2,hpend,fun h=>(by cases h),fun h=>(by have:=(i4 h).2;omega)⟩
    · rw [if_neg hz,if_neg hz,if_neg (by decide)]
      have hB2 : ∀ i,i < n→(allB [] R.1.B R.1.P R.1.W).1.getD i [] = if a ≤ i∧i < a + l.length∧isW D.W (i : Nat) = false then l.getD (i - a) [] else D.B.getD i []:=fun i hi=>by
        obtain ⟨m,_,m2,m3⟩:=allB_get hg1 [] hi
        rw [m3,m2 rfl,j2 i,i1,i2]
        by_cases hx : a ≤ i∧i < a + l.length
        · rw [if_pos hx]
          cases hw : isW D.W (i : Nat) with
          | true=>rw [if_neg (by rintro ⟨_,h⟩;cases h),if_neg (by rintro ⟨_,_,h⟩;cases h)]
          | false =>
            rw [if_pos ⟨rfl,rfl⟩,if_pos ⟨hx.1,hx.2,rfl⟩]
            exact tear_full (hl64 _ (by omega)) (hB64 i hi)
        · rw [if_neg hx,hP0 i,if_neg (by rintro ⟨h,_⟩;cases h),if_neg (by rintro ⟨h1,h2,_⟩;exact hx ⟨h1,h2⟩)]
      have hP2 : (allB [] R.1.B R.1.P R.1.W).2 = []:=allB_nil hg1 []
      refine ⟨i2,fun i hi=>?_,fun _=>⟨hP2,rfl,hB2,?_⟩,fun h=>⟨rfl,?_⟩⟩
      · refine .inl ⟨by show mFind (allB [] R.1.B R.1.P R.1.W).2 _ = none;rw [hP2];rfl,?_⟩
        show (allB [] R.1.B R.1.P R.1.W).1.getD i [] = _ ∨ (_∧_∧(allB [] R.1.B R.1.P R.1.W).1.getD i [] = _)
        rw [hB2 i hi]
        split
        · rename_i h;exact .inr ⟨h.1,h.2.1,rfl⟩
        · exact .inl rfl
      · show sameK n _ a l l.length = true ↔ _
        rw [sameK_iff]
        refine forall_congr' fun k=>forall_congr' fun hk=>?_
        rw [rd_calm (by omega) hP2 rfl]
      · have:=(i4 h).2
        show stpL R.1.left = _
        unfold stpL
        rw [if_neg (by omega)];exact this
theorem mount_spec {D : Disk} {a : Nat} {l : List Bs} {R : Disk × (Int × Bool)} (hG : GoodD n D) (hG' : GoodD n R.1) (h : WfrOk n D a l R) (hl : ∀ s ∈ l,s.length = 64) (hW : D.W = []) (picks : List Int) {i : Nat} (hi : i < n) :
    (¬ (a ≤ i∧i < a + l.length)→(allB picks R.1.B R.1.P R.1.W).1.getD i [] = D.B.getD i [])∧(a ≤ i∧i < a + l.length→∃ m,m ≤ 64∧(allB picks R.1.B R.1.P R.1.W).1.getD i [] = tear m (l.getD (i - a) []) (D.B.getD i [])):=by
  obtain ⟨m,m1,_,m3⟩:=allB_get hG' picks hi
  have hB64 : (D.B.getD i []).length = 64:=hG.b64 _ (Go.Lx.getD_mem (by rw [hG.len];exact hi))
  have hw : isW R.1.W (i : Nat) = false:=by rw [h.W,hW];rfl
  rw [m3,hw]
  rcases h.at_ i hi with ⟨h1,h2⟩ | ⟨h1,h2,h3,h4⟩
  · rw [h1,if_neg (by rintro ⟨q,_⟩;cases q)]
    rcases h2 with h2 | ⟨h2,h3,h4⟩
    · exact ⟨fun _=>h2,fun _=>⟨0,by omega,by rw [h2];rfl⟩⟩
    · exact ⟨fun q=>absurd ⟨h2,h3⟩ q,fun _=>⟨64,Nat.le_refl _,by rw [h4,tear_full (hl _ (Go.Lx.getD_mem (by omega))) hB64]⟩⟩
  · rw [h3,if_pos ⟨rfl,rfl⟩,h4]
    exact ⟨fun q=>absurd ⟨h1,h2⟩ q,fun _=>⟨m,m1,rfl⟩⟩
end Go.Proofs.YtmbldnahcmkpgaaGreatDoor

namespace Go.Proofs.YtmbldnahcmkpgaaGreatDoor
open Go.V Go.RowKit Go.L Go.Lx Go.Jn Go.Dk
variable {n : Nat}
def putL (B : List Bs) (a : Nat) (l : List Bs) : List Bs:=B.take a ++ (l ++ B.drop (a + l.length))
theorem putL_get {B l : List Bs} {a i : Nat} (h : a + l.length ≤ B.length) : (putL B a l).getD i [] = if a ≤ i∧i < a + l.length then l.getD (i - a) [] else B.getD i []:=by
  have h1 : (B.take a).length = a:=by rw [List.length_take];omega
  unfold putL
  simp only [List.getD_eq_getElem?_getD]
  by_cases hi : a ≤ i
  · rw [List.getElem?_append_right (by omega),h1]
    by_cases h2 : i < a + l.length
    · rw [if_pos ⟨hi,h2⟩,List.getElem?_append_left (by omega)]
    · rw [if_neg (by omega),List.getElem?_append_right (by omega),List.getElem?_drop]
      congr 2;omega
  · rw [if_neg (by omega),List.getElem?_append_left (by omega),List.getElem?_take_of_lt (by omega)]
theorem putL_len {B l : List Bs} {a : Nat} (h : a + l.length ≤ B.length) : (putL B a l).length = B.length:=by
  unfold putL;simp only [List.length_append,List.length_take,List.length_drop];omega
theorem ext_getD {A C : List Bs} (hl : A.length = C.length) (h : ∀ i,i < A.length→A.getD i [] = C.getD i []) : A = C :=
  List.ext_getElem hl fun i h1 h2=>by
    have:=h i h1
    rw [List.getD_eq_getElem?_getD,List.getD_eq_getElem?_getD,List.getElem?_eq_getElem h1,List.getElem?_eq_getElem h2] at this
    exact this
abbrev calm (B : List Bs) : Disk:=⟨B,[],[],false,-1⟩
theorem good_calm {B : List Bs} (hl : B.length = n) (h64 : ∀ b ∈ B,b.length = 64) (h0 : 0 < n) (h1 : n ≤ 4096) : GoodD n (calm B) :=
  { (good_new h0 h1 : GoodD n (newD n)) with len:=hl,b64:=h64 }
theorem wfr_calm {B l : List Bs} {a : Nat} (hG : GoodD n (calm B)) (ha : a + l.length ≤ n) (hl : ∀ s ∈ l,s.length = 64) : wfr n (calm B) a l = (calm (putL B a l),(0,true)):=by
  have h:=wfr_spec hG rfl rfl ha hl
  have hg:=good_wfr hG ha hl
  have hBl : B.length = n:=hG.len
  generalize wfr n (calm B) a l = R at *
  obtain ⟨⟨RB,RP,RW,Ro,Rl⟩,e,b⟩:=R
  obtain ⟨c1,c2⟩:=h.calm (show (-1 : Int) < 0 by decide)
  have c1 : e = 0:=c1
  have c2 : Rl = -1:=c2
  obtain ⟨f1,f2,f3,f4⟩:=h.fine c1
  have f1 : RP = []:=f1
  have f2 : Ro = false:=f2
  have f0 : RW = []:=h.W
  have hlen : RB.length = n:=hg.len
  have hB : RB = putL B a l:=ext_getD (by rw [hlen,putL_len (by omega),hBl]) fun i hi=>by
    have:=f3 i (by omega)
    rw [putL_get (by omega)]
    have this : RB.getD i [] = if a ≤ i∧i < a + l.length∧isW [] (i : Nat) = false then l.getD (i - a) [] else B.getD i []:=this
    rw [this]
    by_cases hx : a ≤ i∧i < a + l.length
    · rw [if_pos hx,if_pos ⟨hx.1,hx.2,rfl⟩]
    · rw [if_neg hx,if_neg (by rintro ⟨h1,h2,_⟩;exact hx ⟨h1,h2⟩)]
  have hb : b = true:=f4.2 fun k hk=>by
    show l.getD k [] = RB.getD (a + k) []
    rw [hB,putL_get (by omega),if_pos (by omega),show a + k - a = k by omega]
  rw [c1,c2,f1,f2,f0,hB,hb]
theorem app_calm {B : List Bs} {J : Jr} {t : Bs} (hG : GoodD n (calm B)) (hs : J.shut = false) (h1 : 1 ≤ J.next) (ht : t.length ≤ 8000) (hx : J.next ≤ 4096) (hc : cnt t.length + J.stop ≤ n) : app n (calm B) J t = ((calm (putL B J.stop (parts J.next.toNat t)),jAdd J t),(J.next,0)):=by
  unfold app
  rw [hs,if_neg (show ¬ false = true by decide),if_neg (by omega),if_neg (by omega),wfr_calm hG (by rw [parts_len];omega) parts_64]
  rfl
def allX : Nat→List Bs→List Bs
  | _,[]=>[]
  | k,t::r=>parts k t ++ allX (k + 1) r
def allR : Nat→List Bs→List (Int × Bs)
  | _,[]=>[]
  | k,t::r=>(((k : Nat) : Int),t)::allR (k + 1) r
theorem allX_snoc : ∀ (T : List Bs) (k : Nat) (t : Bs),allX k (T ++ [t]) = allX k T ++ parts (k + T.length) t
  | [],k,t=>by show parts k t ++ [] = [] ++ parts (k + 0) t;simp
  | s::r,k,t=>by
    show parts k s ++ allX (k + 1) (r ++ [t]) = (parts k s ++ allX (k + 1) r) ++ parts (k + (r.length + 1)) t
    rw [allX_snoc r (k + 1) t,List.append_assoc,show k + 1 + r.length = k + (r.length + 1) by omega]
theorem allR_snoc : ∀ (T : List Bs) (k : Nat) (t : Bs),allR k (T ++ [t]) = allR k T ++ [(((k + T.length : Nat) : Int),t)]
  | [],k,t=>by show [(((k : Nat) : Int),t)] = [] ++ _;simp
  | s::r,k,t=>by
    show (((k : Nat) : Int),s)::allR (k + 1) (r ++ [t]) = ((((k : Nat) : Int),s)::allR (k + 1) r) ++ _
    rw [allR_snoc r (k + 1) t]
    simp only [List.cons_append,List.length_cons]
    rw [show k + 1 + r.length = k + (r.length + 1) by omega]
theorem allR_texts : ∀ (T : List Bs) (k : Nat),(allR k T).map (·.2) = T
  | [],_=>rfl
  | s::r,k=>by show s::(allR (k + 1) r).map (·.2) = _;rw [allR_texts r]
theorem allR_nums : ∀ (T : List Bs) (k : Nat) (i : Int),i ∈ (allR k T).map (·.1) ↔ (k : Int) ≤ i∧i < (k + T.length : Nat)
  | [],k,i=>by
    show i ∈ [] ↔ _
    rw [List.length_nil]
    constructor
    · intro h;cases h
    · intro h;omega
  | s::r,k,i=>by
    show i ∈ ((k : Nat) : Int)::(allR (k + 1) r).map (·.1) ↔ _
    rw [List.mem_cons,allR_nums r (k + 1) i,List.length_cons]
    omega
theorem more_new {a : List (Int × Bs)} {m : Int} {t : Bs} (h : m ∉ a.map (·.1)) : more a m t = a ++ [(m,t)]:=by
  unfold more hasN
  rw [if_neg (fun q=>h (List.contains_iff_mem.1 q))]
theorem parts_getP {m : Nat} {t : Bs} (h1 : 1 ≤ m) (h2 : m ≤ 4096) (ht : t.length ≤ 8000) {k : Nat} (hk : k < cnt t.length) : ((parts m t).map unp).getD k noPart = partOf m t k:=by
  have hl:=parts_len m t
  have : ((parts m t).map unp).getD k noPart = unp ((parts m t).getD k []):=by
    rw [List.getD_eq_getElem?_getD,List.getD_eq_getElem?_getD,List.getElem?_map,List.getElem?_eq_getElem (by omega)];rfl
  rw [this,unp_parts h1 h2 ht hk];rfl
theorem scan_all : ∀ (T : List Bs) (k : Nat) (Y : List Part) (a : List (Int × Bs)),1 ≤ k→k + T.length ≤ 4097→(∀ t ∈ T,t.length ≤ 8000)→(∀ i ∈ a.map (·.1),i < (k : Int))→scan 0 ((allX k T).map unp ++ Y) a = scan 0 Y (a ++ allR k T)
  | [],k,Y,a,_,_,_,_=>by show scan 0 ([] ++ Y) a = scan 0 Y (a ++ []);rw [List.nil_append,List.append_nil]
  | t :: r,k,Y,a,h1,h2,h3,h4=>by
    have ht : t.length ≤ 8000:=h3 t List.mem_cons_self
    rw [List.length_cons] at h2
    show scan 0 ((parts k t ++ allX (k + 1) r).map unp ++ Y) a = scan 0 Y (a ++ ((((k : Nat) : Int),t)::allR (k + 1) r))
    rw [List.map_append,List.append_assoc,scan_whole (n:=k) (t:=t) ht (by rw [List.length_map,parts_len,cnt_nat ht]) (fun j hj=>parts_getP h1 (by omega) ht (by rw [List.length_map,parts_len] at hj;exact hj)),more_new (fun h=>by have:=h4 _ h;omega),scan_all r (k + 1) Y _ (by omega) (by omega) (fun t ht=>h3 t (List.mem_cons_of_mem _ ht)) (fun i hi=>by
      rw [List.map_append,List.mem_append] at hi
      rcases hi with hi | hi
      · have:=h4 i hi;omega
      · have : i = (k : Int):=by simpa using hi
        omega)]
    rw [List.append_assoc];rfl
end Go.Proofs.YtmbldnahcmkpgaaGreatDoor
