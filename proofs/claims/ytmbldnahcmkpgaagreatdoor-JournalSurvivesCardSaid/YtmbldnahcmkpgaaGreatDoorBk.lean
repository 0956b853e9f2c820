/- Journals, plain: a failure of the power during an append. -/
import Derived.Test.YtmbldnahcmkpgaaGreatDoorBi
set_option linter.unusedSimpArgs false
set_option linter.unusedVariables false
namespace Go.Proofs.YtmbldnahcmkpgaaGreatDoor
open Go.V Go.RowKit Go.L Go.Lx Go.Jn Go.Dk
set_option maxRecDepth 20000
abbrev filB (n : Nat) (T : List Bs) : List Bs:=allX 1 T ++ List.replicate (n - (allX 1 T).length) zs
abbrev filJ (T : List Bs) : Jr:=⟨allR 1 T,[],(T.length : Int) + 1,(allX 1 T).length,false⟩
structure FilI (n c : Nat) (T : List Bs) : Prop where
  n0 : 1 ≤ n
  n1 : n ≤ 200
  x : (allX 1 T).length ≤ n
  t : ∀ t ∈ T,t.length ≤ 8000
  c : T.length ≤ c
variable {n c : Nat} {T : List Bs}
theorem FilI.len (h : FilI n c T) : (filB n T).length = n:=by
  have:=h.x
  rw [List.length_append,List.length_replicate];omega
theorem FilI.b64 (h : FilI n c T) (hc : c ≤ 20) : ∀ b ∈ filB n T,b.length = 64:=fun b hb=>by
  have h1:=h.c
  rcases List.mem_append.1 hb with q | q
  · exact (allX_fine (by omega) (by omega) h.t q).2.2.2.2
  · rw [(List.mem_replicate.1 q).2];rfl
theorem FilI.good (h : FilI n c T) (hc : c ≤ 20) : GoodD n (calm (filB n T)):=good_calm h.len (h.b64 hc) h.n0 (by have:=h.n1;omega)
theorem FilI.opn (h : FilI n c T) (hc : c ≤ 20) : opn (filB n T) = filJ T:=opn_X (by have:=h.c;omega) h.t
theorem fil_put (h : FilI n c T) {t : Bs} (hx : (allX 1 T).length + cnt t.length ≤ n) : putL (filB n T) (allX 1 T).length (parts (T.length + 1) t) = filB n (T ++ [t]):=by
  have h2:=parts_len (T.length + 1) t
  have h3 : allX 1 (T ++ [t]) = allX 1 T ++ parts (T.length + 1) t:=by rw [allX_snoc,Nat.add_comm]
  unfold putL
  rw [List.take_left' rfl]
  show _ = allX 1 (T ++ [t]) ++ _
  rw [h3,List.append_assoc]
  congr 2
  rw [h2,← List.drop_drop,List.drop_left' rfl,List.drop_replicate,List.length_append,h2]
  congr 1;omega
theorem fil_step (h : FilI n c T) (hc : c < 20) (t : Bs) :
    (app n (calm (filB n T)) (filJ T) t = ((calm (filB n (T ++ [t])),filJ (T ++ [t])),((T.length : Int) + 1,0))∧FilI n (c + 1) (T ++ [t])) ∨
    ((∃ e : Int,app n (calm (filB n T)) (filJ T) t = ((calm (filB n T),filJ T),(0,e))∧(e = 4 ∨ e = 19))∧FilI n (c + 1) T):=by
  have hc1:=h.c;have hx1:=h.x;have hn:=h.n1
  have hmore : FilI n (c + 1) T:={ h with c:=by omega }
  by_cases h1 : 8000 < t.length ∨ 4096 < (T.length : Int) + 1
  · exact .inr ⟨⟨4,by unfold app;rw [if_neg (show ¬ (filJ T).shut = true by show ¬ false = true;decide),if_pos h1],.inl rfl⟩,hmore⟩
  by_cases h2 : (n : Int) - ((allX 1 T).length : Nat) < cnt t.length
  · exact .inr ⟨⟨19,by unfold app;rw [if_neg (show ¬ (filJ T).shut = true by show ¬ false = true;decide),if_neg h1,if_pos h2],.inr rfl⟩,hmore⟩
  refine .inl ⟨?_,h.n0,h.n1,?_,fun s hs=>?_,?_⟩
  · have:=app_calm (n:=n) (B:=filB n T) (J:=filJ T) (t:=t) (h.good (by omega)) rfl (by show 1 ≤ (T.length : Int) + 1;omega) (by omega) (by show (T.length : Int) + 1 ≤ 4096;omega) (by show cnt t.length + (allX 1 T).length ≤ n;omega)
    rw [this]
    have e : (filJ T).next.toNat = T.length + 1:=by show ((T.length : Int) + 1).toNat = _;omega
    rw [e]
    have e2:=fil_put h (t:=t) (by omega)
    have e3 : jAdd (filJ T) t = filJ (T ++ [t]):=by
      show (⟨allR 1 T ++ [((T.length : Int) + 1,t)],[],(T.length : Int) + 1 + 1,(allX 1 T).length + cnt t.length,false⟩ : Jr) = ⟨allR 1 (T ++ [t]),[],((T ++ [t]).length : Int) + 1,(allX 1 (T ++ [t])).length,false⟩
      rw [allR_snoc,allX_snoc,List.length_append,List.length_append,parts_len,List.length_singleton]
      congr 3
      · simp;omega
    rw [e3]
    show ((calm (putL (filB n T) (allX 1 T).length (parts (T.length + 1) t)),_),_) = _
    rw [e2]
  · rw [allX_snoc,List.length_append,parts_len];omega
  · rcases List.mem_append.1 hs with q | q
    · exact h.t s q
    · rw [List.mem_singleton.1 q];omega
  · rw [List.length_append,List.length_singleton];omega
theorem val4 {s : Bs} (h : 4 ≤ s.length) : secNum s = (s.getD 0 0).toNat + 256 * (s.getD 1 0).toNat + 65536 * (s.getD 2 0).toNat + 16777216 * (s.getD 3 0).toNat:=by
  match s,h with
  | a::b::c::d::r,_ =>
    show val [a,b,c,d] = a.toNat + 256 * b.toNat + 65536 * c.toNat + 16777216 * d.toNat
    simp only [val];omega
theorem val46 {s : Bs} (h : 6 ≤ s.length) : secPart s = (s.getD 4 0).toNat + 256 * (s.getD 5 0).toNat:=by
  match s,h with
  | a::b::c::d::e::f::r,_ =>
    show val [e,f] = e.toNat + 256 * f.toNat
    simp only [val];omega
theorem val68 {s : Bs} (h : 8 ≤ s.length) : secLeft s = (s.getD 6 0).toNat + 256 * (s.getD 7 0).toNat:=by
  match s,h with
  | a::b::c::d::e::f::g::i::r,_ =>
    show val [g,i] = g.toNat + 256 * i.toNat
    simp only [val];omega
theorem tear_zs {s : Bs} (hs : s.length = 64) {m i : Nat} : (tear m s zs).getD i 0 = if i < m then s.getD i 0 else 0:=by
  unfold tear
  by_cases h : i < m
  · rw [if_pos h]
    by_cases h2 : i < 64
    · rw [List.getD_eq_getElem?_getD,List.getElem?_append_left (by rw [List.length_take];omega),List.getElem?_take_of_lt h,← List.getD_eq_getElem?_getD]
    · rw [List.getD_eq_getElem?_getD,List.getD_eq_getElem?_getD,List.getElem?_eq_none (by rw [List.length_append,List.length_take,List.length_drop];show min m s.length + (64 - m) ≤ i;omega),List.getElem?_eq_none (by omega)]
  · rw [if_neg h]
    by_cases h2 : i < 64
    · rw [List.getD_eq_getElem?_getD,List.getElem?_append_right (by rw [List.length_take];omega),List.getElem?_drop,List.length_take]
      show (zs[m + (i - min m s.length)]?).getD 0 = 0
      unfold zs
      rw [List.getElem?_replicate]
      split <;> rfl
    · rw [List.getD_eq_getElem?_getD,List.getElem?_eq_none (by rw [List.length_append,List.length_take,List.length_drop];show min m s.length + (64 - m) ≤ i;omega)];rfl
theorem tear_len {s : Bs} (hs : s.length = 64) {m : Nat} (hm : m ≤ 64) : (tear m s zs).length = 64:=by
  unfold tear
  rw [List.length_append,List.length_take,List.length_drop]
  show min m s.length + (64 - m) = 64
  omega
def Genu (B : List Bs) (T : List Bs) : Prop:=∀ s ∈ B,(unp s).ok = true→(unp s).num ≤ T.length∧(T.getD ((unp s).num - 1) []).length ≤ 8000∧(unp s).part < cnt (T.getD ((unp s).num - 1) []).length∧(parts (unp s).num (T.getD ((unp s).num - 1) [])).getD (unp s).part [] = s
theorem torn_sec {N k : Nat} {t : Bs} (hN1 : 1 ≤ N) (hN : N ≤ 255) (ht : t.length ≤ 8000) (hk : k < cnt t.length) {T' : List Bs} (hT : T'.getD (N - 1) [] = t) {m : Nat} (hm : m ≤ 64) (hok : (unp (tear m (sec N k (t.drop (48 * k))) zs)).ok = true)
    (hg : (unp (tear m (sec N k (t.drop (48 * k))) zs)).part < cnt (T'.getD ((unp (tear m (sec N k (t.drop (48 * k))) zs)).num - 1) []).length∧(parts (unp (tear m (sec N k (t.drop (48 * k))) zs)).num (T'.getD ((unp (tear m (sec N k (t.drop (48 * k))) zs)).num - 1) [])).getD (unp (tear m (sec N k (t.drop (48 * k))) zs)).part [] = tear m (sec N k (t.drop (48 * k))) zs) :
    tear m (sec N k (t.drop (48 * k))) zs = sec N k (t.drop (48 * k)):=by
  have hc:=cnt_le (t.length : Int)
  have hcN:=cnt_nat ht
  have hs64:=sec_len N k (t.drop (48 * k))
  have e1:=val4 (s:=sec N k (t.drop (48 * k))) (by omega)
  have e2:=val46 (s:=sec N k (t.drop (48 * k))) (by omega)
  rw [sec_num (by omega)] at e1
  rw [sec_part (by omega)] at e2
  have hx64:=tear_len hs64 hm
  have f1:=val4 (s:=tear m (sec N k (t.drop (48 * k))) zs) (by omega)
  have f2:=val46 (s:=tear m (sec N k (t.drop (48 * k))) zs) (by omega)
  have f3:=val68 (s:=tear m (sec N k (t.drop (48 * k))) zs) (by omega)
  simp only [tear_zs hs64] at f1 f2 f3
  generalize hS : sec N k (t.drop (48 * k)) = S at *
  have b0:=(S.getD 0 0).toNat_lt;have b1:=(S.getD 1 0).toNat_lt;have b2:=(S.getD 2 0).toNat_lt;have b3:=(S.getD 3 0).toNat_lt;have b4:=(S.getD 4 0).toNat_lt;have b5:=(S.getD 5 0).toNat_lt
  have hF : Fine (tear m S zs):=Classical.byContradiction fun hn=>by
    unfold unp at hok;rw [if_neg hn] at hok;cases hok
  have hu : unp (tear m S zs) = ⟨secNum (tear m S zs),secPart (tear m S zs),secLeft (tear m S zs),((tear m S zs).drop 8).take (min (secLeft (tear m S zs)) 48),true⟩:=by unfold unp;rw [if_pos hF]
  rw [hu] at hg
  have g1 : secPart (tear m S zs) < cnt (T'.getD (secNum (tear m S zs) - 1) []).length:=hg.1
  have g2 : (parts (secNum (tear m S zs)) (T'.getD (secNum (tear m S zs) - 1) [])).getD (secPart (tear m S zs)) [] = tear m S zs:=hg.2
  have n1:=hF.n1
  have z0 : (0 : UInt8).toNat = 0:=rfl
  have hm0 : 0 < m:=by
    rcases Nat.eq_zero_or_pos m with e | e
    · subst e
      simp only [Nat.not_lt_zero,if_false,z0] at f1
      omega
    · exact e
  have hnum : secNum (tear m S zs) = N:=by
    rw [f1,if_pos hm0]
    have q1 : (S.getD 1 0).toNat = 0:=by omega
    have q2 : (S.getD 2 0).toNat = 0:=by omega
    have q3 : (S.getD 3 0).toNat = 0:=by omega
    have r1 : (if 1 < m then S.getD 1 0 else 0).toNat = 0:=by split;exact q1;rfl
    have r2 : (if 2 < m then S.getD 2 0 else 0).toNat = 0:=by split;exact q2;rfl
    have r3 : (if 3 < m then S.getD 3 0 else 0).toNat = 0:=by split;exact q3;rfl
    rw [r1,r2,r3];omega
  rw [hnum,hT] at g1 g2
  have q5 : (S.getD 5 0).toNat = 0:=by omega
  have r5 : (if 5 < m then S.getD 5 0 else 0).toNat = 0:=by split;exact q5;rfl
  rw [r5] at f2
  by_cases hm4 : 4 < m
  · rw [if_pos hm4] at f2
    have hp : secPart (tear m S zs) = k:=by omega
    rw [hp,parts_get hk,hS] at g2
    exact g2.symm
  · rw [if_neg hm4,z0] at f2
    rw [if_neg (by omega),if_neg (by omega),z0] at f3
    have hp : secPart (tear m S zs) = 0:=by omega
    have hl : secLeft (tear m S zs) = 0:=by omega
    rw [hp] at g1 g2
    rw [parts_get g1] at g2
    have:=sec_left (n:=N) (k:=0) (rest:=t.drop (48 * 0)) (by rw [List.length_drop];omega)
    rw [g2,hl,List.length_drop] at this
    have ht0 : t.length = 0:=by omega
    have hk0 : k = 0:=by
      rw [hcN,ht0] at hk
      have : cntN 0 = 1:=by decide
      omega
    rw [← g2,← hS,hk0]
abbrev mntB (picks : List Int) (D : Disk) : List Bs:=(allB picks D.B D.P D.W).1
theorem allB_calm (picks : List Int) (B : List Bs) (W : WM) : allB picks B [] W = (B,[]):=by
  unfold allB
  have : sortI (([] : PM).map (·.1)) = []:=by unfold sortI;simp
  rw [this];rfl
theorem survives (h : FilI n c T) (hc : c ≤ 12) {tr : Int} (t : Bs) (picks : List Int)
    {R : (Disk × Jr) × (Int × Int)} (hR : app n ⟨filB n T,[],[],false,tr⟩ (filJ T) t = R) (hG : GoodD n ⟨filB n T,[],[],false,tr⟩) (hgen : Genu (mntB picks R.1.1) (T ++ [t])) :
    texts (opn (mntB picks R.1.1)) = T ++ [t] ∨ (R.2.2 ≠ 0∧texts (opn (mntB picks R.1.1)) = T):=by
  have hc1:=h.c;have hx1:=h.x;have hn:=h.n1
  have hop:=h.opn (by omega)
  have hTx : texts (filJ T) = T:=allR_texts T 1
  by_cases h1 : 8000 < t.length ∨ 4096 < (filJ T).next
  · have e : R = ((⟨filB n T,[],[],false,tr⟩,filJ T),(0,4)):=by rw [← hR];unfold app;rw [if_neg (show ¬ (filJ T).shut = true by show ¬ false = true;decide),if_pos h1]
    rw [e]
    refine .inr ⟨(by decide : (4 : Int) ≠ 0),?_⟩
    show texts (opn (allB picks (filB n T) [] []).1) = T
    rw [allB_calm,hop,hTx]
  by_cases h2 : (n : Int) - (filJ T).stop < cnt t.length
  · have e : R = ((⟨filB n T,[],[],false,tr⟩,filJ T),(0,19)):=by rw [← hR];unfold app;rw [if_neg (show ¬ (filJ T).shut = true by show ¬ false = true;decide),if_neg h1,if_pos h2]
    rw [e]
    refine .inr ⟨(by decide : (19 : Int) ≠ 0),?_⟩
    show texts (opn (allB picks (filB n T) [] []).1) = T
    rw [allB_calm,hop,hTx]
  have h2' : (allX 1 T).length + cnt t.length ≤ n:=by
    have h2 : ¬ ((n : Int) - ((allX 1 T).length : Nat) < cnt t.length):=h2
    omega
  have ht : t.length ≤ 8000:=by omega
  have eN : (filJ T).next.toNat = T.length + 1:=by show ((T.length : Int) + 1).toNat = _;omega
  have hl:=parts_len (T.length + 1) t
  have hw:=wfr_spec (a:=(allX 1 T).length) (l:=parts (T.length + 1) t) hG rfl rfl (by omega) parts_64
  have hg:=good_wfr (a:=(allX 1 T).length) (l:=parts (T.length + 1) t) hG (by omega) parts_64
  have hsp:=fun i (hi : i < n)=>mount_spec hG hg hw parts_64 rfl picks hi
  have hgm:=fun i (hi : i < n)=>allB_get hg picks hi
  have hR1 : R.1.1 = (wfr n ⟨filB n T,[],[],false,tr⟩ (allX 1 T).length (parts (T.length + 1) t)).1∧(R.2.2 = 0→(wfr n ⟨filB n T,[],[],false,tr⟩ (allX 1 T).length (parts (T.length + 1) t)).2.1 = 0∧(wfr n ⟨filB n T,[],[],false,tr⟩ (allX 1 T).length (parts (T.length + 1) t)).2.2 = true):=by
    rw [← hR]
    unfold app
    rw [if_neg (show ¬ (filJ T).shut = true by show ¬ false = true;decide),if_neg h1,if_neg h2,eN]
    show (if (wfr n ⟨filB n T,[],[],false,tr⟩ (allX 1 T).length (parts (T.length + 1) t)).2.1 ≠ 0 then _ else if (wfr n ⟨filB n T,[],[],false,tr⟩ (allX 1 T).length (parts (T.length + 1) t)).2.2 = false then _ else _ : (Disk × Jr) × (Int × Int)).1.1 = _∧((if (wfr n ⟨filB n T,[],[],false,tr⟩ (allX 1 T).length (parts (T.length + 1) t)).2.1 ≠ 0 then _ else if (wfr n ⟨filB n T,[],[],false,tr⟩ (allX 1 T).length (parts (T.length + 1) t)).2.2 = false then _ else _ : (Disk × Jr) × (Int × Int)).2.2 = 0→_)
    split
    · rename_i q;exact ⟨rfl,fun e=>absurd e q⟩
    · rename_i q
      split
      · exact ⟨rfl,fun e=>by cases e⟩
      · rename_i q2
        refine ⟨rfl,fun _=>⟨by omega,?_⟩⟩
        cases hb : (wfr n ⟨filB n T,[],[],false,tr⟩ (allX 1 T).length (parts (T.length + 1) t)).2.2 with
        | true=>rfl
        | false=>exact absurd hb q2
  obtain ⟨r1,r2⟩:=hR1
  unfold mntB at hgen ⊢
  rw [r1] at hgen ⊢
  have hfine:=hw.fine
  generalize wfr n ⟨filB n T,[],[],false,tr⟩ (allX 1 T).length (parts (T.length + 1) t) = V at *
  have hlB : (allB picks V.1.B V.1.P V.1.W).1.length = n:=(good_allB hg picks m1_64).len
  generalize hB : (allB picks V.1.B V.1.P V.1.W).1 = B at *
  have hfl:=h.len
  have e1 : B.take (allX 1 T).length = allX 1 T:=by
    have : B.take (allX 1 T).length = (filB n T).take (allX 1 T).length:=ext_getD (by rw [List.length_take,List.length_take,hlB,hfl]) fun i hi=>by
      rw [List.length_take] at hi
      rw [List.getD_eq_getElem?_getD,List.getD_eq_getElem?_getD,List.getElem?_take_of_lt (by omega),List.getElem?_take_of_lt (by omega),← List.getD_eq_getElem?_getD,← List.getD_eq_getElem?_getD]
      exact (hsp i (by omega)).1 (by omega)
    rw [this,List.take_left' rfl]
  have hzB : ∀ i,(allX 1 T).length ≤ i→i < n→(filB n T).getD i [] = zs:=fun i i1 i2=>by
    rw [app_r i1,List.getD_eq_getElem?_getD,List.getElem?_replicate,if_pos (by omega)];rfl
  have hor : ∀ k,k < cnt t.length→B.getD ((allX 1 T).length + k) [] = (parts (T.length + 1) t).getD k [] ∨ (unp (B.getD ((allX 1 T).length + k) [])).ok = false:=fun k hk=>by
    obtain ⟨m,m1,m2⟩:=(hsp ((allX 1 T).length + k) (by omega)).2 (by omega)
    rw [hzB _ (by omega) (by omega),show (allX 1 T).length + k - (allX 1 T).length = k by omega] at m2
    cases hq : (unp (B.getD ((allX 1 T).length + k) [])).ok with
    | false=>exact .inr rfl
    | true =>
      left
      have hgk:=hgen _ (Go.Lx.getD_mem (d:=[]) (k:=(allX 1 T).length + k) (by omega)) hq
      rw [parts_get hk] at m2 ⊢
      rw [m2] at hgk hq ⊢
      exact torn_sec (by omega) (by omega) ht hk (T':=T ++ [t]) (by rw [show T.length + 1 - 1 = T.length by omega,List.getD_eq_getElem?_getD,List.getElem?_append_right (Nat.le_refl _),Nat.sub_self];rfl) m1 hq ⟨hgk.2.2.1,hgk.2.2.2⟩
  have hrest : ∀ i,(allX 1 T).length + cnt t.length ≤ i→i < n→B.getD i [] = zs:=fun i i1 i2=>by
    rw [(hsp i i2).1 (by omega)]
    exact hzB i (by omega) i2
  have hP : ∀ k,k < cnt t.length→unp ((parts (T.length + 1) t).getD k []) = partOf (T.length + 1) t k:=fun k hk=>by rw [unp_parts (by omega) (by omega) ht hk];rfl
  have hsplit : B.map unp = (allX 1 T).map unp ++ (((B.drop (allX 1 T).length).take (cnt t.length)).map unp ++ ((B.drop (allX 1 T).length).drop (cnt t.length)).map unp):=by
    rw [← List.map_append,List.take_append_drop,← e1,← List.map_append]
    rw [e1]
    conv=>lhs;rw [← List.take_append_drop (allX 1 T).length B,e1]
  have hQl : (((B.drop (allX 1 T).length).take (cnt t.length)).map unp).length = cnt t.length:=by rw [List.length_map,List.length_take,List.length_drop];omega
  have hQ : ∀ k,k < cnt t.length→(((B.drop (allX 1 T).length).take (cnt t.length)).map unp).getD k noPart = unp (B.getD ((allX 1 T).length + k) []):=fun k hk=>by
    rw [List.getD_eq_getElem?_getD,List.getElem?_map,List.getElem?_take_of_lt hk,List.getElem?_drop,List.getElem?_eq_getElem (by omega),List.getD_eq_getElem?_getD,List.getElem?_eq_getElem (by omega)]
    rfl
  have hend : ∀ a : List (Int × Bs),scan 0 (((B.drop (allX 1 T).length).drop (cnt t.length)).map unp) a = a:=fun a=>scan_none fun i hi=>by
    rw [List.length_map,List.length_drop,List.length_drop] at hi
    have : (((B.drop (allX 1 T).length).drop (cnt t.length)).map unp).getD i noPart = unp (B.getD ((allX 1 T).length + cnt t.length + i) []):=by
      rw [List.getD_eq_getElem?_getD,List.getElem?_map,List.getElem?_drop,List.getElem?_drop,← Nat.add_assoc,List.getElem?_eq_getElem (by omega),List.getD_eq_getElem?_getD,List.getElem?_eq_getElem (by omega)]
      rfl
    rw [this,hrest _ (by omega) (by omega),unp_zs];rfl
  generalize hQQ : ((B.drop (allX 1 T).length).take (cnt t.length)).map unp = Q at *
  have hQn : Q.length = cntN t.length:=by rw [hQl,cnt_nat ht]
  have hR : texts (opn B) = (scan 0 (Q ++ ((B.drop (allX 1 T).length).drop (cnt t.length)).map unp) (allR 1 T)).map (·.2):=by
    show (scan 0 (B.map unp) []).map (·.2) = _
    rw [hsplit,scan_all T 1 _ [] (by omega) (by omega) h.t (fun i hi=>by cases hi),List.nil_append]
  rw [hR]
  by_cases hall : ∀ k,k < cnt t.length→B.getD ((allX 1 T).length + k) [] = (parts (T.length + 1) t).getD k []
  · left
    rw [scan_whole (n:=T.length + 1) (t:=t) ht hQn fun k hk=>by rw [hQ k (by omega),hall k (by omega),hP k (by omega)]]
    rw [hend,more_new fun q=>by have:=(allR_nums T 1 _).1 q;omega,List.map_append,allR_texts]
    rfl
  · right
    have hx : ∃ k,k < cnt t.length∧B.getD ((allX 1 T).length + k) [] ≠ (parts (T.length + 1) t).getD k []:=Classical.byContradiction fun hn=>hall fun k hk=>Classical.byContradiction fun hne=>hn ⟨k,hk,hne⟩
    obtain ⟨i,hi,hne⟩:=hx
    constructor
    · intro e0
      obtain ⟨s1,s2⟩:=r2 e0
      obtain ⟨f1,_,f3,_⟩:=hfine s1
      have : B = V.1.B:=by rw [← hB,f1,allB_calm]
      refine hne ?_
      rw [this,f3 _ (by omega),if_pos ⟨by omega,by omega,rfl⟩,show (allX 1 T).length + i - (allX 1 T).length = i by omega]
    · have hb1 : ∀ k,k < Q.length→Q.getD k noPart = partOf (T.length + 1) t k ∨ (Q.getD k noPart).ok = false:=fun k hk=>by
        rw [hQ k (by omega)]
        rcases hor k (by omega) with q | q
        · left;rw [q,hP k (by omega)]
        · exact .inr q
      have hb2 : (Q.getD i noPart).ok = false:=by
        rw [hQ i hi]
        rcases hor i hi with q | q
        · exact absurd q hne
        · exact q
      rw [scan_broken (n:=T.length + 1) (t:=t) (i:=i) ht hQn hb1 (by omega) hb2,hend,allR_texts]
end Go.Proofs.YtmbldnahcmkpgaaGreatDoor
