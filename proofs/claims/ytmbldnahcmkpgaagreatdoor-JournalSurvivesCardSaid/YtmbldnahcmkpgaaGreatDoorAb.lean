/- The plain law of journals: what each function of a journal computes, in lists. No program in sight. Journals in lists: what a search for records finds behind a record, whole or broken. No program in sight. -/
import Derived.Test.YtmbldnahcmkpgaaGreatDoorGb
set_option linter.unusedSimpArgs false
set_option linter.unusedVariables false
namespace Go.Jn
open Go.Dk (Bs)
def cntN (n : Nat) : Nat:=max 1 ((n + 47) / 48)
def cnt (n : Int) : Nat:=if n < 0 ∨ 8000 < n then 0 else cntN n.toNat
def small (n m : Nat) : Bs:=(List.range m).map fun i=>UInt8.ofNat (n / 256 ^ i)
def val : Bs→Nat
  | []=>0
  | x::r=>x.toNat + 256 * val r
def pay (rest : Bs) : Bs:=rest.take 48 ++ List.replicate (48 - rest.length) 0
def hd (n k : Nat) (rest : Bs) : Bs:=small n 4 ++ (small k 2 ++ (small rest.length 2 ++ pay rest))
def sum8 (b : Bs) : Bs:=(Sha.sum b).take 8
def chkd (b : Bs) : Bs:=b ++ sum8 b
def sec (n k : Nat) (rest : Bs) : Bs:=chkd (hd n k rest)
def parts (n : Nat) (t : Bs) : List Bs:=(List.range (cnt t.length)).map fun k=>sec n k (t.drop (48 * k))
structure Part where
  num : Nat
  part : Nat
  left : Nat
  text : Bs
  ok : Bool
def noPart : Part:=⟨0,0,0,[],false⟩
def secNum (s : Bs) : Nat:=val (s.take 4)
def secPart (s : Bs) : Nat:=val ((s.drop 4).take 2)
def secLeft (s : Bs) : Nat:=val ((s.drop 6).take 2)
structure Fine (s : Bs) : Prop where
  len : s.length = 64
  sum : sum8 (s.take 56) = s.drop 56
  n1 : 1 ≤ secNum s
  n2 : secNum s ≤ 4096
  small : 48 * secPart s + secLeft s ≤ 8000
  left : 1 ≤ secLeft s ∨ secPart s = 0
  zero : ∀ i,i < 56→8 + min (secLeft s) 48 ≤ i→s.getD i 0 = 0
instance (s : Bs) : Decidable (Fine s):=decidable_of_iff (s.length = 64∧sum8 (s.take 56) = s.drop 56∧1 ≤ secNum s∧secNum s ≤ 4096∧48 * secPart s + secLeft s ≤ 8000∧(1 ≤ secLeft s ∨ secPart s = 0)∧∀ i,i < 56→8 + min (secLeft s) 48 ≤ i→s.getD i 0 = 0)
  ⟨fun h=>⟨h.1,h.2.1,h.2.2.1,h.2.2.2.1,h.2.2.2.2.1,h.2.2.2.2.2.1,h.2.2.2.2.2.2⟩,fun h=>⟨h.1,h.2,h.3,h.4,h.5,h.6,h.7⟩⟩
def unp (s : Bs) : Part:=if Fine s then ⟨secNum s,secPart s,secLeft s,(s.drop 8).take (min (secLeft s) 48),true⟩ else noPart
def isBlank (s : Bs) : Prop:=∀ i,i < s.length→s.getD i 0 = 0
instance (s : Bs) : Decidable (isBlank s):=by unfold isBlank;infer_instance
def IsRec : List Part→Prop
  | []=>False
  | p::r=>p.ok = true∧p.part = 0∧cnt p.left ≤ r.length + 1∧∀ k,k < cnt p.left→((p::r).getD k noPart).ok = true∧((p::r).getD k noPart).num = p.num∧((p::r).getD k noPart).part = k∧((p::r).getD k noPart).left + 48 * k = p.left
instance : DecidablePred IsRec:=fun l=>by cases l <;> unfold IsRec <;> infer_instance
def joined (l : List Part) : Nat→Bs
  | 0=>[]
  | k + 1=>joined l k ++ (l.getD k noPart).text
def recText (l : List Part) : Bs:=joined l (cnt (l.headD noPart).left)
def hasN (a : List (Int × Bs)) (n : Int) : Bool:=(a.map (·.1)).contains n
def more (a : List (Int × Bs)) (n : Int) (t : Bs) : List (Int × Bs):=if hasN a n = true then a else a ++ [(n,t)]
def scan : Nat→List Part→List (Int × Bs)→List (Int × Bs)
  | _,[],a=>a
  | s + 1,_::r,a=>scan s r a
  | 0,p::r,a=>if IsRec (p::r) then scan (cnt p.left - 1) r (more a p.num (recText (p::r))) else scan 0 r a
structure Jr where
  R : List (Int × Bs)
  bad : List Int
  next : Int
  stop : Nat
  shut : Bool
def nums (J : Jr) : List Int:=J.R.map (·.1)
def texts (J : Jr) : List Bs:=J.R.map (·.2)
def bads (L : List Bs) : Nat→List Int
  | 0=>[]
  | k + 1=>if (unp (L.getD k [])).ok = false∧¬ isBlank (L.getD k []) then bads L k ++ [(k : Int)] else bads L k
def stopAt (L : List Bs) : Nat→Nat
  | 0=>0
  | k + 1=>if isBlank (L.getD k []) then stopAt L k else k + 1
def nextOf (L : List Bs) : Nat→Int
  | 0=>1
  | k + 1=>max (nextOf L k) ((unp (L.getD k [])).num + 1)
def opn (L : List Bs) : Jr:=⟨scan 0 (L.map unp) [],bads L L.length,nextOf L L.length,stopAt L L.length,false⟩
def damaged (J : Jr) : List Int:=((List.range (J.next - 1).toNat).map fun i : Nat=>((i : Int) + 1)).filter fun n=>!(nums J).contains n
theorem cntN_le {n : Nat} (h : n ≤ 8000) : cntN n ≤ 167:=by unfold cntN;omega
theorem cntN_pos (n : Nat) : 1 ≤ cntN n:=by unfold cntN;omega
theorem cnt_nat {n : Nat} (h : n ≤ 8000) : cnt (n : Int) = cntN n:=by unfold cnt;rw [if_neg (by omega)];rfl
theorem cnt_le (n : Int) : cnt n ≤ 167:=by
  unfold cnt
  split
  · omega
  · exact cntN_le (by omega)
theorem cnt_pos {n : Int} (h0 : 0 ≤ n) (h1 : n ≤ 8000) : 1 ≤ cnt n:=by
  unfold cnt
  rw [if_neg (by omega)]
  exact cntN_pos _
theorem cntN_lt {n k : Nat} (h : k < cntN n) : 48 * k < n ∨ k = 0:=by unfold cntN at h;omega
theorem cntN_last (n : Nat) : n ≤ 48 * cntN n:=by unfold cntN;omega
theorem small_len (n m : Nat) : (small n m).length = m:=by unfold small;simp
theorem small_succ (n m : Nat) : small n (m + 1) = small n m ++ [UInt8.ofNat (n / 256 ^ m)]:=by
  unfold small;rw [List.range_succ,List.map_append];rfl
theorem small_cons (n m : Nat) : small n (m + 1) = UInt8.ofNat n::small (n / 256) m:=by
  unfold small
  rw [List.range_succ_eq_map,List.map_cons,List.map_map]
  rw [Nat.pow_zero,Nat.div_one]
  congr 1
  refine List.map_congr_left fun i _=>?_
  show UInt8.ofNat (n / 256 ^ (i + 1)) = UInt8.ofNat (n / 256 / 256 ^ i)
  rw [Nat.div_div_eq_div_mul,Nat.pow_succ,Nat.mul_comm]
theorem val_small (m : Nat) : ∀ n,val (small n m) = n % 256 ^ m:=by
  induction m with
  | zero=>intro n;rw [Nat.pow_zero,Nat.mod_one];rfl
  | succ m ih =>
    intro n
    rw [small_cons,val,ih,Nat.pow_succ',Nat.mod_mul]
    simp
theorem val_lt : ∀ l : Bs,val l < 256 ^ l.length
  | []=>by decide
  | x::r=>by
    have:=val_lt r
    have:=x.toNat_lt
    rw [val,List.length_cons,Nat.pow_succ]
    omega
theorem pay_len (rest : Bs) : (pay rest).length = 48:=by unfold pay;simp;omega
theorem hd_len (n k : Nat) (rest : Bs) : (hd n k rest).length = 56:=by
  unfold hd;simp [small_len,pay_len]
theorem sum8_len (b : Bs) : (sum8 b).length = 8:=by unfold sum8;rw [List.length_take,Sha.sum_length];rfl
theorem sec_len (n k : Nat) (rest : Bs) : (sec n k rest).length = 64:=by
  unfold sec chkd;rw [List.length_append,hd_len,sum8_len]
theorem parts_len (n : Nat) (t : Bs) : (parts n t).length = cnt t.length:=by unfold parts;simp
theorem parts_get {n : Nat} {t : Bs} {k : Nat} (h : k < cnt t.length) : (parts n t).getD k [] = sec n k (t.drop (48 * k)):=by
  unfold parts
  rw [List.getD_eq_getElem?_getD,List.getElem?_map,List.getElem?_range h];rfl
theorem parts_64 {n : Nat} {t : Bs} : ∀ s ∈ parts n t,s.length = 64:=by
  intro s hs
  unfold parts at hs
  obtain ⟨k,_,rfl⟩:=List.mem_map.1 hs
  exact sec_len _ _ _
theorem hd_take (n k : Nat) (rest : Bs) (x : Bs) : (hd n k rest ++ x).take 4 = small n 4:=by
  unfold hd
  rw [List.append_assoc,List.take_left' (small_len n 4)]
theorem hd_part (n k : Nat) (rest : Bs) (x : Bs) : ((hd n k rest ++ x).drop 4).take 2 = small k 2:=by
  unfold hd
  rw [List.append_assoc,List.drop_left' (small_len n 4),List.append_assoc,List.take_left' (small_len k 2)]
theorem hd_left (n k : Nat) (rest : Bs) (x : Bs) : ((hd n k rest ++ x).drop 6).take 2 = small rest.length 2:=by
  unfold hd
  rw [show 6 = 4 + 2 from rfl,← List.drop_drop,List.append_assoc,List.drop_left' (small_len n 4),List.append_assoc,List.drop_left' (small_len k 2),List.append_assoc,List.take_left' (small_len _ 2)]
theorem hd_pay (n k : Nat) (rest : Bs) (x : Bs) : (hd n k rest ++ x).drop 8 = pay rest ++ x:=by
  unfold hd
  rw [show 8 = 4 + (2 + 2) from rfl,← List.drop_drop,List.append_assoc,List.drop_left' (small_len n 4),← List.drop_drop,List.append_assoc,List.drop_left' (small_len k 2),List.append_assoc,List.drop_left' (small_len _ 2)]
theorem sec_num {n k : Nat} {rest : Bs} (h : n ≤ 4096) : secNum (sec n k rest) = n:=by
  unfold secNum sec chkd;rw [hd_take,val_small];omega
theorem sec_part {n k : Nat} {rest : Bs} (h : k ≤ 167) : secPart (sec n k rest) = k:=by
  unfold secPart sec chkd;rw [hd_part,val_small];omega
theorem sec_left {n k : Nat} {rest : Bs} (h : rest.length ≤ 8000) : secLeft (sec n k rest) = rest.length:=by
  unfold secLeft sec chkd;rw [hd_left,val_small];omega
theorem pay_take {rest : Bs} {m : Nat} (h : m = min rest.length 48) : (pay rest).take m = rest.take 48:=by
  unfold pay
  subst h
  rw [List.take_append_of_le_length (by rw [List.length_take];omega),List.take_of_length_le (by rw [List.length_take];omega)]
theorem pay_zero {rest : Bs} {i : Nat} (h : rest.length ≤ i) : (pay rest).getD i 0 = 0:=by
  unfold pay
  by_cases hi : i < 48
  · rw [List.getD_eq_getElem?_getD,List.getElem?_append_right (by rw [List.length_take];omega),List.getElem?_replicate]
    split <;> rfl
  · rw [List.getD_eq_getElem?_getD,List.getElem?_eq_none (by simp;omega)];rfl
theorem fine_sec {n k : Nat} {rest : Bs} (h1 : 1 ≤ n) (h2 : n ≤ 4096) (hk : k ≤ 167) (hs : 48 * k + rest.length ≤ 8000) (hl : 1 ≤ rest.length ∨ k = 0) : Fine (sec n k rest):=by
  have e1 : secNum (sec n k rest) = n:=sec_num h2
  have e2 : secPart (sec n k rest) = k:=sec_part hk
  have e3 : secLeft (sec n k rest) = rest.length:=sec_left (by omega)
  refine ⟨sec_len _ _ _,?_,by omega,by omega,by omega,by omega,fun i hlt hi=>?_⟩
  · unfold sec chkd
    rw [List.take_left' (hd_len _ _ _),List.drop_left' (hd_len _ _ _)]
  · rw [e3] at hi
    have : (sec n k rest).getD i 0 = ((sec n k rest).drop 8).getD (i - 8) 0:=by
      rw [List.getD_eq_getElem?_getD,List.getD_eq_getElem?_getD,List.getElem?_drop]
      congr 2;omega
    rw [this]
    unfold sec chkd
    rw [hd_pay,List.getD_eq_getElem?_getD,List.getElem?_append_left (by rw [pay_len];omega),← List.getD_eq_getElem?_getD]
    exact pay_zero (by omega)
theorem unp_sec {n k : Nat} {rest : Bs} (h1 : 1 ≤ n) (h2 : n ≤ 4096) (hk : k ≤ 167) (hs : 48 * k + rest.length ≤ 8000) (hl : 1 ≤ rest.length ∨ k = 0) : unp (sec n k rest) = ⟨n,k,rest.length,rest.take 48,true⟩:=by
  have hf:=fine_sec h1 h2 hk hs hl
  unfold unp
  rw [if_pos hf,sec_num h2,sec_part hk,sec_left (by omega)]
  congr 1
  unfold sec chkd
  rw [hd_pay,List.take_append_of_le_length (by rw [pay_len];omega)]
  exact pay_take rfl
theorem unp_parts {n : Nat} {t : Bs} {k : Nat} (h1 : 1 ≤ n) (h2 : n ≤ 4096) (ht : t.length ≤ 8000) (hk : k < cnt t.length) : unp ((parts n t).getD k []) = ⟨n,k,t.length - 48 * k,(t.drop (48 * k)).take 48,true⟩:=by
  rw [parts_get hk]
  rw [cnt_nat ht] at hk
  have:=cntN_lt hk
  have:=cntN_le ht
  rw [unp_sec h1 h2 (by omega) (by rw [List.length_drop];omega) (by rw [List.length_drop];omega),List.length_drop]
theorem not_blank_sec {n k : Nat} {rest : Bs} (h1 : 1 ≤ n) (h2 : n ≤ 4096) : ¬ isBlank (sec n k rest):=fun h=>by
  have e1 : secNum (sec n k rest) = n:=sec_num h2
  have : ∀ l : Bs,(∀ i,i < l.length→l.getD i 0 = 0)→val l = 0:=by
    intro l
    induction l with
    | nil=>intro _;rfl
    | cons x r ih =>
      intro hz
      have h0 : x = 0:=hz 0 (by simp)
      have:=ih fun i hi=>hz (i + 1) (by simpa using hi)
      rw [val,this,h0];rfl
  have hz : secNum (sec n k rest) = 0:=this _ fun i hi=>by
    rw [List.length_take] at hi
    rw [List.getD_eq_getElem?_getD,List.getElem?_take_of_lt (by omega),← List.getD_eq_getElem?_getD]
    exact h i (by omega)
  omega
end Go.Jn

namespace Go.Jn
open Go.Dk (Bs)
theorem scan_nil (s : Nat) (a : List (Int × Bs)) : scan s [] a = a:=by cases s <;> rfl
theorem scan_drop : ∀ (s : Nat) (l : List Part) (a : List (Int × Bs)),scan s l a = scan 0 (l.drop s) a
  | 0,l,a=>by rw [List.drop_zero]
  | s + 1,[],a=>by rw [List.drop_nil,scan_nil,scan_nil]
  | s + 1,p::r,a=>by rw [scan,List.drop_succ_cons];exact scan_drop s r a
theorem isRec_head {l : List Part} (h : IsRec l) : (l.getD 0 noPart).ok = true∧(l.getD 0 noPart).part = 0∧l ≠ []:=by
  cases l with
  | nil=>exact h.elim
  | cons p r=>exact ⟨h.1,h.2.1,fun e=>by cases e⟩
theorem scan_skip : ∀ (m : Nat) (l : List Part) (a : List (Int × Bs)),(∀ j,j < m→¬ IsRec (l.drop j))→scan 0 l a = scan 0 (l.drop m) a
  | 0,l,a,_=>by rw [List.drop_zero]
  | m + 1,[],a,_=>by rw [List.drop_nil]
  | m + 1,p::r,a,h=>by
    have h0 : ¬ IsRec (p::r):=h 0 (by omega)
    rw [scan,if_neg h0,List.drop_succ_cons]
    exact scan_skip m r a fun j hj=>h (j + 1) (by omega)
theorem scan_rec {l : List Part} {a : List (Int × Bs)} (h : IsRec l) (hc : 1 ≤ cnt (l.headD noPart).left) : scan 0 l a = scan 0 (l.drop (cnt (l.headD noPart).left)) (more a (l.headD noPart).num (recText l)):=by
  cases l with
  | nil=>exact h.elim
  | cons p r =>
    rw [scan,if_pos h,scan_drop]
    have hc : 1 ≤ cnt p.left:=hc
    show _ = scan 0 ((p::r).drop (cnt p.left)) _
    obtain ⟨m,hm⟩ : ∃ m,cnt p.left = m + 1:=⟨cnt p.left - 1,by omega⟩
    rw [hm];rfl
def partOf (n : Nat) (t : Bs) (k : Nat) : Part:=⟨n,k,t.length - 48 * k,(t.drop (48 * k)).take 48,true⟩
theorem getD_app_lt {l m : List Part} {i : Nat} (h : i < l.length) : (l ++ m).getD i noPart = l.getD i noPart:=by
  rw [List.getD_eq_getElem?_getD,List.getD_eq_getElem?_getD,List.getElem?_append_left h]
theorem joined_eq {t : Bs} {n : Nat} {l : List Part} : ∀ k,(∀ j,j < k→l.getD j noPart = partOf n t j)→joined l k = t.take (48 * k)
  | 0,_=>rfl
  | k + 1,h=>by
    rw [joined,joined_eq k fun j hj=>h j (by omega),h k (by omega)]
    show _ ++ (t.drop (48 * k)).take 48 = _
    rw [show 48 * (k + 1) = 48 * k + 48 by omega,List.take_add]
theorem headD_eq {l : List Part} : l.headD noPart = l.getD 0 noPart:=by cases l <;> rfl
theorem scan_whole {n : Nat} {t : Bs} {Q Y : List Part} {a : List (Int × Bs)} (ht : t.length ≤ 8000) (hQ : Q.length = cntN t.length) (h : ∀ k,k < Q.length→Q.getD k noPart = partOf n t k) : scan 0 (Q ++ Y) a = scan 0 Y (more a n t):=by
  have hp:=cntN_pos t.length
  have hg : ∀ k,k < cntN t.length→(Q ++ Y).getD k noPart = partOf n t k:=fun k hk=>by rw [getD_app_lt (by omega)];exact h k (by omega)
  have h0 : (Q ++ Y).headD noPart = partOf n t 0:=by rw [headD_eq];exact hg 0 (by omega)
  have hc : cnt ((Q ++ Y).headD noPart).left = cntN t.length:=by
    rw [h0];show cnt ((t.length - 48 * 0 : Nat) : Int) = _
    rw [Nat.mul_zero,Nat.sub_zero,cnt_nat ht]
  have hr : IsRec (Q ++ Y):=by
    cases hl : Q ++ Y with
    | nil =>
      have : (Q ++ Y).length = 0:=by rw [hl];rfl
      rw [List.length_append] at this;omega
    | cons p r =>
      rw [hl] at h0 hc hg
      have hlen : (p::r).length = Q.length + Y.length:=by rw [← hl,List.length_append]
      have hc : cnt p.left = cntN t.length:=hc
      have h0 : p = partOf n t 0:=h0
      rw [List.length_cons] at hlen
      refine ⟨by rw [h0];rfl,by rw [h0];rfl,by omega,fun k hk=>?_⟩
      rw [hg k (by omega),h0]
      refine ⟨rfl,rfl,rfl,?_⟩
      show t.length - 48 * k + 48 * k = t.length - 48 * 0
      have:=cntN_lt (n:=t.length) (k:=k) (by omega)
      omega
  rw [scan_rec hr (by omega),hc,← hQ,List.drop_left,h0]
  have : recText (Q ++ Y) = t:=by
    unfold recText
    rw [hc,joined_eq (n:=n) (t:=t) _ hg]
    exact List.take_of_length_le (cntN_last _)
  rw [this];rfl
theorem getD_drop {l : List Part} {j k : Nat} : (l.drop j).getD k noPart = l.getD (j + k) noPart:=by
  rw [List.getD_eq_getElem?_getD,List.getElem?_drop,List.getD_eq_getElem?_getD]
theorem scan_broken {n : Nat} {t : Bs} {Q Y : List Part} {a : List (Int × Bs)} (ht : t.length ≤ 8000) (hQ : Q.length = cntN t.length) (h : ∀ k,k < Q.length→Q.getD k noPart = partOf n t k ∨ (Q.getD k noPart).ok = false) {i : Nat} (hi : i < Q.length) (hb : (Q.getD i noPart).ok = false) : scan 0 (Q ++ Y) a = scan 0 Y a:=by
  rw [scan_skip Q.length,List.drop_left]
  intro j hj hr
  obtain ⟨h1,h2,h3⟩:=isRec_head hr
  rw [getD_drop,Nat.add_zero,getD_app_lt hj] at h1 h2
  rcases h j hj with hh | hh
  · rw [hh] at h2
    have h2 : j = 0:=h2
    subst h2
    rw [List.drop_zero] at hr h3
    cases hl : Q ++ Y with
    | nil=>exact h3 hl
    | cons p r =>
      rw [hl] at hr
      obtain ⟨_,_,_,h4⟩:=hr
      have hp : p = Q.getD 0 noPart:=by
        rw [← getD_app_lt (m:=Y) hj,hl];rfl
      have hc : cnt p.left = cntN t.length:=by
        rw [hp,hh];show cnt ((t.length - 48 * 0 : Nat) : Int) = _
        rw [Nat.mul_zero,Nat.sub_zero,cnt_nat ht]
      have:=(h4 i (by omega)).1
      rw [← hl,getD_app_lt hi,hb] at this
      cases this
  · rw [hh] at h1;cases h1
theorem scan_none {l : List Part} {a : List (Int × Bs)} (h : ∀ i,i < l.length→(l.getD i noPart).ok = false) : scan 0 l a = a:=by
  rw [scan_skip l.length,List.drop_length,scan_nil]
  intro j hj hr
  have h1:=(isRec_head hr).1
  rw [getD_drop,Nat.add_zero,h j hj] at h1
  cases h1
end Go.Jn
