/- The program's disks and the reference's: operation by operation. slices.Sort over an own slice of numbers: the kit's contract as one over abstract values. Books of consent: the plain law. Books of consent: lists. -/
import Derived.Test.YtmbldnahcmkpgaaGreatDoorEm
import Derived.Test.YtmbldnahcmkpgaaGreatDoorSg
import Derived.Test.YtmbldnahcmkpgaaGreatDoorGb
import Derived.Test.YtmbldnahcmkpgaaGreatDoorFo
import Derived.Test.YtmbldnahcmkpgaaGreatDoorAc
import Derived.Test.YtmbldnahcmkpgaaGreatDoorDc
set_option linter.unusedSimpArgs false
set_option linter.unusedVariables false
namespace Go.Proofs.YtmbldnahcmkpgaaGreatDoor
open Go.V Go.RowKit Go.L Go.Dk
variable {n : Nat} {B : List Bs} {P : PM} {W : WM} {off : Bool} {left : Int}
theorem keys_iff (h : Good n B P W left) (x : Int) : x ∈ P.map (·.1) ↔ 0 ≤ x∧x < n∧(mFind P ((x.toNat : Nat) : Int)).isSome = true:=by
  constructor
  · intro hx
    obtain ⟨v,hv⟩:=mFind_some_of hx
    have h1:=h.pin _ (mFind_mem hv)
    refine ⟨h1.1,h1.2,?_⟩
    rw [Int.toNat_of_nonneg h1.1,hv];rfl
  · rintro ⟨h0,_,h2⟩
    rw [Int.toNat_of_nonneg h0] at h2
    cases hf : mFind P x with
    | none=>rw [hf] at h2;cases h2
    | some v=>exact List.mem_map.2 ⟨_,mFind_mem hf,rfl⟩
theorem pend_picked (h : Good n B P W left) : sortI (P.map (·.1)) = picked (fun i=>(mFind P (i : Int)).isSome) n :=
  sortI_picked _ n h.pnd (keys_iff h)
theorem mount_secs (h : Good n B P W left) (picks : List Int) : (rmt picks n (secs n B P W)).1 = secs n (allB picks B P W).1 (allB picks B P W).2 W:=by
  have:=(rmt_secs (W:=W) picks h.len h.pnd n (Nat.le_refl _)).1
  rw [this]
  unfold allB
  rw [pend_picked h]
theorem write_secs {I : Int} (h0 : 0 ≤ I) (h1 : I < n) (s : Bs) : wrS (secs n B P W) I s = secs n B (mSet P I s) W:=by
  unfold wrS
  rw [secs_get (by omega)]
  refine secs_set ?_ fun j hj hji=>?_
  · unfold secAt
    rw [Int.toNat_of_nonneg h0,mFind_mSet,if_pos rfl];rfl
  · unfold secAt
    rw [mFind_mSet,if_neg (by omega)]
theorem wear_secs {I : Int} (h0 : 0 ≤ I) (h1 : I < n) : (secs n B P W).set I.toNat ⟨((secs n B P W).getD I.toNat secZ).T,((secs n B P W).getD I.toNat secZ).X,((secs n B P W).getD I.toNat secZ).D,true⟩ = secs n B P (mSet W I true):=by
  rw [secs_get (by omega)]
  refine secs_set ?_ fun j hj hji=>?_
  · unfold secAt isW
    rw [Int.toNat_of_nonneg h0,mFind_mSet,if_pos rfl];rfl
  · unfold secAt isW
    rw [mFind_mSet,if_neg (by omega)]
theorem rot_secs {I : Int} (h0 : 0 ≤ I) (h1 : I < n) (hB : B.length = n) (b : Bs) : (secs n B P W).set I.toNat ⟨b,((secs n B P W).getD I.toNat secZ).X,((secs n B P W).getD I.toNat secZ).D,((secs n B P W).getD I.toNat secZ).W⟩ = secs n (B.set I.toNat b) P W:=by
  rw [secs_get (by omega)]
  refine secs_set ?_ fun j hj hji=>?_
  · unfold secAt
    rw [getD_set (by omega)]
  · unfold secAt
    rw [getD_set_ne hji]
theorem read_secs (I : Int) : rrdS n off (secs n B P W) I = rdS n off B P I:=by
  unfold rrdS rdS
  by_cases hc : chk n off I = 0
  · obtain ⟨_,h0,h1⟩:=chk_zero hc
    have hc' : ¬ chk n off I ≠ 0:=fun h=>h hc
    rw [if_neg hc',if_neg hc',secs_get (by omega)]
    unfold secAt
    rw [Int.toNat_of_nonneg h0]
    cases mFind P I <;> rfl
  · rw [if_pos hc,if_pos hc]
theorem rgood_secs (h : Good n B P W left) : RGood n (secs n B P W):=by
  refine ⟨secs_len,fun s hs=>?_,fun s hs hd=>?_⟩
  all_goals
    unfold secs at hs
    obtain ⟨i,hi,rfl⟩:=List.mem_map.1 hs
    have hi:=List.mem_range.1 hi
  · exact h.b64 _ (getD_mem (by rw [h.len];exact hi))
  · have hd : (mFind P (i : Int)).isSome = true:=hd
    show ((mFind P (i : Int)).getD []).length = 64
    cases hf : mFind P (i : Int) with
    | none=>rw [hf] at hd;cases hd
    | some v=>exact h.p64 _ (mFind_mem hf)
theorem stp_left (l : Int) : stpE (max (-1) l) = stpE l∧stpL (max (-1) l) = max (-1) (stpL l)∧∀ o,stpO o (max (-1) l) = stpO o l:=by
  refine ⟨?_,?_,fun o=>?_⟩
  · unfold stpE
    by_cases h : l = 0
    · rw [if_pos h,if_pos (by omega)]
    · rw [if_neg h,if_neg (by omega)]
  · unfold stpL
    by_cases h : 0 < l
    · rw [if_pos h,if_pos (by omega)];omega
    · rw [if_neg h,if_neg (by omega)]
  · unfold stpO
    by_cases h : l = 0
    · rw [if_pos h,if_pos (by omega)]
    · rw [if_neg h,if_neg (by omega)]
end Go.Proofs.YtmbldnahcmkpgaaGreatDoor

namespace Go.V
open Go.RowKit Go.L Go.Maps Go.Proofs Go.Shelf Go.Sort
abbrev intO (l : List Int) : AV:=.arr l.length 1 (fun i=>.int .i64 (l.getD i 0))
def srt (l : List Int) : List Int:=l.mergeSort fun x y=>decide (x ≤ y)
end Go.V

namespace Go.Cs
open Go.V
theorem drop_step {l : List Int} {k : Nat} (h : k < l.length) : l.drop k = l.getD k 0::l.drop (k + 1):=by
  rw [List.drop_eq_getElem_cons h,List.getD_eq_getElem?_getD,List.getElem?_eq_getElem h];rfl
def idxP (q : Int→Bool) (k : Nat) : List Int→Int
  | []=>-1
  | v::r=>if q v = true then (k : Int) else idxP q (k + 1) r
theorem idxP_step {q : Int→Bool} {l : List Int} {k : Nat} (h : k < l.length) : idxP q k (l.drop k) = if q (l.getD k 0) = true then (k : Int) else idxP q (k + 1) (l.drop (k + 1)):=by
  rw [drop_step h,idxP]
theorem idxP_any {q : Int→Bool} : ∀ {l : List Int} {k : Nat},decide (0 ≤ idxP q k l) = l.any q
  | [],k=>by rw [idxP];rfl
  | v::r,k=>by
    rw [idxP,List.any_cons]
    cases hq : q v with
    | true=>simp
    | false=>simpa using idxP_any (q:=q) (l:=r) (k:=k + 1)
theorem any_eq {l : List Int} {x : Int} : (l.any fun v=>decide (x = v)) = decide (x ∈ l):=by
  induction l with
  | nil=>simp
  | cons v r ih=>rw [List.any_cons,ih];by_cases h : x = v <;> simp [h]
def cmpct : List Int→List Int
  | []=>[]
  | [a]=>[a]
  | a::b::r=>if a = b then cmpct (b::r) else a::cmpct (b::r)
def uniq (l : List Int) : List Int:=cmpct (srt l)
structure Ent where
  F : List Int
  P : List Int
  B : List Int
  U : Bool
def entZ : Ent:=⟨[],[],[],false⟩
structure Bk where
  E : List Ent
  R : List Int
def badT (b : Bk) (i : Int) : Prop:=i < 0 ∨ (b.E.length : Int) ≤ i
instance (b : Bk) (i : Int) : Decidable (badT b i):=by unfold badT;infer_instance
structure BOk (b : Bk) : Prop where
  n : b.E.length ≤ 256
  f : ∀ k,k < b.E.length→(b.E.getD k entZ).F.Pairwise (· < ·)∧∀ i ∈ (b.E.getD k entZ).F,0 ≤ i∧i < k
  p : ∀ k,k < b.E.length→(b.E.getD k entZ).P.Pairwise (· < ·)∧(b.E.getD k entZ).P.length ≤ 512∧∀ x ∈ (b.E.getD k entZ).P,0 ≤ x∧x < 65536
  q : ∀ k,k < b.E.length→(b.E.getD k entZ).B.Pairwise (· < ·)∧∀ x ∈ (b.E.getD k entZ).B,0 ≤ x∧x < 65536
  r : b.R.Nodup∧∀ x ∈ b.R,0 ≤ x∧x < 65536
end Go.Cs
namespace Go.Cs
end Go.Cs
namespace Go.Cs
end Go.Cs

namespace Go.Proofs.YtmbldnahcmkpgaaGreatDoor
open Go.V Go.RowKit Go.L Go.Cs Go.Dk
abbrev intsV (l : List Int) : AV:=.rsl false l.length 1 (fun i=>.int .i64 (l.getD i 0))
set_option maxRecDepth 10000
set_option maxHeartbeats 1000000
theorem cloneI_ok (l : List Int) (hl : l.length ≤ 1048576) : Ok Tryz.prog 73 [] [] (.pair (intsV l) .nul) (fun r h'=>r = .sl 0 [] 1 0 l.length∧h' = [(0,intO l)]):=by
  refine Ok.of_vcC tt_ok Tryz.func73 rfl rfl (by show 1 ≤ _;decide) 0 (hlt_ok (by rfl)) fun c0=>?_
  repeat' (first | (refine SS_ ?_) | (refine Seq.slnilx tt_ok (by rfl) (by rfl) (by rfl) (by rfl) (by rfl) (by rfl) (by rfl) (fun hz=>?_) ?_) | (refine VC.litT (by rfl) LTR_ ?_) | (refine VC.litF (by rfl) LFA_ ?_) | fail)
  · refine retC_mk [(2,.sl 0 [] 1 0 l.length)] [(0,intO l)] 1 (fun a w h=>(?_ : ∀ a w,Sim _ _ a w→Sim _ _ a w) a w (Sim.ghost 2 1 (fun i=>.int .i64 (l.getD i 0)) (by rfl) (.inl rfl) a w h)) (retQ_ok (by rfl) [(0,intO l)] (fun i av h=>h) ⟨?_,?_⟩)
    · rw [hz]
      exact (Sim.less [] (by rfl) R_ R_)
    · rfl
    · rfl
  · (refine retC_mk ([(2,.sl 0 [] 1 0 l.length)]) ([(0,intO l)]) 1 (Sim.less [] (by rfl) R_ R_) (retQ_ok (by rfl) ([(0,intO l)]) (fun i av h=>h) ⟨?_,?_⟩)) <;> rfl
theorem mem_getD {l : List Int} {x : Int} : x ∈ l ↔ ∃ j,j < l.length∧l.getD j 0 = x:=by
  rw [List.mem_iff_getElem]
  constructor
  · rintro ⟨j,hj,h⟩
    exact ⟨j,hj,by rw [List.getD_eq_getElem?_getD,List.getElem?_eq_getElem hj];exact h⟩
  · rintro ⟨j,hj,h⟩
    rw [List.getD_eq_getElem?_getD,List.getElem?_eq_getElem hj] at h
    exact ⟨j,hj,h⟩
theorem index_ok (l : List Int) (hl : l.length ≤ 9223372036854775807) (x : Int) : Ok Tryz.prog 77 [] [] (.pair (intsV l) (.pair (.int .i64 x) .nul)) (fun r h'=>r = .int .i64 (idxP (fun v=>decide (x = v)) 0 l)∧h' = []):=by
  refine Ok.of_vcC tt_ok Tryz.func77 rfl rfl (by show 2 ≤ _;decide) 0 (hlt_ok (by rfl)) fun c0=>?_
  repeat' (first | (refine SS_ ?_) | fail)
  refine VC.loop (fun k : Nat=>⟨[(8,.int .i64 (k : Nat)),(7,.int .i64 l.length),(1,.int .i64 x),(0,intsV l)],[],[],0⟩) (fun k=>k ≤ l.length∧idxP (fun v=>decide (x = v)) 0 l = idxP (fun v=>decide (x = v)) k (l.drop k)) (fun k=>l.length - k) 0 ⟨by omega,rfl⟩ (Sim.less [] (by rfl) R_ R_) fun k hk=>?_
  obtain ⟨hk,hr⟩:=hk
  by_cases hkl : k < l.length
  · have hget : l.getD ((k : Nat) : Int).toNat 0 = l.getD k 0:=by rw [Int.toNat_natCast]
    rw [idxP_step hkl] at hr
    repeat' (first | (refine SS_ ?_) | (refine VC.litT (by rfl) LTR_ ?_) | (refine VC.cond (by rfl) (fun hb=>?_) (fun hb=>?_) <;> (fail_if_success (with_reducible have:=litT_ hb)) <;> (fail_if_success (with_reducible have:=litF_ hb)) <;> (try simp only [HB_] at hb) <;> (try (exfalso;first | omega | (cases hb;done)))) | fail)
    · rw [if_pos (decide_eq_true (by omega))] at hr
      rw [hr]
      (refine retC_mk ([(4,.int .i64 (k : Nat))]) ([]) 0 (Sim.less [] (by rfl) R_ R_) (retQ_ok (by rfl) ([]) (fun i av h=>h) ⟨?_,?_⟩)) <;> rfl
    · rw [if_neg (fun h=>by have:=of_decide_eq_true h;omega)] at hr
      refine ⟨k + 1,⟨by omega,hr⟩,by omega,?_⟩
      exact (Sim.less [] (by rfl) R_ R_)
  · repeat' (first | (refine SS_ ?_) | (refine VC.litF (by rfl) LFA_ ?_) | fail)
    rw [List.drop_of_length_le (by omega)] at hr
    rw [hr]
    (refine retC_mk ([(4,.int .i64 (-1))]) ([]) 0 (Sim.less [] (by rfl) R_ R_) (retQ_ok (by rfl) ([]) (fun i av h=>h) ⟨?_,?_⟩)) <;> rfl
theorem contains_ok (l : List Int) (hl : l.length ≤ 9223372036854775807) (x : Int) : Ok Tryz.prog 50 [] [] (.pair (intsV l) (.pair (.int .i64 x) .nul)) (fun r h'=>r = .bool (decide (x ∈ l))∧h' = []):=by
  have c1:=index_ok l hl x
  rw [show decide (x ∈ l) = decide (0 ≤ idxP (fun v=>decide (x = v)) 0 l) by rw [idxP_any,any_eq]]
  generalize idxP (fun v=>decide (x = v)) 0 l = m at *
  refine Ok.of_vcC tt_ok Tryz.func50 rfl rfl (by show 2 ≤ _;decide) 0 (hlt_ok (by rfl)) fun c0=>?_
  repeat' (first | (refine SS_ ?_) | (refine Seq.callp false (c1) Tryz.func77 GOk.nil subG.nil (by rfl) (by rfl) rfl rfl rfl rfl rfl (by rfl) rfl VW_ NI_ NI_ FR_ ?_) | fail)
  (refine retC_mk ([(4,.bool (decide (0 ≤ m)))]) ([]) 0 (Sim.less [] (by rfl) R_ R_) (retQ_ok (by rfl) ([]) (fun i av h=>h) ⟨?_,?_⟩)) <;> rfl
theorem sameI_ok (A B : List Int) (hA : A.length ≤ 9223372036854775807) (hB : B.length ≤ 9223372036854775807) : Ok Tryz.prog 38 [] [] (.pair (intsV A) (.pair (intsV B) .nul)) (fun r h'=>r = .bool (decide (A = B))∧h' = []):=by
  by_cases hlen : A.length = B.length
  · refine Ok.of_vcC tt_ok Tryz.func38 rfl rfl (by show 2 ≤ _;decide) 0 (hlt_ok (by rfl)) fun c0=>?_
    repeat' (first | (refine SS_ ?_) | (refine VC.litF (by rfl) LFA_ ?_) | fail)
    refine VC.loop (fun k : Nat=>⟨[(5,.int .i64 (k : Nat)),(1,intsV B),(0,intsV A)],[],[],0⟩) (fun k=>k ≤ A.length∧∀ j,j < k→A.getD j 0 = B.getD j 0) (fun k=>A.length - k) 0 ⟨by omega,fun j hj=>absurd hj (Nat.not_lt_zero _)⟩ (Sim.less [] (by rfl) R_ R_) fun k hk=>?_
    obtain ⟨hk,hall⟩:=hk
    by_cases hkn : k < A.length
    · have hg1 : A.getD ((k : Nat) : Int).toNat 0 = A.getD k 0:=by rw [Int.toNat_natCast]
      have hg2 : B.getD ((k : Nat) : Int).toNat 0 = B.getD k 0:=by rw [Int.toNat_natCast]
      repeat' (first | (refine SS_ ?_) | (refine VC.drawm (id:=6) [(0,0),(1,0),(2,3),(3,7),(4,0),(5,0),(6,48),(7,112),(8,255)] [] (by rfl) (by kernel_rfl) (by rfl) ?_) | (refine VC.litT (by rfl) LTR_ ?_) | (refine DD_ ?_) | (refine VC.cond (by rfl) (fun hb=>?_) (fun hb=>?_) <;> (fail_if_success (with_reducible have:=litT_ hb)) <;> (fail_if_success (with_reducible have:=litF_ hb)) <;> (try simp only [HB_] at hb) <;> (try (exfalso;first | omega | (cases hb;done)))) | fail)
      · rw [decide_eq_false (fun e : A = B=>by subst e;omega)]
        (refine retC_mk ([(4,.bool false)]) ([]) 0 (Sim.less [] (by rfl) R_ R_) (retQ_ok (by rfl) ([]) (fun i av h=>h) ⟨?_,?_⟩)) <;> rfl
      · refine ⟨k + 1,⟨by omega,fun j hj=>?_⟩,by omega,by exact (Sim.less [] (by rfl) R_ R_)⟩
        rcases Nat.lt_or_ge j k with h | h
        · exact hall j h
        · obtain rfl : j = k:=by omega
          omega
    · repeat' (first | (refine SS_ ?_) | (refine VC.litF (by rfl) LFA_ ?_) | fail)
      have e : A = B:=List.ext_getElem hlen fun j h1 h2=>by
        have:=hall j (by omega)
        rw [List.getD_eq_getElem?_getD,List.getElem?_eq_getElem h1,List.getD_eq_getElem?_getD,List.getElem?_eq_getElem h2] at this
        exact this
      rw [decide_eq_true e]
      (refine retC_mk ([(4,.bool true)]) ([]) 0 (Sim.less [] (by rfl) R_ R_) (retQ_ok (by rfl) ([]) (fun i av h=>h) ⟨?_,?_⟩)) <;> rfl
  · have hne : A ≠ B:=fun e=>hlen (by rw [e])
    rw [decide_eq_false hne]
    refine Ok.of_vcC tt_ok Tryz.func38 rfl rfl (by show 2 ≤ _;decide) 0 (hlt_ok (by rfl)) fun c0=>?_
    repeat' (first | (refine SS_ ?_) | (refine VC.litT (by rfl) LTR_ ?_) | fail)
    (refine retC_mk ([(4,.bool false)]) ([]) 0 (Sim.less [] (by rfl) R_ R_) (retQ_ok (by rfl) ([]) (fun i av h=>h) ⟨?_,?_⟩)) <;> rfl
end Go.Proofs.YtmbldnahcmkpgaaGreatDoor
