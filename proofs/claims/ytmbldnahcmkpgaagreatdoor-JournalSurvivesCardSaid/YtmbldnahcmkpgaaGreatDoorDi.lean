/- The reference's disks: their methods. The reference's disks: Write, Wear, settle, Rot. -/
import Derived.Test.YtmbldnahcmkpgaaGreatDoorDg
set_option linter.unusedSimpArgs false
set_option linter.unusedVariables false
namespace Go.Dk
structure Sec where
  T : Bs
  X : Bs
  D : Bool
  W : Bool
def secZ : Sec:=⟨[],[],false,false⟩
def setl (x : Sec) (m : Nat) : Sec:=⟨if x.W = true then x.T else tear m x.X x.T,[],false,x.W⟩
def rmt (picks : List Int) : Nat→List Sec→List Sec × Nat
  | 0,S=>(S,0)
  | k + 1,S=>if ((rmt picks k S).1.getD k secZ).D = true then ((rmt picks k S).1.set k (setl ((rmt picks k S).1.getD k secZ) (upto (pickAt picks (rmt picks k S).2))),(rmt picks k S).2 + 1) else rmt picks k S
structure RGood (n : Nat) (S : List Sec) : Prop where
  len : S.length = n
  t64 : ∀ s ∈ S,s.T.length = 64
  x64 : ∀ s ∈ S,s.D = true→s.X.length = 64
end Go.Dk
namespace Go.Proofs.YtmbldnahcmkpgaaGreatDoor
open Go.V Go.RowKit Go.L Go.Dk
abbrev secA (s : Sec) : AV:=.pair (.str s.T) (.pair (.str s.X) (.pair (.bool s.D) (.pair (.bool s.W) .nul)))
abbrev secsA (n : Nat) (S : List Sec) : AV:=.arr n 4 (fun i=>secA (S.getD i secZ))
abbrev rdA (n a : Nat) (off : Bool) (left : Int) : AV:=.pair (.sl a [] 4 0 n) (.pair (.bool off) (.pair (.int .i64 left) .nul))
abbrev rH (n : Nat) (S : List Sec) (off : Bool) (left : Int) : Asc:=[(0,rdA n 1 off left),(1,secsA n S)]
variable {n : Nat} {S : List Sec} {off : Bool} {left : Int}
theorem is_ok (i : Int) : Ok Tryz.prog 44 [] (rH n S off left) (.pair (.ptr 0 []) (.pair (.int .i64 i) .nul)) (fun r h'=>r = .bool (!decide (bad n i))∧h' = rH n S off left):=by
  refine Ok.of_vcC tt_ok Tryz.func44 rfl rfl (by show 2 ≤ _;decide) 2 (hlt_ok (by rfl)) fun c0=>?_
  repeat' (first | (refine SS_ ?_) | (refine Seq.litC (by rfl) (by rfl) (fun hb=>?_) (fun hb=>?_) <;> (fail_if_success (with_reducible have:=litT_ hb)) <;> (fail_if_success (with_reducible have:=litF_ hb)) <;> (try simp only [HB_] at hb) <;> (try (exfalso;first | omega | (cases hb;done)))) | fail)
  · (refine retC_mk ([(4,.bool (decide (i < n)))]) (rH n S off left) 2 (Sim.less [] (by rfl) R_ R_) (retQ_ok (by rfl) (rH n S off left) (fun i av h=>h) ⟨?_,?_⟩)) <;> (first | rfl | (rw [← decide_not];exact congrArg AV.bool (decide_eq_decide.2 (by unfold bad;omega))))
  · (refine retC_mk ([(4,.bool false)]) (rH n S off left) 2 (Sim.less [] (by rfl) R_ R_) (retQ_ok (by rfl) (rH n S off left) (fun i av h=>h) ⟨?_,?_⟩)) <;> (first | rfl | (rw [decide_eq_true (by unfold bad;omega)];rfl))
theorem rstep_ok (hl : i64B left) : Ok Tryz.prog 45 [] (rH n S off left) (.pair (.ptr 0 []) .nul) (fun r h'=>r = .int .i64 (stpE left)∧h' = rH n S (stpO off left) (stpL left)):=by
  obtain ⟨hl1,hl2⟩:=hl
  unfold stpE stpO stpL
  refine Ok.of_vcC tt_ok Tryz.func45 rfl rfl (by show 1 ≤ _;decide) 2 (hlt_ok (by rfl)) fun c0=>?_
  repeat' (first | (refine SS_ ?_) | (refine VC.cond (by rfl) (fun hb=>?_) (fun hb=>?_) <;> (fail_if_success (with_reducible have:=litT_ hb)) <;> (fail_if_success (with_reducible have:=litF_ hb)) <;> (try simp only [HB_] at hb) <;> (try (exfalso;first | omega | (cases hb;done)))) | fail)
  · refine retC_mk ([(2,.int .i64 20)]) (rH n S true left) 2 ?_ (retQ_ok (by rfl) (rH n S true left) (fun i av h=>h) ⟨?_,?_⟩)
    · exact (Sim.less [] (by rfl) R_ R_)
    · rw [if_pos hb]
    · rw [if_pos hb,if_neg (by omega)]
  · refine retC_mk ([(2,.int .i64 0)]) (rH n S off (left - 1)) 2 ?_ (retQ_ok (by rfl) (rH n S off (left - 1)) (fun i av h=>h) ⟨?_,?_⟩)
    · exact (Sim.less [] (by rfl) R_ R_)
    · rw [if_neg (by omega)]
    · rw [if_neg (by omega),if_pos hb]
  · refine retC_mk ([(2,.int .i64 0)]) (rH n S off left) 2 ?_ (retQ_ok (by rfl) (rH n S off left) (fun i av h=>h) ⟨?_,?_⟩)
    · exact (Sim.less [] (by rfl) R_ R_)
    · rw [if_neg (by omega)]
    · rw [if_neg (by omega),if_neg hb]
theorem rlen_ok : Ok Tryz.prog 51 [] (rH n S off left) (.pair (.ptr 0 []) .nul) (fun r h'=>r = .int .i64 n∧h' = rH n S off left):=by
  refine Ok.of_vcC tt_ok Tryz.func51 rfl rfl (by show 1 ≤ _;decide) 2 (hlt_ok (by rfl)) fun c0=>?_
  repeat' (first | (refine SS_ ?_) | fail)
  refine retC_mk ([(2,.int .i64 n)]) (rH n S off left) 2 ?_ (retQ_ok (by rfl) (rH n S off left) (fun i av h=>h) ⟨?_,?_⟩)
  · exact (Sim.less [] (by rfl) R_ R_)
  · rfl
  · rfl
theorem rtrip_ok (m : Int) : Ok Tryz.prog 26 [] (rH n S off left) (.pair (.ptr 0 []) (.pair (.int .i64 m) .nul)) (fun r h'=>r = .tup .nul∧h' = rH n S off (max (-1) m)):=by
  refine Ok.of_vcC tt_ok Tryz.func26 rfl rfl (by show 2 ≤ _;decide) 2 (hlt_ok (by rfl)) fun c0=>?_
  repeat' (first | (refine SS_ ?_) | (refine Seq.val (max_ok (by rfl) (by rfl)) (by rfl) (by rfl) ?_) | fail)
  (refine retC_mk ([]) (rH n S off (max (-1) m)) 2 (Sim.less [] (by rfl) R_ R_) (retQ_ok (by rfl) (rH n S off (max (-1) m)) (fun i av h=>h) ⟨?_,?_⟩)) <;> (rfl)
def rrdS (n : Nat) (off : Bool) (S : List Sec) (i : Int) : Bs:=if chk n off i ≠ 0 then [] else if (S.getD i.toNat secZ).D = true then (S.getD i.toNat secZ).X else (S.getD i.toNat secZ).T
set_option maxRecDepth 10000 in
theorem rread_ok (i : Int) : Ok Tryz.prog 52 [] (rH n S off left) (.pair (.ptr 0 []) (.pair (.int .i64 i) .nul))
    (fun r h'=>r = .tup (.pair (.str (rrdS n off S i)) (.pair (.int .i64 (chk n off i)) .nul))∧h' = rH n S off left):=by
  have c1:=is_ok (n:=n) (S:=S) (off:=off) (left:=left) i
  unfold rrdS chk
  by_cases hbad : bad n i
  · rw [decide_eq_true hbad] at c1
    refine Ok.of_vcC tt_ok Tryz.func52 rfl rfl (by show 2 ≤ _;decide) 2 (hlt_ok (by rfl)) fun c0=>?_
    repeat' (first | (refine SS_ ?_) | (refine Seq.callo false [] [] (.bool (!true)) (rH n S off left) 2 (c1) Tryz.func44 GOk.nil subG.nil (by rfl) (by rfl) rfl rfl rfl rfl rfl (by rfl) rfl (by rfl) (by rfl) (by rfl) (by rfl) VW_ NI_ R_ (noFrL_ok NI_) BK_ ?_) | (refine VC.litT (by rfl) LTR_ ?_) | (refine VC.cond (by rfl) (fun hb=>?_) (fun hb=>?_) <;> (fail_if_success (with_reducible have:=litT_ hb)) <;> (fail_if_success (with_reducible have:=litF_ hb)) <;> (try simp only [HB_] at hb) <;> (try (exfalso;first | omega | (cases hb;done)))) | fail)
    · (refine retC_mk ([(5,.int .i64 20),(4,.str [])]) (rH n S off left) 2 (Sim.less [] (by rfl) R_ R_) (retQ_ok (by rfl) (rH n S off left) (fun i av h=>h) ⟨?_,?_⟩)) <;> (first | rfl | simp [hb])
    · (refine retC_mk ([(5,.int .i64 1),(4,.str [])]) (rH n S off left) 2 (Sim.less [] (by rfl) R_ R_) (retQ_ok (by rfl) (rH n S off left) (fun i av h=>h) ⟨?_,?_⟩)) <;> (first | rfl | simp [hb,hbad])
  · rw [decide_eq_false hbad] at c1
    have hbad2:=hbad
    unfold bad at hbad2
    refine Ok.of_vcC tt_ok Tryz.func52 rfl rfl (by show 2 ≤ _;decide) 2 (hlt_ok (by rfl)) fun c0=>?_
    repeat' (first | (refine SS_ ?_) | (refine Seq.callo false [] [] (.bool (!false)) (rH n S off left) 2 (c1) Tryz.func44 GOk.nil subG.nil (by rfl) (by rfl) rfl rfl rfl rfl rfl (by rfl) rfl (by rfl) (by rfl) (by rfl) (by rfl) VW_ NI_ R_ (noFrL_ok NI_) BK_ ?_) | (refine VC.litF (by rfl) LFA_ ?_) | (refine VC.cond (by rfl) (fun hb=>?_) (fun hb=>?_) <;> (fail_if_success (with_reducible have:=litT_ hb)) <;> (fail_if_success (with_reducible have:=litF_ hb)) <;> (try simp only [HB_] at hb) <;> (try (exfalso;first | omega | (cases hb;done)))) | fail)
    · (refine retC_mk ([(5,.int .i64 20),(4,.str [])]) (rH n S off left) 2 (Sim.less [] (by rfl) R_ R_) (retQ_ok (by rfl) (rH n S off left) (fun i av h=>h) ⟨?_,?_⟩)) <;> (first | rfl | simp [hb])
    · rename_i h1
      rw [Nat.zero_add] at hb
      have e0 : (if off = true then (20 : Int) else if bad n i then 1 else 0) = 0:=by simp [h1,hbad]
      rw [e0,if_neg (by simp),if_pos hb]
      (refine retC_mk ([(5,.int .i64 0),(4,.str (S.getD (0 + i.toNat) secZ).X)]) (rH n S off left) 2 (Sim.less [] (by rfl) R_ R_) (retQ_ok (by rfl) (rH n S off left) (fun i av h=>h) ⟨?_,?_⟩)) <;> first | rfl | rw [Nat.zero_add]
    · rename_i h1
      rw [Nat.zero_add] at hb
      have e0 : (if off = true then (20 : Int) else if bad n i then 1 else 0) = 0:=by simp [h1,hbad]
      rw [e0,if_neg (by simp),if_neg (by rw [hb];simp)]
      (refine retC_mk ([(5,.int .i64 0),(4,.str (S.getD (0 + i.toNat) secZ).T)]) (rH n S off left) 2 (Sim.less [] (by rfl) R_ R_) (retQ_ok (by rfl) (rH n S off left) (fun i av h=>h) ⟨?_,?_⟩)) <;> first | rfl | rw [Nat.zero_add]
end Go.Proofs.YtmbldnahcmkpgaaGreatDoor

namespace Go.Proofs.YtmbldnahcmkpgaaGreatDoor
open Go.V Go.RowKit Go.L Go.Dk
variable {n : Nat} {S : List Sec} {off : Bool} {left : Int}
theorem rel_sec {A : Nat→Prop} {σ : Nat→Nat} {s : Sec} : RelA A σ (secA s) (secA s):=NoId.self (a:=secA s) NI_
theorem rel_set {A : Nat→Prop} {σ : Nat→Nat} {a : Int} {s : Sec} {u : AV} {i : Nat} (ha : a.toNat < S.length) (hu : u = secA s) : RelA A σ (secA ((S.set a.toNat s).getD i secZ)) (bif Nat.beq i (0 + a.toNat) then u else secA (S.getD i secZ)):=by
  by_cases h : i = a.toNat
  · rw [bif_eq (show i = 0 + a.toNat by omega),h,getD_set ha,hu];exact rel_sec
  · rw [bif_ne (show i ≠ 0 + a.toNat by omega),getD_set_ne h];exact rel_sec
def wrS (S : List Sec) (i : Int) (s : Bs) : List Sec:=S.set i.toNat ⟨(S.getD i.toNat secZ).T,s,true,(S.getD i.toNat secZ).W⟩
set_option maxRecDepth 10000 in
set_option maxHeartbeats 1000000 in
theorem rwrite_ok (hS : S.length = n) (hl : i64B left) (a : Int) (s : Bs) : Ok Tryz.prog 10 [] (rH n S off left) (.pair (.ptr 0 []) (.pair (.int .i64 a) (.pair (.str s) .nul)))
    (fun r h'=>r = .int .i64 (wrE n off left a s)∧h' = rH n (if wrE n off left a s = 0 then wrS S a s else S) (if wrGo n off a s = true then stpO off left else off) (if wrGo n off a s = true then stpL left else left)):=by
  have c1:=is_ok (n:=n) (S:=S) (off:=off) (left:=left) a
  have c2:=rstep_ok (n:=n) (S:=S) (off:=off) hl
  unfold wrE wrGo chk
  generalize stpE left = e2 at *
  generalize stpO off left = off2 at *
  generalize stpL left = left2 at *
  cases off with
  | true =>
    refine Ok.of_vcC tt_ok Tryz.func10 rfl rfl (by show 3 ≤ _;decide) 2 (hlt_ok (by rfl)) fun c0=>?_
    repeat' (first | (refine SS_ ?_) | (refine VC.litT (by rfl) LTR_ ?_) | fail)
    (refine retC_mk ([(6,.int .i64 20)]) (rH n S true left) 2 (Sim.less [] (by rfl) R_ R_) (retQ_ok (by rfl) (rH n S true left) (fun i av h=>h) ⟨?_,?_⟩)) <;> rfl
  | false =>
  by_cases hbad : bad n a
  · rw [decide_eq_true hbad] at c1
    refine Ok.of_vcC tt_ok Tryz.func10 rfl rfl (by show 3 ≤ _;decide) 2 (hlt_ok (by rfl)) fun c0=>?_
    repeat' (first | (refine SS_ ?_) | (refine Seq.callo false [] [] (.bool (!true)) (rH n S false left) 2 (c1) Tryz.func44 GOk.nil subG.nil (by rfl) (by rfl) rfl rfl rfl rfl rfl (by rfl) rfl (by rfl) (by rfl) (by rfl) (by rfl) VW_ NI_ R_ (noFrL_ok NI_) BK_ ?_) | (refine VC.litT (by rfl) LTR_ ?_) | (refine VC.litF (by rfl) LFA_ ?_) | fail)
    (refine retC_mk ([(6,.int .i64 1)]) (rH n S false left) 2 (Sim.less [] (by rfl) R_ R_) (retQ_ok (by rfl) (rH n S false left) (fun i av h=>h) ⟨?_,?_⟩)) <;> simp [hbad]
  · rw [decide_eq_false hbad] at c1
    have hbad2:=hbad
    unfold bad at hbad2
    have hin : a.toNat < S.length:=by omega
    refine Ok.of_vcC tt_ok Tryz.func10 rfl rfl (by show 3 ≤ _;decide) 2 (hlt_ok (by rfl)) fun c0=>?_
    repeat' (first | (refine SS_ ?_) | (refine Seq.callo false [] [] (.bool (!false)) (rH n S false left) 2 (c1) Tryz.func44 GOk.nil subG.nil (by rfl) (by rfl) rfl rfl rfl rfl rfl (by rfl) rfl (by rfl) (by rfl) (by rfl) (by rfl) VW_ NI_ R_ (noFrL_ok NI_) BK_ ?_) | (refine Seq.callo false [] [] (.int .i64 e2) (rH n S off2 left2) 2 (c2) Tryz.func45 GOk.nil subG.nil (by rfl) (by rfl) rfl rfl rfl rfl rfl (by rfl) rfl (by rfl) (by rfl) (by rfl) (by rfl) VW_ NI_ R_ (noFrL_ok NI_) BK_ ?_) | (refine VC.litF (by rfl) LFA_ ?_) | (refine VC.cond (by rfl) (fun hb=>?_) (fun hb=>?_) <;> (fail_if_success (with_reducible have:=litT_ hb)) <;> (fail_if_success (with_reducible have:=litF_ hb)) <;> (try simp only [HB_] at hb) <;> (try (exfalso;first | omega | (cases hb;done)))) | fail)
    · have h1 : s.length ≠ 64:=by omega
      (refine retC_mk ([(6,.int .i64 1)]) (rH n S false left) 2 (Sim.less [] (by rfl) R_ R_) (retQ_ok (by rfl) (rH n S false left) (fun i av h=>h) ⟨?_,?_⟩)) <;> simp [hbad,h1]
    · rename_i h2
      have h1 : s.length = 64:=by omega
      (refine retC_mk ([(6,.int .i64 e2)]) (rH n S off2 left2) 2 (Sim.less [] (by rfl) R_ R_) (retQ_ok (by rfl) (rH n S off2 left2) (fun i av h=>h) ⟨?_,?_⟩)) <;> simp [hbad,h1,hb]
    · rename_i h2
      have h1 : s.length = 64:=by omega
      have h3 : e2 = 0:=by omega
      refine Seq.conv (s':=⟨[(40,.ptr 1 [.idx (0 + a.toNat) 4,.fld 2 2])],rH n (S.set a.toNat ⟨(S.getD a.toNat secZ).T,s,(S.getD a.toNat secZ).D,(S.getD a.toNat secZ).W⟩) off2 left2,[],2⟩) (by
        (refine Sim.less [] (by rfl) ?_ ?_ <;> (repeat' (first | (exact EnvLe.nil) | (exact HeapLe.nil) | (with_reducible apply EnvLe.cons) | (with_reducible apply HeapLe.cons) | ((with_reducible refine RelA.int ?_;first | (refine Keep.mk ?_;first | with_reducible rfl | omega | decide) | skip)) | (exact rfl) | (exact ⟨rfl,rfl⟩) | ((with_reducible refine RelA.arr ?_;intro i hi)) | (with_reducible refine RelA.pair ?_ ?_) | fail)) <;> (try with_reducible refine Keep.mk ?_))
        exact rel_set hin (by rw [Nat.zero_add];rfl)) ?_
      repeat' (first | (refine SS_ ?_) | fail)
      refine retC_mk ([(6,.int .i64 0)]) (rH n (wrS S a s) off2 left2) 2 ?_ (retQ_ok (by rfl) (rH n (wrS S a s) off2 left2) (fun i av h=>h) ⟨?_,?_⟩)
      · (refine Sim.less [] (by rfl) ?_ ?_ <;> (repeat' (first | (exact EnvLe.nil) | (exact HeapLe.nil) | (with_reducible apply EnvLe.cons) | (with_reducible apply HeapLe.cons) | ((with_reducible refine RelA.int ?_;first | (refine Keep.mk ?_;first | with_reducible rfl | omega | decide) | skip)) | (exact rfl) | (exact ⟨rfl,rfl⟩) | ((with_reducible refine RelA.arr ?_;intro i hi)) | (with_reducible refine RelA.pair ?_ ?_) | fail)) <;> (try with_reducible refine Keep.mk ?_))
        have e : wrS S a s = (S.set a.toNat ⟨(S.getD a.toNat secZ).T,s,(S.getD a.toNat secZ).D,(S.getD a.toNat secZ).W⟩).set a.toNat ⟨(S.getD a.toNat secZ).T,s,true,(S.getD a.toNat secZ).W⟩:=by rw [List.set_set];rfl
        rw [e]
        exact rel_set (by rw [List.length_set];exact hin) (by rw [Nat.zero_add];show setp (secA _) _ _ = _;rw [getD_set hin];rfl)
      · simp [hbad,h1,h3]
      · simp [hbad,h1,h3]
set_option maxRecDepth 10000 in
set_option maxHeartbeats 1000000 in
theorem rwear_ok (hS : S.length = n) (a : Int) : Ok Tryz.prog 31 [] (rH n S off left) (.pair (.ptr 0 []) (.pair (.int .i64 a) .nul))
    (fun r h'=>r = .int .i64 (if bad n a then 1 else 0)∧h' = rH n (if bad n a then S else S.set a.toNat ⟨(S.getD a.toNat secZ).T,(S.getD a.toNat secZ).X,(S.getD a.toNat secZ).D,true⟩) off left):=by
  have c1:=is_ok (n:=n) (S:=S) (off:=off) (left:=left) a
  by_cases hbad : bad n a
  · rw [decide_eq_true hbad] at c1
    rw [if_pos hbad,if_pos hbad]
    refine Ok.of_vcC tt_ok Tryz.func31 rfl rfl (by show 2 ≤ _;decide) 2 (hlt_ok (by rfl)) fun c0=>?_
    repeat' (first | (refine SS_ ?_) | (refine Seq.callo false [] [] (.bool (!true)) (rH n S off left) 2 (c1) Tryz.func44 GOk.nil subG.nil (by rfl) (by rfl) rfl rfl rfl rfl rfl (by rfl) rfl (by rfl) (by rfl) (by rfl) (by rfl) VW_ NI_ R_ (noFrL_ok NI_) BK_ ?_) | (refine VC.litT (by rfl) LTR_ ?_) | fail)
    (refine retC_mk ([(4,.int .i64 1)]) (rH n S off left) 2 (Sim.less [] (by rfl) R_ R_) (retQ_ok (by rfl) (rH n S off left) (fun i av h=>h) ⟨?_,?_⟩)) <;> rfl
  · rw [decide_eq_false hbad] at c1
    rw [if_neg hbad,if_neg hbad]
    unfold bad at hbad
    have hin : a.toNat < S.length:=by omega
    refine Ok.of_vcC tt_ok Tryz.func31 rfl rfl (by show 2 ≤ _;decide) 2 (hlt_ok (by rfl)) fun c0=>?_
    repeat' (first | (refine SS_ ?_) | (refine Seq.callo false [] [] (.bool (!false)) (rH n S off left) 2 (c1) Tryz.func44 GOk.nil subG.nil (by rfl) (by rfl) rfl rfl rfl rfl rfl (by rfl) rfl (by rfl) (by rfl) (by rfl) (by rfl) VW_ NI_ R_ (noFrL_ok NI_) BK_ ?_) | (refine VC.litF (by rfl) LFA_ ?_) | fail)
    refine retC_mk ([(4,.int .i64 0)]) (rH n (S.set a.toNat ⟨(S.getD a.toNat secZ).T,(S.getD a.toNat secZ).X,(S.getD a.toNat secZ).D,true⟩) off left) 2 ?_ (retQ_ok (by rfl) (rH n (S.set a.toNat ⟨(S.getD a.toNat secZ).T,(S.getD a.toNat secZ).X,(S.getD a.toNat secZ).D,true⟩) off left) (fun i av h=>h) ⟨?_,?_⟩)
    · (refine Sim.less [] (by rfl) ?_ ?_ <;> (repeat' (first | (exact EnvLe.nil) | (exact HeapLe.nil) | (with_reducible apply EnvLe.cons) | (with_reducible apply HeapLe.cons) | ((with_reducible refine RelA.int ?_;first | (refine Keep.mk ?_;first | with_reducible rfl | omega | decide) | skip)) | (exact rfl) | (exact ⟨rfl,rfl⟩) | ((with_reducible refine RelA.arr ?_;intro i hi)) | (with_reducible refine RelA.pair ?_ ?_) | fail)) <;> (try with_reducible refine Keep.mk ?_))
      exact rel_set hin (by rw [Nat.zero_add];rfl)
    · rfl
    · rfl
set_option maxRecDepth 10000 in
set_option maxHeartbeats 1000000 in
theorem rsettle_ok (a p : Int) (h0 : 0 ≤ a) (h1 : a < n) (hS : S.length = n) (ht : (S.getD a.toNat secZ).T.length = 64) (hx : (S.getD a.toNat secZ).X.length = 64) : Ok Tryz.prog 65 [] (rH n S off left) (.pair (.ptr 0 []) (.pair (.int .i64 a) (.pair (.int .i64 p) .nul)))
    (fun r h'=>r = .tup .nul∧h' = rH n (S.set a.toNat (setl (S.getD a.toNat secZ) (upto p))) off left):=by
  have hin : a.toNat < S.length:=by omega
  have ht' : (S.getD (0 + a.toNat) secZ).T.length = 64:=by rw [Nat.zero_add];exact ht
  have hx' : (S.getD (0 + a.toNat) secZ).X.length = 64:=by rw [Nat.zero_add];exact hx
  have hcat : (List.drop 0 (List.take (max 0 (min p 64)).toNat (S.getD (0 + a.toNat) secZ).X)).length + (List.drop (max 0 (min p 64)).toNat (List.take (List.length (S.getD (0 + a.toNat) secZ).T) (S.getD (0 + a.toNat) secZ).T)).length ≤ 9223372036854775807:=by
    simp only [List.length_drop,List.length_take];omega
  have htear : List.drop 0 (List.take (max 0 (min p 64)).toNat (S.getD (0 + a.toNat) secZ).X) ++ List.drop (max 0 (min p 64)).toNat (List.take (List.length (S.getD (0 + a.toNat) secZ).T) (S.getD (0 + a.toNat) secZ).T) = tear (upto p) (S.getD a.toNat secZ).X (S.getD a.toNat secZ).T:=by
    rw [Nat.zero_add,List.drop_zero,List.take_length];rfl
  refine Ok.of_vcC tt_ok Tryz.func65 rfl rfl (by show 3 ≤ _;decide) 2 (hlt_ok (by rfl)) fun c0=>?_
  repeat' (first | (refine SS_ ?_) | (refine Seq.val (max_ok (by rfl) (by rfl)) (by rfl) (by rfl) ?_) | (refine Seq.val (min_ok (by rfl) (by rfl)) (by rfl) (by rfl) ?_) | (refine VC.drawm (id:=3) [(0,0),(1,1),(2,0),(3,7),(4,0),(5,16),(6,0),(7,112),(8,255),(9,511)] [10] (by rfl) (by kernel_rfl) (by rfl) ?_) | (refine VC.drawm (id:=6) [(0,0),(1,1),(2,3),(3,7),(4,0),(5,0),(6,63)] [7] (by rfl) (by kernel_rfl) (by rfl) ?_) | (refine DD_ ?_) | (refine VC.cond (by rfl) (fun hb=>?_) (fun hb=>?_) <;> (fail_if_success (with_reducible have:=litT_ hb)) <;> (fail_if_success (with_reducible have:=litF_ hb)) <;> (try simp only [HB_] at hb) <;> (try (exfalso;first | omega | (cases hb;done)))) | fail)
  · have hst : setl (S.getD a.toNat secZ) (upto p) = ⟨tear (upto p) (S.getD a.toNat secZ).X (S.getD a.toNat secZ).T,[],false,(S.getD a.toNat secZ).W⟩:=by
      unfold setl
      rw [Nat.zero_add] at hb
      rw [if_neg (by rw [hb];simp)]
    refine retC_mk ([]) (rH n (S.set a.toNat (setl (S.getD a.toNat secZ) (upto p))) off left) 3 ?_ (retQ_ok (by rfl) (rH n (S.set a.toNat (setl (S.getD a.toNat secZ) (upto p))) off left) (fun i av h=>h) ⟨?_,?_⟩)
    · (refine Sim.less [] (by rfl) ?_ ?_ <;> (repeat' (first | (exact EnvLe.nil) | (exact HeapLe.nil) | (with_reducible apply HeapLe.cons) | ((with_reducible refine RelA.int ?_;first | (refine Keep.mk ?_;first | with_reducible rfl | omega | decide) | skip)) | (exact rfl) | (exact ⟨rfl,rfl⟩) | ((with_reducible refine RelA.arr ?_;intro i hi)) | (with_reducible refine RelA.pair ?_ ?_) | fail)) <;> (try with_reducible refine Keep.mk ?_))
      refine rel_set hin ?_
      rw [hst,← htear,Nat.zero_add]
      rfl
    · rfl
    · rfl
  · have hst : setl (S.getD a.toNat secZ) (upto p) = ⟨(S.getD a.toNat secZ).T,[],false,(S.getD a.toNat secZ).W⟩:=by
      unfold setl
      rw [Nat.zero_add] at hb
      rw [if_pos (by simpa using hb)]
    refine retC_mk ([]) (rH n (S.set a.toNat (setl (S.getD a.toNat secZ) (upto p))) off left) 3 ?_ (retQ_ok (by rfl) (rH n (S.set a.toNat (setl (S.getD a.toNat secZ) (upto p))) off left) (fun i av h=>h) ⟨?_,?_⟩)
    · (refine Sim.less [] (by rfl) ?_ ?_ <;> (repeat' (first | (exact EnvLe.nil) | (exact HeapLe.nil) | (with_reducible apply HeapLe.cons) | ((with_reducible refine RelA.int ?_;first | (refine Keep.mk ?_;first | with_reducible rfl | omega | decide) | skip)) | (exact rfl) | (exact ⟨rfl,rfl⟩) | ((with_reducible refine RelA.arr ?_;intro i hi)) | (with_reducible refine RelA.pair ?_ ?_) | fail)) <;> (try with_reducible refine Keep.mk ?_))
      refine rel_set hin ?_
      rw [hst,Nat.zero_add]
      rfl
    · rfl
    · rfl
end Go.Proofs.YtmbldnahcmkpgaaGreatDoor
