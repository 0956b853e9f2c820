/- Journals: Append. -/
import Derived.Test.YtmbldnahcmkpgaaGreatDoorAm
set_option linter.unusedSimpArgs false
set_option linter.unusedVariables false
namespace Go.Proofs.YtmbldnahcmkpgaaGreatDoor
open Go.V Go.RowKit Go.L Go.Lx Go.Jn Go.Dk
set_option maxRecDepth 10000
set_option maxHeartbeats 4000000
abbrev jHn (n : Nat) (D : Disk) (J : Jr) : Asc:=jL 8 9 n D (nums J) J.bad (texts J) J.next J.stop J.shut
def jWr (J : Jr) (t : Bs) (sh : Bool) : Jr:=⟨J.R,J.bad,J.next + 1,J.stop + cnt t.length,sh⟩
def jAdd (J : Jr) (t : Bs) : Jr:=⟨J.R ++ [(J.next,t)],J.bad,J.next + 1,J.stop + cnt t.length,false⟩
def app (n : Nat) (D : Disk) (J : Jr) (t : Bs) : (Disk × Jr) × (Int × Int) :=
  if J.shut = true then ((D,J),(0,20))
  else if 8000 < t.length ∨ 4096 < J.next then ((D,J),(0,4))
  else if (n : Int) - J.stop < cnt t.length then ((D,J),(0,19))
  else if (wfr n D J.stop (parts J.next.toNat t)).2.1 ≠ 0 then (((wfr n D J.stop (parts J.next.toNat t)).1,jWr J t true),(0,(wfr n D J.stop (parts J.next.toNat t)).2.1))
  else if (wfr n D J.stop (parts J.next.toNat t)).2.2 = false then (((wfr n D J.stop (parts J.next.toNat t)).1,jWr J t false),(0,21))
  else (((wfr n D J.stop (parts J.next.toNat t)).1,jAdd J t),(J.next,0))
structure JOk (n : Nat) (J : Jr) : Prop where
  n1 : 1 ≤ J.next
  n2 : J.next ≤ 4097
  stop : J.stop ≤ n
  len : J.R.length ≤ 1048576
  bad : J.bad.length ≤ 1048576
theorem pack_ok (n : Nat) (t : Bs) (h0 : 1 ≤ n) (h1 : n ≤ 4096) (ht : t.length ≤ 8000) : Ok Tryz.prog 36 gK [] (.pair (.int .i64 (n : Nat)) (.pair (.str t) .nul)) (fun r h'=>r = .tup (.pair (txT (parts n t)) (.pair (.int .i64 0) .nul))∧h' = []):=by
  refine Ok.still (pack_own n t h0 h1 ht) ?_
  rintro r h' ⟨rfl,rfl⟩
  refine ⟨_,ViewT.tup (ViewT.pair (ViewT.sl (by rfl) rfl trivial (by omega) rfl fun i hi=>.rel (by rw [Nat.zero_add];exact NoId.self NI_)) (.rel (NoId.self NI_))),rfl,rfl⟩
variable {n : Nat} {D : Disk} {N B : List Int} {T : List Bs} {stop : Nat}
theorem app_shut (next : Int) (t : Bs) : Ok Tryz.prog 19 gK (jL 5 7 n D N B T next stop true) (.pair (.ptr 4 []) (.pair (.str t) .nul))
    (fun r h'=>r = .tup (.pair (.int .i64 0) (.pair (.int .i64 20) .nul))∧h' = jL 8 9 n D N B T next stop true):=by
  refine Ok.of_vcC tt_ok Tryz.func19 rfl rfl (by show 2 ≤ _;decide) 8 (hlt_ok (by rfl)) fun c0=>?_
  repeat' (first | (refine SS_ ?_) | (refine VC.litT (by rfl) LTR_ ?_) | fail)
  refine retC_conv' (s':=⟨[(4,.int .i64 0),(5,.int .i64 20)],jL 8 9 n D N B T next stop true,gK,10⟩) (Sim.less [(8,5),(9,7)] (by rfl) R_ R_) ?_
  (refine retC_mk ([(4,.int .i64 0),(5,.int .i64 20)]) (jL 8 9 n D N B T next stop true) 10 (Sim.less [] (by rfl) R_ R_) (retQ_ok (by rfl) (jL 8 9 n D N B T next stop true) (fun i av h=>h) ⟨?_,?_⟩)) <;> rfl
theorem app_limit (next : Int) (t : Bs) (ht : t.length ≤ 9223372036854775807) (h : 8000 < t.length ∨ 4096 < next) : Ok Tryz.prog 19 gK (jL 5 7 n D N B T next stop false) (.pair (.ptr 4 []) (.pair (.str t) .nul))
    (fun r h'=>r = .tup (.pair (.int .i64 0) (.pair (.int .i64 4) .nul))∧h' = jL 8 9 n D N B T next stop false):=by
  refine Ok.of_vcC tt_ok Tryz.func19 rfl rfl (by show 2 ≤ _;decide) 8 (hlt_ok (by rfl)) fun c0=>?_
  repeat' (first | (refine SS_ ?_) | (refine VC.litT (by rfl) LTR_ ?_) | (refine VC.litF (by rfl) LFA_ ?_) | (refine Seq.litC (by rfl) (by rfl) (fun hb=>?_) (fun hb=>?_) <;> (fail_if_success (with_reducible have:=litT_ hb)) <;> (fail_if_success (with_reducible have:=litF_ hb)) <;> (try simp only [HB_] at hb) <;> (try (exfalso;first | omega | (cases hb;done)))) | fail)
  all_goals
    refine retC_conv' (s':=⟨[(4,.int .i64 0),(5,.int .i64 4)],jL 8 9 n D N B T next stop false,gK,10⟩) (Sim.less [(8,5),(9,7)] (by rfl) R_ R_) ?_
    (refine retC_mk ([(4,.int .i64 0),(5,.int .i64 4)]) (jL 8 9 n D N B T next stop false) 10 (Sim.less [] (by rfl) R_ R_) (retQ_ok (by rfl) (jL 8 9 n D N B T next stop false) (fun i av h=>h) ⟨?_,?_⟩)) <;> rfl
theorem app_full (next : Int) (t : Bs) (hn : n ≤ 4096) (hs : stop ≤ n) (ht : t.length ≤ 8000) (hx : next ≤ 4096) (h : (n : Int) - stop < cnt t.length) : Ok Tryz.prog 19 gK (jL 5 7 n D N B T next stop false) (.pair (.ptr 4 []) (.pair (.str t) .nul))
    (fun r h'=>r = .tup (.pair (.int .i64 0) (.pair (.int .i64 19) .nul))∧h' = jL 8 9 n D N B T next stop false):=by
  have cc:=count_ok (t.length : Nat) ⟨by omega,by omega⟩
  have cr:=jroomL_ok (n:=n) (D:=D) (N:=N) (B:=B) (T:=T) (next:=next) (stop:=stop) (shut:=false) hs hn
  refine Ok.of_vcC tt_ok Tryz.func19 rfl rfl (by show 2 ≤ _;decide) 8 (hlt_ok (by rfl)) fun c0=>?_
  repeat' (first | (refine SS_ ?_) | (refine Seq.callp false (cc) Tryz.func41 gK_ok subG.nil (by rfl) (by rfl) rfl rfl rfl rfl rfl (by rfl) rfl VW_ NI_ NI_ FR_ ?_) | (refine Seq.callo false [] [] (.int .i64 ((n : Int) - stop)) (jL 5 7 n D N B T next stop false) 8 (cr) Tryz.func34 gK_ok subG.nil (by rfl) (by rfl) rfl rfl rfl rfl rfl (by rfl) rfl (by rfl) (by rfl) (by rfl) (by rfl) VW_ NI_ R_ (noFrL_ok NI_) BK_ ?_) | (refine Seq.lit (by rfl) (by rfl) LT2_ ?_) | (refine VC.litT (by rfl) LTR_ ?_) | (refine VC.litF (by rfl) LFA_ ?_) | fail)
  refine retC_conv' (s':=⟨[(4,.int .i64 0),(5,.int .i64 19)],jL 8 9 n D N B T next stop false,gK,10⟩) (Sim.less [(8,5),(9,7)] (by rfl) R_ R_) ?_
  (refine retC_mk ([(4,.int .i64 0),(5,.int .i64 19)]) (jL 8 9 n D N B T next stop false) 10 (Sim.less [] (by rfl) R_ R_) (retQ_ok (by rfl) (jL 8 9 n D N B T next stop false) (fun i av h=>h) ⟨?_,?_⟩)) <;> rfl
theorem app_go (hG : GoodD n D) (m : Nat) (t : Bs) (hm1 : 1 ≤ m) (hm2 : m ≤ 4096) (hs : stop + cnt t.length ≤ n) (ht : t.length ≤ 8000) (hNl : N.length ≤ 1048576) (hTl : T.length ≤ 1048576) {D' : Disk} {e : Int} {b : Bool} (hw : wfr n D stop (parts m t) = (D',(e,b))) (hb0 : e ≠ 0→b = false) : Ok Tryz.prog 19 gK (jL 5 7 n D N B T (m : Nat) stop false) (.pair (.ptr 4 []) (.pair (.str t) .nul))
    (fun r h'=>r = .tup (.pair (.int .i64 (if b = true then (m : Int) else 0)) (.pair (.int .i64 (if e ≠ 0 then e else if b = true then 0 else 21)) .nul))∧h' = jL 8 9 n D' (if b = true then N ++ [(m : Int)] else N) B (if b = true then T ++ [t] else T) ((m : Int) + 1) (stop + cnt t.length) (decide (e ≠ 0))):=by
  have hn:=hG.n1
  have hpl:=parts_len m t
  have cc:=count_ok (t.length : Nat) ⟨by omega,by omega⟩
  have cr:=jroomL_ok (n:=n) (D:=D) (N:=N) (B:=B) (T:=T) (next:=(m : Nat)) (stop:=stop) (shut:=false) (by omega) hn
  have cp:=pack_ok m t hm1 hm2 ht
  have cw:=jwrite_ok (N:=N) (B:=B) (T:=T) (next:=((m : Int) + 1)) (stop:=stop + cnt t.length) (shut:=false) hG (a:=stop) (l:=parts m t) (by omega) parts_64
  rw [hw] at cw
  change Ok _ _ _ _ _ (fun r h'=>r = .tup (.pair (.int .i64 e) (.pair (.bool b) .nul))∧h' = jL 5 7 n D' N B T ((m : Int) + 1) (stop + cnt t.length) false) at cw
  generalize parts m t = L at *
  have hst : ((stop + cnt t.length : Nat) : Int) = (stop : Int) + ((L.length : Nat) : Int):=by omega
  by_cases he : e ≠ 0
  · have hb:=hb0 he
    subst hb
    rw [if_neg (by decide),if_pos he,if_neg (by decide),if_neg (by decide),decide_eq_true he]
    refine Ok.of_vcC tt_ok Tryz.func19 rfl rfl (by show 2 ≤ _;decide) 8 (hlt_ok (by rfl)) fun c0=>?_
    repeat' (first | (refine SS_ ?_) | (refine Seq.callp false (cc) Tryz.func41 gK_ok subG.nil (by rfl) (by rfl) rfl rfl rfl rfl rfl (by rfl) rfl VW_ NI_ NI_ FR_ ?_) | (refine Seq.callo false [] [] (.int .i64 ((n : Int) - stop)) (jL 5 7 n D N B T (m : Nat) stop false) 8 (cr) Tryz.func34 gK_ok subG.nil (by rfl) (by rfl) rfl rfl rfl rfl rfl (by rfl) rfl (by rfl) (by rfl) (by rfl) (by rfl) VW_ NI_ R_ (noFrL_ok NI_) BK_ ?_) | (refine VC.drawm (id:=7) [(0,0),(1,1),(2,3),(3,7),(4,0),(5,16),(6,48),(7,112),(8,15)] [9] (by rfl) (by kernel_rfl) (by rfl) ?_) | (refine Seq.callp false (cp) Tryz.func36 gK_ok subG.refl (by rfl) (by rfl) rfl rfl rfl rfl rfl (by rfl) rfl VW_ NI_ NI_ FR_ ?_) | (refine Seq.callo false [] [] (.tup (.pair (.int .i64 e) (.pair (.bool false) .nul))) (jL 5 7 n D' N B T ((m : Int) + 1) (stop + cnt t.length) false) 8 (cw) Tryz.func60 gK_ok subG.nil (by rfl) (by rfl) rfl rfl rfl rfl rfl (by rfl) rfl (by rfl) (by rfl) (by rfl) (by rfl) VW_ NI_ R_ (noFrL_ok NI_) BK_ ?_) | (refine Seq.lit (by rfl) (by rfl) LT2_ ?_) | (refine VC.litT (by rfl) LTR_ ?_) | (refine VC.litF (by rfl) LFA_ ?_) | (refine DD_ ?_) | fail)
    refine retC_conv' (s':=⟨[(4,.int .i64 0),(5,.int .i64 e)],jL 8 9 n D' N B T ((m : Int) + 1) (stop + cnt t.length) true,gK,10⟩) (Sim.less [(8,5),(9,7)] (by rfl) R_ R_) ?_
    (refine retC_mk ([(4,.int .i64 0),(5,.int .i64 e)]) (jL 8 9 n D' N B T ((m : Int) + 1) (stop + cnt t.length) true) 10 (Sim.less [] (by rfl) R_ R_) (retQ_ok (by rfl) (jL 8 9 n D' N B T ((m : Int) + 1) (stop + cnt t.length) true) (fun i av h=>h) ⟨?_,?_⟩)) <;> rfl
  · have he : e = 0:=by omega
    subst he
    rw [if_neg (show ¬ ((0 : Int) ≠ 0) by decide),decide_eq_false (show ¬ ((0 : Int) ≠ 0) by decide)]
    cases b with
    | false =>
      rw [if_neg (by decide),if_neg (by decide),if_neg (by decide),if_neg (by decide)]
      refine Ok.of_vcC tt_ok Tryz.func19 rfl rfl (by show 2 ≤ _;decide) 8 (hlt_ok (by rfl)) fun c0=>?_
      repeat' (first | (refine SS_ ?_) | (refine Seq.callp false (cc) Tryz.func41 gK_ok subG.nil (by rfl) (by rfl) rfl rfl rfl rfl rfl (by rfl) rfl VW_ NI_ NI_ FR_ ?_) | (refine Seq.callo false [] [] (.int .i64 ((n : Int) - stop)) (jL 5 7 n D N B T (m : Nat) stop false) 8 (cr) Tryz.func34 gK_ok subG.nil (by rfl) (by rfl) rfl rfl rfl rfl rfl (by rfl) rfl (by rfl) (by rfl) (by rfl) (by rfl) VW_ NI_ R_ (noFrL_ok NI_) BK_ ?_) | (refine VC.drawm (id:=7) [(0,0),(1,1),(2,3),(3,7),(4,0),(5,16),(6,48),(7,112),(8,15)] [9] (by rfl) (by kernel_rfl) (by rfl) ?_) | (refine Seq.callp false (cp) Tryz.func36 gK_ok subG.refl (by rfl) (by rfl) rfl rfl rfl rfl rfl (by rfl) rfl VW_ NI_ NI_ FR_ ?_) | (refine Seq.callo false [] [] (.tup (.pair (.int .i64 0) (.pair (.bool false) .nul))) (jL 5 7 n D' N B T ((m : Int) + 1) (stop + cnt t.length) false) 8 (cw) Tryz.func60 gK_ok subG.nil (by rfl) (by rfl) rfl rfl rfl rfl rfl (by rfl) rfl (by rfl) (by rfl) (by rfl) (by rfl) VW_ NI_ R_ (noFrL_ok NI_) BK_ ?_) | (refine Seq.lit (by rfl) (by rfl) LT2_ ?_) | (refine VC.litT (by rfl) LTR_ ?_) | (refine VC.litF (by rfl) LFA_ ?_) | (refine DD_ ?_) | fail)
      refine retC_conv' (s':=⟨[(4,.int .i64 0),(5,.int .i64 21)],jL 8 9 n D' N B T ((m : Int) + 1) (stop + cnt t.length) false,gK,10⟩) (Sim.less [(8,5),(9,7)] (by rfl) R_ R_) ?_
      (refine retC_mk ([(4,.int .i64 0),(5,.int .i64 21)]) (jL 8 9 n D' N B T ((m : Int) + 1) (stop + cnt t.length) false) 10 (Sim.less [] (by rfl) R_ R_) (retQ_ok (by rfl) (jL 8 9 n D' N B T ((m : Int) + 1) (stop + cnt t.length) false) (fun i av h=>h) ⟨?_,?_⟩)) <;> rfl
    | true =>
      rw [if_pos rfl,if_pos rfl,if_pos rfl,if_pos rfl]
      refine Ok.of_vcC tt_ok Tryz.func19 rfl rfl (by show 2 ≤ _;decide) 8 (hlt_ok (by rfl)) fun c0=>?_
      repeat' (first | (refine SS_ ?_) | (refine Seq.callp false (cc) Tryz.func41 gK_ok subG.nil (by rfl) (by rfl) rfl rfl rfl rfl rfl (by rfl) rfl VW_ NI_ NI_ FR_ ?_) | (refine Seq.callo false [] [] (.int .i64 ((n : Int) - stop)) (jL 5 7 n D N B T (m : Nat) stop false) 8 (cr) Tryz.func34 gK_ok subG.nil (by rfl) (by rfl) rfl rfl rfl rfl rfl (by rfl) rfl (by rfl) (by rfl) (by rfl) (by rfl) VW_ NI_ R_ (noFrL_ok NI_) BK_ ?_) | (refine VC.drawm (id:=7) [(0,0),(1,1),(2,3),(3,7),(4,0),(5,16),(6,48),(7,112),(8,15)] [9] (by rfl) (by kernel_rfl) (by rfl) ?_) | (refine Seq.callp false (cp) Tryz.func36 gK_ok subG.refl (by rfl) (by rfl) rfl rfl rfl rfl rfl (by rfl) rfl VW_ NI_ NI_ FR_ ?_) | (refine Seq.callo false [] [] (.tup (.pair (.int .i64 0) (.pair (.bool true) .nul))) (jL 5 7 n D' N B T ((m : Int) + 1) (stop + cnt t.length) false) 8 (cw) Tryz.func60 gK_ok subG.nil (by rfl) (by rfl) rfl rfl rfl rfl rfl (by rfl) rfl (by rfl) (by rfl) (by rfl) (by rfl) VW_ NI_ R_ (noFrL_ok NI_) BK_ ?_) | (refine VC.drawLM2 (id:=16) [(0,0),(1,0),(2,0),(3,4),(4,12),(5,28),(6,0),(7,64),(8,252)] [(9,0),(10,512),(11,1536),(12,3584),(13,0),(14,8192),(15,32764),(16,65533),(17,131069)] [1] 18 [19,20,21] [5] [7] (by rfl) (by kernel_rfl) (by rfl) (by rfl) (by rfl) (by rfl) (by rfl) (by rfl) (by rfl) ?_) | (refine DSeq.eata true tt_ok (by rfl) (fastE (by rfl)) (fastH (by rfl)) (fastH (by rfl)) (by rfl) (by (first | exact trivial | exact u8_in _ rfl | exact u32_in _ rfl | ((with_reducible refine AllP.guard ?_);simp only [AllP,inI,fitV,maxK,inK,inbL,inb,List.append,List.cons_append,List.nil_append,true_and,and_true];first | done | omega))) (by rfl) rfl (by rfl) ?_) | (refine DSeq.nil ⟨rfl,by rfl,late_end true tt_ok (by rfl) (by rfl) (by rfl) (by (first | exact trivial | exact u8_in _ rfl | exact u32_in _ rfl | ((with_reducible refine AllP.guard ?_);simp only [AllP,inI,fitV,maxK,inK,inbL,inb,List.append,List.cons_append,List.nil_append,true_and,and_true];first | done | omega))) (by rfl) (by repeat (first | exact trivial | refine ⟨trivial,?_⟩ | refine ⟨late_extract (by rfl) (by rfl) (by rfl) (by rfl),?_⟩ | refine ⟨late_move (by rfl) (by rfl) (by rfl),?_⟩)) (by rfl) ?_⟩) | (refine DSeq.nil ⟨rfl,?_⟩) | (refine Seq.lit (by rfl) (by rfl) LT2_ ?_) | (refine VC.litF (by rfl) LFA_ ?_) | (refine DD_ ?_) | fail)
      refine retC_conv' (s':=⟨[(4,.int .i64 (m : Nat)),(5,.int .i64 0)],jL 8 9 n D' (N ++ [(m : Int)]) B (T ++ [t]) ((m : Int) + 1) (stop + cnt t.length) false,gK,12⟩) (by
        unfold jL jrA liO txO
        rw [List.length_append,List.length_append,List.length_singleton,List.length_singleton]
        (refine Sim.less [(8,9),(9,11)] (by rfl) ?_ ?_ <;> (repeat' (first | (exact EnvLe.nil) | (exact HeapLe.nil) | (with_reducible apply EnvLe.cons) | (with_reducible apply HeapLe.cons) | ((with_reducible refine RelA.int ?_;first | (refine Keep.mk ?_;first | with_reducible rfl | omega | decide) | skip)) | (exact rfl) | (exact ⟨rfl,rfl⟩) | ((with_reducible refine RelA.arr ?_;intro i hi)) | (with_reducible refine RelA.pair ?_ ?_) | ((refine RelA.arr ?_;intro i hi)) | (exact NoId.self (by first | ((repeat' (first | exact trivial | exact rfl | refine NoFr.bif ?_ ?_ | refine NoId.bif ?_ ?_ | refine AllFr.bif ?_ ?_ | (intro i hi) | (refine ⟨?_,?_⟩) | (intro e;cases e;done)));done) | fail)) | fail)) <;> (try with_reducible refine Keep.mk ?_))
        · exact rel_snocG (G:=AV.int .i64) (fun e=>NI_) (by assumption)
        · exact rel_snocG (G:=AV.str) (fun e=>NI_) (by assumption)) ?_
      (refine retC_mk ([(4,.int .i64 (m : Nat)),(5,.int .i64 0)]) (jL 8 9 n D' (N ++ [(m : Int)]) B (T ++ [t]) ((m : Int) + 1) (stop + cnt t.length) false) 12 (Sim.less [] (by rfl) R_ R_) (retQ_ok (by rfl) (jL 8 9 n D' (N ++ [(m : Int)]) B (T ++ [t]) ((m : Int) + 1) (stop + cnt t.length) false) (fun i av h=>h) ⟨?_,?_⟩)) <;> rfl
end Go.Proofs.YtmbldnahcmkpgaaGreatDoor
