/- Journals: write. -/
import Derived.Test.YtmbldnahcmkpgaaDoorAl
set_option linter.unusedSimpArgs false
set_option linter.unusedVariables false
namespace Go.Proofs.YtmbldnahcmkpgaaDoor
open Go.V Go.RowKit Go.L Go.Lx Go.Jn Go.Dk
set_option maxRecDepth 10000
set_option maxHeartbeats 4000000
def opW (i : Int) (s : Bs) : DOp := ⟨1, i, 0, s, []⟩
def opF : DOp := ⟨3, 0, 0, [], []⟩
def wr1 (n : Nat) (D : Disk) (i : Int) (s : Bs) : Disk := doD n D (opW i s)
def wr1E (n : Nat) (D : Disk) (i : Int) (s : Bs) : Int := doE n D (opW i s)
/-- The first k sectors written: the disk, and the first error. -/
def wrK (n : Nat) (D : Disk) (a : Nat) (l : List Bs) : Nat → Disk × Int
  | 0 => (D, 0)
  | k + 1 => if (wrK n D a l k).2 = 0 then (wr1 n (wrK n D a l k).1 ((a + k : Nat) : Int) (l.getD k []), wr1E n (wrK n D a l k).1 ((a + k : Nat) : Int) (l.getD k [])) else wrK n D a l k
def sameK (n : Nat) (D : Disk) (a : Nat) (l : List Bs) : Nat → Bool
  | 0 => true
  | k + 1 => sameK n D a l k && decide (l.getD k [] = rdS n D.off D.B D.P ((a + k : Nat) : Int))
/-- Sectors are written, made durable and read again. -/
def wfr (n : Nat) (D : Disk) (a : Nat) (l : List Bs) : Disk × (Int × Bool) :=
  if (wrK n D a l l.length).2 ≠ 0 then ((wrK n D a l l.length).1, ((wrK n D a l l.length).2, false))
  else if doE n (wrK n D a l l.length).1 opF ≠ 0 then (doD n (wrK n D a l l.length).1 opF, (doE n (wrK n D a l l.length).1 opF, false))
  else (doD n (wrK n D a l l.length).1 opF, (0, sameK n (doD n (wrK n D a l l.length).1 opF) a l l.length))
theorem wrK_stop {n : Nat} {D : Disk} {a : Nat} {l : List Bs} {j : Nat} (h : (wrK n D a l j).2 ≠ 0) : ∀ m, wrK n D a l (j + m) = wrK n D a l j
  | 0 => rfl
  | m + 1 => by
    have ih := wrK_stop h m
    rw [← Nat.add_assoc, wrK, ih, if_neg h]
theorem opW_ok {i : Int} {s : Bs} (hi : i64B i) (hs : s.length ≤ 9223372036854775807) : DOpOk (opW i s) := ⟨⟨(by decide : (-9223372036854775808 : Int) ≤ 1), (by decide : (1 : Int) ≤ 9223372036854775807)⟩, hi, ⟨(by decide : (-9223372036854775808 : Int) ≤ 0), (by decide : (0 : Int) ≤ 9223372036854775807)⟩, hs, (by decide : (0 : Nat) ≤ 9223372036854775807)⟩
theorem opF_ok : DOpOk opF := ⟨⟨by decide, by decide⟩, ⟨by decide, by decide⟩, ⟨by decide, by decide⟩, by decide, by decide⟩
theorem textS_64 {s : Bs} (h : s.length = 64) : textS s = s := by unfold textS; rw [if_pos (.inr (by omega))]
theorem cw_ok {n : Nat} {D : Disk} (hG : GoodD n D) (i : Int) (s : Bs) (hs : s.length = 64) : Ok Tryd.prog 53 [] (dD n D) (.pair (.ptr 0 []) (.pair (.int .i64 i) (.pair (.str s) .nul))) (fun r h' => r = .int .i64 (wr1E n D i s) ∧ h' = dD n (wr1 n D i s)) := by
  have h := write_ok (n := n) (B := D.B) (P := D.P) (W := D.W) (off := D.off) hG.l64 i s
  unfold wr1 wr1E doD doE opW
  rw [if_pos rfl, if_pos rfl, textS_64 hs]
  exact h
theorem doD_F (n : Nat) (D : Disk) : doD n D opF = if D.off = true then D else if D.left = 0 then ⟨D.B, D.P, D.W, true, D.left⟩ else ⟨(allB [] D.B D.P D.W).1, (allB [] D.B D.P D.W).2, D.W, D.off, stpL D.left⟩ := rfl
theorem doE_F (n : Nat) (D : Disk) : doE n D opF = if D.off = true then 20 else if D.left = 0 then 20 else 0 := rfl
theorem cf_ok {n : Nat} {D : Disk} (hG : GoodD n D) : Ok Tryd.prog 54 [] (dD n D) (.pair (.ptr 0 []) .nul) (fun r h' => r = .int .i64 (doE n D opF) ∧ h' = dD n (doD n D opF)) := by
  rw [doD_F, doE_F]
  cases ho : D.off with
  | true =>
    have h := flush_off (n := n) (B := D.B) (P := D.P) (W := D.W) (off := D.off) (left := D.left) ho
    exact h
  | false =>
    by_cases hl : D.left = 0
    · have h := flush_trip (n := n) (B := D.B) (P := D.P) (W := D.W) (off := D.off) (left := D.left) hG.n0 ho hl
      rw [if_neg (show ¬ false = true by decide), if_neg (show ¬ false = true by decide), if_pos hl, if_pos hl]
      exact h
    · have h := flush_go (n := n) (B := D.B) (P := D.P) (W := D.W) (off := D.off) (left := D.left) hG ho hl
      rw [if_neg (show ¬ false = true by decide), if_neg (show ¬ false = true by decide), if_neg hl, if_neg hl]
      rw [ho] at h
      unfold dD
      rw [ho]
      exact h
theorem good_wrK {n : Nat} {D : Disk} (hG : GoodD n D) {a : Nat} {l : List Bs} (ha : a + l.length ≤ n) (hl : ∀ s ∈ l, s.length = 64) : ∀ k, k ≤ l.length → GoodD n (wrK n D a l k).1
  | 0, _ => hG
  | k + 1, hk => by
    have ih := good_wrK hG ha hl k (by omega)
    have hn := hG.n1
    rw [wrK]
    split
    · exact good_do ih (opW_ok ⟨by omega, by omega⟩ (by rw [hl _ (Go.Lx.getD_mem (by omega))]; decide))
    · exact ih
theorem on_F {n : Nat} {D : Disk} (h : doE n D opF = 0) : (doD n D opF).off = false := by
  rw [doE_F] at h
  cases ho : D.off with
  | true => rw [ho, if_pos rfl] at h; cases h
  | false =>
    rw [doD_F, ho, if_neg (show ¬ false = true by decide)]
    split
    · rename_i hl
      rw [ho, if_neg (show ¬ false = true by decide), if_pos hl] at h; cases h
    · rfl
/-- A journal in lists, the lists in the objects a and c. -/
abbrev jL (a c n : Nat) (D : Disk) (N B : List Int) (T : List Bs) (next : Int) (stop : Nat) (shut : Bool) : Asc := (4, jrA 0 a 6 c N B T next stop shut) :: (a, liO N) :: (6, liO B) :: (c, txO T) :: dD n D
variable {n : Nat} {D : Disk} {N B : List Int} {T : List Bs} {next : Int} {stop : Nat} {shut : Bool}
theorem jroomL_ok (hs : stop ≤ n) (hn : n ≤ 4096) : Ok Tryd.prog 22 [] (jL 5 7 n D N B T next stop shut) (.pair (.ptr 4 []) .nul) (fun r h' => r = .int .i64 ((n : Int) - stop) ∧ h' = jL 5 7 n D N B T next stop shut) := by
  have cl := len_ok' (n := n) (B := D.B) (P := D.P) (W := D.W) (off := D.off) (left := D.left)
  refine Ok.of_vcC tt_ok Tryd.func22 rfl rfl (by show 1 ≤ _; decide) 8 (hlt_ok (by rfl)) fun c0 => ?_
  repeat' (first | (refine SS_ ?_) | (refine DSeq.callr false [] [] (.int .i64 n) ([]) (dD n D) 8 (cl) Tryd.func32 GOk.nil subG.nil (by rfl) (fastE (by rfl)) (fastH (by rfl)) (by rfl) (by rfl) rfl rfl rfl rfl rfl (by rfl) (by rfl) (by rfl) (by rfl) (by rfl) (by repeat (first | exact trivial | refine ⟨rfl, ?_⟩)) (by rfl) (by rfl) (by rfl) VW_ NI_ R_ (noFrL_ok NI_) BK_ ?_) | (refine VC.drawm (id := 1) [(0, 0), (1, 1), (2, 3), (3, 7), (4, 15), (5, 0), (6, 32), (7, 96), (8, 224), (9, 511)] [10] (by rfl) (by kernel_rfl) (by rfl) ?_) | (refine DD_ ?_) | fail)
  (refine retC_mk ([(2, .int .i64 ((n : Int) - stop))]) (jL 5 7 n D N B T next stop shut) 8 (Sim.less [] (by rfl) R_ R_) (retQ_ok (by rfl) (jL 5 7 n D N B T next stop shut) (fun i av h => h) ⟨?_, ?_⟩)) <;> rfl
theorem jwrite_ok (hG : GoodD n D) {a : Nat} {l : List Bs} (ha : a + l.length ≤ n) (hl : ∀ s ∈ l, s.length = 64) : Ok Tryd.prog 36 [] (jL 5 7 n D N B T next stop shut) (.pair (.ptr 4 []) (.pair (.int .i64 (a : Nat)) (.pair (txV l) .nul)))
    (fun r h' => r = .tup (.pair (.int .i64 (wfr n D a l).2.1) (.pair (.bool (wfr n D a l).2.2) .nul)) ∧ h' = jL 5 7 n (wfr n D a l).1 N B T next stop shut) := by
  have hn := hG.n1
  have gK := good_wrK hG ha hl
  have hls := fun k (h : k < l.length) => hl _ (Go.Lx.getD_mem (d := []) h)
  obtain ⟨D', e', b', hw⟩ : ∃ D' e' b', wfr n D a l = (D', (e', b')) := ⟨_, _, _, rfl⟩
  rw [hw]
  unfold wfr at hw
  show Ok _ _ _ _ _ (fun r h' => r = .tup (.pair (.int .i64 e') (.pair (.bool b') .nul)) ∧ h' = jL 5 7 n D' N B T next stop shut)
  refine Ok.of_vcC tt_ok Tryd.func36 rfl rfl (by show 3 ≤ _; decide) 8 (hlt_ok (by rfl)) fun c0 => ?_
  repeat' (first | (refine SS_ ?_) | fail)
  refine VC.loop (fun k : Nat => ⟨[(19, .int .i64 (k : Nat)), (18, .int .i64 (l.length : Nat)), (17, txV l), (0, .ptr 4 []), (1, .int .i64 (a : Nat)), (2, txV l)], jL 5 7 n (wrK n D a l k).1 N B T next stop shut, [], 8⟩) (fun k => k ≤ l.length ∧ (wrK n D a l k).2 = 0) (fun k => l.length - k) 0 ⟨by omega, rfl⟩ (by
    show ∀ a_1 w, _ → Sim _ ⟨_, jL 5 7 n D N B T next stop shut, _, _⟩ a_1 w
    exact (Sim.less [] (by rfl) R_ R_)) fun k hk => ?_
  obtain ⟨hk1, hk2⟩ := hk
  by_cases hkl : k < l.length
  · have gk := gK k (by omega)
    have e1 : wrK n D a l (k + 1) = (wr1 n (wrK n D a l k).1 ((a + k : Nat) : Int) (l.getD k []), wr1E n (wrK n D a l k).1 ((a + k : Nat) : Int) (l.getD k [])) := by rw [wrK, if_pos hk2]
    have hst := fun h => wrK_stop (n := n) (D := D) (a := a) (l := l) (j := k + 1) h (l.length - (k + 1))
    rw [show k + 1 + (l.length - (k + 1)) = l.length by omega, e1] at hst
    have cw := cw_ok gk ((a + k : Nat) : Int) (l.getD k []) (hls k hkl)
    generalize hD1 : (wrK n D a l k).1 = D1 at *
    generalize hD2 : wr1 n D1 ((a + k : Nat) : Int) (l.getD k []) = D2 at *
    generalize hE2 : wr1E n D1 ((a + k : Nat) : Int) (l.getD k []) = E2 at *
    repeat' (first | (refine SS_ ?_) | (refine Seq.callo false [] [] (.int .i64 E2) (dD n D2) 8 (cw) Tryd.func53 GOk.nil subG.nil (by rfl) (by rfl) rfl rfl rfl rfl rfl (by rfl) rfl (by rfl) (by rfl) (by rfl) (by rfl) VW_ NI_ R_ (noFrL_ok NI_) BK_ ?_) | (refine VC.litT (by rfl) LTR_ ?_) | (refine VC.cond (by rfl) (fun hb => ?_) (fun hb => ?_) <;> (fail_if_success (with_reducible have := litT_ hb)) <;> (fail_if_success (with_reducible have := litF_ hb)) <;> (try simp only [HB_] at hb) <;> (try (exfalso; first | omega | (cases hb; done)))) | fail)
    · have hb : E2 ≠ 0 := hb
      rw [hst hb, if_pos hb] at hw
      have hq : D' = D2 ∧ e' = E2 ∧ b' = false := by cases hw; exact ⟨rfl, rfl, rfl⟩
      rw [hq.1, hq.2.1, hq.2.2]
      (refine retC_mk ([(6, .int .i64 E2), (7, .bool false)]) (jL 5 7 n D2 N B T next stop shut) 8 (Sim.less [] (by rfl) R_ R_) (retQ_ok (by rfl) (jL 5 7 n D2 N B T next stop shut) (fun i av h => h) ⟨?_, ?_⟩)) <;> rfl
    · have hb : E2 = 0 := by omega
      refine ⟨k + 1, ⟨by omega, by rw [e1]; exact hb⟩, by omega, ?_⟩
      rw [e1]
      exact (Sim.less [] (by rfl) R_ R_)
  · obtain rfl : k = l.length := by omega
    rw [if_neg (fun h => h hk2)] at hw
    have gk := gK l.length (Nat.le_refl _)
    generalize hD1 : (wrK n D a l l.length).1 = D1 at *
    have cf := cf_ok gk
    have hof := on_F (n := n) (D := D1)
    have hg3 : GoodD n (doD n D1 opF) := good_do gk opF_ok
    generalize hD3 : doD n D1 opF = D3 at *
    generalize hE3 : doE n D1 opF = E3 at *
    repeat' (first | (refine SS_ ?_) | (refine Seq.callo false [] [] (.int .i64 E3) (dD n D3) 8 (cf) Tryd.func54 GOk.nil subG.nil (by rfl) (by rfl) rfl rfl rfl rfl rfl (by rfl) rfl (by rfl) (by rfl) (by rfl) (by rfl) VW_ NI_ R_ (noFrL_ok NI_) BK_ ?_) | (refine VC.litF (by rfl) LFA_ ?_) | (refine VC.cond (by rfl) (fun hb => ?_) (fun hb => ?_) <;> (fail_if_success (with_reducible have := litT_ hb)) <;> (fail_if_success (with_reducible have := litF_ hb)) <;> (try simp only [HB_] at hb) <;> (try (exfalso; first | omega | (cases hb; done)))) | fail)
    · have hb : E3 ≠ 0 := hb
      rw [if_pos hb] at hw
      have hq : D' = D3 ∧ e' = E3 ∧ b' = false := by cases hw; exact ⟨rfl, rfl, rfl⟩
      rw [hq.1, hq.2.1, hq.2.2]
      (refine retC_mk ([(6, .int .i64 E3), (7, .bool false)]) (jL 5 7 n D3 N B T next stop shut) 8 (Sim.less [] (by rfl) R_ R_) (retQ_ok (by rfl) (jL 5 7 n D3 N B T next stop shut) (fun i av h => h) ⟨?_, ?_⟩)) <;> rfl
    have hb : E3 = 0 := by omega
    rw [if_neg (fun h => h hb)] at hw
    have hq : D' = D3 ∧ e' = 0 ∧ b' = sameK n D3 a l l.length := by cases hw; exact ⟨rfl, rfl, rfl⟩
    rw [hq.1, hq.2.1, hq.2.2]
    have hon := hof hb
    refine VC.loop (fun k : Nat => ⟨[(47, .int .i64 (k : Nat)), (46, .int .i64 (l.length : Nat)), (45, txV l), (12, .bool (sameK n D3 a l k)), (0, .ptr 4 []), (1, .int .i64 (a : Nat)), (2, txV l)], jL 5 7 n D3 N B T next stop shut, [], 8⟩) (fun k => k ≤ l.length) (fun k => l.length - k) 0 (Nat.zero_le _) (Sim.less [] (by rfl) R_ R_) fun k hk => ?_
    by_cases hkl : k < l.length
    · have rd := read_ok (n := n) (B := D3.B) (P := D3.P) (W := D3.W) (off := D3.off) (left := D3.left) ((a + k : Nat) : Int) hg3.len hg3.b64 hg3.p64
      rw [show chk n D3.off ((a + k : Nat) : Int) = 0 by rw [hon]; exact chk_in (by omega)] at rd
      have hsk : sameK n D3 a l (k + 1) = (sameK n D3 a l k && decide (l.getD k [] = rdS n D3.off D3.B D3.P ((a + k : Nat) : Int))) := rfl
      generalize hS : rdS n D3.off D3.B D3.P ((a + k : Nat) : Int) = S at *
      have hlk : l.getD ((k : Int)).toNat [] = l.getD k [] := by rw [Int.toNat_natCast]
      cases hs : sameK n D3 a l k with
      | true =>
        rw [hs] at hsk
        repeat' (first | (refine SS_ ?_) | (refine Seq.callo false [] [] (.tup (.pair (.str S) (.pair (.int .i64 0) .nul))) (dD n D3) 8 (rd) Tryd.func33 GOk.nil subG.nil (by rfl) (by rfl) rfl rfl rfl rfl rfl (by rfl) rfl (by rfl) (by rfl) (by rfl) (by rfl) VW_ NI_ R_ (noFrL_ok NI_) BK_ ?_) | (refine VC.litT (by rfl) LTR_ ?_) | (refine VC.litF (by rfl) LFA_ ?_) | fail)
        refine ⟨k + 1, by omega, by omega, ?_⟩
        rw [hsk, Bool.true_and]
        exact (Sim.less [] (by rfl) R_ R_)
      | false =>
        rw [hs] at hsk
        repeat' (first | (refine SS_ ?_) | (refine Seq.callo false [] [] (.tup (.pair (.str S) (.pair (.int .i64 0) .nul))) (dD n D3) 8 (rd) Tryd.func33 GOk.nil subG.nil (by rfl) (by rfl) rfl rfl rfl rfl rfl (by rfl) rfl (by rfl) (by rfl) (by rfl) (by rfl) VW_ NI_ R_ (noFrL_ok NI_) BK_ ?_) | (refine VC.litT (by rfl) LTR_ ?_) | (refine VC.litF (by rfl) LFA_ ?_) | fail)
        refine ⟨k + 1, by omega, by omega, ?_⟩
        rw [hsk, Bool.false_and]
        exact (Sim.less [] (by rfl) R_ R_)
    · obtain rfl : k = l.length := by omega
      repeat' (first | (refine SS_ ?_) | (refine VC.litF (by rfl) LFA_ ?_) | fail)
      (refine retC_mk ([(6, .int .i64 0), (7, .bool (sameK n D3 a l l.length))]) (jL 5 7 n D3 N B T next stop shut) 8 (Sim.less [] (by rfl) R_ R_) (retQ_ok (by rfl) (jL 5 7 n D3 N B T next stop shut) (fun i av h => h) ⟨?_, ?_⟩)) <;> rfl
end Go.Proofs.YtmbldnahcmkpgaaDoor
