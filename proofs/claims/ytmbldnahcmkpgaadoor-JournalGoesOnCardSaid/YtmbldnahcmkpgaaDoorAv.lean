/- Journals, plain: the examples of sanity. Journals: equality of lists of texts; Unpack. -/
import Derived.Test.YtmbldnahcmkpgaaDoorAt
import Derived.Test.YtmbldnahcmkpgaaDoorSn
set_option linter.unusedSimpArgs false
set_option linter.unusedVariables false
namespace Go.Proofs.YtmbldnahcmkpgaaDoor
open Go.V Go.RowKit Go.L Go.Lx Go.Jn Go.Dk
set_option maxRecDepth 20000
def ysX : Bs := Lib.repeatL [120] 50
theorem ysX_len : ysX.length = 50 := by decide
def yS1 : Bs := sec 1 0 [97]
def yS2 : Bs := sec 2 0 ysX
def yS3 : Bs := sec 2 1 (ysX.drop 48)
def yS4 : Bs := sec 3 0 [98]
def ySF : Bs := Dk.flip yS2 70
def yB0 : List Bs := [zs, zs, zs, zs]
def yB1 : List Bs := [yS1, zs, zs, zs]
def yB2 : List Bs := [yS1, yS2, yS3, zs]
def yB3 : List Bs := [yS1, ySF, yS3, zs]
def yB4 : List Bs := [yS1, ySF, yS3, yS4]
def yJ0 : Jr := ⟨[], [], 1, 0, false⟩
def yJ1 : Jr := ⟨[(1, [97])], [], 2, 1, false⟩
def yJ2 : Jr := ⟨[(1, [97]), (2, ysX)], [], 3, 3, false⟩
def yJ3 : Jr := ⟨[(1, [97])], [1], 3, 3, false⟩
def yJ4 : Jr := ⟨[(1, [97]), (3, [98])], [1], 4, 4, false⟩
theorem parts1 (n : Nat) (t : Bs) (h : t.length = 1) : parts n t = [sec n 0 t] := by
  unfold parts
  rw [show cnt t.length = 1 by rw [h]; rfl]
  show [sec n 0 (t.drop (48 * 0))] = _
  rw [Nat.mul_zero, List.drop_zero]
theorem parts2 : parts 2 ysX = [yS2, yS3] := by
  unfold parts
  rw [show cnt ysX.length = 2 by rw [ysX_len]; rfl]
  show [sec 2 0 (ysX.drop (48 * 0)), sec 2 1 (ysX.drop (48 * 1))] = _
  rw [Nat.mul_zero, List.drop_zero]; rfl
theorem yzs64 : zs.length = 64 := by unfold zs; rw [List.length_replicate]
theorem ySF_len : ySF.length = 64 := by unfold ySF; rw [flip_len]; exact sec_len _ _ _
theorem ygoodB {a b c d : Bs} (ha : a.length = 64) (hb : b.length = 64) (hc : c.length = 64) (hd : d.length = 64) : GoodD 4 (calm [a, b, c, d]) := good_calm rfl (fun x hx => by
  simp only [List.mem_cons, List.not_mem_nil, or_false] at hx
  rcases hx with rfl | rfl | rfl | rfl <;> assumption) (by decide) (by decide)
theorem yg0 : GoodD 4 (calm yB0) := ygoodB yzs64 yzs64 yzs64 yzs64
theorem yg1 : GoodD 4 (calm yB1) := ygoodB (sec_len _ _ _) yzs64 yzs64 yzs64
theorem yg2 : GoodD 4 (calm yB2) := ygoodB (sec_len _ _ _) (sec_len _ _ _) (sec_len _ _ _) yzs64
theorem yg3 : GoodD 4 (calm yB3) := ygoodB (sec_len _ _ _) ySF_len (sec_len _ _ _) yzs64
theorem yg4 : GoodD 4 (calm yB4) := ygoodB (sec_len _ _ _) ySF_len (sec_len _ _ _) (sec_len _ _ _)
theorem rdL_calm {n : Nat} {B : List Bs} (h : B.length = n) : rdL n (calm B) = B := ext_getD (by rw [rdL_len, h]) fun i hi => by
  rw [rdL_len] at hi
  rw [rdL_get hi]
  exact rd_calm (D := calm B) hi rfl rfl
theorem yo0 : opn (rdL 4 (calm yB0)) = yJ0 := by
  rw [rdL_calm (n := 4) rfl]
  exact opn_blank 4
theorem ya1 : app 4 (calm yB0) yJ0 [97] = ((calm yB1, yJ1), (1, 0)) := by
  rw [app_calm yg0 rfl (by decide) (by decide) (by decide) (by decide)]
  show ((calm (putL yB0 0 (parts 1 [97])), jAdd yJ0 [97]), (yJ0.next, 0)) = _
  rw [parts1 1 [97] rfl]; rfl
theorem ya2 : app 4 (calm yB1) yJ1 ysX = ((calm yB2, yJ2), (2, 0)) := by
  have hc : cnt ysX.length = 2 := by rw [ysX_len]; rfl
  rw [app_calm yg1 rfl (by decide) (by rw [ysX_len]; decide) (by decide) (by rw [hc]; decide)]
  show ((calm (putL yB1 1 (parts 2 ysX)), jAdd yJ1 ysX), (yJ1.next, 0)) = _
  rw [parts2]
  unfold jAdd
  rw [hc]; rfl
/-- The sector that rot has hit is not good (reckoned). -/
theorem yhd2 : hd 2 0 ysX = [2, 0, 0, 0, 0, 0, 50, 0] ++ List.replicate 48 120 := by decide
theorem ySFbad : ¬ Fine ySF := fun h => by
  have h1 := h.sum
  have e1 : ySF = (hd 2 0 ysX).set 8 56 ++ sum8 (hd 2 0 ysX) := by
    unfold ySF yS2 sec chkd Dk.flip
    rw [show (70 : Nat) / 8 = 8 from rfl, List.set_append_left _ _ (by rw [hd_len]; decide)]
    congr 2
  have hl : ((hd 2 0 ysX).set 8 56).length = 56 := by rw [List.length_set, hd_len]
  rw [e1, List.take_left' hl, List.drop_left' hl] at h1
  have h2 := congrArg (fun l : Bs => (l.map UInt8.toNat).take 1) h1
  unfold sum8 at h2
  simp only [List.map_take] at h2
  rw [Sha.sum_l, Sha.sum_l, yhd2] at h2
  revert h2
  decide +kernel
theorem yu1 : unp yS1 = ⟨1, 0, 1, [97], true⟩ := unp_sec (by decide) (by decide) (by decide) (by decide) (by decide)
theorem yu3 : unp yS3 = ⟨2, 1, 2, [120, 120], true⟩ := by
  have : ysX.drop 48 = [120, 120] := by decide
  unfold yS3
  rw [this]
  exact unp_sec (by decide) (by decide) (by decide) (by decide) (by decide)
theorem ySF_blank : ¬ isBlank ySF := fun h => by
  have h1 := h 0 (by rw [ySF_len]; decide)
  have e1 : ySF = (hd 2 0 ysX).set 8 56 ++ sum8 (hd 2 0 ysX) := by
    unfold ySF yS2 sec chkd Dk.flip
    rw [show (70 : Nat) / 8 = 8 from rfl, List.set_append_left _ _ (by rw [hd_len]; decide)]
    congr 2
  rw [e1, yhd2] at h1
  exact absurd h1 (by decide)
theorem yo3 : opn (rdL 4 (calm yB3)) = yJ3 := by
  rw [rdL_calm (n := 4) rfl]
  have n1 : ¬ isBlank yS1 := not_blank_sec (by decide) (by decide)
  have n3 : ¬ isBlank yS3 := not_blank_sec (by decide) (by decide)
  have uf : unp ySF = noPart := unp_no ySFbad
  have hb : bads yB3 4 = [1] := by
    show bads [yS1, ySF, yS3, zs] 4 = [1]
    simp only [bads, List.getD_cons_succ, List.getD_cons_zero, yu1, uf, yu3, unp_zs, noPart, n1, n3, ySF_blank, blank_zs, not_true_eq_false, and_false, if_false, not_false_eq_true, and_true, if_true, Bool.true_eq_false, false_and, and_self, List.nil_append]
    rfl
  have hs : stopAt yB3 4 = 3 := by
    show stopAt [yS1, ySF, yS3, zs] 4 = 3
    simp only [stopAt, List.getD_cons_succ, List.getD_cons_zero, n1, n3, ySF_blank, blank_zs, if_true, if_false]
  have hn : nextOf yB3 4 = 3 := by
    show nextOf [yS1, ySF, yS3, zs] 4 = 3
    simp only [nextOf, List.getD_cons_succ, List.getD_cons_zero, yu1, uf, yu3, unp_zs, noPart]
    decide
  have hr : scan 0 (yB3.map unp) [] = [(1, [97])] := by
    show scan 0 [unp yS1, unp ySF, unp yS3, unp zs] [] = _
    rw [yu1, uf, yu3, unp_zs]
    decide
  unfold opn
  show Jr.mk (scan 0 (yB3.map unp) []) (bads yB3 4) (nextOf yB3 4) (stopAt yB3 4) false = _
  rw [hb, hs, hn, hr]; rfl
theorem ya3 : app 4 (calm yB3) yJ3 [98] = ((calm yB4, yJ4), (3, 0)) := by
  rw [app_calm yg3 rfl (by decide) (by decide) (by decide) (by decide)]
  show ((calm (putL yB3 3 (parts 3 [98])), jAdd yJ3 [98]), (yJ3.next, 0)) = _
  rw [parts1 3 [98] rfl]; rfl
theorem ya4 : app 4 (calm yB4) yJ4 [99] = ((calm yB4, yJ4), (0, 19)) := by
  unfold app
  rw [if_neg (by decide), if_neg (by decide), if_pos (by decide)]
theorem yj3 : JOkN 4 4 yJ3 := ⟨by decide, by decide, by decide, by decide, by decide⟩
theorem yj0 : JOkN 4 4 yJ0 := ⟨by decide, by decide, by decide, by decide, by decide⟩
theorem yj1 : JOkN 4 4 yJ1 := ⟨by decide, by decide, by decide, by decide, by decide⟩
theorem yj4 : JOkN 4 4 yJ4 := ⟨by decide, by decide, by decide, by decide, by decide⟩
theorem ydmg4 : damaged yJ4 = [2] := by decide
end Go.Proofs.YtmbldnahcmkpgaaDoor

namespace Go.Proofs.YtmbldnahcmkpgaaDoor
open Go.V Go.RowKit Go.L Go.Lx Go.Jn Go.Dk
set_option maxRecDepth 10000
set_option maxHeartbeats 4000000
set_option maxRecDepth 10000 in
theorem sameTx_ok (A C : List Bs) (hA : A.length ≤ 9223372036854775807) (hC : C.length ≤ 9223372036854775807) : Ok Tryd.prog 10 [] [] (.pair (.rsl false A.length 1 (fun i => .str (A.getD i []))) (.pair (.rsl false C.length 1 (fun i => .str (C.getD i []))) .nul)) (fun r h' => r = .bool (decide (A = C)) ∧ h' = []) := by
  by_cases hlen : A.length = C.length
  · refine Ok.of_vcC tt_ok Tryd.func10 rfl rfl (by show 2 ≤ _; decide) 0 (hlt_ok (by rfl)) fun c0 => ?_
    repeat' (first | (refine SS_ ?_) | (refine VC.litF (by rfl) LFA_ ?_) | fail)
    refine VC.loop (fun k : Nat => ⟨[(5, .int .i64 (k : Nat)), (1, .rsl false C.length 1 (fun i => .str (C.getD i []))), (0, .rsl false A.length 1 (fun i => .str (A.getD i [])))], [], [], 0⟩) (fun k => k ≤ A.length ∧ ∀ j, j < k → A.getD j [] = C.getD j []) (fun k => A.length - k) 0 ⟨by omega, fun j hj => absurd hj (Nat.not_lt_zero _)⟩ (Sim.less [] (by rfl) R_ R_) fun k hk => ?_
    obtain ⟨hk, hall⟩ := hk
    by_cases hkn : k < A.length
    · repeat' (first | (refine SS_ ?_) | (refine VC.drawm (id := 6) [(0, 0), (1, 0), (2, 3), (3, 7), (4, 0), (5, 0), (6, 48), (7, 112), (8, 255)] [] (by rfl) (by kernel_rfl) (by rfl) ?_) | (refine VC.litT (by rfl) LTR_ ?_) | (refine DD_ ?_) | (refine VC.cond (by rfl) (fun hb => ?_) (fun hb => ?_) <;> (fail_if_success (with_reducible have := litT_ hb)) <;> (fail_if_success (with_reducible have := litF_ hb)) <;> (try simp only [HB_] at hb) <;> (try (exfalso; first | omega | (cases hb; done)))) | fail)
      · rw [decide_eq_false (fun e : A = C => hb (by rw [e]))]
        (refine retC_mk ([(4, .bool false)]) ([]) 0 (Sim.less [] (by rfl) R_ R_) (retQ_ok (by rfl) ([]) (fun i av h => h) ⟨?_, ?_⟩)) <;> rfl
      · refine ⟨k + 1, ⟨by omega, fun j hj => ?_⟩, by omega, by exact (Sim.less [] (by rfl) R_ R_)⟩
        rcases Nat.lt_or_ge j k with h | h
        · exact hall j h
        · obtain rfl : j = k := by omega
          simpa using hb
    · repeat' (first | (refine SS_ ?_) | (refine VC.litF (by rfl) LFA_ ?_) | fail)
      have e : A = C := List.ext_getElem hlen fun j h1 h2 => by
        have := hall j (by omega)
        rw [List.getD_eq_getElem?_getD, List.getElem?_eq_getElem h1, List.getD_eq_getElem?_getD, List.getElem?_eq_getElem h2] at this
        exact this
      rw [decide_eq_true e]
      (refine retC_mk ([(4, .bool true)]) ([]) 0 (Sim.less [] (by rfl) R_ R_) (retQ_ok (by rfl) ([]) (fun i av h => h) ⟨?_, ?_⟩)) <;> rfl
  · have hne : A ≠ C := fun e => hlen (by rw [e])
    rw [decide_eq_false hne]
    refine Ok.of_vcC tt_ok Tryd.func10 rfl rfl (by show 2 ≤ _; decide) 0 (hlt_ok (by rfl)) fun c0 => ?_
    repeat' (first | (refine SS_ ?_) | (refine VC.litT (by rfl) LTR_ ?_) | fail)
    (refine retC_mk ([(4, .bool false)]) ([]) 0 (Sim.less [] (by rfl) R_ R_) (retQ_ok (by rfl) ([]) (fun i av h => h) ⟨?_, ?_⟩)) <;> rfl
theorem junpack_ok (s : Bs) (hs : s.length ≤ 9223372036854775807) : Ok Tryd.prog 8 gK [] (.pair (.str s) .nul) (fun r h' => r = .tup (partA (unp s)) ∧ h' = []) := by
  have c := unpack_ok s hs
  generalize unp s = p at *
  refine Ok.of_vcC tt_ok Tryd.func8 rfl rfl (by show 1 ≤ _; decide) 0 (hlt_ok (by rfl)) fun c0 => ?_
  repeat' (first | (refine SS_ ?_) | (refine Seq.callp false (c) Tryd.func30 gK_ok subG.refl (by rfl) (by rfl) rfl rfl rfl rfl rfl (by rfl) rfl VW_ NI_ NI_ FR_ ?_) | (refine VC.drawn2 (id := 2) [(0, 0), (1, 1), (2, 0), (3, 4), (4, 0), (5, 16), (6, 0), (7, 64), (8, 0), (9, 256), (10, 3), (11, 1039), (12, 3135), (13, 7423)] [14] (by rfl) (by kernel_rfl) (by rfl) (by rfl) ?_) | (refine DD_ ?_) | fail)
  (refine retC_mk ([(2, .int .i64 (p.num : Nat)), (3, .int .i64 (p.part : Nat)), (4, .int .i64 (p.left : Nat)), (5, .str p.text), (6, .bool p.ok)]) ([]) 1 (Sim.less [] (by rfl) R_ R_) (retQ_ok (by rfl) ([]) (fun i av h => h) ⟨?_, ?_⟩)) <;> rfl
end Go.Proofs.YtmbldnahcmkpgaaDoor
