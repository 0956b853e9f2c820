/- Journals: Append in one contract; what stays true of disks and journals. Journals, plain: what writing, the power's failure and switching on again leave on a disk. -/
import Derived.Test.YtmbldnahcmkpgaaDoorAn
set_option linter.unusedSimpArgs false
set_option linter.unusedVariables false
namespace Go.Proofs.YtmbldnahcmkpgaaDoor
open Go.V Go.RowKit Go.L Go.Lx Go.Jn Go.Dk
set_option maxRecDepth 10000
set_option maxHeartbeats 4000000
/-- What is true of a journal; c: how many records there may be. -/
structure JOkN (n c : Nat) (J : Jr) : Prop where
  n1 : 1 ≤ J.next
  n2 : J.next ≤ 4097
  stop : J.stop ≤ n
  len : J.R.length ≤ c
  bad : J.bad.length ≤ n
theorem wfr_err {n : Nat} {D : Disk} {a : Nat} {l : List Bs} : (wfr n D a l).2.1 ≠ 0 → (wfr n D a l).2.2 = false := by
  unfold wfr
  split
  · intro _; rfl
  · split
    · intro _; rfl
    · intro h; exact absurd rfl h
theorem good_wfr {n : Nat} {D : Disk} (hG : GoodD n D) {a : Nat} {l : List Bs} (ha : a + l.length ≤ n) (hl : ∀ s ∈ l, s.length = 64) : GoodD n (wfr n D a l).1 := by
  have h1 := good_wrK hG ha hl l.length (Nat.le_refl _)
  unfold wfr
  split
  · exact h1
  · split
    · exact good_do h1 opF_ok
    · exact good_do h1 opF_ok
variable {n c : Nat} {D : Disk} {J : Jr}
theorem nums_len : (nums J).length = J.R.length := List.length_map _
theorem texts_len : (texts J).length = J.R.length := List.length_map _
theorem append_ok (hG : GoodD n D) (hJ : JOkN n c J) (hc : c ≤ 1048576) (t : Bs) (ht : t.length ≤ 9223372036854775807) : Ok Tryd.prog 16 gK (jH n D J) (.pair (.ptr 4 []) (.pair (.str t) .nul))
    (fun r h' => r = .tup (.pair (.int .i64 (app n D J t).2.1) (.pair (.int .i64 (app n D J t).2.2) .nul)) ∧ h' = jHn n (app n D J t).1.1 (app n D J t).1.2) := by
  have hn := hG.n1
  have j1 := hJ.n1; have j2 := hJ.n2; have j3 := hJ.stop; have j4 := hJ.len
  have l1 := nums_len (J := J)
  have l2 := texts_len (J := J)
  obtain ⟨R, bd, next, stop, shut⟩ := J
  have j1 : 1 ≤ next := j1
  have j2 : next ≤ 4097 := j2
  have j3 : stop ≤ n := j3
  unfold app
  cases shut with
  | true =>
    rw [if_pos rfl]
    exact app_shut next t
  | false =>
    rw [if_neg (show ¬ false = true by decide)]
    by_cases h1 : 8000 < t.length ∨ 4096 < next
    · rw [if_pos h1]
      exact app_limit next t ht h1
    · rw [if_neg h1]
      by_cases h2 : (n : Int) - stop < cnt t.length
      · rw [if_pos h2]
        exact app_full next t hn j3 (by omega) (by omega) h2
      · rw [if_neg h2]
        obtain ⟨m, rfl⟩ : ∃ m : Nat, next = m := ⟨next.toNat, by omega⟩
        have hgo := app_go (N := nums ⟨R, bd, (m : Int), stop, false⟩) (B := bd) (T := texts ⟨R, bd, (m : Int), stop, false⟩) (stop := stop) hG m t (by omega) (by omega) (by omega) (by omega) (by rw [l1]; omega) (by rw [l2]; omega) (D' := (wfr n D stop (parts m t)).1) (e := (wfr n D stop (parts m t)).2.1) (b := (wfr n D stop (parts m t)).2.2) rfl wfr_err
        simp only [Int.toNat_natCast]
        by_cases h3 : (wfr n D stop (parts m t)).2.1 ≠ 0
        · rw [if_pos h3, decide_eq_true h3, wfr_err h3] at hgo
          rw [if_pos h3]
          exact hgo
        · rw [if_neg h3, decide_eq_false h3] at hgo
          rw [if_neg h3]
          by_cases h4 : (wfr n D stop (parts m t)).2.2 = false
          · rw [h4] at hgo
            rw [if_pos h4]
            exact hgo
          · have h5 : (wfr n D stop (parts m t)).2.2 = true := by simpa using h4
            rw [h5] at hgo
            rw [if_neg h4]
            rw [if_pos rfl, if_pos rfl, if_pos rfl, if_pos rfl] at hgo
            have e1 : nums (jAdd ⟨R, bd, (m : Int), stop, false⟩ t) = nums ⟨R, bd, (m : Int), stop, false⟩ ++ [(m : Int)] := by unfold nums jAdd; rw [List.map_append]; rfl
            have e2 : texts (jAdd ⟨R, bd, (m : Int), stop, false⟩ t) = texts ⟨R, bd, (m : Int), stop, false⟩ ++ [t] := by unfold texts jAdd; rw [List.map_append]; rfl
            rw [← e1, ← e2] at hgo
            exact hgo
end Go.Proofs.YtmbldnahcmkpgaaDoor

namespace Go.Proofs.YtmbldnahcmkpgaaDoor
open Go.V Go.RowKit Go.L Go.Lx Go.Jn Go.Dk
theorem rmt_get (picks : List Int) (S : List Sec) : ∀ k, k ≤ S.length → (rmt picks k S).1.length = S.length ∧ ∀ i, i < S.length → ∃ m, m ≤ 64 ∧ (picks = [] → m = 64) ∧ (rmt picks k S).1.getD i secZ = if i < k ∧ (S.getD i secZ).D = true then setl (S.getD i secZ) m else S.getD i secZ
  | 0, _ => ⟨rfl, fun i _ => ⟨64, Nat.le_refl _, fun _ => rfl, by rw [if_neg (by omega)]; rfl⟩⟩
  | k + 1, hk => by
    obtain ⟨hl, ih⟩ := rmt_get picks S k (by omega)
    have hkk : (rmt picks k S).1.getD k secZ = S.getD k secZ := by
      obtain ⟨m, _, _, h⟩ := ih k (by omega)
      rw [h, if_neg (by omega)]
    rw [rmt, hkk]
    by_cases hD : (S.getD k secZ).D = true
    · rw [if_pos hD]
      refine ⟨by rw [List.length_set]; exact hl, fun i hi => ?_⟩
      by_cases e : i = k
      · subst e
        refine ⟨upto (pickAt picks (rmt picks i S).2), upto_le _, fun h => ?_, ?_⟩
        · rw [h]; unfold pickAt; rw [if_neg (by simp)]; rfl
        · rw [if_pos ⟨by omega, hD⟩]
          exact set_get (by omega)
      · obtain ⟨m, h1, h2, h3⟩ := ih i hi
        refine ⟨m, h1, h2, ?_⟩
        show ((rmt picks k S).1.set k _).getD i secZ = _
        rw [set_ne e, h3]
        by_cases hx : i < k ∧ (S.getD i secZ).D = true
        · rw [if_pos hx, if_pos ⟨by omega, hx.2⟩]
        · rw [if_neg hx, if_neg (by rintro ⟨h4, h5⟩; exact hx ⟨by omega, h5⟩)]
    · rw [if_neg hD]
      refine ⟨hl, fun i hi => ?_⟩
      obtain ⟨m, h1, h2, h3⟩ := ih i hi
      refine ⟨m, h1, h2, ?_⟩
      rw [h3]
      by_cases hx : i < k ∧ (S.getD i secZ).D = true
      · rw [if_pos hx, if_pos ⟨by omega, hx.2⟩]
      · rw [if_neg hx]
        by_cases e : i = k
        · subst e; rw [if_neg (by rintro ⟨_, h5⟩; exact hD h5)]
        · rw [if_neg (by rintro ⟨h4, h5⟩; exact hx ⟨by omega, h5⟩)]
variable {n : Nat} {B : List Bs} {P : PM} {W : WM} {left : Int}
/-- What a sector contains when all that was pending has settled. -/
theorem allB_get (h : Good n B P W left) (picks : List Int) {i : Nat} (hi : i < n) : ∃ m, m ≤ 64 ∧ (picks = [] → m = 64) ∧ (allB picks B P W).1.getD i [] = if (mFind P (i : Nat)).isSome = true ∧ isW W (i : Nat) = false then tear m ((mFind P (i : Nat)).getD []) (B.getD i []) else B.getD i [] := by
  have h1 := mount_secs h picks
  obtain ⟨_, h2⟩ := rmt_get picks (secs n B P W) n (by rw [secs_len]; omega)
  obtain ⟨m, m1, m2, m3⟩ := h2 i (by rw [secs_len]; exact hi)
  refine ⟨m, m1, m2, ?_⟩
  rw [h1, secs_get hi, secs_get hi] at m3
  have m4 := congrArg Sec.T m3
  have m5 : (secAt (allB picks B P W).1 (allB picks B P W).2 W i).T = (allB picks B P W).1.getD i [] := rfl
  rw [m5] at m4
  rw [m4]
  by_cases hs : (mFind P (i : Nat)).isSome = true
  · rw [if_pos ⟨hi, hs⟩]
    show (if isW W (i : Nat) = true then B.getD i [] else tear m ((mFind P (i : Nat)).getD []) (B.getD i [])) = _
    cases hw : isW W (i : Nat) with
    | true => rw [if_pos rfl, if_neg (by rintro ⟨_, h⟩; cases h)]
    | false => rw [if_neg (by decide), if_pos ⟨hs, rfl⟩]
  · rw [if_neg (fun h => hs h.2), if_neg (fun h => hs h.1)]; rfl
theorem tear_full {x old : Bs} (hx : x.length = 64) (ho : old.length = 64) : tear 64 x old = x := by
  unfold tear
  rw [List.take_of_length_le (by omega), List.drop_of_length_le (by omega), List.append_nil]
theorem wr1_eq {D : Disk} {i : Nat} {s : Bs} (hi : i < n) (hs : s.length = 64) : wr1 n D (i : Nat) s = (if D.off = true then D else if D.left = 0 then ⟨D.B, D.P, D.W, true, D.left⟩ else ⟨D.B, mSet D.P (i : Nat) s, D.W, false, stpL D.left⟩) ∧ wr1E n D (i : Nat) s = if D.off = true then 20 else if D.left = 0 then 20 else 0 := by
  have e1 : wr1 n D (i : Nat) s = ⟨D.B, if wrE n D.off D.left (i : Nat) (textS s) = 0 then mSet D.P (i : Nat) (textS s) else D.P, D.W, if wrGo n D.off (i : Nat) (textS s) = true then stpO D.off D.left else D.off, if wrGo n D.off (i : Nat) (textS s) = true then stpL D.left else D.left⟩ := rfl
  have e2 : wr1E n D (i : Nat) s = wrE n D.off D.left (i : Nat) (textS s) := rfl
  rw [e1, e2, textS_64 hs]
  unfold wrE wrGo
  cases ho : D.off with
  | true =>
    have hc : chk n true (i : Nat) = 20 := rfl
    rw [hc]
    refine ⟨?_, rfl⟩
    rw [if_pos rfl]
    simp
    cases D; cases ho; rfl
  | false =>
    rw [chk_in hi]
    simp only [hs, ne_eq, not_true_eq_false, if_false, decide_true, Bool.and_self, if_true]
    unfold stpE stpO stpL
    by_cases hl : D.left = 0
    · simp [hl]
    · simp [hl]
/-- What the first k writes leave. -/
theorem wrK_spec {D : Disk} {a : Nat} {l : List Bs} (ho : D.off = false) (ha : a + l.length ≤ n) (hl : ∀ s ∈ l, s.length = 64) : ∀ k, k ≤ l.length → (wrK n D a l k).1.B = D.B ∧ (wrK n D a l k).1.W = D.W ∧
    (∃ j, j ≤ k ∧ (∀ x : Nat, mFind (wrK n D a l k).1.P (x : Nat) = if a ≤ x ∧ x < a + j then some (l.getD (x - a) []) else mFind D.P (x : Nat)) ∧ ((wrK n D a l k).2 = 0 → j = k ∧ (wrK n D a l k).1.off = false)) ∧ (D.left < 0 → (wrK n D a l k).2 = 0 ∧ (wrK n D a l k).1.left = D.left)
  | 0, _ => ⟨rfl, rfl, ⟨0, Nat.le_refl _, fun x => by rw [if_neg (by omega)]; rfl, fun _ => ⟨rfl, ho⟩⟩, fun _ => ⟨rfl, rfl⟩⟩
  | k + 1, hk => by
    obtain ⟨i1, i2, ⟨j, j1, j2, j3⟩, i4⟩ := wrK_spec ho ha hl k (by omega)
    obtain ⟨w1, w2⟩ := wr1_eq (n := n) (D := (wrK n D a l k).1) (i := a + k) (s := l.getD k []) (by omega) (hl _ (Go.Lx.getD_mem (by omega)))
    rw [wrK]
    by_cases h0 : (wrK n D a l k).2 = 0
    · rw [if_pos h0]
      obtain ⟨rfl, j4⟩ := j3 h0
      generalize wrK n D a l j = R at *
      show (wr1 n R.1 ((a + j : Nat) : Int) (l.getD j [])).B = _ ∧ (wr1 n R.1 ((a + j : Nat) : Int) (l.getD j [])).W = _ ∧ (∃ j', j' ≤ j + 1 ∧ (∀ x : Nat, mFind (wr1 n R.1 ((a + j : Nat) : Int) (l.getD j [])).P (x : Nat) = _) ∧ (wr1E n R.1 ((a + j : Nat) : Int) (l.getD j []) = 0 → j' = j + 1 ∧ (wr1 n R.1 ((a + j : Nat) : Int) (l.getD j [])).off = false)) ∧ (D.left < 0 → wr1E n R.1 ((a + j : Nat) : Int) (l.getD j []) = 0 ∧ (wr1 n R.1 ((a + j : Nat) : Int) (l.getD j [])).left = D.left)
      rw [w1, w2, j4, if_neg (show ¬ false = true by decide), if_neg (show ¬ false = true by decide)]
      by_cases hz : R.1.left = 0
      · rw [if_pos hz, if_pos hz]
        exact ⟨i1, i2, ⟨j, by omega, j2, fun h => by cases h⟩, fun h => by have := (i4 h).2; omega⟩
      · rw [if_neg hz, if_neg hz]
        refine ⟨i1, i2, ⟨j + 1, Nat.le_refl _, fun x => ?_, fun _ => ⟨rfl, rfl⟩⟩, fun h => ⟨rfl, ?_⟩⟩
        · show mFind (mSet R.1.P ((a + j : Nat) : Int) (l.getD j [])) (x : Nat) = _
          rw [mFind_mSet, j2]
          by_cases e : x = a + j
          · subst e
            rw [if_pos rfl, if_pos (by omega), show a + j - a = j by omega]
          · rw [if_neg (by omega)]
            by_cases hx : a ≤ x ∧ x < a + j
            · rw [if_pos hx, if_pos (by omega)]
            · rw [if_neg hx, if_neg (by omega)]
        · have := (i4 h).2
          show stpL R.1.left = _
          unfold stpL
          rw [if_neg (by omega)]; exact this
    · rw [if_neg h0]
      exact ⟨i1, i2, ⟨j, by omega, j2, fun h => absurd h h0⟩, fun h => absurd (i4 h).1 h0⟩
end Go.Proofs.YtmbldnahcmkpgaaDoor
