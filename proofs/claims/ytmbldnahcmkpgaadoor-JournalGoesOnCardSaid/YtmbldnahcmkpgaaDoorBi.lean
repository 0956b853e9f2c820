/- Journals, plain: records one after the other on a disk with worn sectors. A region that draws its order, two operations of which take objects, one behind the other. JournalGoesOn: scripts; the early ends. -/
import Derived.Test.YtmbldnahcmkpgaaDoorAt
import Derived.Test.YtmbldnahcmkpgaaDoorFg
import Derived.Test.YtmbldnahcmkpgaaDoorAw
set_option linter.unusedSimpArgs false
set_option linter.unusedVariables false
namespace Go.Proofs.YtmbldnahcmkpgaaDoor
open Go.V Go.RowKit Go.L Go.Lx Go.Jn Go.Dk
set_option maxRecDepth 20000
theorem goes_scan {B B' : List Bs} {w : Nat → Bool} {a m : Nat} {t : Bs} {R : List (Int × Bs)} {b : Bool} (hB : B'.length = B.length) (ha : a + cnt t.length ≤ B.length) (hz : ∀ i, a ≤ i → i < B.length → B.getD i [] = zs)
    (hg : ∀ i, i < B.length → B'.getD i [] = if a ≤ i ∧ i < a + (parts m t).length ∧ w i = false then (parts m t).getD (i - a) [] else B.getD i []) (ht : t.length ≤ 8000) (h1 : 1 ≤ m) (h2 : m ≤ 4096)
    (hs : ∀ Y, scan 0 ((B.take a).map unp ++ Y) [] = scan 0 Y R) (hb : b = true ↔ ∀ k, k < (parts m t).length → (parts m t).getD k [] = B'.getD (a + k) []) (Y : List Part) :
    scan 0 ((B'.take (a + cnt t.length)).map unp ++ Y) [] = scan 0 Y (if b = true then more R m t else R) := by
  have hl := parts_len m t
  have e1 : B'.take a = B.take a := ext_getD (by rw [List.length_take, List.length_take, hB]) fun i hi => by
    rw [List.length_take] at hi
    have := hg i (by omega)
    rw [if_neg (by omega)] at this
    rw [List.getD_eq_getElem?_getD, List.getD_eq_getElem?_getD, List.getElem?_take_of_lt (by omega), List.getElem?_take_of_lt (by omega), ← List.getD_eq_getElem?_getD, ← List.getD_eq_getElem?_getD]
    exact this
  have e2 : B'.take (a + cnt t.length) = B.take a ++ (B'.drop a).take (cnt t.length) := by rw [List.take_add, e1]
  rw [e2, List.map_append, List.append_assoc, hs]
  have hQl : (((B'.drop a).take (cnt t.length)).map unp).length = cnt t.length := by rw [List.length_map, List.length_take, List.length_drop]; omega
  have hQ : ∀ k, k < cnt t.length → (((B'.drop a).take (cnt t.length)).map unp).getD k noPart = unp (B'.getD (a + k) []) := fun k hk => by
    rw [List.getD_eq_getElem?_getD, List.getElem?_map, List.getElem?_take_of_lt hk, List.getElem?_drop, List.getElem?_eq_getElem (by omega), List.getD_eq_getElem?_getD, List.getElem?_eq_getElem (by omega)]
    rfl
  have hP : ∀ k, k < cnt t.length → unp ((parts m t).getD k []) = partOf m t k := fun k hk => by rw [unp_parts h1 h2 ht hk]; rfl
  have hor : ∀ k, k < cnt t.length → B'.getD (a + k) [] = (parts m t).getD k [] ∨ B'.getD (a + k) [] = zs := fun k hk => by
    rw [hg (a + k) (by omega)]
    split
    · left; rw [show a + k - a = k by omega]
    · right; exact hz _ (by omega) (by omega)
  generalize ((B'.drop a).take (cnt t.length)).map unp = Q at *
  have hQn : Q.length = cntN t.length := by rw [hQl, cnt_nat ht]
  cases b with
  | true =>
    rw [if_pos rfl]
    have h := hb.1 rfl
    exact scan_whole ht hQn fun k hk => by
      rw [hQ k (by omega), ← h k (by omega), hP k (by omega)]
  | false =>
    rw [if_neg (by decide)]
    have hx : ∃ k, k < cnt t.length ∧ (parts m t).getD k [] ≠ B'.getD (a + k) [] := Classical.byContradiction fun hn => by
      have := hb.2 fun k hk => Classical.byContradiction fun hne => hn ⟨k, by omega, hne⟩
      cases this
    obtain ⟨i, hi, hne⟩ := hx
    refine scan_broken (n := m) (t := t) (i := i) ht hQn (fun k hk => ?_) (by omega) ?_
    · rcases hor k (by omega) with h | h
      · left; rw [hQ k (by omega), h, hP k (by omega)]
      · right; rw [hQ k (by omega), h, unp_zs]; rfl
    · rcases hor i hi with h | h
      · exact absurd h.symm hne
      · rw [hQ i hi, h, unp_zs]; rfl
structure GoesI (n : Nat) (D : Disk) (J : Jr) (c : Nat) : Prop where
  good : GoodD n D
  P : D.P = []
  on : D.off = false
  left : D.left < 0
  shut : J.shut = false
  jok : JOkN n c J
  nc : J.next ≤ c + 1
  zeros : ∀ i, J.stop ≤ i → i < n → D.B.getD i [] = zs
  scan : ∀ Y, scan 0 ((D.B.take J.stop).map unp ++ Y) [] = scan 0 Y J.R
  lt : ∀ i ∈ J.R.map (·.1), i < J.next
variable {n : Nat} {D : Disk} {J : Jr} {c : Nat}
theorem GoesI.more (h : GoesI n D J c) : GoesI n D J (c + 1) := by
  obtain ⟨j1, j2, j3, j4, j5⟩ := h.jok
  exact { h with jok := ⟨j1, j2, j3, by omega, j5⟩, nc := by have := h.nc; omega }
theorem goes_step (h : GoesI n D J c) (hc : c ≤ 20) (t : Bs) : GoesI n (app n D J t).1.1 (app n D J t).1.2 (c + 1) ∧
    (((app n D J t).2.2 = 0 ∧ (app n D J t).2.1 = J.next ∧ (app n D J t).1.2.next = J.next + 1 ∧ (app n D J t).1.2.R = J.R ++ [(J.next, t)]) ∨
     (((app n D J t).2.2 = 21 ∨ (app n D J t).2.2 = 19 ∨ (app n D J t).2.2 = 4) ∧ J.next ≤ (app n D J t).1.2.next ∧ (app n D J t).1.2.R = J.R)) := by
  have hj := h.jok
  have j1 := hj.n1; have j2 := hj.n2; have j3 := hj.stop; have j4 := hj.len
  have hnc := h.nc
  by_cases h1 : 8000 < t.length ∨ 4096 < J.next
  · have e : app n D J t = ((D, J), (0, 4)) := by unfold app; rw [h.shut, if_neg (show ¬ false = true by decide), if_pos h1]
    rw [e]
    exact ⟨h.more, .inr ⟨.inr (.inr rfl), Int.le_refl _, rfl⟩⟩
  by_cases h2 : (n : Int) - J.stop < cnt t.length
  · have e : app n D J t = ((D, J), (0, 19)) := by unfold app; rw [h.shut, if_neg (show ¬ false = true by decide), if_neg h1, if_pos h2]
    rw [e]
    exact ⟨h.more, .inr ⟨.inr (.inl rfl), Int.le_refl _, rfl⟩⟩
  have hl := parts_len J.next.toNat t
  have hw := wfr_spec (a := J.stop) (l := parts J.next.toNat t) h.good h.P h.on (by omega) parts_64
  have hg := good_wfr (a := J.stop) (l := parts J.next.toNat t) h.good (by omega) parts_64
  obtain ⟨c1, c2⟩ := hw.calm h.left
  obtain ⟨f1, f2, f3, f4⟩ := hw.fine c1
  have hBl : D.B.length = n := h.good.len
  have hBl' : (wfr n D J.stop (parts J.next.toNat t)).1.B.length = n := hg.len
  have hsc := goes_scan (B := D.B) (B' := (wfr n D J.stop (parts J.next.toNat t)).1.B) (w := fun i => isW D.W (i : Nat)) (a := J.stop) (m := J.next.toNat) (t := t) (R := J.R) (b := (wfr n D J.stop (parts J.next.toNat t)).2.2)
    (by omega) (by omega) (fun i a b => h.zeros i a (by omega)) (fun i hi => f3 i (by omega)) (by omega) (by omega) (by omega) h.scan f4
  have hzero : ∀ i, J.stop + cnt t.length ≤ i → i < n → (wfr n D J.stop (parts J.next.toNat t)).1.B.getD i [] = zs := fun i i1 i2 => by
    rw [f3 i i2, if_neg (by omega)]
    exact h.zeros i (by omega) i2
  have hmo : Go.Jn.more J.R (J.next.toNat : Nat) t = J.R ++ [(J.next, t)] := by
    rw [Int.toNat_of_nonneg (by omega)]
    exact more_new fun q => by have := h.lt _ q; omega
  rw [hmo] at hsc
  have hleft : (wfr n D J.stop (parts J.next.toNat t)).1.left < 0 := by rw [c2]; exact h.left
  cases hb : (wfr n D J.stop (parts J.next.toNat t)).2.2 with
  | true =>
    have e : app n D J t = (((wfr n D J.stop (parts J.next.toNat t)).1, jAdd J t), (J.next, 0)) := by
      unfold app
      rw [h.shut, if_neg (show ¬ false = true by decide), if_neg h1, if_neg h2, if_neg (by rw [c1]; decide), hb, if_neg (by decide)]
    rw [e]
    rw [hb, if_pos rfl] at hsc
    refine ⟨⟨hg, f1, f2, hleft, rfl, ⟨?_, ?_, ?_, ?_, hj.bad⟩, ?_, hzero, hsc, ?_⟩, .inl ⟨rfl, rfl, rfl, rfl⟩⟩
    · show 1 ≤ J.next + 1; omega
    · show J.next + 1 ≤ 4097; omega
    · show J.stop + cnt t.length ≤ n; omega
    · show (J.R ++ [(J.next, t)]).length ≤ c + 1; rw [List.length_append, List.length_singleton]; omega
    · show J.next + 1 ≤ _; omega
    · intro i hi
      have hi : i ∈ (J.R ++ [(J.next, t)]).map (·.1) := hi
      show i < J.next + 1
      rw [List.map_append, List.mem_append] at hi
      rcases hi with hi | hi
      · have := h.lt i hi; omega
      · have : i = J.next := by simpa using hi
        omega
  | false =>
    have e : app n D J t = (((wfr n D J.stop (parts J.next.toNat t)).1, jWr J t false), (0, 21)) := by
      unfold app
      rw [h.shut, if_neg (show ¬ false = true by decide), if_neg h1, if_neg h2, if_neg (by rw [c1]; decide), hb, if_pos rfl]
    rw [e]
    rw [hb, if_neg (by decide)] at hsc
    refine ⟨⟨hg, f1, f2, hleft, rfl, ⟨?_, ?_, ?_, ?_, hj.bad⟩, ?_, hzero, hsc, ?_⟩, .inr ⟨.inl rfl, ?_, rfl⟩⟩
    · show 1 ≤ J.next + 1; omega
    · show J.next + 1 ≤ 4097; omega
    · show J.stop + cnt t.length ≤ n; omega
    · show J.R.length ≤ c + 1; omega
    · show J.next + 1 ≤ _; omega
    · intro i hi
      have := h.lt i hi
      show i < J.next + 1; omega
    · show J.next ≤ J.next + 1; omega
abbrev wornD (n : Nat) (W : WM) : Disk := ⟨List.replicate n zs, [], W, false, -1⟩
theorem good_worn0 {n : Nat} (h1 : 1 ≤ n) (h2 : n ≤ 4096) : GoodD n (wornD n []) := good_new (by omega) h2
theorem good_wornS {n : Nat} {W : WM} (h : GoodD n (wornD n W)) {i : Nat} (hi : i < n) : GoodD n (wornD n (mSet W (i : Nat) true)) := by
  have hn := h.n1
  have hb : ¬ bad n (i : Nat) := by unfold bad; omega
  have hd := good_do h (o := ⟨7, (i : Nat), 0, [], []⟩) ⟨⟨(by decide : (-9223372036854775808 : Int) ≤ 7), (by decide : (7 : Int) ≤ 9223372036854775807)⟩, ⟨(by omega : (-9223372036854775808 : Int) ≤ ((i : Nat) : Int)), (by omega : ((i : Nat) : Int) ≤ 9223372036854775807)⟩, ⟨(by decide : (-9223372036854775808 : Int) ≤ 0), (by decide : (0 : Int) ≤ 9223372036854775807)⟩, Nat.zero_le _, Nat.zero_le _⟩
  have e : doD n (wornD n W) ⟨7, (i : Nat), 0, [], []⟩ = wornD n (mSet W (i : Nat) true) := by
    simp [doD, wornD, hb]
  rw [e] at hd
  exact hd
theorem goes_begin {n : Nat} {W : WM} (h : GoodD n (wornD n W)) : GoesI n (wornD n W) (opn (List.replicate n zs)) 0 := by
  rw [opn_blank]
  have hn := h.n1
  refine ⟨h, rfl, rfl, by show (-1 : Int) < 0; decide, rfl, ⟨by decide, by decide, Nat.zero_le _, Nat.le_refl _, Nat.zero_le _⟩, by decide, fun i _ hi => ?_, fun Y => rfl, fun i hi => by cases hi⟩
  show (List.replicate n zs).getD i [] = zs
  rw [List.getD_eq_getElem?_getD, List.getElem?_replicate, if_pos hi]; rfl
theorem goes_end (h : GoesI n D J c) : (opn D.B).R = J.R := by
  have hBl : D.B.length = n := h.good.len
  show Go.Jn.scan 0 (D.B.map unp) [] = J.R
  rw [show D.B.map unp = (D.B.take J.stop).map unp ++ (D.B.drop J.stop).map unp by rw [← List.map_append, List.take_append_drop], h.scan]
  refine scan_none fun i hi => ?_
  rw [List.length_map, List.length_drop] at hi
  have : ((D.B.drop J.stop).map unp).getD i noPart = unp (D.B.getD (J.stop + i) []) := by
    rw [List.getD_eq_getElem?_getD, List.getElem?_map, List.getElem?_drop, List.getElem?_eq_getElem (by omega), List.getD_eq_getElem?_getD, List.getElem?_eq_getElem (by omega)]
    rfl
  rw [this, h.zeros _ (by omega) (by omega), unp_zs]; rfl
end Go.Proofs.YtmbldnahcmkpgaaDoor

namespace Go.V
open Go.RowKit Go.L
end Go.V

namespace Go.Jn
/-- A step of a script. -/
structure JStep where
  K : Int
  I : Int
  Bit : Int
  Size : Int
  Fill : UInt8
  Pk : List Int
def jstZ : JStep := ⟨0, 0, 0, 0, 0, []⟩
end Go.Jn
namespace Go.Proofs.YtmbldnahcmkpgaaDoor
open Go.V Go.RowKit Go.L Go.Lx Go.Jn Go.Dk
set_option maxRecDepth 20000
set_option maxHeartbeats 4000000
abbrev stepA (o : JStep) : AV := .pair (.int .i64 o.K) (.pair (.int .i64 o.I) (.pair (.int .i64 o.Bit) (.pair (.int .i64 o.Size) (.pair (.int .u8 (o.Fill.toNat : Nat)) (.pair (liV o.Pk) .nul)))))
abbrev stepsA (l : List JStep) : AV := .rsl false l.length 6 (fun i => stepA (l.getD i jstZ))
theorem goes_out (s : Int) (l : List JStep) (w : List UInt8) (hl : l.length ≤ 9223372036854775807) (hw : w.length ≤ 9223372036854775807) (h : 200 < s ∨ 20 < l.length ∨ 8 < w.length ∨ s < 1) : Ok Tryd.prog 4 gK [] (.pair (.int .i64 s) (.pair (stepsA l) (.pair (bytesA false w) .nul))) (fun r h' => r = .bool true ∧ h' = []) := by
  have csan := sanity_ok
  by_cases h1 : 200 < s
  · refine Ok.of_vcC tt_ok Tryd.func4 rfl rfl (by show 3 ≤ _; decide) 0 (hlt_ok (by rfl)) fun c0 => ?_
    repeat' (first | (refine SS_ ?_) | (refine Seq.callp false (csan) Tryd.func5 gK_ok subG.refl (by rfl) (by rfl) rfl rfl rfl rfl rfl (by rfl) rfl VW_ NI_ NI_ FR_ ?_) | (refine Seq.lit (by rfl) (by rfl) LT2_ ?_) | (refine VC.litT (by rfl) LTR_ ?_) | fail)
    (refine retC_mk ([(6, .bool true)]) ([]) 0 (Sim.less [] (by rfl) R_ R_) (retQ_ok (by rfl) ([]) (fun i av h => h) ⟨?_, ?_⟩)) <;> rfl
  by_cases h2 : 20 < l.length
  · refine Ok.of_vcC tt_ok Tryd.func4 rfl rfl (by show 3 ≤ _; decide) 0 (hlt_ok (by rfl)) fun c0 => ?_
    repeat' (first | (refine SS_ ?_) | (refine Seq.callp false (csan) Tryd.func5 gK_ok subG.refl (by rfl) (by rfl) rfl rfl rfl rfl rfl (by rfl) rfl VW_ NI_ NI_ FR_ ?_) | (refine Seq.lit (by rfl) (by rfl) LT2_ ?_) | (refine VC.litT (by rfl) LTR_ ?_) | fail)
    (refine retC_mk ([(6, .bool true)]) ([]) 0 (Sim.less [] (by rfl) R_ R_) (retQ_ok (by rfl) ([]) (fun i av h => h) ⟨?_, ?_⟩)) <;> rfl
  by_cases h3 : 8 < w.length
  · refine Ok.of_vcC tt_ok Tryd.func4 rfl rfl (by show 3 ≤ _; decide) 0 (hlt_ok (by rfl)) fun c0 => ?_
    repeat' (first | (refine SS_ ?_) | (refine Seq.callp false (csan) Tryd.func5 gK_ok subG.refl (by rfl) (by rfl) rfl rfl rfl rfl rfl (by rfl) rfl VW_ NI_ NI_ FR_ ?_) | (refine Seq.lit (by rfl) (by rfl) LT2_ ?_) | (refine VC.litT (by rfl) LTR_ ?_) | fail)
    (refine retC_mk ([(6, .bool true)]) ([]) 0 (Sim.less [] (by rfl) R_ R_) (retQ_ok (by rfl) ([]) (fun i av h => h) ⟨?_, ?_⟩)) <;> rfl
  have h4 : s < 1 := by omega
  have cn := new_bad s (.inl h4)
  refine Ok.of_vcC tt_ok Tryd.func4 rfl rfl (by show 3 ≤ _; decide) 0 (hlt_ok (by rfl)) fun c0 => ?_
  repeat' (first | (refine SS_ ?_) | (refine Seq.callp false (cn) Tryd.func13 gK_ok subG.nil (by rfl) (by rfl) rfl rfl rfl rfl rfl (by rfl) rfl VW_ NI_ NI_ FR_ ?_) | (refine Seq.callp false (csan) Tryd.func5 gK_ok subG.refl (by rfl) (by rfl) rfl rfl rfl rfl rfl (by rfl) rfl VW_ NI_ NI_ FR_ ?_) | (refine Seq.lit (by rfl) (by rfl) LT2_ ?_) | (refine VC.litT (by rfl) LTR_ ?_) | (refine VC.litF (by rfl) LFA_ ?_) | fail)
  rw [show decide (s < 1) = true from decide_eq_true h4]
  (refine retC_mk ([(6, .bool true)]) ([]) 0 (Sim.less [] (by rfl) R_ R_) (retQ_ok (by rfl) ([]) (fun i av h => h) ⟨?_, ?_⟩)) <;> rfl
end Go.Proofs.YtmbldnahcmkpgaaDoor
