/- The reference's disks: their methods. The reference's disks: Write, Wear, settle, Rot. The reference's disks: Mount, Flush, Rot. Disks: full, New of the reference, start, SameTexts. dioramalaw41.sanity: the example, step by step. dioramalaw41.sanity walks. Scripts of disks: Text, do. Scripts of disks: an operation. Scripts of disks: what stays; runs. The reference's Image, Pending, Worn. The reference's SameInts and Clone. -/
import Derived.Test.YtmbldnahcmkpgaaDoorDg
import Derived.Test.YtmbldnahcmkpgaaDoorFp
set_option linter.unusedSimpArgs false
set_option linter.unusedVariables false
namespace Go.Dk
structure Sec where
  T : Bs
  X : Bs
  D : Bool
  W : Bool
def secZ : Sec := ⟨[], [], false, false⟩
/-- A sector that settles. -/
def setl (x : Sec) (m : Nat) : Sec := ⟨if x.W = true then x.T else tear m x.X x.T, [], false, x.W⟩
/-- The first k sectors settle; how many of them did. -/
def rmt (picks : List Int) : Nat → List Sec → List Sec × Nat
  | 0, S => (S, 0)
  | k + 1, S => if ((rmt picks k S).1.getD k secZ).D = true then ((rmt picks k S).1.set k (setl ((rmt picks k S).1.getD k secZ) (upto (pickAt picks (rmt picks k S).2))), (rmt picks k S).2 + 1) else rmt picks k S
structure RGood (n : Nat) (S : List Sec) : Prop where
  len : S.length = n
  t64 : ∀ s ∈ S, s.T.length = 64
  x64 : ∀ s ∈ S, s.D = true → s.X.length = 64
end Go.Dk
namespace Go.Proofs.YtmbldnahcmkpgaaDoor
open Go.V Go.RowKit Go.L Go.Dk
variable {n : Nat} {S : List Sec} {off : Bool} {left : Int}
end Go.Proofs.YtmbldnahcmkpgaaDoor

namespace Go.Proofs.YtmbldnahcmkpgaaDoor
open Go.V Go.RowKit Go.L Go.Dk
variable {n : Nat} {S : List Sec} {off : Bool} {left : Int}
end Go.Proofs.YtmbldnahcmkpgaaDoor

namespace Go.Proofs.YtmbldnahcmkpgaaDoor
open Go.V Go.RowKit Go.L Go.Dk
variable {n : Nat} {S : List Sec} {off : Bool} {left : Int}
end Go.Proofs.YtmbldnahcmkpgaaDoor

namespace Go.Proofs.YtmbldnahcmkpgaaDoor
open Go.V Go.RowKit Go.L Go.Dk
def fullS (c : UInt8) : Bs := List.replicate 64 c
end Go.Proofs.YtmbldnahcmkpgaaDoor

namespace Go.Proofs.YtmbldnahcmkpgaaDoor
open Go.V Go.RowKit Go.L Go.Dk
def sA : Bs := fullS 97
def sB : Bs := fullS 98
def sT : Bs := tear 3 sA zs
def sX : Bs := Dk.flip sA 0
theorem w1 : Ok Tryd.prog 53 [] (dH 2 [zs, zs] [] [] false (-1)) (.pair (.ptr 0 []) (.pair (.int .i64 0) (.pair (.str sA) .nul))) (fun r h' => r = .int .i64 0 ∧ h' = dH 2 [zs, zs] [(0, sA)] [] false (-1)) := by
  have h := write_ok (n := 2) (B := [zs, zs]) (P := []) (W := []) (off := false) (left := -1) (by constructor <;> decide) 0 sA
  rw [show wrE 2 false (-1) 0 sA = 0 by decide, show wrGo 2 false 0 sA = true by decide] at h
  exact h
theorem r1 : Ok Tryd.prog 33 [] (dH 2 [zs, zs] [(0, sA)] [] false (-1)) (.pair (.ptr 0 []) (.pair (.int .i64 0) .nul)) (fun r h' => r = .tup (.pair (.str sA) (.pair (.int .i64 0) .nul)) ∧ h' = dH 2 [zs, zs] [(0, sA)] [] false (-1)) :=
  read_ok (n := 2) (B := [zs, zs]) (P := [(0, sA)]) (W := []) (off := false) (left := -1) 0 rfl (by decide) (by decide)
theorem p1 : Ok Tryd.prog 68 [] (dH 2 [zs, zs] [(0, sA)] [] false (-1)) (.pair (.ptr 0 []) .nul) (fun r h' => r = intsT [0] ∧ h' = dH 2 [zs, zs] [(0, sA)] [] false (-1)) := by
  have h := pending_ok (n := 2) (B := [zs, zs]) (P := [(0, sA)]) (W := []) (off := false) (left := -1) (by decide) (fun q hq => by rw [List.mem_singleton.1 hq]; constructor <;> decide) (by decide)
  rw [show sortI (List.map (·.1) [((0 : Int), sA)]) = [0] from sortI_eq (List.Perm.refl _) (by decide)] at h
  exact h
theorem r2 : Ok Tryd.prog 33 [] (dH 2 [sT, zs] [] [] false (-1)) (.pair (.ptr 0 []) (.pair (.int .i64 0) .nul)) (fun r h' => r = .tup (.pair (.str sT) (.pair (.int .i64 0) .nul)) ∧ h' = dH 2 [sT, zs] [] [] false (-1)) :=
  read_ok (n := 2) (B := [sT, zs]) (P := []) (W := []) (off := false) (left := -1) 0 rfl (by decide) (by decide)
theorem w2 : Ok Tryd.prog 53 [] (dH 2 [sT, zs] [] [] false (-1)) (.pair (.ptr 0 []) (.pair (.int .i64 1) (.pair (.str sA) .nul))) (fun r h' => r = .int .i64 0 ∧ h' = dH 2 [sT, zs] [(1, sA)] [] false (-1)) := by
  have h := write_ok (n := 2) (B := [sT, zs]) (P := []) (W := []) (off := false) (left := -1) (by constructor <;> decide) 1 sA
  rw [show wrE 2 false (-1) 1 sA = 0 by decide, show wrGo 2 false 1 sA = true by decide] at h
  exact h
theorem good2 : Good 2 [sT, zs] [(1, sA)] [] (-1) := ⟨by decide, by decide, rfl, by decide, by decide, by decide, by decide, by decide, by decide, by constructor <;> decide⟩
theorem f1 : Ok Tryd.prog 54 [] (dH 2 [sT, zs] [(1, sA)] [] false (-1)) (.pair (.ptr 0 []) .nul) (fun r h' => r = .int .i64 0 ∧ h' = dH 2 [sT, sA] [] [] false (-1)) := by
  have h := flush_go (off := false) good2 rfl (by decide)
  have e : allB [] [sT, zs] [(1, sA)] [] = ([sT, sA], []) := by
    unfold allB
    rw [show sortI (List.map (·.1) [((1 : Int), sA)]) = [1] from sortI_eq (List.Perm.refl _) (by decide)]
    rfl
  rw [e] at h
  exact h
theorem t1 : Ok Tryd.prog 24 [] (dH 2 [sT, sA] [] [] false (-1)) (.pair (.ptr 0 []) (.pair (.int .i64 1) (.pair (.int .i64 0) .nul))) (fun r h' => r = .int .i64 0 ∧ h' = dH 2 [sT, sX] [] [] false (-1)) := by
  have h := rot_ok (n := 2) (B := [sT, sA]) (P := []) (W := []) (off := false) (left := -1) 1 0 rfl (by decide)
  rw [if_neg (by decide), if_neg (by decide)] at h
  exact h
theorem e1 : Ok Tryd.prog 14 [] (dH 2 [sT, sX] [] [] false (-1)) (.pair (.ptr 0 []) (.pair (.int .i64 0) .nul)) (fun r h' => r = .int .i64 0 ∧ h' = dH 2 [sT, sX] [] [(0, true)] false (-1)) := by
  have h := wear_ok (n := 2) (B := [sT, sX]) (P := []) (W := []) (off := false) (left := -1) 0
  rw [if_neg (by decide), if_neg (by decide)] at h
  exact h
theorem w3 : Ok Tryd.prog 53 [] (dH 2 [sT, sX] [] [(0, true)] false 1) (.pair (.ptr 0 []) (.pair (.int .i64 0) (.pair (.str sB) .nul))) (fun r h' => r = .int .i64 0 ∧ h' = dH 2 [sT, sX] [(0, sB)] [(0, true)] false 0) := by
  have h := write_ok (n := 2) (B := [sT, sX]) (P := []) (W := [(0, true)]) (off := false) (left := 1) (by constructor <;> decide) 0 sB
  rw [show wrE 2 false 1 0 sB = 0 by decide, show wrGo 2 false 0 sB = true by decide] at h
  exact h
theorem f2 : Ok Tryd.prog 54 [] (dH 2 [sT, sX] [(0, sB)] [(0, true)] false 0) (.pair (.ptr 0 []) .nul) (fun r h' => r = .int .i64 20 ∧ h' = dH 2 [sT, sX] [(0, sB)] [(0, true)] true 0) := flush_trip (by decide) rfl rfl
end Go.Proofs.YtmbldnahcmkpgaaDoor

namespace Go.Proofs.YtmbldnahcmkpgaaDoor
open Go.V Go.RowKit Go.L Go.Dk
end Go.Proofs.YtmbldnahcmkpgaaDoor

namespace Go.Dk
structure DOp where
  K : Int
  I : Int
  Bit : Int
  T : Bs
  Pk : List Int
/-- The sector that an operation writes. -/
def textS (t : Bs) : Bs := if t.length = 0 ∨ 64 ≤ t.length then t else t ++ List.replicate (64 - t.length) (t.getLastD 0)
end Go.Dk
namespace Go.Proofs.YtmbldnahcmkpgaaDoor
open Go.V Go.RowKit Go.L Go.Dk
structure DOpOk (o : DOp) : Prop where
  k : i64B o.K
  i : i64B o.I
  b : i64B o.Bit
  t : o.T.length ≤ 9223372036854775807
  p : o.Pk.length ≤ 9223372036854775807
end Go.Proofs.YtmbldnahcmkpgaaDoor

namespace Go.Proofs.YtmbldnahcmkpgaaDoor
open Go.V Go.RowKit Go.L Go.Dk
abbrev dD (n : Nat) (D : Disk) : Asc := dH n D.B D.P D.W D.off D.left
/-- The disk behind an operation; what the operation gives. -/
def doD (n : Nat) (D : Disk) (o : DOp) : Disk :=
  if o.K = 1 then ⟨D.B, if wrE n D.off D.left o.I (textS o.T) = 0 then mSet D.P o.I (textS o.T) else D.P, D.W, if wrGo n D.off o.I (textS o.T) = true then stpO D.off D.left else D.off, if wrGo n D.off o.I (textS o.T) = true then stpL D.left else D.left⟩
  else if o.K = 2 then D
  else if o.K = 3 then (if D.off = true then D else if D.left = 0 then ⟨D.B, D.P, D.W, true, D.left⟩ else ⟨(allB [] D.B D.P D.W).1, (allB [] D.B D.P D.W).2, D.W, D.off, stpL D.left⟩)
  else if o.K = 4 then ⟨D.B, D.P, D.W, D.off, o.I⟩
  else if o.K = 5 then ⟨(allB o.Pk D.B D.P D.W).1, (allB o.Pk D.B D.P D.W).2, D.W, false, -1⟩
  else if o.K = 6 then ⟨if rotBad n o.I o.Bit then D.B else D.B.set o.I.toNat (flip (D.B.getD o.I.toNat []) o.Bit.toNat), D.P, D.W, D.off, D.left⟩
  else if o.K = 7 then ⟨D.B, D.P, if bad n o.I then D.W else mSet D.W o.I true, D.off, D.left⟩
  else D
def doE (n : Nat) (D : Disk) (o : DOp) : Int :=
  if o.K = 1 then wrE n D.off D.left o.I (textS o.T)
  else if o.K = 2 then chk n D.off o.I
  else if o.K = 3 then (if D.off = true then 20 else if D.left = 0 then 20 else 0)
  else if o.K = 6 then (if rotBad n o.I o.Bit then 1 else 0)
  else if o.K = 7 then (if bad n o.I then 1 else 0)
  else 0
abbrev GoodD (n : Nat) (D : Disk) : Prop := Good n D.B D.P D.W D.left
section
variable {n : Nat} {B : List Bs} {P : PM} {W : WM} {off : Bool} {left : Int} {K I Bit : Int} {T : Bs} {Pk : List Int}
set_option maxRecDepth 10000
set_option maxHeartbeats 1000000
end
end Go.Proofs.YtmbldnahcmkpgaaDoor

namespace Go.Dk
theorem flip_len (b : Bs) (k : Nat) : (flip b k).length = b.length := by unfold flip; rw [List.length_set]
end Go.Dk
namespace Go.Proofs.YtmbldnahcmkpgaaDoor
open Go.V Go.RowKit Go.L Go.Dk
variable {n : Nat} {B : List Bs} {P : PM} {W : WM} {off : Bool} {left : Int}
theorem Good.left' (h : Good n B P W left) {l2 : Int} (hl : i64B l2) : Good n B P W l2 := ⟨h.n0, h.n1, h.len, h.b64, h.p64, h.pnd, h.pin, h.wnd, h.win, hl⟩
theorem stpL_64 (h : i64B left) : i64B (stpL left) := by
  obtain ⟨h1, h2⟩ := h
  unfold stpL
  split <;> constructor <;> omega
theorem allB_nil (h : Good n B P W left) (picks : List Int) : (allB picks B P W).2 = [] := by
  have h1 := (inv_take h picks _ (Nat.le_refl _)).1
  rw [List.take_length] at h1
  have h2 := h1.find
  show (setB W picks 0 (sortI (P.map (·.1))) (B, P)).2 = []
  generalize (setB W picks 0 (sortI (P.map (·.1))) (B, P)).2 = P2 at *
  cases P2 with
  | nil => rfl
  | cons q r =>
    have h3 := h2 q.1
    rw [mFind, if_pos rfl] at h3
    split at h3
    · cases h3
    · rename_i hn
      refine absurd ((sortI_perm _).mem_iff.2 ?_) hn
      exact List.mem_map.2 ⟨_, mFind_mem h3.symm, rfl⟩
theorem good_allB (h : Good n B P W left) (picks : List Int) {l2 : Int} (hl : i64B l2) : Good n (allB picks B P W).1 (allB picks B P W).2 W l2 := by
  have h1 := (inv_take h picks _ (Nat.le_refl _)).1
  rw [List.take_length] at h1
  have h2 : (allB picks B P W).2 = [] := allB_nil h picks
  rw [h2]
  refine ⟨h.n0, h.n1, h1.len, h1.b64, fun q hq => (by cases hq), List.nodup_nil, fun q hq => (by cases hq), h.wnd, h.win, hl⟩
theorem m1_64 : i64B (-1) := ⟨by decide, by decide⟩
theorem good_do {D : Disk} (h : GoodD n D) {o : DOp} (ho : DOpOk o) : GoodD n (doD n D o) := by
  unfold doD
  split
  · by_cases hg : wrGo n D.off o.I (textS o.T) = true
    · have hg' := hg
      unfold wrGo at hg'
      rw [Bool.and_eq_true, decide_eq_true_eq, decide_eq_true_eq] at hg'
      obtain ⟨_, hb⟩ := chk_zero hg'.1
      have hl := stpL_64 h.l64
      show Good n D.B (if wrE n D.off D.left o.I (textS o.T) = 0 then mSet D.P o.I (textS o.T) else D.P) D.W (if wrGo n D.off o.I (textS o.T) = true then stpL D.left else D.left)
      rw [if_pos hg]
      split
      · refine ⟨h.n0, h.n1, h.len, h.b64, fun q hq => ?_, mSet_nodup h.pnd, fun q hq => ?_, h.wnd, h.win, hl⟩
        · rcases mSet_mem q hq with rfl | hq
          · exact hg'.2
          · exact h.p64 q hq
        · rcases mSet_mem q hq with rfl | hq
          · exact hb
          · exact h.pin q hq
      · exact h.left' hl
    · show Good n D.B (if wrE n D.off D.left o.I (textS o.T) = 0 then mSet D.P o.I (textS o.T) else D.P) D.W (if wrGo n D.off o.I (textS o.T) = true then stpL D.left else D.left)
      rw [if_neg hg, if_neg]
      · exact h
      · intro he
        apply hg
        unfold wrE at he
        unfold wrGo
        split at he
        · rename_i hc; exact absurd he hc
        · rename_i hc
          split at he
          · cases he
          · rename_i hs
            rw [Bool.and_eq_true, decide_eq_true_eq, decide_eq_true_eq]
            exact ⟨by simpa using hc, by simpa using hs⟩
  split
  · exact h
  split
  · split
    · exact h
    split
    · exact h
    · exact good_allB h [] (stpL_64 h.l64)
  split
  · exact h.left' ho.i
  split
  · exact good_allB h o.Pk m1_64
  split
  · by_cases hr : rotBad n o.I o.Bit
    · show Good n (if rotBad n o.I o.Bit then D.B else _) D.P D.W D.left
      rw [if_pos hr]; exact h
    · show Good n (if rotBad n o.I o.Bit then D.B else _) D.P D.W D.left
      rw [if_neg hr]
      refine ⟨h.n0, h.n1, by rw [List.length_set]; exact h.len, fun b hb => ?_, h.p64, h.pnd, h.pin, h.wnd, h.win, h.l64⟩
      rcases List.mem_or_eq_of_mem_set hb with hb | hb
      · exact h.b64 b hb
      · rw [hb, flip_len]
        refine h.b64 _ (getD_mem ?_)
        unfold rotBad bad at hr
        rw [h.len]; omega
  split
  · by_cases hr : bad n o.I
    · show Good n D.B D.P (if bad n o.I then D.W else _) D.left
      rw [if_pos hr]; exact h
    · show Good n D.B D.P (if bad n o.I then D.W else _) D.left
      rw [if_neg hr]
      refine ⟨h.n0, h.n1, h.len, h.b64, h.p64, h.pnd, h.pin, mSet_nodup h.wnd, fun q hq => ?_, h.l64⟩
      rcases mSet_mem q hq with rfl | hq
      · unfold bad at hr; constructor <;> (show _; omega)
      · exact h.win q hq
  · exact h
def newD (n : Nat) : Disk := ⟨List.replicate n zs, [], [], false, -1⟩
theorem good_new (h0 : 0 < n) (h1 : n ≤ 4096) : GoodD n (newD n) :=
  ⟨h0, h1, List.length_replicate, fun b hb => by rw [List.eq_of_mem_replicate hb]; decide, fun q hq => (by cases hq), List.nodup_nil, fun q hq => (by cases hq), List.nodup_nil, fun q hq => (by cases hq), m1_64⟩
end Go.Proofs.YtmbldnahcmkpgaaDoor

namespace Go.Dk
/-- The numbers below k that a test picks, in order. -/
def picked (t : Nat → Bool) : Nat → List Int
  | 0 => []
  | k + 1 => if t k = true then picked t k ++ [(k : Int)] else picked t k
theorem picked_mem (t : Nat → Bool) : ∀ k x, x ∈ picked t k ↔ 0 ≤ x ∧ x < k ∧ t x.toNat = true
  | 0, x => by simp [picked]; omega
  | k + 1, x => by
    rw [picked]
    by_cases h : t k = true
    · rw [if_pos h, List.mem_append, picked_mem t k x, List.mem_singleton]
      constructor
      · rintro (h1 | rfl)
        · exact ⟨h1.1, by omega, h1.2.2⟩
        · exact ⟨by omega, by omega, by simpa using h⟩
      · intro h1
        by_cases e : x = k
        · exact .inr e
        · exact .inl ⟨h1.1, by omega, h1.2.2⟩
    · rw [if_neg h, picked_mem t k x]
      constructor
      · exact fun h1 => ⟨h1.1, by omega, h1.2.2⟩
      · intro h1
        refine ⟨h1.1, ?_, h1.2.2⟩
        by_cases e : x = k
        · rw [e] at h1; exact absurd (by simpa using h1.2.2) h
        · omega
theorem picked_sorted (t : Nat → Bool) : ∀ k, (picked t k).Pairwise (fun x y => x < y)
  | 0 => List.Pairwise.nil
  | k + 1 => by
    rw [picked]
    split
    · refine List.pairwise_append.2 ⟨picked_sorted t k, List.pairwise_singleton _ _, fun a ha b hb => ?_⟩
      rw [List.mem_singleton.1 hb]
      exact ((picked_mem t k a).1 ha).2.1
    · exact picked_sorted t k
/-- Keys in order are the numbers that are keys. -/
theorem sortI_picked (t : Nat → Bool) (n : Nat) {l : List Int} (hn : l.Nodup) (h : ∀ x, x ∈ l ↔ 0 ≤ x ∧ x < n ∧ t x.toNat = true) : sortI l = picked t n := by
  refine sortI_eq ?_ (picked_sorted t n)
  refine (List.perm_ext_iff_of_nodup hn ((picked_sorted t n).imp fun h => by omega)).2 fun x => ?_
  rw [h x, picked_mem]
end Go.Dk
namespace Go.Proofs.YtmbldnahcmkpgaaDoor
open Go.V Go.RowKit Go.L Go.Dk
variable {n : Nat} {S : List Sec} {off : Bool} {left : Int}
set_option maxRecDepth 10000
set_option maxHeartbeats 1000000
end Go.Proofs.YtmbldnahcmkpgaaDoor

namespace Go.Proofs.YtmbldnahcmkpgaaDoor
open Go.V Go.RowKit Go.L Go.Dk
set_option maxRecDepth 10000
set_option maxHeartbeats 1000000
end Go.Proofs.YtmbldnahcmkpgaaDoor
