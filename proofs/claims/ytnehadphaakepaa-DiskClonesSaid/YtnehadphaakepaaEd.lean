
/- Scripts of disks: what stays; runs. -/
import Derived.Test.YtnehadphaakepaaEc
set_option linter.unusedSimpArgs false
set_option linter.unusedVariables false
namespace Go.Dk
theorem flip_len (b : Bs) (k : Nat) : (flip b k).length = b.length := by unfold flip; rw [List.length_set]
theorem flip_get (b : Bs) (k j : Nat) (h : k / 8 < b.length) : (flip b k).getD j 0 = if j = k / 8 then b.getD (k / 8) 0 ^^^ UInt8.ofNat (2 ^ (k % 8)) else b.getD j 0 := by
  unfold flip
  rw [List.getD_eq_getElem?_getD, List.getElem?_set]
  by_cases e : k / 8 = j
  · rw [if_pos e, if_pos (by omega), if_pos e.symm]; rfl
  · rw [if_neg e, if_neg (fun h => e h.symm), List.getD_eq_getElem?_getD]
theorem flip_flip (b : Bs) (k : Nat) (h : k / 8 < b.length) : flip (flip b k) k = b := by
  show (flip b k).set (k / 8) ((flip b k).getD (k / 8) 0 ^^^ UInt8.ofNat (2 ^ (k % 8))) = b
  rw [flip_get b k _ h, if_pos rfl, UInt8.xor_assoc, UInt8.xor_self, UInt8.xor_zero]
  unfold flip
  rw [List.set_set, List.getD_eq_getElem?_getD, List.getElem?_eq_getElem h, Option.getD_some, List.set_getElem_self]
theorem pow8_ne (k : Nat) : UInt8.ofNat (2 ^ (k % 8)) ≠ 0 := by
  have : k % 8 < 8 := Nat.mod_lt _ (by decide)
  generalize k % 8 = m at *
  rcases (by omega : m = 0 ∨ m = 1 ∨ m = 2 ∨ m = 3 ∨ m = 4 ∨ m = 5 ∨ m = 6 ∨ m = 7) with rfl | rfl | rfl | rfl | rfl | rfl | rfl | rfl <;> decide
theorem xor_cancel (a m : UInt8) : a ^^^ (a ^^^ m) = m := by rw [← UInt8.xor_assoc, UInt8.xor_self, UInt8.zero_xor]
theorem flip_ne (b : Bs) (k : Nat) (h : k / 8 < b.length) : b ≠ flip b k := fun e => by
  have h1 := flip_get b k (k / 8) h
  rw [if_pos rfl, ← e] at h1
  have h2 := xor_cancel (b.getD (k / 8) 0) (UInt8.ofNat (2 ^ (k % 8)))
  rw [← h1, UInt8.xor_self] at h2
  exact pow8_ne k h2.symm
end Go.Dk
namespace Go.Proofs.Ytnehadphaakepaa
open Go.V Go.RowKit Go.L Go.Dk
variable {n : Nat} {B : List Bs} {P : PM} {W : WM} {off : Bool} {left : Int}
theorem Good.left' (h : Good n B P W left) {l2 : Int} (hl : i64B l2) : Good n B P W l2 := ⟨h.n0, h.n1, h.len, h.b64, h.p64, h.pnd, h.pin, h.wnd, h.win, hl⟩
theorem stpL_64 (h : i64B left) : i64B (stpL left) := by
  obtain ⟨h1, h2⟩ := h
  unfold stpL
  split <;> constructor <;> omega
theorem allB_nil (h : Good n B P W left) (picks : List Int) : (allB picks B P W).2 = [] := by
  have h1 := (inv_take h picks _ (Nat.le_refl _)).1
  rw [List.take_length] at h1
  have h2 := h1.find
  show (setB W picks 0 (sortI (P.map (·.1))) (B, P)).2 = []
  generalize (setB W picks 0 (sortI (P.map (·.1))) (B, P)).2 = P2 at *
  cases P2 with
  | nil => rfl
  | cons q r =>
    have h3 := h2 q.1
    rw [mFind, if_pos rfl] at h3
    split at h3
    · cases h3
    · rename_i hn
      refine absurd ((sortI_perm _).mem_iff.2 ?_) hn
      exact List.mem_map.2 ⟨_, mFind_mem h3.symm, rfl⟩
theorem good_allB (h : Good n B P W left) (picks : List Int) {l2 : Int} (hl : i64B l2) : Good n (allB picks B P W).1 (allB picks B P W).2 W l2 := by
  have h1 := (inv_take h picks _ (Nat.le_refl _)).1
  rw [List.take_length] at h1
  have h2 : (allB picks B P W).2 = [] := allB_nil h picks
  rw [h2]
  refine ⟨h.n0, h.n1, h1.len, h1.b64, fun q hq => (by cases hq), List.nodup_nil, fun q hq => (by cases hq), h.wnd, h.win, hl⟩
theorem m1_64 : i64B (-1) := ⟨by decide, by decide⟩
theorem good_do {D : Disk} (h : GoodD n D) {o : DOp} (ho : DOpOk o) : GoodD n (doD n D o) := by
  unfold doD
  split
  · by_cases hg : wrGo n D.off o.I (textS o.T) = true
    · have hg' := hg
      unfold wrGo at hg'
      rw [Bool.and_eq_true, decide_eq_true_eq, decide_eq_true_eq] at hg'
      obtain ⟨_, hb⟩ := chk_zero hg'.1
      have hl := stpL_64 h.l64
      show Good n D.B (if wrE n D.off D.left o.I (textS o.T) = 0 then mSet D.P o.I (textS o.T) else D.P) D.W (if wrGo n D.off o.I (textS o.T) = true then stpL D.left else D.left)
      rw [if_pos hg]
      split
      · refine ⟨h.n0, h.n1, h.len, h.b64, fun q hq => ?_, mSet_nodup h.pnd, fun q hq => ?_, h.wnd, h.win, hl⟩
        · rcases mSet_mem q hq with rfl | hq
          · exact hg'.2
          · exact h.p64 q hq
        · rcases mSet_mem q hq with rfl | hq
          · exact hb
          · exact h.pin q hq
      · exact h.left' hl
    · show Good n D.B (if wrE n D.off D.left o.I (textS o.T) = 0 then mSet D.P o.I (textS o.T) else D.P) D.W (if wrGo n D.off o.I (textS o.T) = true then stpL D.left else D.left)
      rw [if_neg hg, if_neg]
      · exact h
      · intro he
        apply hg
        unfold wrE at he
        unfold wrGo
        split at he
        · rename_i hc; exact absurd he hc
        · rename_i hc
          split at he
          · cases he
          · rename_i hs
            rw [Bool.and_eq_true, decide_eq_true_eq, decide_eq_true_eq]
            exact ⟨by simpa using hc, by simpa using hs⟩
  split
  · exact h
  split
  · split
    · exact h
    split
    · exact h
    · exact good_allB h [] (stpL_64 h.l64)
  split
  · exact h.left' ho.i
  split
  · exact good_allB h o.Pk m1_64
  split
  · by_cases hr : rotBad n o.I o.Bit
    · show Good n (if rotBad n o.I o.Bit then D.B else _) D.P D.W D.left
      rw [if_pos hr]; exact h
    · show Good n (if rotBad n o.I o.Bit then D.B else _) D.P D.W D.left
      rw [if_neg hr]
      refine ⟨h.n0, h.n1, by rw [List.length_set]; exact h.len, fun b hb => ?_, h.p64, h.pnd, h.pin, h.wnd, h.win, h.l64⟩
      rcases List.mem_or_eq_of_mem_set hb with hb | hb
      · exact h.b64 b hb
      · rw [hb, flip_len]
        refine h.b64 _ (getD_mem ?_)
        unfold rotBad bad at hr
        rw [h.len]; omega
  split
  · by_cases hr : bad n o.I
    · show Good n D.B D.P (if bad n o.I then D.W else _) D.left
      rw [if_pos hr]; exact h
    · show Good n D.B D.P (if bad n o.I then D.W else _) D.left
      rw [if_neg hr]
      refine ⟨h.n0, h.n1, h.len, h.b64, h.p64, h.pnd, h.pin, mSet_nodup h.wnd, fun q hq => ?_, h.l64⟩
      rcases mSet_mem q hq with rfl | hq
      · unfold bad at hr; constructor <;> (show _; omega)
      · exact h.win q hq
  · exact h
theorem xor64 (a b : UInt8) : bits .xor .i64 a.toNat b.toNat = ((a ^^^ b).toNat : Int) := by
  show IntKind.i64.wrap (((BitVec.ofInt 64 (a.toNat : Int)) ^^^ (BitVec.ofInt 64 (b.toNat : Int))).toNat : Int) = _
  have h1 := a.toNat_lt
  have h2 := b.toNat_lt
  have h3 : a.toNat ^^^ b.toNat < 2 ^ 8 := Nat.xor_lt_two_pow h1 h2
  rw [BitVec.toNat_xor, BitVec.toNat_ofInt, BitVec.toNat_ofInt, UInt8.toNat_xor]
  rw [show ((a.toNat : Int) % (2 ^ 64 : Nat)).toNat = a.toNat by omega, show ((b.toNat : Int) % (2 ^ 64 : Nat)).toNat = b.toNat by omega]
  generalize a.toNat ^^^ b.toNat = x at *
  simp only [IntKind.wrap, IntKind.bits, IntKind.signed]
  simp
  omega
def runD (n : Nat) (D : Disk) (l : List DOp) : Disk := l.foldl (doD n) D
theorem good_run {l : List DOp} (ho : ∀ o ∈ l, DOpOk o) : ∀ {D : Disk}, GoodD n D → GoodD n (runD n D l) := by
  induction l with
  | nil => exact fun h => h
  | cons o r ih => exact fun h => ih (fun x hx => ho x (List.mem_cons_of_mem _ hx)) (good_do h (ho o List.mem_cons_self))
theorem run_succ {D : Disk} {l : List DOp} {k : Nat} (hk : k < l.length) : runD n D (l.take (k + 1)) = doD n (runD n D (l.take k)) (l.getD k zDOp) := by
  have e : l.take (k + 1) = l.take k ++ [l.getD k zDOp] := by
    rw [List.take_add_one, List.getD_eq_getElem?_getD, List.getElem?_eq_getElem hk]; rfl
  unfold runD
  rw [e, List.foldl_append]; rfl
def newD (n : Nat) : Disk := ⟨List.replicate n zs, [], [], false, -1⟩
theorem good_new (h0 : 0 < n) (h1 : n ≤ 4096) : GoodD n (newD n) :=
  ⟨h0, h1, List.length_replicate, fun b hb => by rw [List.eq_of_mem_replicate hb]; decide, fun q hq => (by cases hq), List.nodup_nil, fun q hq => (by cases hq), List.nodup_nil, fun q hq => (by cases hq), m1_64⟩
abbrev scrA (l : List DOp) : AV := .rsl false l.length 5 (fun i => opA (l.getD i zDOp))
end Go.Proofs.Ytnehadphaakepaa
