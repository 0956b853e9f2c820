
/- What the checks say of what is proved; the documented examples. -/
import Derived.Test.YtbphmbmdkojbnaaDoorTw
set_option linter.unusedSimpArgs false
set_option linter.unusedVariables false
namespace Go.Proofs.YtbphmbmdkojbnaaDoor
open Go.V Go.RowKit Go.U Go.L
theorem checkE_proved (l : List (List UInt8)) (hl : l.length ≤ 1073741824) (p q : Nat) (h1 : p < q) (h2 : q ≤ l.length) : checkE (rootB l) l.length p (rootsD l (Tree.rest p q 0 l.length)) ((l.drop p).take (q - p)) = 0 := by
  have hlen : ((l.drop p).take (q - p)).length = q - p := by rw [List.length_take, List.length_drop]; omega
  unfold checkE
  rw [hlen, if_neg (by omega), Int.toNat_natCast, Int.toNat_natCast, show p + (q - p) = q by omega, if_pos]
  refine ⟨by unfold rootsD; rw [List.length_map], ?_⟩
  rw [val_root l p q _ _ (fun i h3 h4 => ?_) 0 l.length (by omega) 0 (Tree.Placed.all _ _ _)]
  · unfold rootB
    rw [if_neg (fun e => by rw [e] at h2; exact absurd h2 (by show ¬ q ≤ 0; omega))]
  · rw [List.getD_eq_getElem?_getD, List.getD_eq_getElem?_getD, List.getElem?_take_of_lt (by omega), List.getElem?_drop, show p + (i - p) = i by omega]
theorem extendsE_longer (l : List (List UInt8)) (hl : l.length ≤ 1073741824) (k : Nat) (h : k ≤ l.length) : extendsE (rootB (l.take k)) (rootB l) k l.length (longerR l k).1 = 0 := by
  rw [show longerR l k = if l.length = 0 then ([rootB []], 0) else (rootsD l (Tree.steps k 0 l.length), 0) by unfold longerR; rw [if_neg (by omega)]; rfl]
  unfold extendsE
  rw [if_neg (by omega)]
  by_cases h0 : l.length = 0
  · have : l = [] := List.length_eq_zero_iff.1 h0
    subst this
    rw [if_pos (by rfl), if_pos (by rfl)]
    unfold zeroE
    rw [List.take_nil]
    exact if_pos ⟨rfl, rfl, rfl, rfl⟩
  · rw [if_neg (by omega), if_neg h0]
    unfold extE
    rw [Int.toNat_natCast, Int.toNat_natCast, if_pos]
    have hne : l ≠ [] := fun e => h0 (by rw [e]; rfl)
    refine ⟨by unfold rootsD; rw [List.length_map], ?_, ?_⟩
    · have := val_root l k k (Tree.steps k 0 l.length) [] (fun i h1 h2 => by omega) 0 l.length (by omega) 0 (Tree.Placed.all _ _ _)
      refine this.trans ?_
      unfold rootB
      rw [if_neg hne]
    · by_cases hk : k = 0
      · subst hk; rw [if_pos rfl]; rfl
      · rw [if_neg hk, rootD_take l k (by omega) h]
        exact old_root l k _ 0 l.length (by omega) 0 (Tree.Placed.all _ _ _) (by omega) (by omega)
def l3 : List (List UInt8) := [[120], [121], [122]]
theorem l3_LOk : LOk l3 := ⟨by decide, fun x hx => by
  have : x = [120] ∨ x = [121] ∨ x = [122] := by simpa [l3] using hx
  rcases this with rfl | rfl | rfl <;> decide⟩
def dA : List UInt8 := leafD [120]
def dC : List UInt8 := leafD [122]
def dB : List UInt8 := nodeD (leafD [120]) (leafD [121])
def dR : List UInt8 := nodeD dB dC
theorem l3_root : rootB l3 = dR := rfl
theorem l3_take2 : rootB (l3.take 2) = dB := rfl
theorem l3_take1 : rootB (l3.take 1) = dA := rfl
theorem l3_drop2 : rootB (l3.drop 2) = dC := rfl
theorem l3_proof : proveR l3 1 2 = ⟨3, 1, [dA, dC], 0⟩ := rfl
theorem l3_longer : longerR l3 2 = ([dB, dC], 0) := rfl
theorem l3_check : checkE dR 3 1 [dA, dC] ((l3.drop 1).take 1) = 0 := by
  have h := checkE_proved l3 (by decide) 1 2 (by decide) (by decide)
  rw [l3_root, show rootsD l3 (Tree.rest 1 2 0 l3.length) = [dA, dC] from rfl] at h
  exact h
theorem l3_extends : extendsE dB dR 2 3 [dB, dC] = 0 := by
  have h := extendsE_longer l3 (by decide) 2 (by decide)
  have e : longerR l3 ((2 : Nat) : Int) = ([dB, dC], 0) := l3_longer
  rw [l3_root, l3_take2, e] at h
  exact h
theorem l3_none : checkE dB 3 1 [dA, dC] [] = 1 := if_pos (.inl rfl)
theorem dOk2 {a b : List UInt8} (ha : a.length = 16) (hb : b.length = 16) : DOk [a, b] := ⟨by simp, fun d hd => by
  have : d = a ∨ d = b := by simpa using hd
  rcases this with rfl | rfl <;> assumption⟩
end Go.Proofs.YtbphmbmdkojbnaaDoor
