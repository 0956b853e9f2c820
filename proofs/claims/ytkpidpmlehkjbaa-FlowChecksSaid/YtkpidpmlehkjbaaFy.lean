/- != of a slice and nil; the nil slice and nil. -/
import Derived.Test.YtkpidpmlehkjbaaFq
set_option linter.unusedSimpArgs false
set_option linter.unusedVariables false
namespace Go.V
open Go.RowKit Go.L
/-- A slice that has elements is not nil. -/
theorem slne_ok {P : Program} {T : List (Option TI)} (hT : TabOk P T) {t yt eT : TypeId} {g e h : Asc} {x y : Operand} {d : Option Tmp} {ty : TypeId} {pos : String} {af : Array Edge} {gd : Option (Nat × Bool)} {u : AV} {n : Nat} (hx : ev g e x = some u) (hy : ev g e y = some (.val (.slice none 0 0)))
    (hk : (tget T t).map (·.kind) = some (.slice eT)) (hl : evLen u = some n) (hs : (match u with | .sl .. | .rsl .. => true | _ => false) = true) (h0 : 0 < n) : OpOk P ⟨d, .binOp .neq t x y yt, ty, pos, af, gd⟩ g e h (some (.bool true)) h [] := by
  cases htt : tget T t with
  | none => rw [htt] at hk; cases hk
  | some ti =>
  rw [htt] at hk
  simp only [Option.map_some, Option.some.injEq] at hk
  have hu := (hT t ti htt).und
  rw [hk] at hu
  have hu : P.underlying t = some (.slice eT) := hu
  refine OpOk.val fun c a he hh hc => ⟨.bool true, ?_, rfl⟩
  have hyv := rep_val (ev_rep he hy)
  have hxv : ∃ ad m cap, a.eval x = .slice (some ad) m cap := by
    have hr := ev_rep he hx
    cases u <;> try (cases hs; done)
    · cases hl
      obtain ⟨_, ⟨_, hz, _, _⟩ | ⟨_, _, _, hv, _⟩⟩ := rep_sl hr
      · omega
      · exact ⟨_, _, _, hv⟩
    · cases hl
      obtain ⟨_, _, hv, _, _, hz | ⟨b, o, xs, hb, _⟩⟩ := hr
      · omega
      · simp only [List.cons.injEq, and_true] at hv
        subst hb
        exact ⟨_, _, _, hv⟩
  obtain ⟨ad, m, cap, hxv⟩ := hxv
  have heq : (Op.equal t (.slice (some ad) m cap) (.slice none 0 0)).run P c.w = .ok false c.w := eqIn_sl c.w 9999 hu ad m cap
  have hg : (eqGuard .neq t x y (.slice (some ad) m cap) (.slice none 0 0)).run P c.w = .ok () c.w := by unfold eqGuard; rfl
  simp only [execOp, hxv, hyv, Sem.run_bind, hg, Result.andThen_ok]
  simp [binOp, heq]
/-- nil is nil. -/
theorem slnn_ok {P : Program} {T : List (Option TI)} (hT : TabOk P T) {t yt eT : TypeId} {g e h : Asc} {x y : Operand} {d : Option Tmp} {ty : TypeId} {pos : String} {af : Array Edge} {gd : Option (Nat × Bool)} (hx : ev g e x = some (.val (.slice none 0 0))) (hy : ev g e y = some (.val (.slice none 0 0)))
    (hk : (tget T t).map (·.kind) = some (.slice eT)) : OpOk P ⟨d, .binOp .neq t x y yt, ty, pos, af, gd⟩ g e h (some (.bool false)) h [] := by
  cases htt : tget T t with
  | none => rw [htt] at hk; cases hk
  | some ti =>
  rw [htt] at hk
  simp only [Option.map_some, Option.some.injEq] at hk
  have hu := (hT t ti htt).und
  rw [hk] at hu
  have hu : P.underlying t = some (.slice eT) := hu
  refine OpOk.val fun c a he hh hc => ⟨.bool false, ?_, rfl⟩
  have hyv := rep_val (ev_rep he hy)
  have hxv := rep_val (ev_rep he hx)
  have heq : (Op.equal t (.slice none 0 0) (.slice none 0 0)).run P c.w = .ok true c.w := eqIn_sl0 c.w 9999 hu 0 0
  have hg : (eqGuard .neq t x y (.slice none 0 0) (.slice none 0 0)).run P c.w = .ok () c.w := by unfold eqGuard; rfl
  simp only [execOp, hxv, hyv, Sem.run_bind, hg, Result.andThen_ok]
  simp [binOp, heq]
end Go.V
