/- Cases that come together again; more steps. -/
import Derived.Test.YtnklmheoecblfaaDoorFd
set_option linter.unusedSimpArgs false
set_option linter.unusedVariables false
namespace Go.V
open Go.RowKit Go.L
theorem Seq.mono {F : Fr} {ops : Array Oper} {l : List Oper} {s : St} {K K' : St → Prop} (h : Seq F ops l s K) (hk : ∀ s', K s' → K' s') : Seq F ops l s K' := by
  induction h with
  | nil h => exact .nil (hk _ h)
  | step N' hw ok hn hN hd _ ih => exact .step N' hw ok hn hN hd (ih hk)
  | skip hw hd _ ih => exact .skip hw hd (ih hk)
  | to S' hw ok _ ih => exact .to S' hw ok fun s' hs => ih s' hs hk
  | conv h _ ih => exact .conv h (ih hk)
/-- The rest of a region in cases; the states behind it are one family. -/
theorem Seq.join {F : Fr} {ops : Array Oper} {l : List Oper} {s : St} {y : Code} {Q : Exit → St → Prop} {X : Type} (I : X → St) (J : X → Prop) (h1 : Seq F ops l s (fun s' => ∃ u, J u ∧ ∀ a w, Sim F s' a w → Sim F (I u) a w)) (h2 : ∀ u, J u → VC F y Q (I u)) : Seq F ops l s (thenQ (VC F y Q) Q .normal) :=
  h1.mono fun _ ⟨u, hJ, hc⟩ => VC.conv hc (h2 u hJ)
/-- A block (a loop in it) with several ends; the states behind it are one family. -/
theorem VC.join {F : Fr} {x y : Code} {Q : Exit → St → Prop} {s : St} {id : Nat} {X : Type} (I : X → St) (J : X → Prop) (h1 : VC F x (inQ id (thenQ (fun s' => ∃ u, J u ∧ ∀ a w, Sim F s' a w → Sim F (I u) a w) Q)) s) (h2 : ∀ u, J u → VC F y Q (I u)) : VC F x (inQ id (thenQ (VC F y Q) Q)) s :=
  h1.mono fun e s' hq => by
    cases e with
    | exit i =>
      unfold inQ at hq ⊢
      cases hb : Nat.beq i id with
      | true =>
        simp only [hb, cond_true] at hq ⊢
        obtain ⟨u, hJ, hc⟩ := hq
        exact VC.conv hc (h2 u hJ)
      | false => simp only [hb, cond_false] at hq ⊢; exact hq
    | normal =>
      obtain ⟨u, hJ, hc⟩ := hq
      exact VC.conv hc (h2 u hJ)
    | _ => exact hq
end Go.V
