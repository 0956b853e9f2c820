
/- A map's keys, sorted by the library: the kit's contract as one over abstract values. -/
import Derived.Test.YtfiecjpoabnfnaaFe
import Derived.Shelf.SlIterI.Nil
import Derived.Shelf.SortM.Plain
import Derived.Shelf.SortM.SortNone
set_option linter.unusedSimpArgs false
set_option linter.unusedVariables false
namespace Go.V
open Go.RowKit Go.L Go.Maps Go.Proofs Go.Shelf
theorem Out.later {c : Ctx} {h : Asc} {w' : World} (hh : HeapRep c h) (hc : CtxOk c) (hB : c.B = c.w.heap.size) (hb : Below c.w.heap.size c.w w') : Out c h h [] (Later c w') := by
  have h0 := out_later hc hB hb
  refine ⟨h0.le, h0.B, h0.A, ⟨fun id av hi => hh.A id av hi, fun id av hi hg => ?_, fun id av hi hg => hh.gh id av hi hg, fun id av hi hg hS => ?_, fun i j a b hi hj hgi hgj e => hh.inj i j a b hi hj hgi hgj e⟩, h0.ok, h0.os, h0.tape, h0.output, h0.size, fun b hb' _ => hb.block b hb', fun id av hi hg => .inl ⟨id, av, hi, hg, rfl⟩, fun b hS => ?_⟩
  · exact (hh.obj id av hi hg).le h0.le (hb.block _ (hh.obj id av hi hg).lt)
  · have hlt := (hh.obj id av hi hg).lt
    rcases hS with hS | hS
    · exact hh.nS id av hi hg hS
    · have : c.w.heap.size ≤ c.ρ id := hS.1
      omega
  · rcases hS with hS | hS
    · exact .inl hS
    · exact .inr (.inl hS.1)
end Go.V
