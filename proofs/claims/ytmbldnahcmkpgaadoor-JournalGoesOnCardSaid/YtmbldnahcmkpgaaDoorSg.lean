/- A map's keys, sorted by the library: the kit's contract as one over abstract values. -/
import Derived.Test.YtmbldnahcmkpgaaDoorFe
import Derived.Shelf.SlIterI.Nil
import Derived.Shelf.SortM.Plain
import Derived.Shelf.SortM.SortNone
set_option linter.unusedSimpArgs false
set_option linter.unusedVariables false
namespace Go.V
open Go.RowKit Go.L Go.Maps Go.Proofs Go.Shelf
theorem Out.later {c : Ctx} {h : Asc} {w' : World} (hh : HeapRep c h) (hc : CtxOk c) (hB : c.B = c.w.heap.size) (hb : Below c.w.heap.size c.w w') : Out c h h [] (Later c w') := by
  have h0 := out_later hc hB hb
  refine ⟨h0.le, h0.B, h0.A, ⟨fun id av hi => hh.A id av hi, fun id av hi hg => ?_, fun id av hi hg => hh.gh id av hi hg, fun id av hi hg hS => ?_, fun i j a b hi hj hgi hgj e => hh.inj i j a b hi hj hgi hgj e⟩, h0.ok, h0.os, h0.tape, h0.output, h0.size, fun b hb' _ => hb.block b hb', fun id av hi hg => .inl ⟨id, av, hi, hg, rfl⟩, fun b hS => ?_⟩
  · exact (hh.obj id av hi hg).le h0.le (hb.block _ (hh.obj id av hi hg).lt)
  · have hlt := (hh.obj id av hi hg).lt
    rcases hS with hS | hS
    · exact hh.nS id av hi hg hS
    · have : c.w.heap.size ≤ c.ρ id := hS.1
      omega
  · rcases hS with hS | hS
    · exact .inl hS
    · exact .inr (.inl hS.1)
theorem Ok.of_callsH {P : Program} {f : FuncId} {g h h1 : Asc} {args : AV} {R : AV → Asc → Prop} (hs : ∀ i av, get? h1 i = some av → get? h i = some av)
    (H : ∀ c vs, CtxOk c → c.B = c.w.heap.size → HeapRep c h → Rep c args .T vs →
      Calls P f vs.toArray c.w fun e w' => Below c.w.heap.size c.w w' ∧ ∃ v r, e = .returned v ∧ R r h1 ∧ Rep (Later c w') r .V [v]) : Ok P f g h args R := by
  intro c hg hh hc hB hA vs hvs
  refine (H c vs hc hB hh hvs).mono fun e w' hx => ?_
  obtain ⟨hb, v, r, rfl, hR, hr⟩ := hx
  exact ⟨Later c w', v, r, h1, [], rfl, rfl, (Out.later hh hc hB hb).shrink hs, hr, hR⟩
/-- A row of the call's own, as memory that stays. -/
theorem rep_ownsRow {c : Ctx} {w' : World} (hB : c.B = c.w.heap.size) (hb : Below c.w.heap.size c.w w') {e : TypeId} {v : Value} {l : List Int} {k : IntKind} (h : w'.ownsRow c.w.heap.size e 1 v l.length (l.map (Value.int k))) :
    Rep (Later c w') (.rsl true l.length 1 (fun i => .int k (l.getD i 0))) .V [v] := by
  obtain ⟨hl, h2⟩ := h
  rcases h2 with ⟨rfl, h0⟩ | ⟨g, cap, cur, rfl, hg, hcur, h3, h4, h5, h6⟩
  · exact ⟨none, 0, by rw [h0], by omega, Nat.zero_le _, .inl h0⟩
  · refine ⟨_, cap, rfl, h3, h4, ?_⟩
    refine .inr ⟨g, 0, l.map (Value.int k), rfl, .inr ⟨hg, (Array.getElem?_eq_some_iff.1 hcur).1⟩, fun _ => by show c.B ≤ g; omega, fun j u hu => ?_, by simp, fun i hi => ?_⟩
    · show w'.cell? _ = _
      rw [cell_of_row _ _ _ _ _ _ hcur]
      rw [Nat.mul_one] at h6
      rw [← h6] at hu
      rw [List.getElem?_take] at hu
      split at hu
      · rw [Nat.zero_add, ← Array.getElem?_toList]; exact hu
      · cases hu
    · show sub (l.map (Value.int k)) (i * 1) 1 = [.int k (l.getD i 0)]
      apply List.ext_getElem?
      intro j
      rw [sub_get, Nat.mul_one]
      have : i < l.length := hi
      split
      · obtain rfl : j = 0 := by omega
        simp [this]
      · rw [List.getElem?_eq_none (by simp; omega)]
/-- The map's block, as the kit's contracts want it. -/
theorem owns_of {P : Program} {kt : TypeId} (hk : P.underlying kt = some (.int .i64)) {w : World} {b clock : Nat} {es : Array MapEntry} {ks : List Int} (hb : w.heap[b]? = some (.map es clock)) (hkeys : es.toList.map (·.key) = ks.map (Value.int .i64)) (hnd : ks.Nodup)
    (hwf : ∀ k ∈ ks, (Lit.int .i64 k).wf = true) (h1 : ∀ i (h : i < es.size), es[i].born < clock) (h2 : ∀ i j (hi : i < es.size) (hj : j < es.size), es[i].born = es[j].born → i = j) (hsz : ks.length ≤ maxLen) :
    ∃ D0 : DataW Unit, w.ownsMap P kt (fun _ => some (.nil, [])) b ks.length D0 ∧ (intKeys D0).Perm ks ∧ Maps.size D0 = ks.length := by
  have hlen : es.size = ks.length := by
    have := congrArg List.length hkeys
    simpa using this
  have hkey : ∀ x ∈ es.toList, ∃ k, x.key = .int .i64 k ∧ (Lit.int .i64 k).wf = true := fun x hx => by
    have : x.key ∈ es.toList.map (·.key) := List.mem_map.2 ⟨x, hx, rfl⟩
    rw [hkeys] at this
    obtain ⟨k, hk1, hk2⟩ := List.mem_map.1 this
    exact ⟨k, hk2.symm, hwf k hk1⟩
  have hread : ∀ x ∈ es.toList, WideElems.rd P kt (fun _ => some ((.nil : DataW Unit), [])) x = some (.int .i64 (match x.key with | .int _ k => k | _ => 0), .nil) := fun x hx => by
    obtain ⟨k, e1, e2⟩ := hkey x hx
    simp [WideElems.rd, keyOf, hk, mapKey, e1, e2]
  have hrg : es.toList.map (WideElems.rg P kt (fun _ => some ((.nil : DataW Unit), []))) = ks.map fun k => (Lit.int .i64 k, .nil) := by
    have : es.toList.map (WideElems.rg P kt (fun _ => some ((.nil : DataW Unit), []))) = (es.toList.map (·.key)).map fun v => (Lit.int .i64 (match v with | .int _ k => k | _ => 0), .nil) := by
      rw [List.map_map]
      refine List.map_congr_left fun x hx => ?_
      rw [WideElems.rg_of (hread x hx)]; rfl
    rw [this, hkeys, List.map_map]; rfl
  refine ⟨_, ⟨es, clock, hb, ⟨by omega, ⟨fun x hx => ?_, ?_, ?_⟩, fun x hx => ⟨_, hread x hx⟩⟩, by omega, rfl⟩, ?_, ?_⟩
  · obtain ⟨i, hi, rfl⟩ := List.getElem_of_mem hx
    exact h1 i (by simpa using hi)
  · rw [List.Nodup, List.pairwise_map, List.pairwise_iff_getElem]
    intro i j hi hj hij e
    have := h2 i j (by simpa using hi) (by simpa using hj) (by simpa using e)
    omega
  · rw [hkeys]
    exact List.pairwise_map.2 (hnd.imp fun h e => h (by simpa using e))
  · rw [hrg]
    show (((ks.map fun k => (Lit.int .i64 k, (DataW.nil : DataW Unit))).foldr DataW.insert []).map fun p => intOf p.1).Perm ks
    have := (Go.WideShapes.sorted_perm (ks.map fun k => (Lit.int .i64 k, (DataW.nil : DataW Unit)))).map fun p => intOf p.1
    rw [List.map_map] at this
    have h3 : List.map ((fun p : Lit × DataW Unit => intOf p.1) ∘ fun k => (Lit.int .i64 k, DataW.nil)) ks = ks := by
      conv => rhs; rw [← List.map_id ks]
      rfl
    rw [h3] at this
    exact this
  · show (((es.toList.map (WideElems.rg P kt (fun _ => some ((.nil : DataW Unit), [])))).foldr DataW.insert [])).length = ks.length
    rw [hrg, (Go.WideShapes.sorted_perm _).length_eq, List.length_map]
end Go.V
