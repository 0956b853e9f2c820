
/- strings.Builder as objects of the call's own: the builder's block and its buffer's, as they are. -/
import Derived.Test.YthejnchhddggmaaDoorNg
set_option linter.unusedSimpArgs false
set_option linter.unusedVariables false
namespace Go.V
open Go.RowKit Go.L
/-- What a call leaves of two blocks of its own, which are told as they are. -/
theorem Out.bld {c : Ctx} {h : Asc} {w' : World} {N b g : Nat} {o0 o' og : Obj} (hh : HeapRep c h) (hc : CtxOk c) (hN : ¬ c.A N) (hN0 : N ≠ 0) (h0 : get? h 0 = some (.ob b o0)) (hos : w'.os = c.w.os) (htp : w'.tape = c.w.tape) (hout : w'.output = c.w.output) (hsz : c.w.heap.size ≤ w'.heap.size) (hbs : ∀ k, bsize c.w k ≤ bsize w' k)
    (hfr : ∀ k, k < c.w.heap.size → (∀ id av, get? h id = some av → ¬ c.G id → c.ρ id ≠ k) → w'.heap[k]? = c.w.heap[k]?) (hb' : w'.heap[b]? = some o') (hg' : w'.heap[g]? = some og) (hne : b ≠ g) (hgo : (∃ j av, get? h j = some av ∧ ¬ c.G j ∧ c.ρ j = g) ∨ c.w.heap.size ≤ g) :
    Out c h [(0, .ob b o'), (N, .ob g og)] [N] { w := w', ρ := fun i => if i = N then g else c.ρ i, A := fun i => c.A i ∨ i = N, G := fun i => c.G i ∧ i ≠ N, S := c.S, B := c.B } := by
  obtain ⟨hG0, hρ0, hb0⟩ := ob_at hh h0
  have hneA : ∀ i, c.A i → i ≠ N := fun i hi e => hN (e ▸ hi)
  have hSk : ∀ k, c.S k → w'.heap[k]? = c.w.heap[k]? := fun k hS => hfr k (hc.S k hS) fun id av hi hG e => hh.nS id av hi hG (e ▸ hS)
  have hgS : ¬ c.S g := fun hS => by
    rcases hgo with ⟨j, av, hj, hGj, e⟩ | h1
    · exact hh.nS j av hj hGj (e ▸ hS)
    · have := hc.S g hS; omega
  have hle : Le c { w := w', ρ := fun i => if i = N then g else c.ρ i, A := fun i => c.A i ∨ i = N, G := fun i => c.G i ∧ i ≠ N, S := c.S, B := c.B } := by
    refine ⟨fun i hi => .inl hi, fun i hi => if_neg (hneA i hi), fun i hi => ⟨fun h => h.1, fun h => ⟨h, hneA i hi⟩⟩, fun i hi hG => ?_, fun k hS _ => ⟨hS, fun h => h, hSk k hS⟩⟩
    show bsize c.w (c.ρ i) ≤ bsize w' (if i = N then g else c.ρ i)
    rw [if_neg (hneA i hi)]; exact hbs _
  have hcase : ∀ {id : Nat} {a : AV}, get? [(0, AV.ob b o'), (N, AV.ob g og)] id = some a → (id = 0 ∧ a = .ob b o') ∨ (id = N ∧ a = .ob g og) := fun {id a} hi => by
    rw [get?_cons] at hi
    by_cases e : 0 = id
    · rw [if_pos e] at hi; cases hi; exact .inl ⟨e.symm, rfl⟩
    · rw [if_neg e, get?_cons] at hi
      by_cases e2 : N = id
      · rw [if_pos e2] at hi; cases hi; exact .inr ⟨e2.symm, rfl⟩
      · rw [if_neg e2] at hi; cases hi
  have hρ0' : (if 0 = N then g else c.ρ 0) = b := by rw [if_neg (fun e => hN0 e.symm)]; exact hρ0
  have hρN' : (if N = N then g else c.ρ N) = g := if_pos rfl
  refine ⟨hle, rfl, fun i hi => ?_, ⟨fun id a hi => ?_, fun id a hi hG => ?_, fun id a hi hG => ?_, fun id a hi hG hS => ?_, fun i j a a' hi hj _ _ e => ?_⟩, ⟨fun k hS => Nat.lt_of_lt_of_le (hc.S k hS) hsz, Nat.le_trans hc.B hsz⟩, hos, htp, hout, hsz, hfr, fun id a hi hG => ?_, fun k hS => .inl hS⟩
  · rcases hi with h | h
    · exact .inl h
    · exact .inr (by rw [h]; exact List.mem_singleton.2 rfl)
  · rcases hcase hi with ⟨rfl, rfl⟩ | ⟨rfl, rfl⟩
    · exact .inl (hh.A 0 _ h0)
    · exact .inr rfl
  · rcases hcase hi with ⟨rfl, rfl⟩ | ⟨rfl, rfl⟩
    · refine .inr (.inr ⟨o', ?_, ?_⟩)
      · show AV.ob b o' = .ob (if 0 = N then g else c.ρ 0) o'
        rw [hρ0']
      · show w'.heap[if 0 = N then g else c.ρ 0]? = _
        rw [hρ0']; exact hb'
    · refine .inr (.inr ⟨og, ?_, ?_⟩)
      · show AV.ob g og = .ob (if id = id then g else c.ρ id) og
        rw [if_pos rfl]
      · show w'.heap[if id = id then g else c.ρ id]? = _
        rw [if_pos rfl]; exact hg'
  · rcases hcase hi with ⟨rfl, rfl⟩ | ⟨rfl, rfl⟩
    · exact absurd hG.1 hG0
    · exact absurd rfl hG.2
  · rcases hcase hi with ⟨rfl, rfl⟩ | ⟨rfl, rfl⟩
    · have hS : c.S (if 0 = N then g else c.ρ 0) := hS
      rw [hρ0'] at hS
      exact hh.nS 0 _ h0 hG0 (by rw [hρ0]; exact hS)
    · have hS : c.S (if id = id then g else c.ρ id) := hS
      rw [if_pos rfl] at hS
      exact hgS hS
  · have e : (if i = N then g else c.ρ i) = (if j = N then g else c.ρ j) := e
    rcases hcase hi with ⟨rfl, rfl⟩ | ⟨rfl, rfl⟩ <;> rcases hcase hj with ⟨rfl, rfl⟩ | ⟨rfl, rfl⟩
    · rfl
    · rw [hρ0', if_pos rfl] at e; exact absurd e hne
    · rw [hρ0', if_pos rfl] at e; exact absurd e.symm hne
    · rfl
  · rcases hcase hi with ⟨rfl, rfl⟩ | ⟨rfl, rfl⟩
    · exact .inl ⟨0, _, h0, hG0, by show c.ρ 0 = (if 0 = N then g else c.ρ 0); rw [hρ0', hρ0]⟩
    · show (∃ j av, get? h j = some av ∧ ¬ c.G j ∧ c.ρ j = (if id = id then g else c.ρ id)) ∨ c.w.heap.size ≤ (if id = id then g else c.ρ id)
      rw [if_pos rfl]; exact hgo
theorem Out.lose {c : Ctx} {h : Asc} {w' : World} (hh : HeapRep c h) (hc : CtxOk c) (hos : w'.os = c.w.os) (htp : w'.tape = c.w.tape) (hout : w'.output = c.w.output) (hsz : c.w.heap.size ≤ w'.heap.size) (hbs : ∀ k, bsize c.w k ≤ bsize w' k)
    (hfr : ∀ k, k < c.w.heap.size → (∀ id av, get? h id = some av → ¬ c.G id → c.ρ id ≠ k) → w'.heap[k]? = c.w.heap[k]?) : Out c h [] [] { c with w := w' } := by
  have hSk : ∀ k, c.S k → w'.heap[k]? = c.w.heap[k]? := fun k hS => hfr k (hc.S k hS) fun id av hi hG e => hh.nS id av hi hG (e ▸ hS)
  have hnil : ∀ {id : Nat} {av : AV} {p : Prop}, get? ([] : Asc) id = some av → p := fun h => by cases h
  exact ⟨⟨fun i hi => hi, fun i hi => rfl, fun i hi => Iff.rfl, fun i hi hG => hbs _, fun k hS _ => ⟨hS, fun h => h, hSk k hS⟩⟩, rfl, fun i hi => .inl hi, ⟨fun _ _ h => hnil h, fun _ _ h => hnil h, fun _ _ h => hnil h, fun _ _ h => hnil h, fun _ _ _ _ h => hnil h⟩, ⟨fun k hS => Nat.lt_of_lt_of_le (hc.S k hS) hsz, Nat.le_trans hc.B hsz⟩, hos, htp, hout, hsz, hfr, fun _ _ h => hnil h, fun k hS => .inl hS⟩
theorem freeze_facts (w : World) (g n : Nat) : (w.freeze ⟨g, 0, none⟩ n).os = w.os ∧ (w.freeze ⟨g, 0, none⟩ n).tape = w.tape ∧ (w.freeze ⟨g, 0, none⟩ n).output = w.output ∧ (w.freeze ⟨g, 0, none⟩ n).heap.size = w.heap.size ∧ (∀ k, k ≠ g → (w.freeze ⟨g, 0, none⟩ n).heap[k]? = w.heap[k]?) ∧ ∀ k, bsize w k ≤ bsize (w.freeze ⟨g, 0, none⟩ n) k := by
  unfold World.freeze
  split
  · exact ⟨rfl, rfl, rfl, rfl, fun _ _ => rfl, fun _ => Nat.le_refl _⟩
  · refine ⟨rfl, rfl, rfl, by simp, fun k hk => ?_, fun k => ?_⟩
    · simp only [Array.getElem?_modify]
      rw [if_neg (fun e => hk e.symm)]
    · unfold bsize
      simp only [Array.getElem?_modify]
      by_cases e : g = k
      · subst e
        rw [if_pos rfl]
        cases hx : w.heap[g]? with
        | none => exact Nat.le_refl _
        | some o =>
          cases o <;> first | exact Nat.le_refl _ | (simp only [Option.map_some]; split <;> simp_all)
      · rw [if_neg e]; exact Nat.le_refl _
/-- A call whose contract leaves something open. -/
theorem Seq.calloE {X : Type} {Pr : X → Prop} {F : Fr} {ops : Array Oper} {l : List Oper} {e h g : Asc} {N : Nat} {K : St → Prop} {d : Tmp} {ty : TypeId} {pos : String} {af : Array Edge} {gd : Option (Nat × Bool)} {fid : FuncId} {fn : Func} {callee : Operand} {xs : Array Operand} {tys : Array TypeId} {u1 u2 ax args argsC : AV} {g' hin hr : Asc} {r0 : X → AV} {h1 h2 : X → Asc} (bw : Bool) (σ τ : List (Nat × Nat)) (v : X → AV) (hn : X → Asc) (N' : Nat)
    (ct : Ok F.P fid g' hin args (fun r h' => ∃ x, Pr x ∧ r = r0 x ∧ h' = h1 x)) (hf : F.P.funcs[fid]? = some fn) (hG : GOk g) (hg' : subG g' g)
    (hce : V.ev g e callee = some (.fn (.func fid) u1 u2)) (hax : evs g e xs.toList = some ax) (hc1 : isChain u1 = true) (hc2 : isChain ax = true) (hcat : catC u1 (catC ax u2) = argsC)
    (hbd : fn.body.isNone = false) (hnm : (fn.name == "runtime.NumGoroutine") = false) (hw : wants ops ⟨some d, .call ⟨.value callee, xs, tys⟩, ty, pos, af, gd⟩ e = some true) (hd2 : Nat.blt d F.n = true)
    (hσ : passB σ (keys hin) = true) (hdr : dropO h (passed σ hin) some = some hr) (hcat2 : ∀ x, catO (hn x) hr some = some (h2 x))
    (hv : View h (fun id => bw = true ∧ memB id (passed σ hin) = false) (fun i => memB i (keys hin) = true) (sg σ) args argsC) (hnf : NoFr args)
    (hhin : HeapLe (fun i => memB i (keys hin) = true) (sg σ) h hin) (hnfh : ∀ i av, get? hin i = some av → NoFr av) (hback : ∀ x, Back bw σ τ hin N N' (r0 x) (h1 x) (v x) (hn x))
    (hk : ∀ x, Pr x → Seq F ops l ⟨(d, v x) :: e, h2 x, g, N'⟩ K) : Seq F ops (⟨some d, .call ⟨.value callee, xs, tys⟩, ty, pos, af, gd⟩ :: l) ⟨e, h, g, N⟩ K := by
  subst hcat
  rw [dropO_eq] at hdr
  cases hdr
  refine Seq.to (fun s' => ∃ x, Pr x ∧ s' = ⟨(d, v x) :: e, hn x ++ dropL h (passed σ hin), g, N'⟩) hw (call_to rfl hce hax hc1 hc2 hf hbd hnm ct (hG.hand hg') σ bw hσ hv hnf hhin hnfh (by simpa [dstB] using hd2) fun r h' hr => ?_) fun s' hs' => ?_
  · obtain ⟨x, hx, rfl, rfl⟩ := hr
    exact ⟨v x, hn x, τ, N', hback x, x, hx, rfl⟩
  · obtain ⟨x, hx, rfl⟩ := hs'
    have h3 := hcat2 x
    rw [catO_eq] at h3
    rw [show hn x ++ dropL h (passed σ hin) = h2 x from Option.some.inj h3]
    exact hk x hx
end Go.V
namespace Go.Proofs.YthejnchhddggmaaDoor
open Go.V Go.RowKit Go.U Go.L
set_option maxRecDepth 10000
set_option maxHeartbeats 2000000
/-- A builder that was not written; one that was, and its buffer. -/
abbrev bldF (b : Nat) : AV := .ob b (bObj (.pointer none) (.slice none 0 0))
structure BX where
  b : Nat
  g : Nat
  cap : Nat
  cur : Array Value
abbrev bldU (x : BX) (n : Nat) : AV := .ob x.b (bObj (.pointer (some ⟨x.b, 0, none⟩)) (.slice (some ⟨x.g, 0, none⟩) n x.cap))
abbrev bufU (x : BX) : AV := .ob x.g (.cells x.cur 5 (0, 0))
def BX.ok (x : BX) (L : List UInt8) : Prop := L.length ≤ x.cap ∧ x.cap ≤ maxLen ∧ x.cur.size = x.cap ∧ x.cur.toList.take L.length = u8s L ∧ x.b ≠ x.g
abbrev wrT (n : Nat) : AV := .tup (.pair (.int .i64 (n : Nat)) (.pair (.val .nilIface) .nul))
theorem rep_wrT (c : Ctx) (n : Nat) : Rep c (wrT n) .V [.tuple #[.int .i64 n, .nilIface]] := ⟨[.int .i64 n, .nilIface], rfl, .int .i64 n, [.nilIface], rfl, rfl, .nilIface, [], rfl, ⟨rfl, trivial⟩, rfl⟩
theorem rd_other {c : Ctx} (hc : CtxOk c) {fr : Bool} {l : List UInt8} {v : Value} (h : Rep c (bytesA fr l) .V [v]) {w' : World} (hw : ∀ k, c.S k → w'.heap[k]? = c.w.heap[k]?) : Rd w' c.w.heap.size v l.length (u8s l) := by
  obtain ⟨a, cap, e, h1, h2, h3⟩ := h
  simp only [List.cons.injEq, and_true] at e
  subst e
  refine ⟨a, cap, rfl, by omega, fun hne => ?_⟩
  rcases h3 with h3 | ⟨b, o, xs, rfl, hS, _, hcl, hx⟩
  · rw [List.length_eq_zero_iff.1 h3] at hne; exact absurd rfl hne
  · have := (rep_u8A (c := c) rfl).1 hx
    subst this
    exact ⟨b, o, rfl, hc.S b hS, hcl.congr (hw b hS)⟩
theorem writeF_ok (b : Nat) (l : List UInt8) (h1 : 0 < l.length) (hl : l.length ≤ 1000000000) : Ok Tryd.prog 25 [] [(0, bldF b)] (.pair (.ptr 0 []) (.pair (bytesA false l) .nul)) (fun r h' => ∃ x : BX, (x.ok l ∧ x.b = b) ∧ r = wrT l.length ∧ h' = [(0, bldU x l.length), (1, bufU x)]) := by
  intro c hg hh hc hB hA vs hvs
  obtain ⟨v1, t1, rfl, hp, v2, t2, rfl, hr, ht⟩ := hvs
  have ht : t2 = [] := ht
  subst ht
  obtain ⟨hG0, hρ0, hb0⟩ := ob_at hh (show get? [(0, bldF b)] 0 = some (bldF b) from rfl)
  obtain ⟨_, _, hv1⟩ := hp
  rw [hρ0] at hv1
  have hv1 : v1 = .pointer (some ⟨b, 0, none⟩) := by simpa [pathOff] using hv1
  subst hv1
  have hBk : Blk c.w b [.pointer none, .slice none 0 0] 54 := .of hb0
  have hSb : ¬ c.S b := fun hS => hh.nS 0 _ rfl hG0 (by rw [hρ0]; exact hS)
  have hsrc := rd_other hc hr (w' := c.w.setCell ⟨b, 0, none⟩ (.pointer (some ⟨b, 0, none⟩))) fun k hS => by
    rw [hBk.setCell 0]; exact setRow_other _ _ _ _ (fun e => hSb (e ▸ hS))
  refine (write_w b (.pointer none) (.slice none 0 0) [] l v2 c.w hb0 (.inl rfl) (World.ownsRow_nil c.w 0 5 1) (fun e => by cases e) hsrc (by simpa using hl)).mono fun e w' hx => ?_
  obtain ⟨rfl, v', q1, q2, q3, q4, q5, q6, q7, q8, q9⟩ := hx
  rcases q2.2 with ⟨_, hz⟩ | ⟨g, cap, cur, rfl, _, r1, r2, r3, r4, r5⟩
  · rw [List.nil_append] at hz; omega
  · have hge : c.w.heap.size ≤ g := by
      rcases q3 g rfl with h | h
      · cases h
      · exact h
    have hlt : b < c.w.heap.size := (Array.getElem?_eq_some_iff.1 hb0).1
    have hN : ¬ c.A 1 := fun h => by obtain ⟨av, h⟩ := hA 1 h; cases h
    rw [Nat.mul_one] at r4 r5
    rw [List.nil_append] at r2 r5 q1
    refine ⟨_, _, wrT l.length, _, _, rfl, rfl, Out.bld hh hc hN (by decide) rfl q4 q5 q6 q7 q9 (fun k hk hne => q8 k hk (fun e => hne 0 _ rfl hG0 (by rw [hρ0, e])) (fun e => by cases e)) q1 r1 (by omega) (.inr hge), rep_wrT _ _, ⟨b, g, cap, cur⟩, ⟨⟨r2, r3, r4, r5, by show b ≠ g; omega⟩, rfl⟩, rfl, rfl⟩
theorem writeU_ok (x : BX) (L l : List UInt8) (hx : x.ok L) (hL : 0 < L.length) (hl : L.length + l.length ≤ 1000000000) : Ok Tryd.prog 25 [] [(0, bldU x L.length), (1, bufU x)] (.pair (.ptr 0 []) (.pair (bytesA false l) .nul)) (fun r h' => ∃ y : BX, (y.ok (L ++ l) ∧ y.b = x.b) ∧ r = wrT l.length ∧ h' = [(0, bldU y (L ++ l).length), (2, bufU y)]) := by
  intro c hg hh hc hB hA vs hvs
  obtain ⟨v1, t1, rfl, hp, v2, t2, rfl, hr, ht⟩ := hvs
  have ht : t2 = [] := ht
  subst ht
  obtain ⟨b, g0, cap0, cur0⟩ := x
  obtain ⟨x1, x2, x3, x4, x5⟩ := hx
  have x5 : b ≠ g0 := x5
  obtain ⟨hG0, hρ0, hb0⟩ := ob_at hh (show get? [(0, bldU ⟨b, g0, cap0, cur0⟩ L.length), (1, bufU ⟨b, g0, cap0, cur0⟩)] 0 = some _ from rfl)
  obtain ⟨hG1, hρ1, hb1⟩ := ob_at hh (show get? [(0, bldU ⟨b, g0, cap0, cur0⟩ L.length), (1, bufU ⟨b, g0, cap0, cur0⟩)] 1 = some _ from rfl)
  obtain ⟨_, _, hv1⟩ := hp
  have hρ0 : c.ρ 0 = b := hρ0
  have hρ1 : c.ρ 1 = g0 := hρ1
  rw [hρ0] at hv1
  have hv1 : v1 = .pointer (some ⟨b, 0, none⟩) := by simpa [pathOff] using hv1
  subst hv1
  have hBk : Blk c.w b [.pointer (some ⟨b, 0, none⟩), .slice (some ⟨g0, 0, none⟩) L.length cap0] 54 := .of hb0
  have hSb : ¬ c.S b := fun hS => hh.nS 0 _ rfl hG0 (by rw [hρ0]; exact hS)
  have hsrc := rd_other hc hr (w' := c.w.setCell ⟨b, 0, none⟩ (.pointer (some ⟨b, 0, none⟩))) fun k hS => by
    rw [hBk.setCell 0]; exact setRow_other _ _ _ _ (fun e => hSb (e ▸ hS))
  refine (write_w b (.pointer (some ⟨b, 0, none⟩)) (.slice (some ⟨g0, 0, none⟩) L.length cap0) L l v2 c.w hb0 (.inr rfl) ⟨by rw [u8s_length, Nat.mul_one], .inr ⟨g0, cap0, cur0, rfl, Nat.zero_le _, hb1, x1, x2, by rw [Nat.mul_one]; exact x3, by rw [Nat.mul_one]; exact x4⟩⟩ (fun e => x5 (by injection e with e; exact e.symm)) hsrc hl).mono fun e w' hx => ?_
  obtain ⟨rfl, v', q1, q2, q3, q4, q5, q6, q7, q8, q9⟩ := hx
  rcases q2.2 with ⟨_, hz⟩ | ⟨g, cap, cur, rfl, _, r1, r2, r3, r4, r5⟩
  · rw [List.length_append] at hz; omega
  · have hlt : b < c.w.heap.size := (Array.getElem?_eq_some_iff.1 hb0).1
    have hgo : g = g0 ∨ c.w.heap.size ≤ g := by
      rcases q3 g rfl with h | h
      · injection h with h; exact .inl h.symm
      · exact .inr h
    have hne : b ≠ g := by
      rcases hgo with h | h
      · rw [h]; exact x5
      · omega
    have hN : ¬ c.A 2 := fun h => by obtain ⟨av, h⟩ := hA 2 h; cases h
    rw [Nat.mul_one] at r4 r5
    refine ⟨_, _, wrT l.length, _, _, rfl, rfl, Out.bld hh hc hN (by decide) rfl q4 q5 q6 q7 q9 (fun k hk hnn => q8 k hk (fun e => hnn 0 _ rfl hG0 (by rw [hρ0, e])) (fun e => hnn 1 _ rfl hG1 (by rw [hρ1]; injection e with e; exact e.symm))) q1 r1 hne (hgo.imp (fun h => ⟨1, _, rfl, hG1, by rw [hρ1, h]⟩) id), rep_wrT _ _, ⟨b, g, cap, cur⟩, ⟨⟨r2, r3, r4, r5, hne⟩, rfl⟩, rfl, rfl⟩
theorem string_ok (x : BX) (L : List UInt8) (hx : x.ok L) (hL : 0 < L.length) : Ok Tryd.prog 29 [] [(0, bldU x L.length), (1, bufU x)] (.pair (.ptr 0 []) .nul) (fun r h' => r = .str L ∧ h' = []) := by
  intro c hg hh hc hB hA vs hvs
  obtain ⟨v1, t1, rfl, hp, ht⟩ := hvs
  have ht : t1 = [] := ht
  subst ht
  obtain ⟨b, g0, cap0, cur0⟩ := x
  obtain ⟨x1, x2, x3, x4, x5⟩ := hx
  obtain ⟨hG0, hρ0, hb0⟩ := ob_at hh (show get? [(0, bldU ⟨b, g0, cap0, cur0⟩ L.length), (1, bufU ⟨b, g0, cap0, cur0⟩)] 0 = some _ from rfl)
  obtain ⟨hG1, hρ1, hb1⟩ := ob_at hh (show get? [(0, bldU ⟨b, g0, cap0, cur0⟩ L.length), (1, bufU ⟨b, g0, cap0, cur0⟩)] 1 = some _ from rfl)
  obtain ⟨_, _, hv1⟩ := hp
  have hρ0 : c.ρ 0 = b := hρ0
  have hρ1 : c.ρ 1 = g0 := hρ1
  rw [hρ0] at hv1
  have hv1 : v1 = .pointer (some ⟨b, 0, none⟩) := by simpa [pathOff] using hv1
  subst hv1
  refine (string_w b (.pointer (some ⟨b, 0, none⟩)) (.slice (some ⟨g0, 0, none⟩) L.length cap0) L c.w hb0 ⟨by rw [u8s_length, Nat.mul_one], .inr ⟨g0, cap0, cur0, rfl, Nat.zero_le _, hb1, x1, x2, by rw [Nat.mul_one]; exact x3, by rw [Nat.mul_one]; exact x4⟩⟩ (by intro e; rw [e] at hL; cases hL)).mono fun e w' hx => ?_
  obtain ⟨rfl, g, hgb, rfl⟩ := hx
  obtain rfl : g0 = g := by injection hgb
  obtain ⟨f1, f2, f3, f4, f5, f6⟩ := freeze_facts c.w.drew g0 L.length
  exact ⟨{ c with w := c.w.drew.freeze ⟨g0, 0, none⟩ L.length }, _, .str L, [], [], rfl, rfl, Out.lose hh hc f1 f2 f3 (by rw [f4]; exact Nat.le_refl _) f6 (fun k hk hnn => f5 k (fun e => hnn 1 _ rfl hG1 (by rw [hρ1, e]))), rfl, rfl, rfl⟩
end Go.Proofs.YthejnchhddggmaaDoor
