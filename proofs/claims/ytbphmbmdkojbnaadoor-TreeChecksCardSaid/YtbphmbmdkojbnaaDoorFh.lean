
/- Drawn regions that write no slot that is known. -/
import Derived.Test.YtbphmbmdkojbnaaDoorFg
set_option linter.unusedSimpArgs false
set_option linter.unusedVariables false
namespace Go.V
open Go.RowKit Go.L Go.Chain
def freeB : List Nat → List Nat → Bool
  | [], _ => true
  | i :: r, l => !memB i l && freeB r l
theorem drop_free : ∀ {h : Asc} {l : List Nat}, freeB (keys h) l = true → dropL h l = h
  | [], _, _ => rfl
  | (i, v) :: r, l, e => by
    simp only [keys, freeB, Bool.and_eq_true, Bool.not_eq_true'] at e
    unfold dropL
    rw [e.1, cond_false, drop_free e.2]
/-- As draw; the region writes no slot that is known before it. -/
theorem VC.drawf {F : Fr} {id : Nat} {l : List Oper} {e h g : Asc} {N : Nat} {Q : Exit → St → Prop} (plan : List (Nat × List Nat)) (tail : List Nat) (hm : F.P.follows .mixedOrders = true) (hst : (drawB l.toArray F.n plan tail && freeB (keys e) (dstsOf l.toArray plan)) = true)
    {tops : List Oper} (htops : topsO l.toArray tail some = some tops)
    (hD : DSeq F.P l.toArray g e h plan [] N [] (fun its N' B => Seq F l.toArray tops (V.drawn its e (B ++ h) g N') (Q .normal))) : VC F (.region id l.toArray true) Q ⟨e, h, g, N⟩ := by
  rw [Bool.and_eq_true] at hst
  exact VC.draw plan tail hm hst.1 (by rw [dropO_eq, drop_free hst.2]) htops hD
theorem tbb_eq (m i : Nat) : tbb m i = (Nat.blt i 256 && m.testBit i) := by
  unfold tbb
  congr 1
  have h1 : Nat.land (Nat.shiftRight m i) 1 = (m >>> i) % 2 := Nat.and_one_is_mod (m >>> i)
  rw [h1, Nat.testBit_eq_decide_div_mod_eq, Nat.shiftRight_eq_div_pow, beq_nat]
where
  beq_nat {a b : Nat} : Nat.beq a b = decide (a = b) := by
    rw [Bool.eq_iff_iff, decide_eq_true_eq]
    exact ⟨Nat.eq_of_beq_eq_true, fun e => by rw [e]; exact Nat.beq_refl b⟩
def maskOf : List (Nat × Nat) → Nat → Nat
  | [], _ => 0
  | (j, m) :: r, i => bif Nat.beq j i then m else maskOf r i
def dirM (plan : List (Nat × Nat)) : List Edge → Nat
  | [] => 0
  | e :: r => bif Region.binds .any e then Nat.lor (Nat.lor (Nat.shiftLeft 1 e.on) (maskOf plan e.on)) (dirM plan r) else dirM plan r
def ancM (ops : Array Oper) (plan : List (Nat × Nat)) : List (Nat × Nat) → Nat → Bool
  | [], _ => true
  | (j, m) :: r, b => Nat.beq (Nat.land m b) m && (Nat.beq (Nat.land m (match ops[j]? with | some o => dirM plan o.after.toList | none => 0)) m && ancM ops plan r (Nat.lor b (Nat.shiftLeft 1 j)))
theorem tbb_sub {m a i : Nat} (h : Nat.beq (Nat.land m a) m = true) (hi : tbb m i = true) : tbb a i = true := by
  have e : m &&& a = m := Nat.eq_of_beq_eq_true h
  rw [tbb_eq] at hi ⊢
  simp only [Bool.and_eq_true] at hi ⊢
  refine ⟨hi.1, ?_⟩
  have := hi.2
  rw [← e, Nat.testBit_and, Bool.and_eq_true] at this
  exact this.2
theorem tbb_or {a b i : Nat} (h : tbb (Nat.lor a b) i = true) : tbb a i = true ∨ tbb b i = true := by
  rw [tbb_eq] at h ⊢
  rw [tbb_eq b]
  simp only [Bool.and_eq_true] at h ⊢
  have h2 : (a ||| b).testBit i = true := h.2
  rw [Nat.testBit_or, Bool.or_eq_true] at h2
  exact h2.imp (fun x => ⟨h.1, x⟩) (fun x => ⟨h.1, x⟩)
theorem tbb_one {j i : Nat} (h : tbb (Nat.shiftLeft 1 j) i = true) : i = j := by
  rw [tbb_eq] at h
  simp only [Bool.and_eq_true] at h
  have h2 : (1 <<< j).testBit i = true := h.2
  rw [Nat.one_shiftLeft, Nat.testBit_two_pow] at h2
  exact (of_decide_eq_true h2).symm
theorem tbb_zero {i : Nat} : tbb 0 i = false := by rw [tbb_eq]; simp
theorem maskOf_mem {i k : Nat} : ∀ {plan : List (Nat × Nat)}, tbb (maskOf plan k) i = true → ∃ m, (k, bitsL m) ∈ mkP plan ∧ tbb m i = true
  | [], h => by rw [maskOf, tbb_zero] at h; cases h
  | (j, m) :: r, h => by
    unfold maskOf at h
    cases e : Nat.beq j k with
    | true =>
      rw [e] at h
      obtain rfl := Nat.eq_of_beq_eq_true e
      exact ⟨m, List.mem_cons_self, h⟩
    | false =>
      rw [e] at h
      obtain ⟨m', h1, h2⟩ := maskOf_mem (plan := r) h
      exact ⟨m', List.mem_cons_of_mem _ h1, h2⟩
theorem dirM_spec {plan : List (Nat × Nat)} {i : Nat} : ∀ {l : List Edge}, tbb (dirM plan l) i = true → ∃ e ∈ l, Region.binds .any e = true ∧ (e.on = i ∨ tbb (maskOf plan e.on) i = true)
  | [], h => by rw [dirM, tbb_zero] at h; cases h
  | e :: r, h => by
    unfold dirM at h
    cases hb : Region.binds .any e with
    | true =>
      rw [hb] at h
      rcases tbb_or h with h | h
      · rcases tbb_or h with h | h
        · exact ⟨e, List.mem_cons_self, hb, .inl (tbb_one h).symm⟩
        · exact ⟨e, List.mem_cons_self, hb, .inr h⟩
      · obtain ⟨x, h1, h2⟩ := dirM_spec (l := r) h
        exact ⟨x, List.mem_cons_of_mem _ h1, h2⟩
    | false =>
      rw [hb] at h
      obtain ⟨x, h1, h2⟩ := dirM_spec (l := r) h
      exact ⟨x, List.mem_cons_of_mem _ h1, h2⟩
theorem bits_tbb {m i : Nat} (h : i ∈ bitsL m) : tbb m i = true := (List.mem_filter.1 h).2
theorem tbb_bits {m i : Nat} (h : tbb m i = true) : memB i (bitsL m) = true := by rw [congrFun (memB_bits m) i]; exact h
theorem ancM_ok {ops : Array Oper} {plan : List (Nat × Nat)} : ∀ {r : List (Nat × Nat)} {b : Nat} {before : List Nat}, (∀ i, tbb b i = true → memB i before = true) → ancM ops plan r b = true → ancB ops (mkP plan) (mkP r) before = true
  | [], _, _, _, _ => rfl
  | (j, m) :: r, b, before, hb, h => by
    simp only [ancM, Bool.and_eq_true] at h
    obtain ⟨h1, h2, h3⟩ := h
    simp only [mkP, ancB, Bool.and_eq_true]
    refine ⟨List.all_eq_true.2 fun i hi => ?_, ancM_ok (fun i hi => ?_) h3⟩
    · have ht := bits_tbb hi
      have g1 := hb i (tbb_sub h1 ht)
      have g2 := tbb_sub h2 ht
      rw [g1, Bool.true_and, Bool.or_eq_true]
      cases ho : ops[j]? with
      | none => rw [ho, tbb_zero] at g2; cases g2
      | some o =>
        rw [ho] at g2
        obtain ⟨e, e1, e2, e3⟩ := dirM_spec g2
        have hw : waits .any ops j e.on = true := by
          unfold waits
          rw [ho]
          exact Array.any_eq_true'.2 ⟨e, Array.mem_toList_iff.1 e1, by simp [e2]⟩
        rcases e3 with e3 | e3
        · exact .inl (e3 ▸ hw)
        · obtain ⟨m', q1, q2⟩ := maskOf_mem e3
          exact .inr (List.any_eq_true.2 ⟨_, q1, by rw [hw, Bool.true_and]; exact tbb_bits q2⟩)
    · rcases tbb_or hi with hi | hi
      · unfold memB; rw [hb i hi]; simp
      · obtain rfl := tbb_one hi
        unfold memB; simp
def drawMB (ops : Array Oper) (n : Nat) (plan : List (Nat × Nat)) (tail : List Nat) : Bool :=
  nodupB ((mkP plan).map (·.1)) && (((mkP plan).map (·.1)).all (fun j => Nat.blt j ops.size && (match dstOf ops j with | some d => Nat.blt d n | none => false)) && (nodupB (dstsOf ops (mkP plan)) && (Og.acyc ops && (((List.range ops.size).all fun j => memB j ((mkP plan).map (·.1)) || ((mkP plan).map (·.1)).all fun i => Og.cov ops ((mkP plan).map (·.1)) ((mkP plan).map (·.1)).length j i) &&
    (ancM ops plan plan 0 && (tailB ops tail (afterL ops ((mkP plan).map (·.1))) && Nat.beq (((mkP plan).map (·.1)).length + tail.length) ops.size))))))
theorem drawM_ok {ops : Array Oper} {n : Nat} {plan : List (Nat × Nat)} {tail : List Nat} (h : drawMB ops n plan tail = true) : drawB ops n (mkP plan) tail = true := by
  simp only [drawMB, drawB, Bool.and_eq_true] at h ⊢
  obtain ⟨h1, h2, h3, h4, h5, h6, h7, h8⟩ := h
  exact ⟨h1, h2, h3, h4, h5, ancM_ok (fun i hi => by rw [tbb_zero] at hi; cases hi) h6, h7, h8⟩
theorem VC.drawm {F : Fr} {id : Nat} {l : List Oper} {e h g : Asc} {N : Nat} {Q : Exit → St → Prop} (plan : List (Nat × Nat)) (tail : List Nat) (hm : F.P.follows .mixedOrders = true) (hst : (drawMB l.toArray F.n plan tail && freeB (keys e) (dstsOf l.toArray (mkP plan))) = true)
    {tops : List Oper} (htops : topsO l.toArray tail some = some tops)
    (hD : DSeq F.P l.toArray g e h (mkP plan) [] N [] (fun its N' B => Seq F l.toArray tops (V.drawn its e (B ++ h) g N') (Q .normal))) : VC F (.region id l.toArray true) Q ⟨e, h, g, N⟩ := by
  rw [Bool.and_eq_true] at hst
  exact VC.draw (mkP plan) tail hm (drawM_ok hst.1) (by rw [dropO_eq, drop_free hst.2]) htops hD
/-- As draw, with the masks. -/
theorem VC.drawn2 {F : Fr} {id : Nat} {l : List Oper} {e h g : Asc} {N : Nat} {Q : Exit → St → Prop} (plan : List (Nat × Nat)) (tail : List Nat) (hm : F.P.follows .mixedOrders = true) (hst : drawMB l.toArray F.n plan tail = true) {e0 : Asc} (he0 : dropO e (dstsOf l.toArray (mkP plan)) some = some e0)
    {tops : List Oper} (htops : topsO l.toArray tail some = some tops)
    (hD : DSeq F.P l.toArray g e0 h (mkP plan) [] N [] (fun its N' B => Seq F l.toArray tops (V.drawn its e0 (B ++ h) g N') (Q .normal))) : VC F (.region id l.toArray true) Q ⟨e, h, g, N⟩ :=
  VC.draw (mkP plan) tail hm (drawM_ok hst) he0 htops hD
theorem getD_take {α : Type} {l : List α} {k i : Nat} {d : α} (h : i < k) : (l.take k).getD i d = l.getD i d := by
  rw [List.getD_eq_getElem?_getD, List.getD_eq_getElem?_getD, List.getElem?_take_of_lt h]
theorem getD_drop {α : Type} {l : List α} {a i : Nat} {d : α} : (l.drop a).getD i d = l.getD (a + i) d := by
  rw [List.getD_eq_getElem?_getD, List.getD_eq_getElem?_getD, List.getElem?_drop]
theorem RelA.rslL {A : Nat → Prop} {σ : Nat → Nat} {fr : Bool} {n m sz : Nat} {f k : Nat → AV} (hn : n = m) (h : ∀ i, i < n → RelA A σ (f i) (k i)) : RelA A σ (.rsl false n sz f) (.rsl fr m sz k) := by
  subst hn; exact RelA.rslw h
theorem RelA.rslT {A : Nat → Prop} {σ : Nat → Nat} {n m sz : Nat} {f k : Nat → AV} (hn : n = m) (h : ∀ i, i < n → RelA A σ (f i) (k i)) : RelA A σ (.rsl true n sz f) (.rsl true m sz k) := by
  subst hn; exact RelA.rsl h
theorem RelA.arrL {A : Nat → Prop} {σ : Nat → Nat} {n m sz : Nat} {f k : Nat → AV} (hn : n = m) (h : ∀ i, i < n → RelA A σ (f i) (k i)) : RelA A σ (.arr n sz f) (.arr m sz k) := by
  subst hn; exact RelA.arr h
theorem shl_i64 {d : Nat} (h : d ≤ 61) : IntKind.i64.wrap (1 * 2 ^ (min ((d : Nat) : Int).toNat IntKind.i64.bits)) = ((2 ^ d : Nat) : Int) := by
  have hm : min ((d : Nat) : Int).toNat IntKind.i64.bits = d := by simp [IntKind.bits]; omega
  have hp : 2 ^ d ≤ 2 ^ 61 := Nat.pow_le_pow_right (by decide) h
  have hp2 : ((2 : Int) ^ d) = ((2 ^ d : Nat) : Int) := by push_cast; rfl
  rw [hm, Int.one_mul, hp2]
  generalize 2 ^ d = z at *
  simp [IntKind.wrap, IntKind.signed, IntKind.bits]
  omega
end Go.V
