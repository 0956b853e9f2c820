
/- Pairs of numbers as keys of a map. -/
import Derived.WideKeyRuns
import Derived.ChangeKeysEq
import Derived.Test.YthejnchhddggmaaDoorNi
set_option linter.unusedSimpArgs false
set_option linter.unusedVariables false
namespace Go.V
open Go.RowKit Go.L
def kI2 (p : Int × Int) : Value := .agg #[.int .i64 p.1, .int .i64 p.2]
def KI2 (p : Int × Int) : AV := setp (setp (.arr 2 1 (fun _ => .int .i64 0)) [.idx 0 1] (.int .i64 p.1)) [.idx 1 1] (.int .i64 p.2)
theorem rep_KI2 (c : Ctx) (p : Int × Int) (v : Value) : Rep c (KI2 p) .V [v] ↔ v = kI2 p := by
  have h0 : ∀ vs, Rep c (KI2 p) .C vs ↔ vs = [.int .i64 p.1, .int .i64 p.2] := fun vs => by
    refine rep_arr1 (n := 2) [.int .i64 p.1, .int .i64 p.2] rfl fun i hi ws => ?_
    have hi : i < 2 := hi
    rcases (by omega : i = 0 ∨ i = 1) with rfl | rfl <;> exact Iff.rfl
  constructor
  · rintro ⟨xs, e, h1, h2⟩
    have h3 := (h0 xs).1 ⟨h1, h2⟩
    simp only [List.cons.injEq, and_true] at e
    rw [e, h3]; rfl
  · rintro rfl
    obtain ⟨h1, h2⟩ := (h0 _).2 rfl
    exact ⟨_, rfl, h1, h2⟩
theorem key_int2 {P : Program} {kt et : TypeId} (hu : P.underlying kt = some (.array 2 et)) (he : P.underlying et = some (.int .i64)) {i : TypeInfo} (hi : P.info? et = some i) (hs : i.size = 1) : KeyK P kt KI2 kI2 where
  rep := rep_KI2
  check e k w := by
    have hce : (sizeOf et).run P w = .ok 1 w := by simp [sizeOf, typeInfo, hi, hs]
    have hc : ∀ (x : Value) (w : World), (Instr.checkKey e 9999 et (.int .i64 k.1)).run P w = .ok () w := fun x w => MapKept.run_checkKey (d := .int .i64) he (show MapKept.IsKey (.int .i64) (.int .i64 k.1) from rfl) e 9998
    have hc2 : ∀ (w : World), (Instr.checkKey e 9999 et (.int .i64 k.2)).run P w = .ok () w := fun w => MapKept.run_checkKey (d := .int .i64) he (show MapKept.IsKey (.int .i64) (.int .i64 k.2) from rfl) e 9998
    have hp0 : (part et #[.int .i64 k.1, .int .i64 k.2] (0 * 1)).run P w = .ok (.int .i64 k.1) w := run_part_int he _ _ rfl w
    have hp1 : (part et #[.int .i64 k.1, .int .i64 k.2] (1 * 1)).run P w = .ok (.int .i64 k.2) w := run_part_int he _ _ rfl w
    show (Instr.checkKey e (9999 + 1) kt (.agg #[.int .i64 k.1, .int .i64 k.2])).run P w = .ok () w
    rw [Instr.checkKey]
    simp only [Sem.run_bind, run_underlying hu, Result.andThen_ok]
    simp [Std.Legacy.Range.forIn_eq_forIn_range', Std.Legacy.Range.size, List.range', hce, run_part_int he #[.int .i64 k.1, .int .i64 k.2] 0 rfl, run_part_int he #[.int .i64 k.1, .int .i64 k.2] 1 rfl, hc .nilIface, hc2]
  find l ks k w h := by
    rw [run_findKey_eq w (by rw [hu])]
    have heq : ∀ p : Int × Int, (Op.equal kt (kI2 k) (kI2 p)).run P w = .ok (decide (p = k)) w := fun p => by
      have hce : P.cellsOf et = 1 := by simp [Program.cellsOf, hi, hs]
      show (Op.equalIn (9998 + 1 + 1) kt (.agg #[.int .i64 k.1, .int .i64 k.2]) (.agg #[.int .i64 p.1, .int .i64 p.2])).run P w = _
      rw [run_equalIn_array w _ _ _ hu hi, hce, run_eqItems_int he _ _ _ (fun i => if i = 0 then k.1 else k.2) (fun i => if i = 0 then p.1 else p.2) 2 (fun i hi => ?_) (fun i hi => ?_) w _ (fun i hi => List.mem_range.1 hi)]
      · congr 1
        obtain ⟨a, b⟩ := k
        obtain ⟨c, d⟩ := p
        rw [Bool.eq_iff_iff]
        simp [List.range, List.range.loop]
        constructor
        · rintro ⟨rfl, rfl⟩; exact ⟨rfl, rfl⟩
        · rintro ⟨rfl, rfl⟩; exact ⟨rfl, rfl⟩
      · rcases (by omega : i = 0 ∨ i = 1) with rfl | rfl <;> rfl
      · rcases (by omega : i = 0 ∨ i = 1) with rfl | rfl <;> rfl
    have hgo : ∀ (l : List MapEntry) (ks : List (Int × Int)) (i : Nat), l.map (·.key) = ks.map kI2 →
        (Instr.findAsking kt (kI2 k) l i).run P w = .ok ((ks.findIdx? fun x => decide (x = k)).bind fun j => (l[j]?).map fun e => (i + j, e.val)) w := by
      intro l
      induction l with
      | nil =>
        intro ks i h
        have : ks = [] := by simpa using h
        subst this; simp [Instr.findAsking]
      | cons e l ih =>
        intro ks i h
        cases ks with
        | nil => simp at h
        | cons x ks =>
          simp only [List.map_cons, List.cons.injEq] at h
          rw [Instr.findAsking, h.1]
          simp only [Sem.run_bind, heq x, Result.andThen_ok, List.findIdx?_cons]
          by_cases hx : x = k
          · subst hx; simp
          · simp only [hx, decide_false, Bool.false_eq_true, if_false]
            rw [ih ks (i + 1) h.2]
            cases ks.findIdx? (fun x => decide (x = k)) with
            | none => rfl
            | some j =>
              simp only [Option.bind_some, Option.map_some, List.getElem?_cons_succ]
              cases l[j]? with
              | none => rfl
              | some e' => simp only [Option.map_some]; rw [show i + 1 + j = i + (j + 1) by omega]
    have := hgo l ks 0 h
    simpa only [Nat.zero_add] using this
  stays k w := by
    have : Instr.sameBits 10000 (kI2 k) (kI2 k) = true := by
      show Instr.sameBits (9999 + 1) (.agg #[.int .i64 k.1, .int .i64 k.2]) (.agg #[.int .i64 k.1, .int .i64 k.2]) = true
      rw [Instr.sameBits]
      simp [Instr.sameBits]
    simp [Instr.keyThatStays, this]
end Go.V
