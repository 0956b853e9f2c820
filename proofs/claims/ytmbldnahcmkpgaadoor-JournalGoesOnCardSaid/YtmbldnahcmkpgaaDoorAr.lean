/- Journals, plain: what an append leaves on a disk that is switched on and has nothing pending. Journals, plain: records one after the other on a disk without worn sectors. -/
import Derived.Test.YtmbldnahcmkpgaaDoorAp
set_option linter.unusedSimpArgs false
set_option linter.unusedVariables false
namespace Go.Proofs.YtmbldnahcmkpgaaDoor
open Go.V Go.RowKit Go.L Go.Lx Go.Jn Go.Dk
variable {n : Nat}
theorem rd_calm {D : Disk} {i : Nat} (hi : i < n) (hP : D.P = []) (ho : D.off = false) : rdS n D.off D.B D.P (i : Nat) = D.B.getD i [] := by
  unfold rdS
  rw [ho, chk_in hi, if_neg (by decide), hP]
  show D.B.getD ((i : Nat) : Int).toNat [] = _
  rw [Int.toNat_natCast]
theorem sameK_iff {D : Disk} {a : Nat} {l : List Bs} : ∀ k, sameK n D a l k = true ↔ ∀ j, j < k → l.getD j [] = rdS n D.off D.B D.P ((a + j : Nat) : Int)
  | 0 => ⟨fun _ j hj => absurd hj (Nat.not_lt_zero _), fun _ => rfl⟩
  | k + 1 => by
    rw [sameK, Bool.and_eq_true, sameK_iff k, decide_eq_true_iff]
    constructor
    · rintro ⟨h1, h2⟩ j hj
      by_cases e : j = k
      · rw [e]; exact h2
      · exact h1 j (by omega)
    · intro h
      exact ⟨fun j hj => h j (by omega), h k (by omega)⟩
structure WfrOk (n : Nat) (D : Disk) (a : Nat) (l : List Bs) (R : Disk × (Int × Bool)) : Prop where
  W : R.1.W = D.W
  at_ : ∀ i, i < n → (mFind R.1.P (i : Nat) = none ∧ (R.1.B.getD i [] = D.B.getD i [] ∨ (a ≤ i ∧ i < a + l.length ∧ R.1.B.getD i [] = l.getD (i - a) []))) ∨ (a ≤ i ∧ i < a + l.length ∧ mFind R.1.P (i : Nat) = some (l.getD (i - a) []) ∧ R.1.B.getD i [] = D.B.getD i [])
  fine : R.2.1 = 0 → R.1.P = [] ∧ R.1.off = false ∧ (∀ i, i < n → R.1.B.getD i [] = if a ≤ i ∧ i < a + l.length ∧ isW D.W (i : Nat) = false then l.getD (i - a) [] else D.B.getD i []) ∧ (R.2.2 = true ↔ ∀ k, k < l.length → l.getD k [] = R.1.B.getD (a + k) [])
  calm : D.left < 0 → R.2.1 = 0 ∧ R.1.left = D.left
theorem wfr_spec {D : Disk} (hG : GoodD n D) (hP : D.P = []) (ho : D.off = false) {a : Nat} {l : List Bs} (ha : a + l.length ≤ n) (hl : ∀ s ∈ l, s.length = 64) : WfrOk n D a l (wfr n D a l) := by
  obtain ⟨i1, i2, ⟨j, j1, j2, j3⟩, i4⟩ := wrK_spec (n := n) ho ha hl l.length (Nat.le_refl _)
  have hg1 := good_wrK hG ha hl l.length (Nat.le_refl _)
  have hP0 : ∀ x : Nat, mFind D.P (x : Nat) = none := fun x => by rw [hP]; rfl
  have hB64 : ∀ i, i < n → (D.B.getD i []).length = 64 := fun i hi => hG.b64 _ (Go.Lx.getD_mem (by rw [hG.len]; exact hi))
  have hl64 : ∀ k, k < l.length → (l.getD k []).length = 64 := fun k hk => hl _ (Go.Lx.getD_mem hk)
  unfold wfr
  generalize wrK n D a l l.length = R at *
  have hpend : ∀ i, i < n → (mFind R.1.P (i : Nat) = none ∧ (R.1.B.getD i [] = D.B.getD i [] ∨ (a ≤ i ∧ i < a + l.length ∧ R.1.B.getD i [] = l.getD (i - a) []))) ∨ (a ≤ i ∧ i < a + l.length ∧ mFind R.1.P (i : Nat) = some (l.getD (i - a) []) ∧ R.1.B.getD i [] = D.B.getD i []) := fun i hi => by
    rw [j2 i, i1]
    by_cases hx : a ≤ i ∧ i < a + j
    · rw [if_pos hx]
      exact .inr ⟨hx.1, by omega, rfl, rfl⟩
    · rw [if_neg hx]
      exact .inl ⟨hP0 i, .inl rfl⟩
  by_cases h0 : R.2 ≠ 0
  · rw [if_pos h0]
    exact ⟨i2, hpend, fun h => absurd h h0, fun h => absurd (i4 h).1 h0⟩
  · rw [if_neg h0]
    have h0 : R.2 = 0 := by simpa using h0
    obtain ⟨rfl, hon⟩ := j3 h0
    rw [doE_F, doD_F, hon, if_neg (show ¬ false = true by decide), if_neg (show ¬ false = true by decide)]
    by_cases hz : R.1.left = 0
    · rw [if_pos hz, if_pos hz, if_pos (by decide)]
      exact ⟨i2, hpend, fun h => (by cases h), fun h => (by have := (i4 h).2; omega)⟩
    · rw [if_neg hz, if_neg hz, if_neg (by decide)]
      have hB2 : ∀ i, i < n → (allB [] R.1.B R.1.P R.1.W).1.getD i [] = if a ≤ i ∧ i < a + l.length ∧ isW D.W (i : Nat) = false then l.getD (i - a) [] else D.B.getD i [] := fun i hi => by
        obtain ⟨m, _, m2, m3⟩ := allB_get hg1 [] hi
        rw [m3, m2 rfl, j2 i, i1, i2]
        by_cases hx : a ≤ i ∧ i < a + l.length
        · rw [if_pos hx]
          cases hw : isW D.W (i : Nat) with
          | true => rw [if_neg (by rintro ⟨_, h⟩; cases h), if_neg (by rintro ⟨_, _, h⟩; cases h)]
          | false =>
            rw [if_pos ⟨rfl, rfl⟩, if_pos ⟨hx.1, hx.2, rfl⟩]
            exact tear_full (hl64 _ (by omega)) (hB64 i hi)
        · rw [if_neg hx, hP0 i, if_neg (by rintro ⟨h, _⟩; cases h), if_neg (by rintro ⟨h1, h2, _⟩; exact hx ⟨h1, h2⟩)]
      have hP2 : (allB [] R.1.B R.1.P R.1.W).2 = [] := allB_nil hg1 []
      refine ⟨i2, fun i hi => ?_, fun _ => ⟨hP2, rfl, hB2, ?_⟩, fun h => ⟨rfl, ?_⟩⟩
      · refine .inl ⟨by show mFind (allB [] R.1.B R.1.P R.1.W).2 _ = none; rw [hP2]; rfl, ?_⟩
        show (allB [] R.1.B R.1.P R.1.W).1.getD i [] = _ ∨ (_ ∧ _ ∧ (allB [] R.1.B R.1.P R.1.W).1.getD i [] = _)
        rw [hB2 i hi]
        split
        · rename_i h; exact .inr ⟨h.1, h.2.1, rfl⟩
        · exact .inl rfl
      · show sameK n _ a l l.length = true ↔ _
        rw [sameK_iff]
        refine forall_congr' fun k => forall_congr' fun hk => ?_
        rw [rd_calm (by omega) hP2 rfl]
      · have := (i4 h).2
        show stpL R.1.left = _
        unfold stpL
        rw [if_neg (by omega)]; exact this
end Go.Proofs.YtmbldnahcmkpgaaDoor

namespace Go.Proofs.YtmbldnahcmkpgaaDoor
open Go.V Go.RowKit Go.L Go.Lx Go.Jn Go.Dk
variable {n : Nat}
def putL (B : List Bs) (a : Nat) (l : List Bs) : List Bs := B.take a ++ (l ++ B.drop (a + l.length))
theorem putL_get {B l : List Bs} {a i : Nat} (h : a + l.length ≤ B.length) : (putL B a l).getD i [] = if a ≤ i ∧ i < a + l.length then l.getD (i - a) [] else B.getD i [] := by
  have h1 : (B.take a).length = a := by rw [List.length_take]; omega
  unfold putL
  simp only [List.getD_eq_getElem?_getD]
  by_cases hi : a ≤ i
  · rw [List.getElem?_append_right (by omega), h1]
    by_cases h2 : i < a + l.length
    · rw [if_pos ⟨hi, h2⟩, List.getElem?_append_left (by omega)]
    · rw [if_neg (by omega), List.getElem?_append_right (by omega), List.getElem?_drop]
      congr 2; omega
  · rw [if_neg (by omega), List.getElem?_append_left (by omega), List.getElem?_take_of_lt (by omega)]
theorem putL_len {B l : List Bs} {a : Nat} (h : a + l.length ≤ B.length) : (putL B a l).length = B.length := by
  unfold putL; simp only [List.length_append, List.length_take, List.length_drop]; omega
theorem ext_getD {A C : List Bs} (hl : A.length = C.length) (h : ∀ i, i < A.length → A.getD i [] = C.getD i []) : A = C :=
  List.ext_getElem hl fun i h1 h2 => by
    have := h i h1
    rw [List.getD_eq_getElem?_getD, List.getD_eq_getElem?_getD, List.getElem?_eq_getElem h1, List.getElem?_eq_getElem h2] at this
    exact this
/-- A disk that is switched on, with nothing pending and no worn sector. -/
abbrev calm (B : List Bs) : Disk := ⟨B, [], [], false, -1⟩
theorem good_calm {B : List Bs} (hl : B.length = n) (h64 : ∀ b ∈ B, b.length = 64) (h0 : 0 < n) (h1 : n ≤ 4096) : GoodD n (calm B) :=
  { (good_new h0 h1 : GoodD n (newD n)) with len := hl, b64 := h64 }
theorem wfr_calm {B l : List Bs} {a : Nat} (hG : GoodD n (calm B)) (ha : a + l.length ≤ n) (hl : ∀ s ∈ l, s.length = 64) : wfr n (calm B) a l = (calm (putL B a l), (0, true)) := by
  have h := wfr_spec hG rfl rfl ha hl
  have hg := good_wfr hG ha hl
  have hBl : B.length = n := hG.len
  generalize wfr n (calm B) a l = R at *
  obtain ⟨⟨RB, RP, RW, Ro, Rl⟩, e, b⟩ := R
  obtain ⟨c1, c2⟩ := h.calm (show (-1 : Int) < 0 by decide)
  have c1 : e = 0 := c1
  have c2 : Rl = -1 := c2
  obtain ⟨f1, f2, f3, f4⟩ := h.fine c1
  have f1 : RP = [] := f1
  have f2 : Ro = false := f2
  have f0 : RW = [] := h.W
  have hlen : RB.length = n := hg.len
  have hB : RB = putL B a l := ext_getD (by rw [hlen, putL_len (by omega), hBl]) fun i hi => by
    have := f3 i (by omega)
    rw [putL_get (by omega)]
    have this : RB.getD i [] = if a ≤ i ∧ i < a + l.length ∧ isW [] (i : Nat) = false then l.getD (i - a) [] else B.getD i [] := this
    rw [this]
    by_cases hx : a ≤ i ∧ i < a + l.length
    · rw [if_pos hx, if_pos ⟨hx.1, hx.2, rfl⟩]
    · rw [if_neg hx, if_neg (by rintro ⟨h1, h2, _⟩; exact hx ⟨h1, h2⟩)]
  have hb : b = true := f4.2 fun k hk => by
    show l.getD k [] = RB.getD (a + k) []
    rw [hB, putL_get (by omega), if_pos (by omega), show a + k - a = k by omega]
  rw [c1, c2, f1, f2, f0, hB, hb]
theorem app_calm {B : List Bs} {J : Jr} {t : Bs} (hG : GoodD n (calm B)) (hs : J.shut = false) (h1 : 1 ≤ J.next) (ht : t.length ≤ 8000) (hx : J.next ≤ 4096) (hc : cnt t.length + J.stop ≤ n) : app n (calm B) J t = ((calm (putL B J.stop (parts J.next.toNat t)), jAdd J t), (J.next, 0)) := by
  unfold app
  rw [hs, if_neg (show ¬ false = true by decide), if_neg (by omega), if_neg (by omega), wfr_calm hG (by rw [parts_len]; omega) parts_64]
  rfl
/-- The sectors of records that are numbered from k on. -/
def allX : Nat → List Bs → List Bs
  | _, [] => []
  | k, t :: r => parts k t ++ allX (k + 1) r
def allR : Nat → List Bs → List (Int × Bs)
  | _, [] => []
  | k, t :: r => (((k : Nat) : Int), t) :: allR (k + 1) r
theorem more_new {a : List (Int × Bs)} {m : Int} {t : Bs} (h : m ∉ a.map (·.1)) : more a m t = a ++ [(m, t)] := by
  unfold more hasN
  rw [if_neg (fun q => h (List.contains_iff_mem.1 q))]
theorem parts_getP {m : Nat} {t : Bs} (h1 : 1 ≤ m) (h2 : m ≤ 4096) (ht : t.length ≤ 8000) {k : Nat} (hk : k < cnt t.length) : ((parts m t).map unp).getD k noPart = partOf m t k := by
  have hl := parts_len m t
  have : ((parts m t).map unp).getD k noPart = unp ((parts m t).getD k []) := by
    rw [List.getD_eq_getElem?_getD, List.getD_eq_getElem?_getD, List.getElem?_map, List.getElem?_eq_getElem (by omega)]; rfl
  rw [this, unp_parts h1 h2 ht hk]; rfl
/-- A search goes through records. -/
theorem scan_all : ∀ (T : List Bs) (k : Nat) (Y : List Part) (a : List (Int × Bs)), 1 ≤ k → k + T.length ≤ 4097 → (∀ t ∈ T, t.length ≤ 8000) → (∀ i ∈ a.map (·.1), i < (k : Int)) → scan 0 ((allX k T).map unp ++ Y) a = scan 0 Y (a ++ allR k T)
  | [], k, Y, a, _, _, _, _ => by show scan 0 ([] ++ Y) a = scan 0 Y (a ++ []); rw [List.nil_append, List.append_nil]
  | t :: r, k, Y, a, h1, h2, h3, h4 => by
    have ht : t.length ≤ 8000 := h3 t List.mem_cons_self
    rw [List.length_cons] at h2
    show scan 0 ((parts k t ++ allX (k + 1) r).map unp ++ Y) a = scan 0 Y (a ++ ((((k : Nat) : Int), t) :: allR (k + 1) r))
    rw [List.map_append, List.append_assoc, scan_whole (n := k) (t := t) ht (by rw [List.length_map, parts_len, cnt_nat ht]) (fun j hj => parts_getP h1 (by omega) ht (by rw [List.length_map, parts_len] at hj; exact hj)), more_new (fun h => by have := h4 _ h; omega), scan_all r (k + 1) Y _ (by omega) (by omega) (fun t ht => h3 t (List.mem_cons_of_mem _ ht)) (fun i hi => by
      rw [List.map_append, List.mem_append] at hi
      rcases hi with hi | hi
      · have := h4 i hi; omega
      · have : i = (k : Int) := by simpa using hi
        omega)]
    rw [List.append_assoc]; rfl
end Go.Proofs.YtmbldnahcmkpgaaDoor
