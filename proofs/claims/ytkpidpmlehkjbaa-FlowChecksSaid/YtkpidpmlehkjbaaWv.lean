/- Flow: the reference's balances. Flow: the entries that rounds of relaxations leave; how far levels fall. Plain. -/
import Derived.Test.YtkpidpmlehkjbaaWr
import Derived.Test.YtkpidpmlehkjbaaWo
set_option linter.unusedSimpArgs false
set_option linter.unusedVariables false
namespace Go.Proofs.Ytkpidpmlehkjbaa
open Go.V Go.RowKit Go.L Go.Lx Go.Fl
set_option maxRecDepth 10000
set_option maxHeartbeats 4000000
theorem rbalance_ok {n : Nat} {l : List Ed} {F : List Int} (ok : NetOk n l) (hF : inB l F) : Ok Try.prog 38 [] ([]) (.pair (.int .i64 n) (.pair (edV l) (.pair (liV F) .nul))) (fun r h' => r = .sl 0 [] 1 0 n ∧ h' = [(0, .arr n 1 (fun i => .int .i64 ((bals n l F).getD i 0)))]) := by
  have hlen := (inB_iff.1 hF).1
  have hfl := ok.flow hF
  have hn64 := ok.n64
  have hl256 := ok.l256
  refine Ok.of_vcC tt_ok Try.func38 rfl rfl (by show 3 ≤ _; decide) 0 (hlt_ok (by rfl)) fun c0 => ?_
  repeat' (first | (refine SS_ ?_) | fail)
  refine VC.loop (fun k : Nat => ⟨[(8, .int .i64 (k : Nat)), (7, .sl 0 [] 1 0 n), (2, liV F), (1, edV l), (0, .int .i64 n)], [(0, bkO n (bak l F k))], [], 1⟩) (fun k => k ≤ l.length) (fun k => l.length - k) 0 (by omega) (by
    exact (Sim.less [] (by rfl) R_ R_)
    all_goals skip) fun k hk => ?_
  by_cases hkl : k < l.length
  · have he := ok.get hkl
    have hf := hfl k hkl
    have hkk : ((k : Nat) : Int).toNat = k := Int.toNat_natCast k
    have hb0 := fun v => bak_bd hlen hfl v k (by omega)
    have hst := bak_step hlen hkl
    have h1 := hb0 ((0 + (l.getD ((k : Nat) : Int).toNat edZ).b.toNat : Nat) : Int)
    rw [← hkk] at he
    have hf0 : 0 ≤ F.getD ((k : Nat) : Int).toNat 0 ∧ F.getD ((k : Nat) : Int).toNat 0 ≤ 1000 := by rw [hkk]; exact hf
    generalize hg : bak l F k = g at *
    repeat' (first | (refine SS_ ?_) | (refine VC.drawm (id := 5) [(0, 0), (1, 0), (2, 0), (3, 6), (4, 14), (5, 30), (6, 0), (7, 0), (8, 0), (9, 384), (10, 896), (11, 1920), (12, 4032), (13, 8128), (14, 0), (15, 0), (16, 49152), (17, 114688), (18, 262080), (19, 524287)] [20] (by rfl) (by kernel_rfl) (by rfl) ?_) | (refine VC.litT (by rfl) LTR_ ?_) | (refine DD_ ?_) | fail)
    refine VC.conv (s' := ⟨[(8, .int .i64 (k : Nat)), (7, .sl 0 [] 1 0 n), (2, liV F), (1, edV l), (0, .int .i64 n)], [(0, bkO n (fun v => g v + (if (l.getD ((k : Nat) : Int).toNat edZ).b = v then F.getD ((k : Nat) : Int).toNat 0 else 0))) ], [], 1⟩) (by
      (refine Sim.less [] (by rfl) ?_ ?_ <;> (repeat' (first | (exact EnvLe.nil) | (exact HeapLe.nil) | (with_reducible apply EnvLe.cons) | (with_reducible apply HeapLe.cons) | ((with_reducible refine RelA.int ?_; first | (refine Keep.mk ?_; first | with_reducible rfl | omega | decide) | skip)) | (exact rfl) | (exact ⟨rfl, rfl⟩) | ((with_reducible refine RelA.rsl ?_; intro i hi)) | ((with_reducible refine RelA.arr ?_; intro i hi)) | (with_reducible refine RelA.pair ?_ ?_) | fail)) <;> (try with_reducible refine Keep.mk ?_))
      refine rel_bif (fun h => ?_) (fun h => ?_)
      · show g i + (if (l.getD ((k : Nat) : Int).toNat edZ).b = (i : Int) then F.getD ((k : Nat) : Int).toNat 0 else 0) = _
        rw [h, if_pos (by omega)]
      · show g i + (if (l.getD ((k : Nat) : Int).toNat edZ).b = (i : Int) then F.getD ((k : Nat) : Int).toNat 0 else 0) = _
        rw [if_neg (by omega), Int.add_zero]) ?_
    have h2 : -(1000 * (k : Int)) - 1000 ≤ (fun v => g v + (if (l.getD ((k : Nat) : Int).toNat edZ).b = v then F.getD ((k : Nat) : Int).toNat 0 else 0)) ((0 + (l.getD ((k : Nat) : Int).toNat edZ).a.toNat : Nat) : Int) ∧ (fun v => g v + (if (l.getD ((k : Nat) : Int).toNat edZ).b = v then F.getD ((k : Nat) : Int).toNat 0 else 0)) ((0 + (l.getD ((k : Nat) : Int).toNat edZ).a.toNat : Nat) : Int) ≤ 1000 * (k : Int) + 1000 := by
      have := hb0 ((0 + (l.getD ((k : Nat) : Int).toNat edZ).a.toNat : Nat) : Int)
      show _ ≤ g _ + (if _ then _ else _) ∧ g _ + (if _ then _ else _) ≤ _
      split <;> omega
    generalize hg2 : (fun v => g v + (if (l.getD ((k : Nat) : Int).toNat edZ).b = v then F.getD ((k : Nat) : Int).toNat 0 else 0)) = g2 at *
    repeat' (first | (refine SS_ ?_) | (refine VC.drawm (id := 6) [(0, 0), (1, 0), (2, 0), (3, 6), (4, 14), (5, 30), (6, 0), (7, 0), (8, 0), (9, 384), (10, 896), (11, 1920), (12, 4032), (13, 8128), (14, 0), (15, 0), (16, 49152), (17, 114688), (18, 262080), (19, 524287)] [20] (by rfl) (by kernel_rfl) (by rfl) ?_) | (refine DD_ ?_) | fail)
    refine ⟨k + 1, by omega, by omega, ?_⟩
    (refine Sim.less [] (by rfl) ?_ ?_ <;> (repeat' (first | (exact EnvLe.nil) | (exact HeapLe.nil) | (with_reducible apply EnvLe.cons) | (with_reducible apply HeapLe.cons) | ((with_reducible refine RelA.int ?_; first | (refine Keep.mk ?_; first | with_reducible rfl | omega | decide) | skip)) | (exact rfl) | (exact ⟨rfl, rfl⟩) | ((with_reducible refine RelA.rsl ?_; intro i hi)) | ((with_reducible refine RelA.arr ?_; intro i hi)) | (with_reducible refine RelA.pair ?_ ?_) | fail)) <;> (try with_reducible refine Keep.mk ?_))
    have hs := hst (i : Int)
    rw [show l.getD k edZ = (l.getD ((k : Nat) : Int).toNat edZ) by rw [hkk], show F.getD k 0 = F.getD ((k : Nat) : Int).toNat 0 by rw [hkk]] at hs
    have hs : bak l F (k + 1) i = g2 i - (if (l.getD ((k : Nat) : Int).toNat edZ).a = (i : Int) then F.getD ((k : Nat) : Int).toNat 0 else 0) := by
      rw [← hg2]
      show _ = g i + _ - _
      omega
    refine rel_bif (fun h => ?_) (fun h => ?_)
    · rw [hs, h, if_pos (by omega)]
    · rw [hs, if_neg (by omega), Int.sub_zero]
  · repeat' (first | (refine SS_ ?_) | (refine VC.litF (by rfl) LFA_ ?_) | fail)
    obtain rfl : k = l.length := by omega
    refine retC_mk ([(6, .sl 0 [] 1 0 n)]) ([(0, .arr n 1 (fun i => .int .i64 ((bals n l F).getD i 0)))]) 1 ?_ (retQ_ok (by rfl) ([(0, .arr n 1 (fun i => .int .i64 ((bals n l F).getD i 0)))]) (fun i av h => h) ⟨?_, ?_⟩)
    · (refine Sim.less [] (by rfl) ?_ ?_ <;> (repeat' (first | (exact EnvLe.nil) | (exact HeapLe.nil) | (with_reducible apply EnvLe.cons) | (with_reducible apply HeapLe.cons) | ((with_reducible refine RelA.int ?_; first | (refine Keep.mk ?_; first | with_reducible rfl | omega | decide) | skip)) | (exact rfl) | (exact ⟨rfl, rfl⟩) | ((with_reducible refine RelA.arr ?_; intro i hi)) | fail)) <;> (try with_reducible refine Keep.mk ?_))
      rw [bals_get hi, ← bak_all hlen]
    · rfl
    · rfl
end Go.Proofs.Ytkpidpmlehkjbaa

namespace Go.Fl
open Go.V (mFind mSet)
theorem mf_set {κ ν : Type} [DecidableEq κ] {l : List (κ × ν)} {k k' : κ} {v : ν} : mFind (mSet l k v) k' = if k = k' then some v else mFind l k' := by
  induction l with
  | nil => rw [mSet, mFind]; rfl
  | cons p r ih =>
    rw [mSet]
    by_cases h : p.1 = k
    · rw [if_pos h, mFind, mFind]
      by_cases h2 : k = k'
      · simp [h2]
      · simp only [h2, if_false]; rw [h]; simp only [h2, if_false]
    · rw [if_neg h, mFind, mFind, ih]
      by_cases h2 : k = k'
      · subst h2; simp [h]
      · simp [h2]
def rlE (N : Net) (x : Nat) (s : Bf) (E : List (Int × Nat)) : List (Int × Nat) :=
  if N.op x = true ∧ s.lev (N.fr x) + N.co x < s.lev (N.to x) then mSet E (N.to x : Int) x else E
def rlsE (N : Net) (s : Bf) (E : List (Int × Nat)) : Nat → List (Int × Nat)
  | 0 => E
  | j + 1 => rlE N j (rls N s j) (rlsE N s E j)
def bf0 (s : Bf) : Bf := ⟨s.lev, s.par, -1⟩
def rndsE (N : Net) : Nat → List (Int × Nat)
  | 0 => []
  | k + 1 => rlsE N (bf0 (rnds N k)) (rndsE N k) N.m
def EntOf (s : Bf) (E : List (Int × Nat)) : Prop := ∀ v : Nat, mFind E (v : Int) = if 0 ≤ s.par v then some (s.par v).toNat else none
theorem entOf_rl {N : Net} {x : Nat} {s : Bf} {E : List (Int × Nat)} (h : EntOf s E) : EntOf (rl N x s) (rlE N x s E) := fun v => by
  rw [rl, rlE]
  by_cases hc : N.op x = true ∧ s.lev (N.fr x) + N.co x < s.lev (N.to x)
  · rw [if_pos hc, if_pos hc, mf_set]
    show _ = if 0 ≤ (if v = N.to x then (x : Int) else s.par v) then some (if v = N.to x then (x : Int) else s.par v).toNat else none
    by_cases e : v = N.to x
    · subst e
      rw [if_pos rfl, if_pos rfl, if_pos (by omega)]; rfl
    · rw [if_neg (by omega), if_neg e]; exact h v
  · rw [if_neg hc, if_neg hc]; exact h v
theorem entOf_rls {N : Net} {s : Bf} {E : List (Int × Nat)} (h : EntOf s E) : ∀ j, EntOf (rls N s j) (rlsE N s E j)
  | 0 => h
  | j + 1 => entOf_rl (entOf_rls h j)
theorem entOf_rnds (N : Net) : ∀ k, EntOf (rnds N k) (rndsE N k)
  | 0 => fun v => by
    show none = if (0 : Int) ≤ -1 then _ else _
    rw [if_neg (by omega)]
  | k + 1 => entOf_rls (s := bf0 (rnds N k)) (entOf_rnds N k) N.m
theorem rls_bd {n : Nat} {l : List Ed} {F : List Int} (ok : NetOk n l) {k j : Nat} (hk : k ≤ n) (hj : j ≤ 2 * l.length) (v : Nat) (hv : v < n) : -40000000 ≤ (rls (netOf n l F) (bf0 (rnds (netOf n l F) k)) j).lev v ∧ (rls (netOf n l F) (bf0 (rnds (netOf n l F) k)) j).lev v ≤ 0 := by
  have hN := netOk F ok.nodes
  have hC : ∀ x, x < (netOf n l F).m → -(1000 : Int) ≤ (netOf n l F).co x := fun x hx => by
    have hx : x < 2 * l.length := hx
    have := ok.get (k := x / 2) (by omega)
    show -1000 ≤ aC l x
    rw [aC]; split <;> omega
  have hm : (((netOf n l F).m : Nat) : Int) * 1000 ≤ 514000 := by
    have : (netOf n l F).m = 2 * l.length := rfl
    have := ok.l256
    omega
  have hk2 : (k : Int) * ((((netOf n l F).m : Nat) : Int) * 1000) ≤ 64 * 514000 := Int.mul_le_mul (by have := ok.n64; omega) hm (Int.mul_nonneg (by omega) (by omega)) (by omega)
  have h0 : (0 : Int) ≤ (k : Int) * ((((netOf n l F).m : Nat) : Int) * 1000) := Int.mul_nonneg (by omega) (Int.mul_nonneg (by omega) (by omega))
  have hr := rnds_low hN hC (by omega) k
  have hs := rls_low hN (s := bf0 (rnds (netOf n l F) k)) h0 hC (by omega) hr (j := j) hj v hv
  have hj2 := ok.l256
  omega
end Go.Fl
