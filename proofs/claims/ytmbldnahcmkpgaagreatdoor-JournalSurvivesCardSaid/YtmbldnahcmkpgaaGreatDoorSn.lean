/- The contract of strings.Repeat at this translation: a table of numbers and its facts (written by the kit's tool). strings.Repeat as a contract. SHA-256 with numbers for words, to be reckoned by the kernel: Sha.sum_l, some 40 ms for a short list by `decide +kernel`. -/
import Derived.Shelf.Strings.Repeat
import Derived.Test.YtmbldnahcmkpgaaGreatDoorProg
import Derived.Test.YtmbldnahcmkpgaaGreatDoorBe
import Derived.Test.YtmbldnahcmkpgaaGreatDoorGb
namespace Go.Proofs.YtmbldnahcmkpgaaGreatDoor
open Go.Shelf
def rep105_ren : Go.Shelf.Ren:=⟨fun | 105=>35 | 212=>66 | 99=>67 | 165=>68 | 166=>69 | 170=>70 | 169=>71 | 263=>84 | 264=>85 | 206=>86 | 240=>87 | 241=>88 | 276=>99 | 277=>100 | n=>n,fun | 9=>9 | 3=>3 | 4=>4 | 20=>20 | 0=>0 | 46=>105 | 109=>106 | 5=>5 | 72=>111 | 76=>114 | 51=>134 | 146=>135 | 53=>137 | 148=>138 | 70=>109 | 37=>77 | 75=>113 | 127=>140 | 164=>152 | 80=>116 | n=>n,fun | n=>n⟩
theorem rep105 : Go.Proofs.Lays.n105 Tryz.prog rep105_ren:={
  mixed:=by kernel_rfl
  f99:=Tryz.func67.trans (congrArg some (by kernel_rfl))
  f105:=Tryz.func35.trans (congrArg some (by kernel_rfl))
  f165:=Tryz.func68.trans (congrArg some (by kernel_rfl))
  f166:=Tryz.func69.trans (congrArg some (by kernel_rfl))
  f169:=Tryz.func71.trans (congrArg some (by kernel_rfl))
  f170:=Tryz.func70.trans (congrArg some (by kernel_rfl))
  f206:=Tryz.func86.trans (congrArg some (by kernel_rfl))
  f212:=Tryz.func66.trans (congrArg some (by kernel_rfl))
  f240:=Tryz.func87.trans (congrArg some (by kernel_rfl))
  f241:=Tryz.func88.trans (congrArg some (by kernel_rfl))
  f263:=Tryz.func84.trans (congrArg some (by kernel_rfl))
  f264:=Tryz.func85.trans (congrArg some (by kernel_rfl))
  f276:=Tryz.func99.trans (congrArg some (by kernel_rfl))
  f277:=Tryz.func100.trans (congrArg some (by kernel_rfl))
  t0:=Tryz.underlying0
  a0:=Tryz.isAgg0
  z0:=Tryz.sizeOf0
  v0:=Tryz.zeroValue0
  t3:=Tryz.underlying3
  a3:=Tryz.isAgg3
  z3:=Tryz.sizeOf3
  v3:=Tryz.zeroValue3
  t4:=Tryz.underlying4
  a4:=Tryz.isAgg4
  z4:=Tryz.sizeOf4
  v4:=Tryz.zeroValue4
  t5:=Tryz.underlying5
  a5:=Tryz.isAgg5
  z5:=Tryz.sizeOf5
  v5:=Tryz.zeroValue5
  t9:=Tryz.underlying9
  a9:=Tryz.isAgg9
  z9:=Tryz.sizeOf9
  v9:=Tryz.zeroValue9
  t20:=Tryz.underlying20
  a20:=Tryz.isAgg20
  z20:=Tryz.sizeOf20
  v20:=Tryz.zeroValue20
  t37:=Tryz.underlying77
  a37:=Tryz.isAgg77
  z37:=Tryz.sizeOf77
  v37:=Tryz.zeroValue77
  t46:=Tryz.underlying105
  a46:=Tryz.isAgg105
  z46:=Tryz.sizeOf105
  v46:=Tryz.zeroValue105
  t51:=Tryz.underlying134
  a51:=Tryz.isAgg134
  z51:=Tryz.sizeOf134
  v51:=Tryz.zeroValue134
  t53:=Tryz.underlying137
  a53:=Tryz.isAgg137
  z53:=Tryz.sizeOf137
  v53:=Tryz.zeroValue137
  t70:=Tryz.underlying109
  a70:=Tryz.isAgg109
  z70:=Tryz.sizeOf109
  v70:=Tryz.zeroValue109
  t72:=Tryz.underlying111
  a72:=Tryz.isAgg111
  z72:=Tryz.sizeOf111
  v72:=Tryz.zeroValue111
  t75:=Tryz.underlying113
  a75:=Tryz.isAgg113
  z75:=Tryz.sizeOf113
  v75:=Tryz.zeroValue113
  t76:=Tryz.underlying114
  a76:=Tryz.isAgg114
  z76:=Tryz.sizeOf114
  v76:=Tryz.zeroValue114
  t109:=Tryz.underlying106
  a109:=Tryz.isAgg106
  z109:=Tryz.sizeOf106
  v109:=Tryz.zeroValue106
  t127:=Tryz.underlying140
  a127:=Tryz.isAgg140
  z127:=Tryz.sizeOf140
  v127:=Tryz.zeroValue140
  t146:=Tryz.underlying135
  a146:=Tryz.isAgg135
  z146:=Tryz.sizeOf135
  v146:=Tryz.zeroValue135
  t148:=Tryz.underlying138
  a148:=Tryz.isAgg138
  z148:=Tryz.sizeOf138
  v148:=Tryz.zeroValue138
  t164:=Tryz.underlying152
  a164:=Tryz.isAgg152
  z164:=Tryz.sizeOf152
  v164:=Tryz.zeroValue152 }
end Go.Proofs.YtmbldnahcmkpgaaGreatDoor

namespace Go.Proofs.YtmbldnahcmkpgaaGreatDoor
open Go.V Go.RowKit Go.L Go.Lx Go.Jn Go.Dk
theorem repExtra : Builder.Extra Tryz.prog rep105_ren where
  sizeBuilder:=by kernel_rfl
  liesBuilder:=by kernel_rfl
  t5:=rep105.t5
  a5:=rep105.a5
  z5:=rep105.z5
  v5:=rep105.v5
  infoByte:=by kernel_rfl
  cellsByte:=by kernel_rfl
  sizeByte:=by kernel_rfl
  neB5:=by decide
theorem repeat_ok (s : Bs) (c : Nat) (hc : c ≤ 9223372036854775807) (hl : s.length * c ≤ 140737488355328) : Ok Tryz.prog 35 [] [] (.pair (.str s) (.pair (.int .i64 (c : Nat)) .nul)) (fun r h'=>r = .str (Lib.repeatL s c)∧h' = []) :=
  Ok.of_calls fun c0 vs hc0 hB hg hvs=>by
    obtain ⟨x,y,rfl,h1,h2⟩:=hvs
    have h1 : [x] = [_]:=h1
    cases h1
    obtain ⟨x2,y2,rfl,h3,h4⟩:=h2
    have h3 : [x2] = [_]:=h3
    have h4 : y2 = []:=h4
    subst h4
    cases h3
    have hz : (⟨s.toArray⟩ : ByteArray).size = s.length:=by show s.toArray.size = _;simp
    refine (Any.strings_Repeat rep105 repExtra ⟨s.toArray⟩ c c0.w hc (by rw [hz];exact hl)).mono fun e w' h=>?_
    obtain ⟨rfl,hb⟩:=h
    exact ⟨hb,_,_,rfl,⟨rfl,rfl⟩,by simp [Rep]⟩
end Go.Proofs.YtmbldnahcmkpgaaGreatDoor

set_option linter.all false
namespace Sha
def rotrN (x k : Nat) : Nat:=Nat.lor (Nat.shiftRight x k) (Nat.mod (Nat.shiftLeft x (Nat.sub 32 k)) 4294967296)
def sg0N (p : Nat) : Nat:=Nat.xor (Nat.xor (rotrN p 7) (rotrN p 18)) (Nat.shiftRight p 3)
def sg1N (p : Nat) : Nat:=Nat.xor (Nat.xor (rotrN p 17) (rotrN p 19)) (Nat.shiftRight p 10)
def bs0N (a : Nat) : Nat:=Nat.xor (Nat.xor (rotrN a 2) (rotrN a 13)) (rotrN a 22)
def bs1N (a : Nat) : Nat:=Nat.xor (Nat.xor (rotrN a 6) (rotrN a 11)) (rotrN a 25)
def chN (e f g : Nat) : Nat:=Nat.xor (Nat.land e f) (Nat.land (Nat.sub 4294967295 e) g)
def majN (a b c : Nat) : Nat:=Nat.xor (Nat.xor (Nat.land a b) (Nat.land a c)) (Nat.land b c)
theorem rotr_n (x k : UInt32) (h0 : 0 < k.toNat) (h : k.toNat < 32) : (rotr x k).toNat = rotrN x.toNat k.toNat:=by
  have h1 : (32 - k).toNat = 32 - k.toNat:=by
    rw [UInt32.toNat_sub];show (2 ^ 32 - k.toNat + 32) % 2 ^ 32 = _;omega
  unfold rotr rotrN
  rw [UInt32.toNat_or,UInt32.toNat_shiftRight,UInt32.toNat_shiftLeft,h1,Nat.mod_eq_of_lt h,Nat.mod_eq_of_lt (show 32 - k.toNat < 32 by omega)]
  rfl
theorem sg0_n (x : UInt32) : (sg0 x).toNat = sg0N x.toNat:=by
  unfold sg0 sg0N
  rw [UInt32.toNat_xor,UInt32.toNat_xor,rotr_n x 7 (by decide) (by decide),rotr_n x 18 (by decide) (by decide),UInt32.toNat_shiftRight];rfl
theorem sg1_n (x : UInt32) : (sg1 x).toNat = sg1N x.toNat:=by
  unfold sg1 sg1N
  rw [UInt32.toNat_xor,UInt32.toNat_xor,rotr_n x 17 (by decide) (by decide),rotr_n x 19 (by decide) (by decide),UInt32.toNat_shiftRight];rfl
theorem bs0_n (x : UInt32) : (bs0 x).toNat = bs0N x.toNat:=by
  unfold bs0 bs0N
  rw [UInt32.toNat_xor,UInt32.toNat_xor,rotr_n x 2 (by decide) (by decide),rotr_n x 13 (by decide) (by decide),rotr_n x 22 (by decide) (by decide)];rfl
theorem bs1_n (x : UInt32) : (bs1 x).toNat = bs1N x.toNat:=by
  unfold bs1 bs1N
  rw [UInt32.toNat_xor,UInt32.toNat_xor,rotr_n x 6 (by decide) (by decide),rotr_n x 11 (by decide) (by decide),rotr_n x 25 (by decide) (by decide)];rfl
theorem ch_n (e f g : UInt32) : (ch e f g).toNat = chN e.toNat f.toNat g.toNat:=by
  unfold ch chN
  rw [UInt32.toNat_xor,UInt32.toNat_and,UInt32.toNat_and,UInt32.toNat_not];rfl
theorem maj_n (a b c : UInt32) : (maj a b c).toNat = majN a.toNat b.toNat c.toNat:=by
  unfold maj majN
  rw [UInt32.toNat_xor,UInt32.toNat_xor,UInt32.toNat_and,UInt32.toNat_and,UInt32.toNat_and];rfl
abbrev GT (α : Type) : Type:=Nat→Nat→Nat→Nat→Nat→Nat→Nat→Nat→Nat→Nat→Nat→Nat→Nat→Nat→Nat→Nat→Nat→Nat→Nat→Nat→Nat→Nat→Nat→Nat→(Nat→Nat→Nat→Nat→Nat→Nat→Nat→Nat→α)→α
noncomputable def go {α : Type} (l : List Nat) : GT α :=
  @List.rec Nat (fun _=>GT α) (fun a b c d e f g h _ _ _ _ _ _ _ _ _ _ _ _ _ _ _ _ ret=>ret a b c d e f g h)
   (fun k _ ih a b c d e f g h w0 w1 w2 w3 w4 w5 w6 w7 w8 w9 w10 w11 w12 w13 w14 w15 ret =>
    (fun t1=>ih (Nat.mod (Nat.add t1 (Nat.add (bs0N a) (majN a b c))) 4294967296) a b c (Nat.mod (Nat.add d t1) 4294967296) e f g w1 w2 w3 w4 w5 w6 w7 w8 w9 w10 w11 w12 w13 w14 w15 (Nat.mod (Nat.add (Nat.add (sg1N w14) w9) (Nat.add (sg0N w1) w0)) 4294967296) ret)
      (Nat.add (Nat.add (Nat.add h (bs1N e)) (Nat.add (chN e f g) k)) w0)) l
def wd (b : List UInt8) (n : Nat) : UInt32:=nextW b (sched b n)
theorem sched_get (b : List UInt8) : ∀ n i,i < n→(sched b n).getD i 0 = wd b i
  | 0,i,h=>absurd h (Nat.not_lt_zero _)
  | n + 1,i,h=>by
    unfold sched
    rcases Nat.lt_or_ge i n with h1 | h1
    · rw [List.getD_eq_getElem?_getD,List.getElem?_append_left (by rw [sched_length];exact h1),← List.getD_eq_getElem?_getD]
      exact sched_get b n i h1
    · obtain rfl : i = n:=by omega
      rw [List.getD_eq_getElem?_getD,List.getElem?_append_right (by rw [sched_length];exact Nat.le_refl _),sched_length,Nat.sub_self];rfl
theorem wd_next (b : List UInt8) (n : Nat) : wd b (n + 16) = wd b n + sg0 (wd b (n + 1)) + wd b (n + 9) + sg1 (wd b (n + 14)):=by
  conv=>lhs;unfold wd nextW
  rw [sched_length,if_neg (by omega),sched_get b _ _ (by omega),sched_get b _ _ (by omega),sched_get b _ _ (by omega),sched_get b _ _ (by omega)]
  rw [show n + 16 - 16 = n by omega,show n + 16 - 15 = n + 1 by omega,show n + 16 - 7 = n + 9 by omega,show n + 16 - 2 = n + 14 by omega]
def st (b : List UInt8) (s : St) (j : Nat) : St:=rounds (sched b 64) s j
theorem go_step {α : Type} (b : List UInt8) (s : St) (ret : Nat→Nat→Nat→Nat→Nat→Nat→Nat→Nat→α) : ∀ m j,j + m = 64 →
    go ((kTab.drop j).map UInt32.toNat) (st b s j).a.toNat (st b s j).b.toNat (st b s j).c.toNat (st b s j).d.toNat (st b s j).e.toNat (st b s j).f.toNat (st b s j).g.toNat (st b s j).h.toNat (wd b j).toNat (wd b (j + 1)).toNat (wd b (j + 2)).toNat (wd b (j + 3)).toNat (wd b (j + 4)).toNat (wd b (j + 5)).toNat (wd b (j + 6)).toNat (wd b (j + 7)).toNat (wd b (j + 8)).toNat (wd b (j + 9)).toNat (wd b (j + 10)).toNat (wd b (j + 11)).toNat (wd b (j + 12)).toNat (wd b (j + 13)).toNat (wd b (j + 14)).toNat (wd b (j + 15)).toNat ret
      = ret (st b s 64).a.toNat (st b s 64).b.toNat (st b s 64).c.toNat (st b s 64).d.toNat (st b s 64).e.toNat (st b s 64).f.toNat (st b s 64).g.toNat (st b s 64).h.toNat
  | 0,j,h=>by
    obtain rfl : j = 64:=by omega
    rfl
  | m + 1,j,h=>by
    have hj : j < 64:=by omega
    have hk : (kTab.drop j).map UInt32.toNat = (kTab.getD j 0).toNat::(kTab.drop (j + 1)).map UInt32.toNat:=by
      rw [List.drop_eq_getElem_cons (show j < kTab.length from hj),List.map_cons,List.getD_eq_getElem?_getD,List.getElem?_eq_getElem (show j < kTab.length from hj)];rfl
    have hr : st b s (j + 1) = round (st b s j) (kTab.getD j 0) (wd b j):=by
      show round (rounds (sched b 64) s j) (kTab.getD j 0) ((sched b 64).getD j 0) = _
      rw [sched_get b 64 j hj];rfl
    have ih:=go_step b s ret m (j + 1) (by omega)
    rw [hk,← ih,hr]
    have e1 : (t1 (st b s j) (kTab.getD j 0) (wd b j) + t2 (st b s j)).toNat = Nat.mod (Nat.add (Nat.add (Nat.add (Nat.add (st b s j).h.toNat (bs1N (st b s j).e.toNat)) (Nat.add (chN (st b s j).e.toNat (st b s j).f.toNat (st b s j).g.toNat) (kTab.getD j 0).toNat)) (wd b j).toNat) (Nat.add (bs0N (st b s j).a.toNat) (majN (st b s j).a.toNat (st b s j).b.toNat (st b s j).c.toNat))) 4294967296:=by
      unfold t1 t2
      simp only [UInt32.toNat_add,bs1_n,ch_n,bs0_n,maj_n]
      show _ = ((((st b s j).h.toNat + bs1N (st b s j).e.toNat) + (chN (st b s j).e.toNat (st b s j).f.toNat (st b s j).g.toNat + (kTab.getD j 0).toNat)) + (wd b j).toNat + (bs0N (st b s j).a.toNat + majN (st b s j).a.toNat (st b s j).b.toNat (st b s j).c.toNat)) % 4294967296
      omega
    have e2 : ((st b s j).d + t1 (st b s j) (kTab.getD j 0) (wd b j)).toNat = Nat.mod (Nat.add (st b s j).d.toNat (Nat.add (Nat.add (Nat.add (st b s j).h.toNat (bs1N (st b s j).e.toNat)) (Nat.add (chN (st b s j).e.toNat (st b s j).f.toNat (st b s j).g.toNat) (kTab.getD j 0).toNat)) (wd b j).toNat)) 4294967296:=by
      unfold t1
      simp only [UInt32.toNat_add,bs1_n,ch_n]
      show _ = ((st b s j).d.toNat + ((((st b s j).h.toNat + bs1N (st b s j).e.toNat) + (chN (st b s j).e.toNat (st b s j).f.toNat (st b s j).g.toNat + (kTab.getD j 0).toNat)) + (wd b j).toNat)) % 4294967296
      omega
    have e3 : (wd b (j + 16)).toNat = Nat.mod (Nat.add (Nat.add (sg1N (wd b (j + 14)).toNat) (wd b (j + 9)).toNat) (Nat.add (sg0N (wd b (j + 1)).toNat) (wd b j).toNat)) 4294967296:=by
      rw [wd_next]
      simp only [UInt32.toNat_add,sg0_n,sg1_n]
      show _ = ((sg1N (wd b (j + 14)).toNat + (wd b (j + 9)).toNat) + (sg0N (wd b (j + 1)).toNat + (wd b j).toNat)) % 4294967296
      omega
    simp only [Nat.add_assoc,Nat.reduceAdd]
    unfold round
    simp only
    rw [e1,e2,e3]
    rfl
theorem byteW_n (x : UInt8) : (byteW x).toNat = x.toNat:=rfl
def w4 (a b c d : Nat) : Nat:=Nat.lor (Nat.lor (Nat.lor (Nat.mod (Nat.shiftLeft a 24) 4294967296) (Nat.mod (Nat.shiftLeft b 16) 4294967296)) (Nat.mod (Nat.shiftLeft c 8) 4294967296)) d
theorem be32_n (b : List UInt8) (k : Nat) : (be32 b k).toNat = w4 (b.getD k 0).toNat (b.getD (k + 1) 0).toNat (b.getD (k + 2) 0).toNat (b.getD (k + 3) 0).toNat:=by
  unfold be32 w4
  rw [UInt32.toNat_or,UInt32.toNat_or,UInt32.toNat_or,UInt32.toNat_shiftLeft,UInt32.toNat_shiftLeft,UInt32.toNat_shiftLeft,byteW_n,byteW_n,byteW_n,byteW_n];rfl
theorem wd_n (b : List UInt8) (i : Nat) (h : i < 16) : wd b i = be32 b (4 * i):=by
  unfold wd nextW
  rw [sched_length,if_pos h]
noncomputable def cmpN {α : Type} (a b c d e f g h : Nat) (W : Nat→Nat) (ret : Nat→Nat→Nat→Nat→Nat→Nat→Nat→Nat→α) : α :=
  go (kTab.map UInt32.toNat) a b c d e f g h (W 0) (W 1) (W 2) (W 3) (W 4) (W 5) (W 6) (W 7) (W 8) (W 9) (W 10) (W 11) (W 12) (W 13) (W 14) (W 15)
    (fun a' b' c' d' e' f' g' h'=>ret (Nat.mod (Nat.add a a') 4294967296) (Nat.mod (Nat.add b b') 4294967296) (Nat.mod (Nat.add c c') 4294967296) (Nat.mod (Nat.add d d') 4294967296) (Nat.mod (Nat.add e e') 4294967296) (Nat.mod (Nat.add f f') 4294967296) (Nat.mod (Nat.add g g') 4294967296) (Nat.mod (Nat.add h h') 4294967296))
theorem cmp_n {α : Type} (s : St) (b : List UInt8) (ret : Nat→Nat→Nat→Nat→Nat→Nat→Nat→Nat→α) :
    cmpN s.a.toNat s.b.toNat s.c.toNat s.d.toNat s.e.toNat s.f.toNat s.g.toNat s.h.toNat (fun i=>(be32 b (4 * i)).toNat) ret
      = ret (compress s b).a.toNat (compress s b).b.toNat (compress s b).c.toNat (compress s b).d.toNat (compress s b).e.toNat (compress s b).f.toNat (compress s b).g.toNat (compress s b).h.toNat:=by
  have h:=go_step b s (fun a' b' c' d' e' f' g' h'=>ret (Nat.mod (Nat.add s.a.toNat a') 4294967296) (Nat.mod (Nat.add s.b.toNat b') 4294967296) (Nat.mod (Nat.add s.c.toNat c') 4294967296) (Nat.mod (Nat.add s.d.toNat d') 4294967296) (Nat.mod (Nat.add s.e.toNat e') 4294967296) (Nat.mod (Nat.add s.f.toNat f') 4294967296) (Nat.mod (Nat.add s.g.toNat g') 4294967296) (Nat.mod (Nat.add s.h.toNat h') 4294967296)) 64 0 rfl
  have hw : ∀ i,i < 16→(be32 b (4 * i)).toNat = (wd b i).toNat:=fun i hi=>by rw [wd_n b i hi]
  have h0 : st b s 0 = s:=rfl
  have hs : compress s b = s.add (st b s 64):=rfl
  have e : ∀ x y : UInt32,(x + y).toNat = Nat.mod (Nat.add x.toNat y.toNat) 4294967296:=fun x y=>UInt32.toNat_add x y
  rw [h0,List.drop_zero] at h
  simp only [Nat.zero_add] at h
  rw [hs]
  generalize st b s 64 = S at *
  unfold cmpN
  dsimp only
  rw [hw 0 (by decide),hw 1 (by decide),hw 2 (by decide),hw 3 (by decide),hw 4 (by decide),hw 5 (by decide),hw 6 (by decide),hw 7 (by decide),hw 8 (by decide),hw 9 (by decide),hw 10 (by decide),hw 11 (by decide),hw 12 (by decide),hw 13 (by decide),hw 14 (by decide),hw 15 (by decide)]
  rw [h]
  unfold St.add
  dsimp only
  rw [e,e,e,e,e,e,e,e]
noncomputable def runN {α : Type} (ret : Nat→Nat→Nat→Nat→Nat→Nat→Nat→Nat→α) (n : Nat) : List Nat→Nat→Nat→Nat→Nat→Nat→Nat→Nat→Nat→α :=
  @Nat.rec (fun _=>List Nat→Nat→Nat→Nat→Nat→Nat→Nat→Nat→Nat→α) (fun _ a b c d e f g h=>ret a b c d e f g h)
    (fun _ ih m a b c d e f g h=>cmpN a b c d e f g h (fun i=>w4 (m.getD (4 * i) 0) (m.getD (4 * i + 1) 0) (m.getD (4 * i + 2) 0) (m.getD (4 * i + 3) 0)) (ih (m.drop 64))) n
theorem getD_map (l : List UInt8) (i : Nat) : (l.map UInt8.toNat).getD i 0 = (l.getD i 0).toNat:=by
  rw [List.getD_eq_getElem?_getD,List.getD_eq_getElem?_getD,List.getElem?_map]
  cases l[i]? <;> rfl
def blocksF (s : St) (m : List UInt8) : Nat→St
  | 0=>s
  | n + 1=>compress (blocksF s m n) ((m.drop (64 * n)).take 64)
theorem blocksF_init (m : List UInt8) : ∀ n,blocksF init m n = blocks m n
  | 0=>rfl
  | n + 1=>by unfold blocksF blocks;rw [blocksF_init m n]
theorem blocksF_front (s : St) (m : List UInt8) : ∀ n,blocksF s m (n + 1) = blocksF (compress s (m.take 64)) (m.drop 64) n
  | 0=>by unfold blocksF blocksF;rw [Nat.mul_zero,List.drop_zero]
  | n + 1=>by
    rw [blocksF,blocksF_front s m n,blocksF,List.drop_drop,show 64 * (n + 1) = 64 + 64 * n by omega]
theorem be32_take (m : List UInt8) (i : Nat) (h : i < 16) : be32 (m.take 64) (4 * i) = be32 m (4 * i):=by
  have e : ∀ j,j < 64→(m.take 64).getD j 0 = m.getD j 0:=fun j hj=>by
    rw [List.getD_eq_getElem?_getD,List.getD_eq_getElem?_getD,List.getElem?_take,if_pos hj]
  unfold be32
  rw [e _ (by omega),e _ (by omega),e _ (by omega),e _ (by omega)]
theorem cmpN_cong {α : Type} {a b c d e f g h : Nat} {W W' : Nat→Nat} {ret : Nat→Nat→Nat→Nat→Nat→Nat→Nat→Nat→α} (hW : ∀ i,i < 16→W i = W' i) : cmpN a b c d e f g h W ret = cmpN a b c d e f g h W' ret:=by
  unfold cmpN
  rw [hW 0 (by decide),hW 1 (by decide),hW 2 (by decide),hW 3 (by decide),hW 4 (by decide),hW 5 (by decide),hW 6 (by decide),hW 7 (by decide),hW 8 (by decide),hW 9 (by decide),hW 10 (by decide),hW 11 (by decide),hW 12 (by decide),hW 13 (by decide),hW 14 (by decide),hW 15 (by decide)]
theorem runN_succ {α : Type} (ret : Nat→Nat→Nat→Nat→Nat→Nat→Nat→Nat→α) (n : Nat) (m : List Nat) (a b c d e f g h : Nat) : runN ret (n + 1) m a b c d e f g h = cmpN a b c d e f g h (fun i=>w4 (m.getD (4 * i) 0) (m.getD (4 * i + 1) 0) (m.getD (4 * i + 2) 0) (m.getD (4 * i + 3) 0)) (runN ret n (m.drop 64)):=rfl
theorem run_n {α : Type} (ret : Nat→Nat→Nat→Nat→Nat→Nat→Nat→Nat→α) : ∀ n (m : List UInt8) (s : St),
    runN ret n (m.map UInt8.toNat) s.a.toNat s.b.toNat s.c.toNat s.d.toNat s.e.toNat s.f.toNat s.g.toNat s.h.toNat
      = ret (blocksF s m n).a.toNat (blocksF s m n).b.toNat (blocksF s m n).c.toNat (blocksF s m n).d.toNat (blocksF s m n).e.toNat (blocksF s m n).f.toNat (blocksF s m n).g.toNat (blocksF s m n).h.toNat
  | 0,_,_=>rfl
  | n + 1,m,s=>by
    have h1:=cmp_n s (m.take 64) (runN ret n ((m.map UInt8.toNat).drop 64))
    have h2:=run_n ret n (m.drop 64) (compress s (m.take 64))
    rw [List.map_drop] at h2
    rw [h2] at h1
    rw [blocksF_front,runN_succ,← h1]
    refine cmpN_cong fun i hi=>?_
    rw [getD_map,getD_map,getD_map,getD_map,be32_take m i hi,be32_n]
def be64N (n : Nat) : List Nat:=(List.range 8).map fun i=>n / 2 ^ (56 - 8 * i) % 256
def padN (l : List Nat) : List Nat:=l ++ 128::(List.replicate (zeros l.length) 0 ++ be64N (8 * l.length))
theorem padN_ok (m : List UInt8) : (padded m).map UInt8.toNat = padN (m.map UInt8.toNat):=by
  unfold padded pad padN be64 be64N
  rw [List.map_append,List.map_cons,List.map_append,List.length_map,List.map_replicate,List.map_map]
  congr 3
def wbN (x : Nat) : List Nat:=[x / 2 ^ 24 % 256,x / 2 ^ 16 % 256,x / 2 ^ 8 % 256,x % 256]
theorem wbN_ok (x : UInt32) : (wordBytes x).map UInt8.toNat = wbN x.toNat:=rfl
noncomputable def sumN (l : List Nat) : List Nat:=runN (fun a b c d e f g h=>wbN a ++ (wbN b ++ (wbN c ++ (wbN d ++ (wbN e ++ (wbN f ++ (wbN g ++ wbN h))))))) ((padN l).length / 64) (padN l) 0x6a09e667 0xbb67ae85 0x3c6ef372 0xa54ff53a 0x510e527f 0x9b05688c 0x1f83d9ab 0x5be0cd19
theorem sum_n (m : List UInt8) : (sum m).map UInt8.toNat = sumN (m.map UInt8.toNat):=by
  unfold sumN
  rw [← padN_ok,List.length_map]
  refine Eq.trans ?_ (run_n _ _ (padded m) init).symm
  unfold sum
  rw [← blocksF_init]
  generalize blocksF init (padded m) ((padded m).length / 64) = S
  unfold St.bytes St.words
  simp only [List.flatMap_cons,List.flatMap_nil,List.append_nil,List.map_append,wbN_ok]
noncomputable def four {α : Type} (z : α) (l : List Nat) (k : Nat→List Nat→α) : α :=
  @List.casesOn Nat (fun _=>α) l z fun a l=>@List.casesOn Nat (fun _=>α) l z fun b l=>@List.casesOn Nat (fun _=>α) l z fun c l=>@List.casesOn Nat (fun _=>α) l z fun d l=>k (w4 a b c d) l
noncomputable def cmpL {α : Type} (z : α) (a b c d e f g h : Nat) (l : List Nat) (ret : List Nat→Nat→Nat→Nat→Nat→Nat→Nat→Nat→Nat→α) : α :=
  four z l fun x0 l =>
  four z l fun x1 l =>
  four z l fun x2 l =>
  four z l fun x3 l =>
  four z l fun x4 l =>
  four z l fun x5 l =>
  four z l fun x6 l =>
  four z l fun x7 l =>
  four z l fun x8 l =>
  four z l fun x9 l =>
  four z l fun x10 l =>
  four z l fun x11 l =>
  four z l fun x12 l =>
  four z l fun x13 l =>
  four z l fun x14 l =>
  four z l fun x15 l =>
  go (kTab.map UInt32.toNat) a b c d e f g h x0 x1 x2 x3 x4 x5 x6 x7 x8 x9 x10 x11 x12 x13 x14 x15
    (fun a' b' c' d' e' f' g' h'=>ret l (Nat.mod (Nat.add a a') 4294967296) (Nat.mod (Nat.add b b') 4294967296) (Nat.mod (Nat.add c c') 4294967296) (Nat.mod (Nat.add d d') 4294967296) (Nat.mod (Nat.add e e') 4294967296) (Nat.mod (Nat.add f f') 4294967296) (Nat.mod (Nat.add g g') 4294967296) (Nat.mod (Nat.add h h') 4294967296))
noncomputable def runL {α : Type} (z : α) (ret : Nat→Nat→Nat→Nat→Nat→Nat→Nat→Nat→α) (n : Nat) : List Nat→Nat→Nat→Nat→Nat→Nat→Nat→Nat→Nat→α :=
  @Nat.rec (fun _=>List Nat→Nat→Nat→Nat→Nat→Nat→Nat→Nat→Nat→α) (fun _ a b c d e f g h=>ret a b c d e f g h)
    (fun _ ih m a b c d e f g h=>cmpL z a b c d e f g h m ih) n
noncomputable def sumL (l : List Nat) : List Nat:=runL [] (fun a b c d e f g h=>wbN a ++ (wbN b ++ (wbN c ++ (wbN d ++ (wbN e ++ (wbN f ++ (wbN g ++ wbN h))))))) ((padN l).length / 64) (padN l) 0x6a09e667 0xbb67ae85 0x3c6ef372 0xa54ff53a 0x510e527f 0x9b05688c 0x1f83d9ab 0x5be0cd19
theorem four_ok {α : Type} (z : α) (l : List Nat) (k : Nat→List Nat→α) (h : 4 ≤ l.length) : four z l k = k (w4 (l.getD 0 0) (l.getD 1 0) (l.getD 2 0) (l.getD 3 0)) (l.drop 4):=by
  match l,h with
  | a::b::c::d::l,_=>rfl
  | [],h=>simp at h
  | [_],h=>simp at h
  | [_,_],h=>simp at h
  | [_,_,_],h=>simp at h
theorem getD_drop (l : List Nat) (n i : Nat) : (l.drop n).getD i 0 = l.getD (n + i) 0:=by
  rw [List.getD_eq_getElem?_getD,List.getD_eq_getElem?_getD,List.getElem?_drop]
theorem fourD {α : Type} (z : α) (l : List Nat) (n : Nat) (k : Nat→List Nat→α) (h : n + 4 ≤ l.length) : four z (l.drop n) k = k (w4 (l.getD n 0) (l.getD (n + 1) 0) (l.getD (n + 2) 0) (l.getD (n + 3) 0)) (l.drop (n + 4)):=by
  rw [four_ok z _ k (by rw [List.length_drop];omega),getD_drop,getD_drop,getD_drop,getD_drop,List.drop_drop,Nat.add_zero]
theorem cmpL_ok {α : Type} (z : α) (a b c d e f g h : Nat) (l : List Nat) (ret : List Nat→Nat→Nat→Nat→Nat→Nat→Nat→Nat→Nat→α) (hl : 64 ≤ l.length) :
    cmpL z a b c d e f g h l ret = cmpN a b c d e f g h (fun i=>w4 (l.getD (4 * i) 0) (l.getD (4 * i + 1) 0) (l.getD (4 * i + 2) 0) (l.getD (4 * i + 3) 0)) (ret (l.drop 64)):=by
  unfold cmpL
  rw [show l = l.drop 0 from rfl]
  rw [fourD z l 0 _ (by omega)]
  rw [fourD z l 4 _ (by omega)]
  rw [fourD z l 8 _ (by omega)]
  rw [fourD z l 12 _ (by omega)]
  rw [fourD z l 16 _ (by omega)]
  rw [fourD z l 20 _ (by omega)]
  rw [fourD z l 24 _ (by omega)]
  rw [fourD z l 28 _ (by omega)]
  rw [fourD z l 32 _ (by omega)]
  rw [fourD z l 36 _ (by omega)]
  rw [fourD z l 40 _ (by omega)]
  rw [fourD z l 44 _ (by omega)]
  rw [fourD z l 48 _ (by omega)]
  rw [fourD z l 52 _ (by omega)]
  rw [fourD z l 56 _ (by omega)]
  rw [fourD z l 60 _ (by omega)]
  rfl
theorem runL_ok {α : Type} (z : α) (ret : Nat→Nat→Nat→Nat→Nat→Nat→Nat→Nat→α) : ∀ n (l : List Nat) (a b c d e f g h : Nat),64 * n ≤ l.length→runL z ret n l a b c d e f g h = runN ret n l a b c d e f g h
  | 0,_,_,_,_,_,_,_,_,_,_=>rfl
  | n + 1,l,a,b,c,d,e,f,g,h,hl=>by
    show cmpL z a b c d e f g h l (runL z ret n) = _
    rw [runN_succ,cmpL_ok z a b c d e f g h l _ (by omega)]
    have e1 : runL z ret n (l.drop 64) = runN ret n (l.drop 64):=by
      funext a b c d e f g h
      exact runL_ok z ret n (l.drop 64) a b c d e f g h (by rw [List.length_drop];omega)
    rw [e1]
theorem sumL_ok (l : List Nat) : sumL l = sumN l:=by
  unfold sumL sumN
  exact runL_ok _ _ _ _ _ _ _ _ _ _ _ _ (by omega)
theorem sum_l (m : List UInt8) : (sum m).map UInt8.toNat = sumL (m.map UInt8.toNat):=by rw [sumL_ok,sum_n]
end Sha
