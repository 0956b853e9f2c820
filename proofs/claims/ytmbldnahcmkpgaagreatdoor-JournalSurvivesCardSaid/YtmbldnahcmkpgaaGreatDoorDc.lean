/- The contracts of slices.Sorted and maps.Keys at this translation: a table of numbers and its facts each (written by the kit's tool). Disks: the sorted keys of the two maps. -/
import Derived.Shelf.SlIterI.Nil
import Derived.Shelf.SortM.Plain
import Derived.Shelf.SortM.SortNone
import Derived.Test.YtmbldnahcmkpgaaGreatDoorProg
import Derived.Test.YtmbldnahcmkpgaaGreatDoorAc
import Derived.Test.YtmbldnahcmkpgaaGreatDoorSg
namespace Go.Proofs.YtmbldnahcmkpgaaGreatDoor
open Go.Shelf
def keys82_ren : Go.Shelf.Ren:=⟨fun | 7=>82 | 10=>98 | n=>n,fun | 23=>70 | 26=>3 | 3=>82 | 28=>131 | 0=>0 | 27=>130 | 33=>83 | 4=>4 | n=>n,fun | n=>n⟩
theorem keys82 : Go.Proofs.SlLaysZI.n7 Tryz.prog keys82_ren:={
  mixed:=by kernel_rfl
  f7:=⟨Tryz.f82.name,by decide,Tryz.func82.trans (congrArg some (by kernel_rfl))⟩
  f10:=⟨Tryz.f98.name,by decide,Tryz.func98.trans (congrArg some (by kernel_rfl))⟩
  t0:=Tryz.underlying0
  a0:=Tryz.isAgg0
  z0:=Tryz.sizeOf0
  v0:=Tryz.zeroValue0
  t4:=Tryz.underlying4
  a4:=Tryz.isAgg4
  z4:=Tryz.sizeOf4
  v4:=Tryz.zeroValue4
  t23:=Tryz.underlying70
  a23:=Tryz.isAgg70
  z23:=Tryz.sizeOf70
  v23:=Tryz.zeroValue70
  t26:=Tryz.underlying3
  a26:=Tryz.isAgg3
  z26:=Tryz.sizeOf3
  v26:=Tryz.zeroValue3
  t27:=Tryz.underlying130
  a27:=Tryz.isAgg130
  z27:=Tryz.sizeOf130
  v27:=Tryz.zeroValue130
  t28:=Tryz.underlying131
  a28:=Tryz.isAgg131
  z28:=Tryz.sizeOf131
  v28:=Tryz.zeroValue131
  t33:=Tryz.underlying83
  a33:=Tryz.isAgg83
  z33:=Tryz.sizeOf83
  v33:=Tryz.zeroValue83 }
def sorted81_ren : Go.Shelf.Ren:=⟨fun | 6=>81 | 8=>96 | 9=>97 | 11=>106 | 13=>108 | 12=>107 | 23=>120 | 24=>121 | 14=>111 | 15=>112 | 16=>113 | 17=>114 | 18=>115 | 19=>116 | 20=>117 | 21=>118 | 22=>119 | 25=>123 | 26=>124 | 27=>125 | 28=>126 | 29=>127 | 30=>128 | 31=>129 | n=>n,fun | 26=>3 | 28=>131 | 24=>41 | 0=>0 | 3=>3 | 37=>105 | 48=>134 | 50=>137 | 4=>4 | 40=>169 | 39=>168 | 45=>174 | 5=>5 | 9=>9 | 51=>178 | 55=>182 | 57=>184 | 58=>185 | 33=>83 | n=>n,fun | n=>n⟩
theorem sorted81 : Go.Proofs.SlLaysZI.n6 Tryz.prog sorted81_ren:={
  mixed:=by kernel_rfl
  f6:=⟨Tryz.f81.name,by decide,Tryz.func81.trans (congrArg some (by kernel_rfl))⟩
  f8:=⟨Tryz.f96.name,by decide,Tryz.func96.trans (congrArg some (by kernel_rfl))⟩
  f11:=⟨Tryz.f106.name,by decide,Tryz.func106.trans (congrArg some (by kernel_rfl))⟩
  t0:=Tryz.underlying0
  a0:=Tryz.isAgg0
  z0:=Tryz.sizeOf0
  v0:=Tryz.zeroValue0
  t24:=Tryz.underlying41
  a24:=Tryz.isAgg41
  z24:=Tryz.sizeOf41
  v24:=Tryz.zeroValue41
  t26:=Tryz.underlying3
  a26:=Tryz.isAgg3
  z26:=Tryz.sizeOf3
  v26:=Tryz.zeroValue3
  t28:=Tryz.underlying131
  a28:=Tryz.isAgg131
  z28:=Tryz.sizeOf131
  v28:=Tryz.zeroValue131
  i26:=by kernel_rfl }
def sort97_ren : Go.Shelf.Ren:=⟨fun | 5=>97 | 8=>108 | 7=>107 | 19=>120 | 20=>121 | 10=>111 | 11=>112 | 12=>113 | 13=>114 | 14=>115 | 15=>116 | 16=>117 | 17=>118 | 18=>119 | 30=>123 | 31=>124 | 32=>125 | 33=>126 | 34=>127 | 35=>128 | 40=>129 | n=>n,fun | 23=>41 | 25=>3 | 3=>3 | 32=>105 | 22=>41 | 0=>0 | 44=>134 | 46=>137 | 4=>4 | 36=>169 | 35=>168 | 41=>174 | 5=>5 | 9=>9 | 53=>178 | 57=>182 | 63=>184 | 64=>185 | n=>n,fun | n=>n⟩
theorem sort97 : Go.Proofs.SlLaysM.n5 Tryz.prog sort97_ren:={
  mixed:=by kernel_rfl
  f5:=⟨Tryz.f97.name,by decide,Tryz.func97.trans (congrArg some (by kernel_rfl))⟩
  f7:=⟨Tryz.f107.name,by decide,Tryz.func107.trans (congrArg some (by kernel_rfl))⟩
  f8:=Tryz.func108.trans (congrArg some (by kernel_rfl))
  f10:=⟨Tryz.f111.name,by decide,Tryz.func111.trans (congrArg some (by kernel_rfl))⟩
  f11:=⟨Tryz.f112.name,by decide,Tryz.func112.trans (congrArg some (by kernel_rfl))⟩
  f12:=⟨Tryz.f113.name,by decide,Tryz.func113.trans (congrArg some (by kernel_rfl))⟩
  f13:=⟨Tryz.f114.name,by decide,Tryz.func114.trans (congrArg some (by kernel_rfl))⟩
  f14:=⟨Tryz.f115.name,by decide,Tryz.func115.trans (congrArg some (by kernel_rfl))⟩
  f15:=⟨Tryz.f116.name,by decide,Tryz.func116.trans (congrArg some (by kernel_rfl))⟩
  f16:=⟨Tryz.f117.name,by decide,Tryz.func117.trans (congrArg some (by kernel_rfl))⟩
  f17:=⟨Tryz.f118.name,by decide,Tryz.func118.trans (congrArg some (by kernel_rfl))⟩
  f18:=⟨Tryz.f119.name,by decide,Tryz.func119.trans (congrArg some (by kernel_rfl))⟩
  f19:=Tryz.func120.trans (congrArg some (by kernel_rfl))
  f20:=Tryz.func121.trans (congrArg some (by kernel_rfl))
  f30:=⟨Tryz.f123.name,by decide,Tryz.func123.trans (congrArg some (by kernel_rfl))⟩
  f31:=Tryz.func124.trans (congrArg some (by kernel_rfl))
  f32:=Tryz.func125.trans (congrArg some (by kernel_rfl))
  f33:=⟨Tryz.f126.name,by decide,Tryz.func126.trans (congrArg some (by kernel_rfl))⟩
  f34:=⟨Tryz.f127.name,by decide,Tryz.func127.trans (congrArg some (by kernel_rfl))⟩
  f35:=⟨Tryz.f128.name,by decide,Tryz.func128.trans (congrArg some (by kernel_rfl))⟩
  f40:=⟨Tryz.f129.name,by decide,Tryz.func129.trans (congrArg some (by kernel_rfl))⟩
  t0:=Tryz.underlying0
  a0:=Tryz.isAgg0
  z0:=Tryz.sizeOf0
  v0:=Tryz.zeroValue0
  t3:=Tryz.underlying3
  a3:=Tryz.isAgg3
  z3:=Tryz.sizeOf3
  v3:=Tryz.zeroValue3
  t4:=Tryz.underlying4
  a4:=Tryz.isAgg4
  z4:=Tryz.sizeOf4
  v4:=Tryz.zeroValue4
  t5:=Tryz.underlying5
  a5:=Tryz.isAgg5
  z5:=Tryz.sizeOf5
  v5:=Tryz.zeroValue5
  t9:=Tryz.underlying9
  a9:=Tryz.isAgg9
  z9:=Tryz.sizeOf9
  v9:=Tryz.zeroValue9
  t22:=Tryz.underlying41
  a22:=Tryz.isAgg41
  z22:=Tryz.sizeOf41
  v22:=Tryz.zeroValue41
  t23:=Tryz.underlying41
  a23:=Tryz.isAgg41
  z23:=Tryz.sizeOf41
  v23:=Tryz.zeroValue41
  t25:=Tryz.underlying3
  a25:=Tryz.isAgg3
  z25:=Tryz.sizeOf3
  v25:=Tryz.zeroValue3
  t32:=Tryz.underlying105
  a32:=Tryz.isAgg105
  z32:=Tryz.sizeOf105
  v32:=Tryz.zeroValue105
  t35:=Tryz.underlying168
  a35:=Tryz.isAgg168
  z35:=Tryz.sizeOf168
  v35:=Tryz.zeroValue168
  t36:=Tryz.underlying169
  a36:=Tryz.isAgg169
  z36:=Tryz.sizeOf169
  v36:=Tryz.zeroValue169
  t41:=Tryz.underlying174
  a41:=Tryz.isAgg174
  z41:=Tryz.sizeOf174
  v41:=Tryz.zeroValue174
  t44:=Tryz.underlying134
  a44:=Tryz.isAgg134
  z44:=Tryz.sizeOf134
  v44:=Tryz.zeroValue134
  t46:=Tryz.underlying137
  a46:=Tryz.isAgg137
  z46:=Tryz.sizeOf137
  v46:=Tryz.zeroValue137
  t53:=Tryz.underlying178
  a53:=Tryz.isAgg178
  z53:=Tryz.sizeOf178
  v53:=Tryz.zeroValue178
  t57:=Tryz.underlying182
  a57:=Tryz.isAgg182
  z57:=Tryz.sizeOf182
  v57:=Tryz.zeroValue182
  t63:=Tryz.underlying184
  a63:=Tryz.isAgg184
  z63:=Tryz.sizeOf184
  v63:=Tryz.zeroValue184
  t64:=Tryz.underlying185
  a64:=Tryz.isAgg185
  z64:=Tryz.sizeOf185
  v64:=Tryz.zeroValue185 }
end Go.Proofs.YtmbldnahcmkpgaaGreatDoor

namespace Go.Proofs.YtmbldnahcmkpgaaGreatDoor
open Go.V Go.RowKit Go.L Go.Dk Go.Maps Go.Shelf
theorem sorts_ok (m : Nat) : AnyZI.SortsIn Tryz.prog sorted81_ren Fence.wide m :=
  ⟨fun blk off cap ss W hH hblk hsz=>callsIn_wide.2 (AnyM.slices_Sort_int sort97 blk off cap ss W hH hblk hsz),
   fun p cap W=>callsIn_wide.2 (AnyM.slices_Sort_int_none sort97 p cap W)⟩
def intsT (l : List Int) : AV:=.rsl true l.length 1 (fun i=>.int .i64 (l.getD i 0))
theorem int_wf {k : Int} (h : -9223372036854775808 ≤ k∧k ≤ 9223372036854775807) : (Lit.int .i64 k).wf = true:=by
  simp only [Lit.wf,IntKind.min,IntKind.max,IntKind.signed,IntKind.bits,Bool.and_eq_true,decide_eq_true_eq]
  simpa using h
set_option maxHeartbeats 1000000 in
theorem sortedP_ok (P : PM) (hnd : (P.map (·.1)).Nodup) (hb : ∀ q ∈ P,i64B q.1) (hl : P.length ≤ 1048576) :
    Ok Tryz.prog 81 [] [(2,pendA P),(4,.mp 2)] (.pair (.fn (.func 98) .nul (.pair (.ptr 4 []) .nul)) .nul) (fun r h'=>r = intsT (sortI (P.map (·.1)))∧h' = [(2,pendA P)]):=by
  refine Ok.of_callsH (h1:=[(2,pendA P)]) (fun i av hi=>?_) fun c vs hc hB hh hvs=>?_
  · rw [get?_cons] at hi ⊢
    split at hi
    · rename_i e;rw [if_pos e];exact hi
    · cases hi
  have hG2 : ¬ c.G 4∧¬ c.G 2:=by
    obtain ⟨v,vs',rfl,hv,hn⟩:=hvs
    obtain ⟨fs,cs,_,hfs,hcs⟩:=hv
    obtain ⟨x,y,rfl,hx,hy⟩:=hcs
    have ho:=hh.obj 4 (.mp 2) rfl hx.2.1
    obtain ⟨cs,t,xs,ys,hb1,hc1,hr⟩:=ho.cells rfl
    exact ⟨hx.2.1,hr.2.1⟩
  obtain ⟨es,clock,hbk,hn,hes,h1,h2⟩:=mapAt_of (K:=KI) (V:=blkA) (d:=(0,[])) (l:=P) hh rfl hG2.2
  have hkeys:=map_keys keyI hn hes
  obtain ⟨D0,hown,hperm,hsize⟩:=owns_of (P:=Tryz.prog) u_int hbk hkeys hnd (fun k hk=>by
    obtain ⟨q,hq,rfl⟩:=List.mem_map.1 hk
    exact int_wf (hb q hq)) h1 h2 (by rw [List.length_map];unfold maxLen;omega)
  obtain ⟨cs4,t4,xs4,ys4,hb4,rfl,hr4⟩:=(hh.obj 4 (.mp 2) rfl hG2.1).cells rfl
  have hr4:=hr4.2.2
  subst hr4
  have hcell : c.w.cell? ⟨c.ρ 4,0,none⟩ = some (.map (some (c.ρ 2))):=by
    exact hb4.cell rfl
  have hlt4 : c.ρ 4 < c.w.heap.size:=(hh.obj 4 (.mp 2) rfl hG2.1).lt
  obtain ⟨v,vs',rfl,hv,hnul⟩:=hvs
  have hnul : vs' = []:=hnul
  subst hnul
  obtain ⟨fs,cs,hv,hfs,hcs⟩:=hv
  simp only [List.cons.injEq,and_true] at hv
  subst hv
  have hfs : fs = []:=hfs
  subst hfs
  obtain ⟨x,y,rfl,hx,hy⟩:=hcs
  have hy : y = []:=hy
  subst hy
  have hx:=hx.2.2
  simp only [List.cons.injEq,and_true] at hx
  subst hx
  have hseq : SeqGives Fence.wide 2 Tryz.prog 98 #[.pointer (some ⟨c.ρ 4,0,none⟩)] encZ (fun ss=>ss.Perm (intKeys D0)) (Maps.size D0) c.w :=
    AnyZI.keys_gives (ρ:=keys82_ren) { keys82 with } Fence.wide _ trivial rfl (by omega) (c.ρ 4) (c.ρ 2) _ D0 _ hlt4 hcell hown
  have cS:=AnyZI.sorted_in sorted81 Fence.wide 5 trivial trivial trivial trivial rfl (by omega) (sorts_ok _) (enters_of Tryz.func97 (by kernel_rfl) rfl) 98 #[.pointer (some ⟨c.ρ 4,0,none⟩)] trivial (enters_of Tryz.func98 (by kernel_rfl) rfl) _ (Maps.size D0) (by rw [hsize,List.length_map];unfold maxLen;omega) (by rw [hsize,List.length_map];omega) _ hseq
  refine (callsIn_wide.1 cS).mono fun e w' h=>?_
  obtain ⟨v,ss,rfl,hS,hrow,_,hbel⟩:=h
  refine ⟨hbel,v,_,rfl,⟨rfl,rfl⟩,?_⟩
  have hE : ss.mergeSort (fun x y=>decide (x ≤ y)) = sortI (P.map (·.1)):=mergeSort_of_perm_i (hS.trans hperm)
  have hL : ss.length = (sortI (P.map (·.1))).length:=by rw [← hE];exact (List.mergeSort_perm _ _).length_eq.symm
  rw [hE,hL] at hrow
  exact rep_ownsRow hB hbel hrow
theorem keysP_ok (P : PM) : Ok Tryz.prog 82 [] [(2,pendA P)] (.pair (.mp 2) .nul) (fun r h'=>r = .fn (.func 98) .nul (.pair (.ptr 3 []) .nul)∧h' = [(3,.mp 2),(2,pendA P)]):=by
  refine Ok.of_vc tt_ok Tryz.func82 rfl rfl (by show 1 ≤ _;decide) 3 (hlt_ok (by rfl)) fun c0=>?_
  repeat' (first | (refine SS_ ?_) | fail)
  exact retQ_ok (by rfl) [(3,.mp 2),(2,pendA P)] (subL_ok ⟨rfl,rfl,trivial⟩) ⟨rfl,rfl⟩
section
variable {n : Nat} {B : List Bs} {P : PM} {W : WM} {off : Bool} {left : Int}
set_option maxRecDepth 10000 in
theorem pending_ok (hnd : (P.map (·.1)).Nodup) (hb : ∀ q ∈ P,i64B q.1) (hl : P.length ≤ 1048576) : Ok Tryz.prog 61 [] (dH n B P W off left) (.pair (.ptr 0 []) .nul) (fun r h'=>r = intsT (sortI (P.map (·.1)))∧h' = dH n B P W off left):=by
  have c1:=keysP_ok P
  have c2:=sortedP_ok P hnd hb hl
  generalize sortI (P.map (·.1)) = L at *
  refine Ok.of_vc tt_ok Tryz.func61 rfl rfl (by show 1 ≤ _;decide) 4 (hlt_ok (by rfl)) fun c0=>?_
  refine S_ ?_
  refine Seq.callo false [] [(4,3)] (.fn (.func 98) .nul (.pair (.ptr 4 []) .nul)) ([(4,.mp 2),(2,pendA P)]) 5 (c1) Tryz.func82 GOk.nil subG.nil (by rfl) (by rfl) rfl rfl rfl rfl rfl (by rfl) rfl (by rfl) (by rfl) (by rfl) (by rfl) VW_ NI_ R_ (noFrL_ok NI_) BK_ ?_
  refine S_ ?_
  refine Seq.callo false [] [] (intsT L) ([(2,pendA P)]) 5 (c2) Tryz.func81 GOk.nil subG.nil (by rfl) (by rfl) rfl rfl rfl rfl rfl (by rfl) rfl (by rfl) (by rfl) (by rfl) (by rfl) VW_ NI_ R_ (noFrL_ok NI_) BK_ ?_
  refine S_ ?_
  exact retQ_ok (by rfl) (dH n B P W off left) (subL_ok ⟨rfl,rfl,rfl,rfl,trivial⟩) ⟨rfl,rfl⟩
end
end Go.Proofs.YtmbldnahcmkpgaaGreatDoor
