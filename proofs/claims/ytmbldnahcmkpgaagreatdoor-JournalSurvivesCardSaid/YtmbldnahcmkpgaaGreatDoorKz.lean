/- Tables of a row as package variables by value. -/
import Derived.Test.YtmbldnahcmkpgaaGreatDoorGd
import Derived.Test.YtmbldnahcmkpgaaGreatDoorFd
import Derived.Lib.LaidTab
import Derived.Deep.DeepHandedRow
set_option linter.unusedSimpArgs false
set_option linter.unusedVariables false
namespace Go.Proofs.YtmbldnahcmkpgaaGreatDoor
open Go.V Go.RowKit Go.U Go.L
theorem rep_tab {P : Program} {W : World} {name : String} {g n : Nat} {l : List UInt32} (h : Lib.TabIs P W name .u32 (l.map fun x=>((x.toNat : Nat) : Int))) (hg : P.globalNamed name = some g) (hl : l.length = n) (h0 : 0 < n) :
    Rep (ctxAt W) (.rptr false (u32A n l)) .V [.pointer (some ⟨g,0,none⟩)]:=by
  have hc : ∀ j u,(u32s l)[j]? = some u→W.cell? ⟨g,0 + j,none⟩ = some u:=fun j u hu=>by
    rw [Nat.zero_add]
    have hj : j < l.length:=by
      rcases Nat.lt_or_ge j l.length with h1 | h1
      · exact h1
      · rw [List.getElem?_eq_none (by simpa [u32s] using h1)] at hu;cases hu
    rw [h.cell hg j (by simpa using hj),← hu]
    simp [u32s,hj]
  obtain ⟨x,hx⟩ : ∃ x,(u32s l)[0]? = some x:=⟨_,List.getElem?_eq_getElem (by simp [u32s];omega)⟩
  have h1:=hc 0 x hx
  exact ⟨_,0,u32s l,rfl,cell_lt (a:=⟨g,0 + 0,none⟩) h1,(fun e=>by cases e),hc,(rep_u32A hl).2 rfl⟩
theorem laid_tail {P : Program} {W : World} {x : String × DataW Unit} {l : List (String × DataW Unit)} (h : laidMet P (x::l) W) : laidMet P l W:=by
  obtain ⟨ps,⟨g,t,cs,fuel,p,q,_,_,_,_,hr,rfl⟩,hn,hc⟩:=h
  exact ⟨q,hr,(List.nodup_append.1 hn).2.1,fun b off hb=>hc b off (List.mem_append_right _ hb)⟩
end Go.Proofs.YtmbldnahcmkpgaaGreatDoor
