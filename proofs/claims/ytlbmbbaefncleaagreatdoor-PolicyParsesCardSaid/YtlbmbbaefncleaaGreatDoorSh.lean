/-
  Joined by a program from the texts Vm8.
-/
import Derived.Test.YtlbmbbaefncleaaGreatDoorSg
set_option linter.all false
namespace Go.Vm
variable [GlobTab]
theorem VRs.own0 {own:Nat→Prop} {w:World} {sz:Nat} {b:List V}:∀ {a:List V} {vals:List Value},VRs own w [.nilb 0] (a++.sl true [] 0::b) vals→VRs own w [.nilb 0] (a++.buf 0 0 0 0 sz::b) vals
 | [],[],h=>h.elim
 | [],v::vals,h=>by
  simp only [List.nil_append,VRs] at h ⊢
  refine ⟨?_,h.2⟩
  have h1:=h.1
  simp only [VR,Bool.true_eq_false,false_and,or_false,and_true] at h1
  obtain ⟨a0,h2,_,hn0⟩:=h1
  rw [hn0 trivial] at h2
  subst h2
  simp only [VR]
  exact ⟨⟨none,0,rfl,Nat.le_refl _,fun h=>absurd rfl h⟩,Nat.le_refl _,fun _=>⟨rfl,rfl,rfl⟩⟩
 | x::a,[],h=>h.elim
 | x::a,v::vals,h=>by
  simp only [List.cons_append,VRs] at h ⊢
  exact ⟨h.1,VRs.own0 h.2⟩
theorem GCall.own {P:Program} {n sz:Nat} {a b:List V} {v:V} {G':List Ob} (h:GCall P n (a++.buf 0 0 0 0 sz::b) [.cells 0 []] v G'):GCall P n (a++.sl true [] 0::b) [] v G':=by
 refine ⟨h.1,fun O β w vals hh hv=>?_⟩
 have hb:β=[]:=List.length_eq_zero_iff.1 hh.len
 subst hb
 have he:Ext [] w ([]++[.nilb 0]) w:=ext_nil
 have h1:=VRs.ext he _ _ hv
 refine (h.2 O ([]++[.nilb 0]) w vals hh.addNil (VRs.own0 h1)).mono fun e w' hq=>?_
 obtain ⟨u,β',e1,e2,e3,e4⟩:=hq
 exact ⟨u,β',e1,e2,e3,he.trans e4⟩
end Go.Vm
