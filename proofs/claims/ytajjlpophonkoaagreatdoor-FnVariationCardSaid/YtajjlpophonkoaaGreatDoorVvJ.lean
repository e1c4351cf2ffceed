/-
  Contracts of functions and laws of the layer over the walk.
-/
import Derived.Test.YtajjlpophonkoaaGreatDoorVvA
namespace Go.Hl
open Go.Proofs
set_option linter.unusedVariables false
set_option linter.unusedSimpArgs false
theorem bJR {P:Program} {n:Nat} {t:TypeId} {xs:List aH} (hu:P.underlying t=some (.int .u8)) (h:Dat P n t xs):∃ i:Int,xs=[.int .u8 i]/\InB i:=by
 match n,h with
 |0,h=>exact h.elim
 |n+1,h =>
  simp only[Dat,hu]at h
  obtain⟨i,rfl,hw⟩:=h
  refine⟨i,rfl,?_⟩
  have h1:IntKind.min .u8=0:=by decide
  have h2:IntKind.max .u8=255:=by decide
  simp[Lit.wf,IntKind.has,h1,h2]at hw
  unfold InB
  omega
theorem bAW {α:Type} {c:α->List aH} {w:α->Prop}:∀ {es:List (List aH)},(∀ y∈es,∃ x,y=c x/\w x)->∃ l:List α,es=l.map c/\∀ x∈l,w x
 | [],_=>⟨[],rfl,by simp⟩
 |e::es,h=>by
  obtain⟨x,rfl,hx⟩:=h _ x6
  obtain⟨l,rfl,hl⟩:=bAW λy hy=>h y (w6 _ hy)
  refine⟨x::l,rfl,λy hy=>?_⟩
  rcases pY.1 hy with rfl|hy
  ·exact hx
  ·exact hl y hy
theorem aU0 {P:Program} {n sz:Nat} {t e:TypeId} {α:Type} {c:α->List aH} {w:α->Prop} {xs:List aH} (hu:P.underlying t=some (.slice e)) (hc:P.cellsOf e=sz) (h:Dat P n t xs)
  (hx:∀ m y,m<n->Dat P m e y->∃ x,y=c x/\w x):∃ l:List α,xs=[fN sz c l]/\∀ x∈l,w x:=by
 match n,h with
 |0,h=>exact h.elim
 |n+1,h =>
  simp only[Dat,hu]at h
  obtain⟨es,rfl,hes⟩:=h
  obtain⟨l,rfl,hl⟩:=bAW λy hy=>hx n y aA (hes y hy)
  exact⟨l,by rw[hc],hl⟩
theorem bJS:Tryz.prog.cellsOf 5=1:=by kernel_rfl
def b3R:List TypeId:=[5,22]
theorem bO6:bBH Tryz.prog b3R=true:=by kernel_rfl
end Go.Hl
