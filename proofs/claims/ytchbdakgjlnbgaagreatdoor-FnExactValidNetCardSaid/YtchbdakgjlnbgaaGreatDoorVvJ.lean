/-
  Contracts of functions and laws of the layer over the walk.
-/
import Derived.Test.YtchbdakgjlnbgaaGreatDoorVvA
namespace Go.Hl
set_option maxRecDepth 100000
open Go.Proofs
set_option linter.unusedVariables false
set_option linter.unusedSimpArgs false
theorem nH {P:Program} {n:Nat} {t:TypeId} {xs:List aC} (hu:P.underlying t=some (.int .i64)) (h:pY P n t xs):∃ i:Int,xs=[I i]/\InI i:=by
 match n,h with
 |0,h=>exact h.elim
 |n+1,h =>
  simp only[pY,hu]at h
  obtain⟨i,rfl,hw⟩:=h
  refine⟨i,rfl,?_⟩
  have h1:IntKind.min .i64=-9223372036854775808:=by decide
  have h2:IntKind.max .i64=9223372036854775807:=by decide
  simp[Lit.wf,IntKind.has,h1,h2]at hw
  unfold InI
  omega
theorem bJX {P:Program} {n:Nat} {t:TypeId} {xs:List aC} (hu:P.underlying t=some .bool) (h:pY P n t xs):∃ b:Bool,xs=[.bool b]/\True:=by
 match n,h with
 |0,h=>exact h.elim
 |n+1,h =>
  simp only[pY,hu]at h
  obtain⟨b,rfl⟩:=h
  exact⟨b,rfl,trivial⟩
theorem bCG {P:Program} {n:Nat} {t:TypeId} {xs:List aC} (hu:P.underlying t=some .string) (h:pY P n t xs):∃ s:List UInt8,xs=[.str s]/\True:=by
 match n,h with
 |0,h=>exact h.elim
 |n+1,h =>
  simp only[pY,hu]at h
  obtain⟨b,rfl⟩:=h
  exact⟨b,rfl,trivial⟩
theorem bCH {α:Type} {c:α->List aC} {w:α->Prop}:∀ {es:List (List aC)},(∀ y∈es,∃ x,y=c x/\w x)->∃ l:List α,es=l.map c/\∀ x∈l,w x
 | [],_=>⟨[],rfl,by simp⟩
 |e::es,h=>by
  obtain⟨x,rfl,hx⟩:=h _ al5
  obtain⟨l,rfl,hl⟩:=bCH λy hy=>h y (al6 _ hy)
  refine⟨x::l,rfl,λy hy=>?_⟩
  rcases p7.1 hy with rfl|hy
  ·exact hx
  ·exact hl y hy
theorem lA {P:Program} {n sz:Nat} {t e:TypeId} {α:Type} {c:α->List aC} {w:α->Prop} {xs:List aC} (hu:P.underlying t=some (.slice e)) (hc:P.cellsOf e=sz) (h:pY P n t xs)
  (hx:∀ m y,m<n->pY P m e y->∃ x,y=c x/\w x):∃ l:List α,xs=[cI sz c l]/\∀ x∈l,w x:=by
 match n,h with
 |0,h=>exact h.elim
 |n+1,h =>
  simp only[pY,hu]at h
  obtain⟨es,rfl,hes⟩:=h
  obtain⟨l,rfl,hl⟩:=bCH λy hy=>hx n y aA (hes y hy)
  exact⟨l,by rw[hc],hl⟩
theorem dS {α:Type} {xs c r:List α} {o n o':Nat} (h:(xs.drop o).take n=c) (hr:xs.drop o'=r) (ho:o+n=o'):xs.drop o=c++r:=by
 rw[←hr,←ho,←aM3,←h,aPV]
theorem aZE:Tryz.prog.cellsOf 28=5:=by kernel_rfl
theorem qS:Tryz.prog.cellsOf 2=1:=by kernel_rfl
theorem a3M:Tryz.prog.cellsOf 153=1:=by kernel_rfl
theorem aTG:Tryz.prog.cellsOf 223=5:=by kernel_rfl
theorem bJY:Tryz.prog.cellsOf 9=1:=by kernel_rfl
theorem a3N:Tryz.prog.cellsOf 155=3:=by kernel_rfl
theorem bOI:Tryz.prog.cellsOf 22=1:=by kernel_rfl
theorem bCI:Tryz.prog.cellsOf 24=1:=by kernel_rfl
theorem aK8:Tryz.prog.cellsOf 25=1:=by kernel_rfl
theorem bOJ:Tryz.prog.cellsOf 26=1:=by kernel_rfl
theorem bOK:Tryz.prog.cellsOf 53=18:=by kernel_rfl
theorem aTH:Tryz.prog.cellsOf 135=3:=by kernel_rfl
theorem bOL:Tryz.prog.cellsOf 35=1:=by kernel_rfl
theorem bVK:Tryz.prog.cellsOf 4=1:=by kernel_rfl
theorem bOM:Tryz.prog.cellsOf 47=1:=by kernel_rfl
theorem bCJ:Tryz.prog.cellsOf 49=9:=by kernel_rfl
theorem aTI:Tryz.prog.cellsOf 137=5:=by kernel_rfl
theorem bON:Tryz.prog.cellsOf 50=1:=by kernel_rfl
theorem bCK:Tryz.prog.cellsOf 51=1:=by kernel_rfl
theorem bCL:∀ {n:Nat} {xs:List aC},pY Tryz.prog n 223 xs->∃ x:aB,xs=x.c/\x.wf
 |0,_,h=>h.elim
 |n+1,xs,h=>by
  simp only[pY,Tryz.underlying223]at h
  obtain⟨hl,hf⟩:=h
  rw[aTG]at hl
  have f0:pY Tryz.prog n 2 ((xs.drop 0).take (Tryz.prog.cellsOf 2)):=hf 0 _ rfl
  rw[qS]at f0
  obtain⟨x0,e0,w0⟩:=(nH Tryz.underlying2 f0)
  have f1:pY Tryz.prog n 2 ((xs.drop 1).take (Tryz.prog.cellsOf 2)):=hf 1 _ rfl
  rw[qS]at f1
  obtain⟨x1,e1,w1⟩:=(nH Tryz.underlying2 f1)
  have f2:pY Tryz.prog n 2 ((xs.drop 2).take (Tryz.prog.cellsOf 2)):=hf 2 _ rfl
  rw[qS]at f2
  obtain⟨x2,e2,w2⟩:=(nH Tryz.underlying2 f2)
  have f3:pY Tryz.prog n 2 ((xs.drop 3).take (Tryz.prog.cellsOf 2)):=hf 3 _ rfl
  rw[qS]at f3
  obtain⟨x3,e3,w3⟩:=(nH Tryz.underlying2 f3)
  have f4:pY Tryz.prog n 153 ((xs.drop 4).take (Tryz.prog.cellsOf 153)):=hf 4 _ rfl
  rw[a3M]at f4
  obtain⟨x4,e4,w4⟩:=(lA (c:=aB.c) (w:=(λx=>x.wf)) Tryz.underlying153 aTG f4 (λm y hm hy=>(bCL hy)))
  have r5:xs.drop 5=[]:=aI0 aA
  have r4:=dS e4 r5 rfl
  have r3:=dS e3 r4 rfl
  have r2:=dS e2 r3 rfl
  have r1:=dS e1 r2 rfl
  have r0:=dS e0 r1 rfl
  exact⟨.mk x0 x1 x2 x3 x4,by rw[aB.aM];exact r0,.mk _ w0 w1 w2 w3 w4⟩
termination_by n=>n
decreasing_by all_goals omega
theorem bOO:∀ {n:Nat} {xs:List aC},pY Tryz.prog n 155 xs->∃ x:aX,xs=x.c/\x.wf
 |0,_,h=>h.elim
 |n+1,xs,h=>by
  simp only[pY,Tryz.underlying155]at h
  obtain⟨hl,hf⟩:=h
  rw[a3N]at hl
  have f0:pY Tryz.prog n 9 ((xs.drop 0).take (Tryz.prog.cellsOf 9)):=hf 0 _ rfl
  rw[bJY]at f0
  obtain⟨x0,e0,w0⟩:=(bCG Tryz.underlying9 f0)
  have f1:pY Tryz.prog n 2 ((xs.drop 1).take (Tryz.prog.cellsOf 2)):=hf 1 _ rfl
  rw[qS]at f1
  obtain⟨x1,e1,w1⟩:=(nH Tryz.underlying2 f1)
  have f2:pY Tryz.prog n 153 ((xs.drop 2).take (Tryz.prog.cellsOf 153)):=hf 2 _ rfl
  rw[a3M]at f2
  obtain⟨x2,e2,w2⟩:=(lA (c:=aB.c) (w:=(λx=>x.wf)) Tryz.underlying153 aTG f2 (λm y hm hy=>(bCL hy)))
  have r3:xs.drop 3=[]:=aI0 aA
  have r2:=dS e2 r3 rfl
  have r1:=dS e1 r2 rfl
  have r0:=dS e0 r1 rfl
  exact⟨⟨x0,x1,x2⟩,r0,⟨w1,w2⟩⟩
theorem bVL:∀ {n:Nat} {xs:List aC},pY Tryz.prog n 24 xs->∃ x:aK,xs=x.c/\x.wf
 |0,_,h=>h.elim
 |n+1,xs,h=>by
  simp only[pY,Tryz.underlying24]at h
  obtain⟨hl,hf⟩:=h
  rw[bCI]at hl
  have f0:pY Tryz.prog n 22 ((xs.drop 0).take (Tryz.prog.cellsOf 22)):=hf 0 _ rfl
  rw[bOI]at f0
  obtain⟨x0,e0,w0⟩:=(lA (c:=aX.c) (w:=(λx=>x.wf)) Tryz.underlying22 a3N f0 (λm y hm hy=>(bOO hy)))
  have r1:xs.drop 1=[]:=aI0 aA
  have r0:=dS e0 r1 rfl
  exact⟨⟨x0⟩,r0,w0⟩
theorem bJZ:∀ {n:Nat} {xs:List aC},pY Tryz.prog n 28 xs->∃ x:dN,xs=x.c/\x.wf
 |0,_,h=>h.elim
 |n+1,xs,h=>by
  simp only[pY,Tryz.underlying28]at h
  obtain⟨hl,hf⟩:=h
  rw[aZE]at hl
  have f0:pY Tryz.prog n 24 ((xs.drop 0).take (Tryz.prog.cellsOf 24)):=hf 0 _ rfl
  rw[bCI]at f0
  obtain⟨x0,e0,w0⟩:=(bVL f0)
  have f1:pY Tryz.prog n 2 ((xs.drop 1).take (Tryz.prog.cellsOf 2)):=hf 1 _ rfl
  rw[qS]at f1
  obtain⟨x1,e1,w1⟩:=(nH Tryz.underlying2 f1)
  have f2:pY Tryz.prog n 2 ((xs.drop 2).take (Tryz.prog.cellsOf 2)):=hf 2 _ rfl
  rw[qS]at f2
  obtain⟨x2,e2,w2⟩:=(nH Tryz.underlying2 f2)
  have f3:pY Tryz.prog n 25 ((xs.drop 3).take (Tryz.prog.cellsOf 25)):=hf 3 _ rfl
  rw[aK8]at f3
  obtain⟨x3,e3,w3⟩:=(lA (c:=(λn=>[I n])) (w:=(λx=>InI x)) Tryz.underlying25 qS f3 (λm y hm hy=>(nH Tryz.underlying2 hy)))
  have f4:pY Tryz.prog n 26 ((xs.drop 4).take (Tryz.prog.cellsOf 26)):=hf 4 _ rfl
  rw[bOJ]at f4
  obtain⟨x4,e4,w4⟩:=(lA (c:=(λx=>[cI 1 (λn=>[I n]) x])) (w:=(λx=>(∀ y∈x,InI y))) Tryz.underlying26 aK8 f4 (λm y hm hy=>(lA (c:=(λn=>[I n])) (w:=(λx=>InI x)) Tryz.underlying25 qS hy (λm y hm hy=>(nH Tryz.underlying2 hy)))))
  have r5:xs.drop 5=[]:=aI0 aA
  have r4:=dS e4 r5 rfl
  have r3:=dS e3 r4 rfl
  have r2:=dS e2 r3 rfl
  have r1:=dS e1 r2 rfl
  have r0:=dS e0 r1 rfl
  exact⟨⟨x0,x1,x2,x3,x4⟩,r0,⟨w0,w1,w2,w3,w4⟩⟩
theorem bCM:∀ {n:Nat} {xs:List aC},pY Tryz.prog n 135 xs->∃ x:bR,xs=x.c/\x.wf
 |0,_,h=>h.elim
 |n+1,xs,h=>by
  simp only[pY,Tryz.underlying135]at h
  obtain⟨hl,hf⟩:=h
  rw[aTH]at hl
  have f0:pY Tryz.prog n 2 ((xs.drop 0).take (Tryz.prog.cellsOf 2)):=hf 0 _ rfl
  rw[qS]at f0
  obtain⟨x0,e0,w0⟩:=(nH Tryz.underlying2 f0)
  have f1:pY Tryz.prog n 2 ((xs.drop 1).take (Tryz.prog.cellsOf 2)):=hf 1 _ rfl
  rw[qS]at f1
  obtain⟨x1,e1,w1⟩:=(nH Tryz.underlying2 f1)
  have f2:pY Tryz.prog n 25 ((xs.drop 2).take (Tryz.prog.cellsOf 25)):=hf 2 _ rfl
  rw[aK8]at f2
  obtain⟨x2,e2,w2⟩:=(lA (c:=(λn=>[I n])) (w:=(λx=>InI x)) Tryz.underlying25 qS f2 (λm y hm hy=>(nH Tryz.underlying2 hy)))
  have r3:xs.drop 3=[]:=aI0 aA
  have r2:=dS e2 r3 rfl
  have r1:=dS e1 r2 rfl
  have r0:=dS e0 r1 rfl
  exact⟨⟨x0,x1,x2⟩,r0,⟨w0,w1,w2⟩⟩
theorem bVM:∀ {n:Nat} {xs:List aC},pY Tryz.prog n 49 xs->∃ x:aI,xs=x.c/\x.wf
 |0,_,h=>h.elim
 |n+1,xs,h=>by
  simp only[pY,Tryz.underlying49]at h
  obtain⟨hl,hf⟩:=h
  rw[bCJ]at hl
  have f0:pY Tryz.prog n 28 ((xs.drop 0).take (Tryz.prog.cellsOf 28)):=hf 0 _ rfl
  rw[aZE]at f0
  obtain⟨x0,e0,w0⟩:=(bJZ f0)
  have f1:pY Tryz.prog n 25 ((xs.drop 5).take (Tryz.prog.cellsOf 25)):=hf 1 _ rfl
  rw[aK8]at f1
  obtain⟨x1,e1,w1⟩:=(lA (c:=(λn=>[I n])) (w:=(λx=>InI x)) Tryz.underlying25 qS f1 (λm y hm hy=>(nH Tryz.underlying2 hy)))
  have f2:pY Tryz.prog n 35 ((xs.drop 6).take (Tryz.prog.cellsOf 35)):=hf 2 _ rfl
  rw[bOL]at f2
  obtain⟨x2,e2,w2⟩:=(lA (c:=(λb=>[.bool b])) (w:=(λ_=>True)) Tryz.underlying35 bVK f2 (λm y hm hy=>(bJX Tryz.underlying4 hy)))
  have f3:pY Tryz.prog n 47 ((xs.drop 7).take (Tryz.prog.cellsOf 47)):=hf 3 _ rfl
  rw[bOM]at f3
  obtain⟨x3,e3,w3⟩:=(lA (c:=bR.c) (w:=(λx=>x.wf)) Tryz.underlying47 aTH f3 (λm y hm hy=>(bCM hy)))
  have f4:pY Tryz.prog n 25 ((xs.drop 8).take (Tryz.prog.cellsOf 25)):=hf 4 _ rfl
  rw[aK8]at f4
  obtain⟨x4,e4,w4⟩:=(lA (c:=(λn=>[I n])) (w:=(λx=>InI x)) Tryz.underlying25 qS f4 (λm y hm hy=>(nH Tryz.underlying2 hy)))
  have r5:xs.drop 9=[]:=aI0 aA
  have r4:=dS e4 r5 rfl
  have r3:=dS e3 r4 rfl
  have r2:=dS e2 r3 rfl
  have r1:=dS e1 r2 rfl
  have r0:=dS e0 r1 rfl
  exact⟨⟨x0,x1,x2,x3,x4⟩,r0,⟨w0,w1,w3,w4⟩⟩
theorem bCN:∀ {n:Nat} {xs:List aC},pY Tryz.prog n 137 xs->∃ x:aT,xs=x.c/\x.wf
 |0,_,h=>h.elim
 |n+1,xs,h=>by
  simp only[pY,Tryz.underlying137]at h
  obtain⟨hl,hf⟩:=h
  rw[aTI]at hl
  have f0:pY Tryz.prog n 2 ((xs.drop 0).take (Tryz.prog.cellsOf 2)):=hf 0 _ rfl
  rw[qS]at f0
  obtain⟨x0,e0,w0⟩:=(nH Tryz.underlying2 f0)
  have f1:pY Tryz.prog n 2 ((xs.drop 1).take (Tryz.prog.cellsOf 2)):=hf 1 _ rfl
  rw[qS]at f1
  obtain⟨x1,e1,w1⟩:=(nH Tryz.underlying2 f1)
  have f2:pY Tryz.prog n 135 ((xs.drop 2).take (Tryz.prog.cellsOf 135)):=hf 2 _ rfl
  rw[aTH]at f2
  obtain⟨x2,e2,w2⟩:=(bCM f2)
  have r3:xs.drop 5=[]:=aI0 aA
  have r2:=dS e2 r3 rfl
  have r1:=dS e1 r2 rfl
  have r0:=dS e0 r1 rfl
  exact⟨⟨x0,x1,x2⟩,r0,⟨w0,w1,w2⟩⟩
theorem bVN:∀ {n:Nat} {xs:List aC},pY Tryz.prog n 53 xs->∃ x:jQ,xs=x.c/\x.wf
 |0,_,h=>h.elim
 |n+1,xs,h=>by
  simp only[pY,Tryz.underlying53]at h
  obtain⟨hl,hf⟩:=h
  rw[bOK]at hl
  have f0:pY Tryz.prog n 28 ((xs.drop 0).take (Tryz.prog.cellsOf 28)):=hf 0 _ rfl
  rw[aZE]at f0
  obtain⟨x0,e0,w0⟩:=(bJZ f0)
  have f1:pY Tryz.prog n 49 ((xs.drop 5).take (Tryz.prog.cellsOf 49)):=hf 1 _ rfl
  rw[bCJ]at f1
  obtain⟨x1,e1,w1⟩:=(bVM f1)
  have f2:pY Tryz.prog n 9 ((xs.drop 14).take (Tryz.prog.cellsOf 9)):=hf 2 _ rfl
  rw[bJY]at f2
  obtain⟨x2,e2,w2⟩:=(bCG Tryz.underlying9 f2)
  have f3:pY Tryz.prog n 2 ((xs.drop 15).take (Tryz.prog.cellsOf 2)):=hf 3 _ rfl
  rw[qS]at f3
  obtain⟨x3,e3,w3⟩:=(nH Tryz.underlying2 f3)
  have f4:pY Tryz.prog n 50 ((xs.drop 16).take (Tryz.prog.cellsOf 50)):=hf 4 _ rfl
  rw[bON]at f4
  obtain⟨x4,e4,w4⟩:=(lA (c:=(λx=>[cI 5 aT.c x])) (w:=(λx=>(∀ y∈x,y.wf))) Tryz.underlying50 bCK f4 (λm y hm hy=>(lA (c:=aT.c) (w:=(λx=>x.wf)) Tryz.underlying51 aTI hy (λm y hm hy=>(bCN hy)))))
  have f5:pY Tryz.prog n 51 ((xs.drop 17).take (Tryz.prog.cellsOf 51)):=hf 5 _ rfl
  rw[bCK]at f5
  obtain⟨x5,e5,w5⟩:=(lA (c:=aT.c) (w:=(λx=>x.wf)) Tryz.underlying51 aTI f5 (λm y hm hy=>(bCN hy)))
  have r6:xs.drop 18=[]:=aI0 aA
  have r5:=dS e5 r6 rfl
  have r4:=dS e4 r5 rfl
  have r3:=dS e3 r4 rfl
  have r2:=dS e2 r3 rfl
  have r1:=dS e1 r2 rfl
  have r0:=dS e0 r1 rfl
  exact⟨⟨x0,x1,x2,x3,x4,x5⟩,r0,⟨w0,w1,w3,w4,w5⟩⟩
def b2W:List TypeId:=[2,4,9,22,24,25,26,28,35,47,49,50,51,53,135,137,153,155,223]
theorem bOP:bDB Tryz.prog b2W=true:=by kernel_rfl
end Go.Hl
