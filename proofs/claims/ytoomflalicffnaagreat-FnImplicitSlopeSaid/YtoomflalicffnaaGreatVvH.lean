/-
  Contracts of functions and laws of the layer over the walk.
-/
import Derived.Test.YtoomflalicffnaaGreatVvG
import Derived.Test.YtoomflalicffnaaGreatVvA
import Derived.Test.YtoomflalicffnaaGreatVvD
import Derived.Test.YtoomflalicffnaaGreatVvC
import Derived.Test.YtoomflalicffnaaGreatVvE
namespace Go.Hl
open Go.Proofs
set_option linter.unusedVariables false
set_option linter.unusedSimpArgs false
theorem bOI {p:aG} {ns ng np:Nat} {c:List Int} {pl:Bool} (hc:∀ x∈c,InB x) (hl:c.length<=4096) (hne:¬ns=ng) (hP:yH p) (hpl:p.aK.length<=100) (dp:Nat):a6X Tryz.prog 154 p ns ng np c pl dp:=by
 induction dp with
 |zero=>exact aKK hc hl hne hP (λd h=>by omega) (λh=>by omega)
 |succ d ih =>
  have hd:∀ d',d'+1=d+1->a6X Tryz.prog 154 p ns ng np c pl d':=λd' h=>by
   cases h
   exact ih
  exact aKK hc hl hne hP hd (λ_=>aVO hc hl hne hP hpl aA hd)
def aPL:List (List UInt8):=[[102],[103],[115,116,101,112],[104,50]]
def aCJ (p:aG) (k:Nat) (f:aX):Prop:=(∃ w∈aPL,f.kQ=w++Go.Lib.itoa k)/\(1<=f.aW/\f.aW<=3)/\(1<=f.aS.length/\f.aS.length<=3)/\∀ e∈f.aS,e.s<=39/\e.d<=6/\e.ok p k f.aW
def aBS (fs:List aX):Prop:=∀ (j:Nat) (f:aX),fs[j]?=some f->aCJ ⟨fs⟩ j f
theorem a1Z {p q:aG} {m:Nat} (hpq:∀ j,j<m->q.aK[j]?=p.aK[j]?) {e:aD} {vars:Int} (h:mD p e vars m):mD q e vars m:=by
 unfold mD at h ⊢
 split
 ·rename_i hk
  rw[if_pos hk]at h
  exact⟨h.1,h.2.1,λf ef=>h.2.2 f (by rw[hpq _ aA]at ef;exact ef)⟩
 ·rename_i hk
  rw[if_neg hk]at h
  exact h
theorem aD.bEF {p q:aG} {m:Nat} (hpq:∀ j,j<m->q.aK[j]?=p.aK[j]?) (e:aD) (vars:Int) (h:e.ok p m vars):e.ok q m vars:=by
 have h1:=(aD.eI _ _ _ _).1 h
 refine(aD.eI _ _ _ _).2 ⟨a1Z hpq h1.1,λj hj=>?_⟩
 have hs:=aD.aLT (kM hj)
 exact aD.bEF hpq e.aM[j] _ (h1.2 j hj)
termination_by e.s
theorem aBS.snoc {fs:List aX} (h:aBS fs) {f:aX} (hf:aCJ ⟨fs⟩ fs.length f):aBS (fs++[f]):=by
 have up:∀ {k:Nat} {g:aX},k<=fs.length->aCJ ⟨fs⟩ k g->aCJ ⟨fs++[f]⟩ k g:=λ{k g} hk ⟨h1,h2,h3,h4⟩=>⟨h1,h2,h3,λe he=>⟨(h4 e he).1,(h4 e he).2.1,aD.bEF (λj hj=>by simp only[aG.aK];rw[tU aA]) e _ (h4 e he).2.2⟩⟩
 intro j g hg
 rcases bT j fs.length with h1|h1
 ·rw[tU h1]at hg
  exact up aA (h j g hg)
 ·have hj:j<(fs++[f]).length:=by rcases bT j (fs++[f]).length with q|q;exact q;rw[aNC q]at hg;cases hg
  rw[gD,nA]at hj
  obtain rfl:j=fs.length:=by omega
  rw[v8 (bX _),sU]at hg
  cases hg
  exact up (bX _) hf
theorem aBS.get {fs:List aX} (h:aBS fs) {f:aX} (hf:f∈fs):∃ j,j<fs.length/\fs[j]?=some f/\aCJ ⟨fs⟩ j f:=by
 obtain⟨j,hj,e⟩:=wM.1 hf
 have e2:fs[j]?=some f:=by rw[eY hj,e]
 exact⟨j,hj,e2,h j f e2⟩
theorem aBS.aZR {fs:List aX} (h:aBS fs):yH ⟨fs⟩:=λf hf=>by
 obtain⟨j,-,-,hg⟩:=h.get hf
 exact⟨hg.2.1,hg.2.2.1⟩
theorem aTG {k:Nat} (h:k<=2):∃ c:UInt8,Go.Lib.itoa k=[c]/\Dig c/\c.toNat=48+k:=by
 refine⟨UInt8.ofNat (48+k),by rw[a5C _ aA,tX,a9S aA],?_⟩
 match k,h with
 |0,_=>exact⟨⟨by decide,by decide⟩,rfl⟩
 |1,_=>exact⟨⟨by decide,by decide⟩,rfl⟩
 |2,_=>exact⟨⟨by decide,by decide⟩,rfl⟩
set_option maxRecDepth 100000
abbrev DSt:=List aX×List (List OV)×aB×Option Nat×Nat×Int
def aZS (n:Nat) (a:Nat) (B:aB) (ns n8 n9:Nat):DSt->Prop:=λ(fs,es,g1,o,a3,_) =>
 fs.length<=n/\aBS fs/\OR aX.o fs es/\fH B (OV.bG es) g1/\(g1 ns=none/\g1 n8=none/\g1 n9=none)/\yV g1 es o/\(∀ m,o=some m->¬m=ns/\¬m=n8/\¬m=n9)/\(o=none->fs=[])/\(a<=a3/\a3<=a+5000*fs.length)
abbrev ISt:=Int×Nat×List aD×List (List OV)×aB×Option Nat×Nat×Int
def aTH (fs:List aX) (par:Int) (a:Nat) (B1:aB) (ns nf:Nat):ISt->Prop:=λ(cnt,i,outs,eo,g2,oo,a8,_) =>
 (1<=cnt/\cnt<=3)/\(i:Int)<=cnt/\outs.length=i/\OR aD.o outs eo/\fH B1 (OV.bG eo) g2/\(g2 ns=none/\g2 nf=none)/\yV g2 eo oo/\(∀ m,oo=some m->¬m=ns/\¬m=nf)/\(∀ e∈outs,e.s<=39/\e.d<=6/\e.ok ⟨fs⟩ fs.length par)/\(a<=a8/\a8<=a+600*i)
theorem aTH.next {fs:List aX} {par:Int} {a:Nat} {B1:aB} {ns nf:Nat} {cnt:Int} {i:Nat} {outs:List aD} {eo:List (List OV)} {g2 g5:aB} {oo:Option Nat} {a8 a9:Nat} {sd8 sd9:Int} {x:aD} {e:List OV} {m:Nat}
  (h:aTH fs par a B1 ns nf (cnt,i,outs,eo,g2,oo,a8,sd8)) (hlt:(i:Int)<cnt) (hx:x.o e) (w:fH g2 (OV.bY e) g5) (z:g5 ns=none/\g5 nf=none) (hm:g5 m=none) (hm2:¬m=ns/\¬m=nf) (hg:x.s<=39/\x.d<=6/\x.ok ⟨fs⟩ fs.length par) (ha:a8<=a9/\a9<=a8+600) :
  aTH fs par a B1 ns nf (cnt,i+1,outs++[x],eo++[e],g5,some m,a9,sd9):=by
 obtain⟨hcnt,hi,hol,hor,hnew,-,-,-,hgd,ha8⟩:=h
 refine⟨hcnt,by omega,by rw[gD,hol];rfl,OR.append hor ⟨hx,trivial⟩,fH.snoc hnew w,z,hm,λb q=>by cases q;exact hm2,λy hy=>?_,by omega⟩
 rcases oW.1 hy with hy|hy
 ·exact hgd y hy
 ·rw[jL.1 hy];exact hg
theorem aZS.next {n a:Nat} {B:aB} {ns n8 n9:Nat} {fs:List aX} {es:List (List OV)} {g1 g8:aB} {o:Option Nat} {a3 a8:Nat} {sd3 sd8:Int} {f:aX} {e:List OV} {m:Nat}
  (h:aZS n a B ns n8 n9 (fs,es,g1,o,a3,sd3)) (hlt:fs.length<n) (hf:aCJ ⟨fs⟩ fs.length f) (hx:f.o e) (w:fH g1 (OV.bY e) g8) (z:g8 ns=none/\g8 n8=none/\g8 n9=none) (hm:g8 m=none) (hm2:¬m=ns/\¬m=n8/\¬m=n9) (ha:a3<=a8/\a8<=a3+5000) :
  aZS n a B ns n8 n9 (fs++[f],es++[e],g8,some m,a8,sd8):=by
 obtain⟨hfl,hdr,hor,hnew,-,-,-,-,ha3⟩:=h
 exact⟨by rw[gD,nA];omega,hdr.snoc hf,OR.append hor ⟨hx,trivial⟩,fH.snoc hnew w,z,hm,λb q=>by cases q;exact hm2,(λq=>(by cases q)),by rw[gD,nA];omega⟩
@[go_sem] def aPM:List Nat:=[0,1,2,3,8,9,10,11,12,13,14,18,35,40]
@[go_sem] def bA7:List Nat:=[22,55,61]
@[go_sem] def bA8:Marks:=λid=>match id with|13=>([1,4,6,8,10],(.op 0 (.op 2 (.op 3 (.op 5 (.op 1 (.op 4 (.op 6 (.op 7 (.op 8 (.op 9 (.op 10 .nil))))))))))),[(1,6)])|_=>([],.nil,[])
set_option maxHeartbeats 8000000 in
theorem bOJ {L0:Int} (hL0:1<=L0/\L0<=14) {ns:Nat} {c:List Int} {pl:Bool} (hc:∀ x∈c,InB x) (hl:c.length<=4096) {n:Nat} (hn:n<=3) {B:aB} (hB:B ns=none) {a:Nat} (ha:a<=700000000) {sd:Int} :
  iV Tryz.prog 80 [.op ns 3 0 0,I n,I L0,.bool pl] (aU B ns (jK c a sd)) λr h'=>∃ (fs:List aX) (es:List (List OV)) (o:Option Nat) (g1:aB) (a':Nat) (sd':Int),fs.length=n/\aBS fs/\OR aX.o fs es/\fH B (OV.bG es) g1/\g1 ns=none/\yV g1 es o/\(∀ m,o=some m->¬m=ns)/\(o=none->fs=[])/\r=.agg [jN 3 fs.length o]/\(a<=a'/\a'<=a+5000*n)/\h'=aU (cP g1 (.row 3 (OV.cells es)) o) ns (jK c a' sd'):=by
 have bZZ:mL L0<=13:=(by unfold mL;omega)
 refine mC 65 aPM bA7 bA8 Tryz.func80 ?_
 simp -dsimp -implicitDefEqProofs only[go_sem,↓reduceIte,Tryz.f80,kT]
 intro n8 q8
 have b8:¬n8=ns:=by grind
 have z8:B n8=none:=by grind
 obtain⟨aZL,bQ,bR,l9⟩:=cW (show ¬n8=ns from b8)
 intro n9 q9
 have b9:¬n9=ns:=by grind
 have c9:¬n9=n8:=by grind
 have z9:B n9=none:=by grind
 obtain⟨aZM,b7,cA,l8⟩:=cW (show ¬n9=ns from b9)
 obtain⟨aAU,cB,cC,aZN⟩:=cW (show ¬n9=n8 from c9)
 simp only[b5 l9,b5 l8,aO]
 refine cM aPM bA7 bA8 (λx:DSt=>[(0,.op ns 3 0 0),(1,I n),(2,I L0),(3,.bool pl),(8,.op n8 1 0 0),(9,.op n9 1 0 0),(10,I x.1.length)]) (λx=>aU (aU (aU (cP x.2.2.1 (.row 3 (OV.cells x.2.1)) x.2.2.2.1) n8 (.row 1 [[.v .bS]])) n9 (.row 1 [[.v (jN 3 x.1.length x.2.2.2.1)]])) ns (jK c x.2.2.2.2.1 x.2.2.2.2.2)) (λx=>aZS n a B ns n8 n9 x) (λx=>n-x.1.length) ([],[],B,none,a,sd) ⟨by simp[cR,b6],aB.le_refl _,eF _,(λj f h=>by cases h),trivial,fH.nil B,⟨hB,z8,z9⟩,rfl,(λm e=>by cases e),(λ_=>rfl),by simp⟩ ?_
 rintro⟨fs,es,g1,o,a3,sd3⟩ hdd
 obtain⟨hfl,hdr,hor,hnew,⟨zs,z18,z19⟩,hgs,hon,hfo,ha3⟩:=id hdd
 simp only at hfl hdr hor hnew zs z18 z19 hgs hon hfo ha3 ⊢
 simp -dsimp -implicitDefEqProofs only[go_sem,↓reduceIte,Tryz.f80,bQ,cC,bR,cA,cB,b7,aC,aP,c8,dA,dB,dC,dD,dS,dP,fL]
 refine⟨λhlt=>⟨by decide,by decide,?_⟩,λhge=>⟨oA ..,?_⟩⟩
 ·refine aH.gV (bM9 (a:=a3) (sd:=sd3) hc hl aA aPL true bO bO (aI ..)) ?_
  rintro r_ h' ⟨w,a4,sd4,rfl,hw,ha4,rfl⟩
  rw[aO]
  simp -dsimp -implicitDefEqProofs only[go_sem,↓reduceIte,Tryz.f80,bQ,cC,bR,cA,cB,b7,aC,aP,c8,dA,dB,dC,dD,dS,dP,fL]
  first|refine aH.mk ((aHF 4 fs.length aA aA aA)) ?_|refine aF.mk ((aHF 4 fs.length aA aA aA)) ?_|refine aH.bI ((aHF 4 fs.length aA aA aA)) ?_|refine aF.mk (bC.dI ((aHF 4 fs.length aA aA aA))) ?_
  simp -dsimp -implicitDefEqProofs only[go_sem,↓reduceIte,Tryz.f80,bQ,cC,bR,cA,cB,b7,aC,aP,c8,dA,dB,dC,dD,dS,dP,fL]
  refine⟨by have:=aTG (k:=fs.length) aA;obtain⟨c5,e5,-,-⟩:=this;have:w.length<=4:=(by simp only[aPL,mW,aP4,or_false]at hw;rcases hw with rfl|rfl|rfl|rfl <;> decide);rw[e5];simp only[nA];omega,?_⟩
  refine aH.gV (qY (a:=a4) (sd:=sd4) hc hl aA 3 aA (aI ..)) ?_
  rintro r_ h' ⟨px,a5,sd5,rfl,x0,x1,-,ha5,rfl⟩
  have x1:=x1 aA
  have wp:IntKind.i64.wrap (1+px)=1+px:=IntWalk.i64_in _ aA
  rw[aO]
  simp -dsimp -implicitDefEqProofs only[go_sem,↓reduceIte,Tryz.f80,bQ,cC,bR,cA,cB,b7,aC,aP,c8,dA,dB,dC,dD,dS,dP,fL,wp]
  intro nf qf
  have af:¬nf=ns:=by grind
  have bf:¬nf=n8:=by grind
  have cf:¬nf=n9:=by grind
  have zf:cP g1 (.row 3 (OV.cells es)) o nf=none:=by grind
  obtain⟨bA9,dQ,dR,aEG⟩:=cW (show ¬nf=ns from af)
  obtain⟨aZT,oK,oM,bRJ⟩:=cW (show ¬nf=n8 from bf)
  obtain⟨aZU,oN,oO,bBA⟩:=cW (show ¬nf=n9 from cf)
  simp -dsimp -implicitDefEqProofs only[go_sem,↓reduceIte,Tryz.f80,bQ,cC,oM,bR,cA,dR,cB,b7,oO,oK,dQ,oN,aC,aP,c8,dA,dB,dC,dD,dS,dP,fL,wp,b5 aEG,aO]
  refine aH.gV (qY (a:=a5) (sd:=sd5) hc hl aA 3 aA (aI ..)) ?_
  rintro r_ h' ⟨py,a6,sd6,rfl,y0,y1,-,ha6,rfl⟩
  have y1:=y1 aA
  have wq:IntKind.i64.wrap (1+py)=1+py:=IntWalk.i64_in _ aA
  rw[aO]
  simp -dsimp -implicitDefEqProofs only[go_sem,↓reduceIte,Tryz.f80,bQ,cC,oM,bR,cA,dR,cB,b7,oO,oK,dQ,oN,aC,aP,c8,dA,dB,dC,dD,dS,dP,fL,wq]
  refine aH.gV (a5B (a:=a6) (sd:=sd6) hc hl aA 2 aA (aI ..)) ?_
  rintro r_ h' ⟨b,a7,sd7,rfl,ha7,rfl⟩
  rw[aO]
  generalize hnm:w++Go.Lib.itoa fs.length=nm
  generalize hpar:1+px=par at *
  apply a61
  case m =>
   intro key
   cases b
   ·simp -dsimp -implicitDefEqProofs only[go_sem,↓reduceIte,Tryz.f80,bQ,cC,oM,bR,cA,dR,cB,b7,oO,oK,dQ,oN,aC,aP,c8,dA,dB,dC,dD,dS,dP,fL]
    refine cM aPM bA7 bA8 (λx:ISt=>[(0,.op ns 3 0 0),(1,I n),(2,I L0),(3,.bool pl),(8,.op n8 1 0 0),(9,.op n9 1 0 0),(10,I fs.length),(11,.op nf 3 0 0),(12,I x.1),(13,I x.2.1)]) (λx=>aU (aU (cP x.2.2.2.2.1 (.row 5 (OV.cells x.2.2.2.1)) x.2.2.2.2.2.1) nf (.row 3 [[.v (.str nm),.v (I par),.v (jN 5 x.2.1 x.2.2.2.2.2.1)]])) ns (jK c x.2.2.2.2.2.2.1 x.2.2.2.2.2.2.2)) (λx=>aTH fs par a7 (aU (aU (cP g1 (.row 3 (OV.cells es)) o) n8 (.row 1 [[.v .bS]])) n9 (.row 1 [[.v (jN 3 fs.length o)]])) ns nf x) (λx=>x.1.toNat-x.2.1) ((1+py),0,[],[],aU (aU (cP g1 (.row 3 (OV.cells es)) o) n8 (.row 1 [[.v .bS]])) n9 (.row 1 [[.v (jN 3 fs.length o)]]),none,a7,sd7) ⟨by simp[cR,b6],aB.le_refl _,by omega,by omega,rfl,trivial,fH.nil _,⟨by rw[aC _ _ _ _ l8,aC _ _ _ _ l9];exact j5 zs λm e=>(hon m e).1,by rw[aC _ _ _ _ aZU,aC _ _ _ _ aZT];exact zf⟩,rfl,(λm e=>by cases e),(λe h=>by cases h),by simp⟩ ?_
    exact key.get
   ·simp -dsimp -implicitDefEqProofs only[go_sem,↓reduceIte,Tryz.f80,bQ,cC,oM,bR,cA,dR,cB,b7,oO,oK,dQ,oN,aC,aP,c8,dA,dB,dC,dD,dS,dP,fL]
    refine cM aPM bA7 bA8 (λx:ISt=>[(0,.op ns 3 0 0),(1,I n),(2,I L0),(3,.bool pl),(8,.op n8 1 0 0),(9,.op n9 1 0 0),(10,I fs.length),(11,.op nf 3 0 0),(12,I x.1),(13,I x.2.1)]) (λx=>aU (aU (cP x.2.2.2.2.1 (.row 5 (OV.cells x.2.2.2.1)) x.2.2.2.2.2.1) nf (.row 3 [[.v (.str nm),.v (I par),.v (jN 5 x.2.1 x.2.2.2.2.2.1)]])) ns (jK c x.2.2.2.2.2.2.1 x.2.2.2.2.2.2.2)) (λx=>aTH fs par a7 (aU (aU (cP g1 (.row 3 (OV.cells es)) o) n8 (.row 1 [[.v .bS]])) n9 (.row 1 [[.v (jN 3 fs.length o)]])) ns nf x) (λx=>x.1.toNat-x.2.1) (par,0,[],[],aU (aU (cP g1 (.row 3 (OV.cells es)) o) n8 (.row 1 [[.v .bS]])) n9 (.row 1 [[.v (jN 3 fs.length o)]]),none,a7,sd7) ⟨by simp[cR,b6],aB.le_refl _,by omega,by omega,rfl,trivial,fH.nil _,⟨by rw[aC _ _ _ _ l8,aC _ _ _ _ l9];exact j5 zs λm e=>(hon m e).1,by rw[aC _ _ _ _ aZU,aC _ _ _ _ aZT];exact zf⟩,rfl,(λm e=>by cases e),(λe h=>by cases h),by simp⟩ ?_
    exact key.get
  case t =>
   rintro⟨cnt,i,outs,eo,g2,oo,a8,sd8⟩ hii
   obtain⟨hcnt,hi,hol,aVP,bID,⟨ws,wf⟩,aGV,a12,hgd,ha8⟩:=id hii
   simp only at hcnt hi hol aVP bID ws wf aGV a12 hgd ha8 ⊢
   simp -dsimp -implicitDefEqProofs only[go_sem,↓reduceIte,Tryz.f80,bQ,cC,oM,bR,cA,dR,cB,b7,oO,oK,dQ,oN,aC,aP,c8,dA,dB,dC,dD,dS,dP,fL]
   have hkeep:∀ q R S,(aU (aU (cP g1 (.row 3 (OV.cells es)) o) n8 (.row 1 [[.v .bS]])) n9 (.row 1 [[.v (jN 3 fs.length o)]])) q=some R->cP g2 S oo q=some R:=λq R S hq=>by
    have h2:=bID.keep hq
    cases oo with
    |none=>exact h2
    |some m5 =>
     rw[jY]at aGV
     rw[aJ,aC _ _ _ _ (λe=>by rw[e,aGV]at h2;cases h2)]
     exact h2
   have hk9:=λS=>hkeep n9 _ S (aI ..)
   refine⟨λjO=>?_,λaFB=>?_⟩
   ·intro ng qg
    have an:¬ng=ns:=by grind
    have bn:¬ng=nf:=by grind
    have zn:cP g2 (.row 5 (OV.cells eo)) oo ng=none:=by grind
    obtain⟨kV,bL,bK,sW⟩:=cW (show ¬ng=ns from an)
    obtain⟨aPN,jS,jT,bBB⟩:=cW (show ¬ng=nf from bn)
    have zof:cP g2 (.row 5 (OV.cells eo)) oo nf=none:=j5 wf λm e=>(a12 m e).2
    have hpr:aAI ⟨fs⟩ n9 (aU (cP g2 (.row 5 (OV.cells eo)) oo) nf (.row 3 [[.v (.str nm),.v (I par),.v (jN 5 i oo)]])):=by
     refine⟨es,o,hor,?_,hfo,λm e=>?_⟩
     ·rw[aC _ _ _ _ bBA];exact hk9 _
     ·have hm:=hon m e
      subst e
      have h3:=hkeep m (.row 3 (OV.cells es)) (.row 5 (OV.cells eo)) (by rw[aC _ _ _ _ hm.2.2,aC _ _ _ _ hm.2.1,aJ,aI])
      rw[aC _ _ _ _ (λq=>by rw[q,zof]at h3;cases h3)]
      exact h3
    simp -dsimp -implicitDefEqProofs only[go_sem,↓reduceIte,Tryz.f80,dR,bK,dQ,jT,bL,jS,aC,aP,c8,dA,dB,dC,dD,dS,dP,fL,kT]
    rw[show ∀ H:aB,aU H ng (bV.row 4 [[Cell.v (aE.op ns 3 0 0),Cell.v (aE.op n9 1 0 0),Cell.v (I L0),Cell.v (aE.bool pl)]])=aU H ng (kT ns n9 L0 pl)from λ_=>rfl]
    refine aH.gV (bOI hc hl sW hdr.aZR (by simp only[aG.aK];omega) 5 par _ a8 sd8 L0 (by rw[aC _ _ _ _ aEG];exact j5 ws λm e=>(a12 m e).1) (by rw[aC _ _ _ _ aPN];exact zn) hpr ⟨by omega,by omega,by omega⟩) ?_
    rintro r_ h' ⟨x5,e5,g',a9,sd9,L9,hx,rfl,bIE,⟨v1,v2⟩,rfl,aH4,hd5,hL9,ha9⟩
    obtain⟨g4,rfl,w4,z4f⟩:=fH.under zof bIE
    simp only[aP,dR,bK,dQ,jT,bL,jS,if_false]at v1 v2
    have hx5:=hx
    rw[aD.uK]at hx
    obtain⟨y4,rfl,os4⟩:=hx
    have bOK:x5.s<=39:=by have:=hL9.2.2;omega
    cases oo with
    |none =>
     rw[mB]at aGV
     subst aGV
     obtain rfl:outs=[]:=aGJ.1 aVP.length
     obtain rfl:i=0:=hol.symm
     simp only[aL,mR]at *
     simp -dsimp -implicitDefEqProofs only[go_sem,↓reduceIte,Tryz.f80,dR,bK,dQ,jT,bL,jS,aC,aP,c8,dA,dB,dC,dD,dS,dP,fL,OV.iF,OV.dN,OV.nG,os4.flat,os4.one]
     have ht:=eH []
     refine⟨by decide,by decide,by decide,λm qm=>?_⟩
     have am:¬m=ns:=by grind
     have bm:¬m=nf:=by grind
     have dm:g4 m=none:=by grind
     have em:¬m=ng:=by grind
     skip
     obtain⟨m8,fO,fP,o5⟩:=cW (show ¬m=ns from am)
     obtain⟨aCK,nT,nU,aCL⟩:=cW (show ¬m=nf from bm)
     obtain⟨uT,iT,iU,uU⟩:=cW (show ¬m=ng from em)
     simp -dsimp -implicitDefEqProofs only[go_sem,↓reduceIte,Tryz.f80,dR,bK,fP,dQ,jT,nU,bL,jS,iU,fO,nT,iT,aC,aP,c8,dA,dB,dC,dD,dS,dP,fL]
     refine⟨(cnt,0+1,[]++[x5],[]++[[.v (.int .i64 x5.aT),.v (.int .i64 x5.bB),.v (.int .i64 x5.c4),.v (.int .i64 x5.cN),y4]],g4,some m,a9,sd9),⟨rfl,IntWalk.i64_in _ aA⟩,?_,hii.next jO hx5 w4 ⟨v1,z4f⟩ dm ⟨am,bm⟩ ⟨bOK,by omega,aH4⟩ aA,by simp only;omega⟩
     intro q_
     simp only[aP,aJ,cK,jD,eH,cO,kK,kL,OV.iF,OV.dN,OV.nG,dS,p5,v7,ht]
     grind
    |some m5 =>
     rw[jY]at aGV
     obtain⟨g5,rfl,w5,z45⟩:=fH.under aGV w4
     have k1:=(a12 m5 rfl).1
     have k2:=(a12 m5 rfl).2
     have k3:¬m5=ng:=λe=>by rw[aJ,e,aI]at zn;cases zn
     obtain⟨aPO,oQ,oS,aHT⟩:=cW (show ¬m5=ns from k1)
     obtain⟨aPP,oT,oU,aHU⟩:=cW (show ¬m5=nf from k2)
     obtain⟨bBC,aBB,aBC,aZV⟩:=cW (show ¬m5=ng from k3)
     simp only[aJ,cK]at *
     simp -dsimp -implicitDefEqProofs only[go_sem,↓reduceIte,Tryz.f80,dR,bK,oS,dQ,jT,oU,bL,jS,aBC,oQ,oT,aBB,aC,aP,c8,dA,dB,dC,dD,dS,dP,fL,OV.iF,OV.dN,OV.nG,os4.flat,os4.one,cO]
     simp only[aP,dR,bK,oS,dQ,jT,oU,bL,jS,aBC,oQ,oT,aBB,if_false]at v1 v2 z4f
     have ht:List.take i (OV.cells eo)=OV.cells eo:=nI (by rw[cO];have:=aVP.length;omega)
     refine⟨by decide,by decide,by decide,by have:=aVP.length;omega,by omega,by omega,λm qm=>?_⟩
     have am:¬m=ns:=by grind
     have bm:¬m=nf:=by grind
     have dm:g5 m=none:=by grind
     have em:¬m=ng:=by grind
     have fm:¬m=m5:=wR;have aCM:=eq_false fm;have aCN:=eq_false (iK fm);have aVQ:=fm;have aKM:=iK fm
     obtain⟨m8,fO,fP,o5⟩:=cW (show ¬m=ns from am)
     obtain⟨aCK,nT,nU,aCL⟩:=cW (show ¬m=nf from bm)
     obtain⟨uT,iT,iU,uU⟩:=cW (show ¬m=ng from em)
     simp -dsimp -implicitDefEqProofs only[go_sem,↓reduceIte,Tryz.f80,dR,bK,fP,dQ,jT,nU,bL,jS,iU,fO,nT,iT,aCM,nT,iT,fO,aCN,oT,aBB,oQ,nU,oU,jT,dQ,iU,aBC,jS,bL,fP,oS,dR,bK,aC,aP,c8,dA,dB,dC,dD,dS,dP,fL]
     refine⟨(cnt,i+1,outs++[x5],eo++[[.v (.int .i64 x5.aT),.v (.int .i64 x5.bB),.v (.int .i64 x5.c4),.v (.int .i64 x5.cN),y4]],g5,some m,a9,sd9),⟨rfl,IntWalk.i64_in _ aA⟩,?_,hii.next jO hx5 w5 ⟨v1,z4f⟩ dm ⟨am,bm⟩ ⟨bOK,by omega,aH4⟩ aA,by simp only;omega⟩
     intro q_
     simp only[aP,aJ,cK,jD,eH,cO,kK,kL,OV.iF,OV.dN,OV.nG,dS,p5,v7,ht]
     grind
   ·simp -dsimp -implicitDefEqProofs only[go_sem,↓reduceIte,Tryz.f80,bQ,cC,oM,bR,cA,dR,cB,b7,oO,oK,dQ,oN,aC,aP,c8,dA,dB,dC,dD,dS,dP,fL,hk9]
    refine⟨by decide,by rw[oA];rfl,?_⟩
    cases oo with
    |none =>
     rw[mB]at aGV
     subst aGV
     have:=aVP.length
     simp at this
     rw[this]at hol
     simp at hol
     omega
    |some m5 =>
    have bIE:=aG1 (sz:=5) bID aGV
    have hgo:=aNY aVP (sz:=5) aGV
    have hei:eo.length=i:=by rw[←aVP.length];exact hol
    rw[jY]at aGV
    obtain⟨k1,k2⟩:=a12 m5 rfl
    obtain⟨aPO,oQ,oS,aHT⟩:=cW (show ¬m5=ns from k1)
    obtain⟨aPP,oT,oU,aHU⟩:=cW (show ¬m5=nf from k2)
    simp only[aJ,cK,aI6]at *
    have bOL:(⟨nm,par,outs⟩:aX).o [.v (.str nm),.v (I par),.sl m5 5 eo]:=⟨_,rfl,hgo⟩
    have hgood:aCJ ⟨fs⟩ fs.length ⟨nm,par,outs⟩:=⟨⟨w,hw,hnm.symm⟩,by simp only[aX.aW];omega,by simp only[aX.aS];omega,hgd⟩
    have ws':aU g2 m5 (.row 5 (OV.cells eo)) ns=none:=by rw[aC _ _ _ _ aHT];exact ws
    have wf':aU g2 m5 (.row 5 (OV.cells eo)) nf=none:=by rw[aC _ _ _ _ aHU];exact wf
    have bZ3:=hk9 (.row 5 (OV.cells eo))
    clear hkeep
    generalize aU g2 m5 (.row 5 (OV.cells eo))=g6 at *
    have hz8:cP g1 (.row 3 (OV.cells es)) o n8=none:=j5 z18 λm e=>(hon m e).2.1
    have hz9:cP g1 (.row 3 (OV.cells es)) o n9=none:=j5 z19 λm e=>(hon m e).2.2
    obtain⟨g7,rfl,w7,z78,z79⟩:=fH.aB7 hz8 (by rw[aC _ _ _ _ aAU];exact hz9) bIE
    simp only[aP,bQ,cC,oM,bR,cA,dR,cB,b7,oO,oK,dQ,oN,if_false]at ws' wf' z79
    cases o with
    |none =>
     rw[mB]at hgs
     subst hgs
     obtain rfl:fs=[]:=aGJ.1 hor.length
     simp only[aL,mR]at *
     simp -dsimp -implicitDefEqProofs only[go_sem,↓reduceIte,Tryz.f80,bQ,cC,oM,bR,cA,dR,cB,b7,oO,oK,dQ,oN,aC,aP,c8,dA,dB,dC,dD,dS,dP,fL]
     have ht:=eH []
     refine⟨by decide,λm qm=>?_⟩
     have am:¬m=ns:=by grind
     have bm:¬m=n8:=by grind
     have cm:¬m=n9:=by grind
     have em:¬m=nf:=by grind
     have dm:g7 m=none:=by grind
     skip
     obtain⟨m8,fO,fP,o5⟩:=cW (show ¬m=ns from am)
     obtain⟨yI,j7,j8,yJ⟩:=cW (show ¬m=n8 from bm)
     obtain⟨yK,j9,kA,yL⟩:=cW (show ¬m=n9 from cm)
     obtain⟨aCK,nT,nU,aCL⟩:=cW (show ¬m=nf from em)
     simp -dsimp -implicitDefEqProofs only[go_sem,↓reduceIte,Tryz.f80,bQ,cC,oM,j8,bR,cA,dR,fP,cB,b7,oO,kA,oK,dQ,oN,nU,j7,fO,j9,nT,aC,aP,c8,dA,dB,dC,dD,dS,dP,fL]
     refine⟨([]++[⟨nm,par,outs⟩],[]++[[.v (.str nm),.v (I par),.sl m5 5 eo]],g7,some m,a8,sd8),?_,?_,hdd.next hlt hgood bOL (by simpa only[OV.eC,OV.hJ,OV.z5,dS,dP]using w7) ⟨ws',z78,z79⟩ dm ⟨am,bm,cm⟩ aA,by simp only[gD,nA];omega⟩
     ·rw[IntWalk.i64_in _ (by first|omega|(simp only[sB];omega))]
      simp only[gD,nA,sB]
      rfl
     ·intro q_
      simp only[aP,aJ,cK,jD,eH,cO,kK,kL,OV.iF,OV.dN,OV.nG,OV.z7,dS,p5,v7,gD,nA,sB,hei,ht]
      grind
    |some m0 =>
     rw[jY]at hgs
     obtain⟨g8,rfl,w8,z80⟩:=fH.under hgs w7
     obtain⟨k3,k4,k5⟩:=hon m0 rfl
     obtain⟨aA6,iG,iH,xM⟩:=cW (show ¬m0=ns from k3)
     obtain⟨aHP,kB,kC,aCW⟩:=cW (show ¬m0=n8 from k4)
     obtain⟨aHQ,kD,kE,aCU⟩:=cW (show ¬m0=n9 from k5)
     simp only[aJ,cK]at *
     have k6:¬m0=nf:=λe=>by rw[e,aI]at zf;cases zf
     obtain⟨bBD,aEH,aEI,aZW⟩:=cW (show ¬m0=nf from k6)
     simp only[aP,bQ,cC,oM,kC,bR,cA,dR,iH,cB,b7,oO,kE,oK,dQ,oN,aEI,kB,iG,kD,aEH,if_false]at ws' wf' z78 z79
     simp -dsimp -implicitDefEqProofs only[go_sem,↓reduceIte,Tryz.f80,bQ,cC,oM,kC,bR,cA,dR,iH,cB,b7,oO,kE,oK,dQ,oN,aEI,kB,iG,kD,aEH,aC,aP,c8,dA,dB,dC,dD,dS,dP,fL,cO]
     have ht:List.take fs.length (OV.cells es)=OV.cells es:=nI aQB
     refine⟨by decide,by have:=hor.length;omega,by omega,by omega,λm qm=>?_⟩
     have am:¬m=ns:=by grind
     have bm:¬m=n8:=by grind
     have cm:¬m=n9:=by grind
     have em:¬m=nf:=by grind
     have dm:g8 m=none:=by grind
     have fm:¬m=m0:=wR;have yM:=eq_false fm;have yN:=eq_false (iK fm);have aPJ:=fm;have aPK:=iK fm
     obtain⟨m8,fO,fP,o5⟩:=cW (show ¬m=ns from am)
     obtain⟨yI,j7,j8,yJ⟩:=cW (show ¬m=n8 from bm)
     obtain⟨yK,j9,kA,yL⟩:=cW (show ¬m=n9 from cm)
     obtain⟨aCK,nT,nU,aCL⟩:=cW (show ¬m=nf from em)
     simp -dsimp -implicitDefEqProofs only[go_sem,↓reduceIte,Tryz.f80,bQ,cC,oM,j8,bR,cA,dR,fP,cB,b7,oO,kA,oK,dQ,oN,nU,j7,fO,j9,nT,yM,j7,j9,nT,fO,yN,kB,kD,aEH,iG,j8,kC,cC,oM,bQ,kA,kE,cB,oO,b7,nU,aEI,oK,oN,dQ,fP,iH,bR,cA,dR,aC,aP,c8,dA,dB,dC,dD,dS,dP,fL]
     refine⟨(fs++[⟨nm,par,outs⟩],es++[[.v (.str nm),.v (I par),.sl m5 5 eo]],g8,some m,a8,sd8),?_,?_,hdd.next hlt hgood bOL (by simpa only[OV.eC,OV.hJ,OV.z5,dS,dP]using w8) ⟨ws',z78,z79⟩ dm ⟨am,bm,cm⟩ aA,by simp only[gD,nA];omega⟩
     ·rw[IntWalk.i64_in _ (by first|omega|(simp only[sB];omega))]
      simp only[gD,nA,sB]
      rfl
     ·intro q_
      simp only[aP,aJ,cK,jD,eH,cO,kK,kL,OV.iF,OV.dN,OV.nG,OV.z7,dS,p5,v7,gD,nA,sB,hei,ht]
      grind
 ·have hfe:es.length=fs.length:=hor.length.symm
  refine⟨_,_,Shift.of (Sub.refl _) ?_,fs,es,o,g1,a3,sd3,by omega,hdr,hor,hnew,zs,hgs,λm e=>(hon m e).1,hfo,rfl,by omega,rfl⟩
  have y8:cP g1 (.row 3 (OV.cells es)) o n8=none:=j5 z18 λm e=>(hon m e).2.1
  have y9:cP g1 (.row 3 (OV.cells es)) o n9=none:=j5 z19 λm e=>(hon m e).2.2
  intro q_
  simp only[aP]
  grind
theorem bOM (c:List Int) {g:aB}:iV Tryz.prog 79 [.sl 1 (c.map λn=>[.int .u8 n]) false] g λr h'=>∃ ns,r=.op ns 3 0 0/\g ns=none/\h'=aU g ns (jK c 0 0):=by
 refine aGO 6 aBD cU cF Tryz.func79 ?_
 simp -dsimp -implicitDefEqProofs only[go_sem,↓reduceIte,Tryz.f79]
 intro n q
 exact⟨_,aB.le_refl _,n,rfl,q,rfl⟩
theorem OV.aGE {x:OV} {p:Nat×bV} (hp:p∈x.rows):∀ {e:List OV},x∈e->p∈OV.bY e
 |y::e,h=>by
  rw[OV.eC]
  rcases mW.1 h with rfl|h
  ·exact zC _ hp
  ·exact wI _ (OV.aGE hp h)
theorem OV.aEJ {x:OV} {e:List OV} {p:Nat×bV} (hx:x∈e) (hp:p∈x.rows):∀ {es:List (List OV)},e∈es->p∈OV.bG es
 |y::es,h=>by
  rw[OV.bG]
  rcases mW.1 h with rfl|h
  ·exact zC _ (OV.aGE hp hx)
  ·exact wI _ (OV.aEJ hx hp h)
theorem aB.bIF {h:aB} {b sz:Nat} {es:List (List OV)} (hb:h b=some (.row sz (OV.cells es))) (ho:qH h (OV.bG es)) (hnb:b∉bF (OV.bG es)) :
  (aU (iL h (bF (OV.bG es))) b (.row sz ((es.map (List.map OV.qG)).map (List.map .v)))).wk h:=λE w R=>by
 have R1:=R.iL (bF (OV.bG es))
 have s7:iL h (bF (OV.bG es)) b=some (.row sz (OV.cells es)):=by rw[kZ hnb];exact hb
 have h0:∀ b,nX E h w b->nX E (iL h (bF (OV.bG es))) w b:=λb=>pV _ b
 have hun:∀ i j x v,iJ es i j=some x->fC E h w x.val v->fC E (iL h (bF (OV.bG es))) w x.qG v:=λi j x v hx hr=>by
  obtain⟨e,e1,e2⟩:=kP hx
  have hsub:∀ p∈x.rows,p∈OV.bG es:=λp hp=>OV.aEJ (rS e2) hp (rS e1)
  exact fC.aBK R x (λp hp=>ho p (hsub p hp)) (λp hp=>dF.2 ⟨p.2,hsub p hp⟩) v hr
 have hat:∀ i j,iJ ((es.map (List.map OV.qG)).map (List.map Cell.v)) i j=(iJ es i j).map λx=>Cell.v x.qG:=λi j=>by rw[nF,nF,Option.map_map];rfl
 have bON:∀ i j,iJ (OV.cells es) i j=(iJ es i j).map λx=>Cell.v x.val:=λi j=>nF _ _ _ _
 have hlen:((es.map (List.map OV.qG)).map (List.map Cell.v)).length=(OV.cells es).length:=by rw[gT,gT,cO]
 generalize iL h (bF (OV.bG es))=h1 at *
 have live:∀ q o,aU h1 b (.row sz ((es.map (List.map OV.qG)).map (List.map .v))) q=some o->∃ o',h1 q=some o'/\(o.live->o'.live):=λq o ho=>by
  by_cases e:q=b
  ·subst e;exact⟨_,s7,λ_=>trivial⟩
  ·rw[aC _ _ _ _ e]at ho;exact⟨o,ho,id⟩
 have pD:∀ q,nX E h1 w q->nX E (aU h1 b (.row sz ((es.map (List.map OV.qG)).map (List.map .v)))) w q:=λq i=>⟨i.1,λn o ho hl=>by
  obtain⟨o',h1,h2⟩:=live n o ho;exact i.2 n o' h1 (h2 hl)⟩
 refine⟨⟨R1.fin,λn hn=>R1.dom n λe=>?_,λn o c hn hl=>?_,λn o n' o' c hn hl hn' hl'=>?_,λn o hn=>?_,R1.laid.pD pD⟩,λq i=>pD q (h0 q i)⟩
 ·by_cases e2:n=b
  ·subst e2;rw[s7]at e;cases e
  ·rw[aC _ _ _ _ e2]at hn;exact hn e
 ·obtain⟨o2,h1,h2⟩:=live n o hn
  exact R1.lt n o2 c h1 (h2 hl)
 ·obtain⟨o2,h1,h2⟩:=live n o hn
  obtain⟨o3,h3,h4⟩:=live n' o' hn'
  exact R1.apart n o2 n' o3 c h1 (h2 hl) h3 (h4 hl')
 ·by_cases e:n=b
  ·subst e
   rw[aI]at hn
   obtain rfl:=gH hn
   rcases R.obj n _ hb with⟨k,o2,hlc,ra⟩|⟨he,hlc⟩
   ·refine .inl ⟨k,o2,hlc,ra.hb,λe he=>?_,?_⟩
    ·obtain⟨e1,h3,rfl⟩:=lA.1 he
     obtain⟨e2,h4,rfl⟩:=lA.1 h3
     have:=ra.size (e2.map λc=>Cell.v c.val) (List.mem_map_of_mem h4)
     rw[gT]at this
     rw[gT,gT];exact this
    obtain⟨cs,t,cv,T,g1,g2,g3,g4,g5,g6⟩:=ra.mem
    refine⟨cs,t,cv,T,g1,by rw[hlen];exact g2,g3,g4,λi j x hx=>?_,λi j x hx=>?_⟩
    ·rw[hat]at hx
     obtain⟨y,hy,rfl⟩:=q0.1 hx
     exact g5 i j (.v y.val) (by rw[bON,hy];rfl)
    ·rw[hat]at hx
     obtain⟨y,hy,rfl⟩:=q0.1 hx
     have hr:=g6 i j (.v y.val) (by rw[bON,hy];rfl)
     cases hr with
     |v _ _ _ k1 k2=>exact .v _ _ _ k1 ((hun i j y _ hy k2).pD pD)
   ·have h5:es=[]:=by
     cases es with
     |nil=>rfl
     |cons e es=>simp[OV.cells]at he
    subst h5
    exact .inr ⟨rfl,hlc⟩
  ·rw[aC _ _ _ _ e]at hn
   exact(R1.obj n o hn).pD pD
theorem a63 {B g':aB} {l:List (Nat×bV)} {ns ng:Nat} {X Y:bV} (w:fH B l g') (z:g' ns=none) (z2:g' ng=none):(aU (aU B ns X) ng Y).le (iL (aU (aU g' ns X) ng Y) (bF l)):=λm=>by
 by_cases e2:m∈bF l
 ·obtain⟨o,ho⟩:=dF.1 e2
  have:=w.oY _ ho
  simp only at this
  have e3:¬m=ns:=λe=>by rw[e,z]at this;cases this
  have e4:¬m=ng:=λe=>by rw[e,z2]at this;cases this
  rw[aC _ _ _ _ e4,aC _ _ _ _ e3];exact .inl (w.fresh m e2)
 ·rw[kZ e2]
  by_cases e4:m=ng
  ·rw[e4,aI,aI];exact .inr rfl
  rw[aC _ _ _ _ e4,aC _ _ _ _ e4]
  by_cases e3:m=ns
  ·rw[e3,aI,aI];exact .inr rfl
  rw[aC _ _ _ _ e3,aC _ _ _ _ e3,w.upto m e2];exact .inr rfl
theorem iV.bBE {P:Program} {f:FuncId} {args:List aE} {h:aB} {K K':aE->aB->Prop} (a:iV P f args h K) (hK:∀ r h',K r h'->∃ r1 g1,Shift r h' r1 g1/\K' r1 g1):iV P f args h K':=by
 refine⟨a.1,λE w vs R hv=>Calls.mono (a.2 E w vs R hv) λe w' he=>?_⟩
 cases e <;> try exact he
 obtain⟨r,h',E',k,ev,R',rx⟩:=he
 obtain⟨r1,g1,s,k1⟩:=hK r h' k
 obtain⟨E2,ev2,R2,rx2⟩:=s E' w' _ R' rx
 exact⟨r1,g1,E2,k1,ev.trans ev2,R2,rx2⟩
theorem bU2 {p:aG} {ns ng np:Nat} {c:List Int} {pl:Bool} (hc:∀ x∈c,InB x) (hl:c.length<=4096) (hne:¬ns=ng) (hP:yH p) (hpl:p.aK.length<=100) (dp:Nat) (vars:Int) {B:aB} {a:Nat} {sd L:Int} (h1:B ns=none) (h2:B ng=none) (h3:aAI p np B) (h4:a6W dp a vars L) :
  iV Tryz.prog 154 [.op ng 4 0 0,I vars,I p.aK.length,I dp] (aU (aU B ns (jK c a sd)) ng (kT ns np L pl)) λr h'=>∃ (x:aD) (a':Nat) (sd' L':Int),r=.agg x.c/\h'=aU (aU B ns (jK c a' sd')) ng (kT ns np L' pl)/\x.s<=3*mL L/\(a<=a'/\a'<=a+14*(x.s+1)) :=
 (bOI (pl:=pl) hc hl hne hP hpl dp vars B a sd L h1 h2 h3 h4).bBE λr h' ⟨x,e,g',a',sd',L',ho,hr,hw,⟨z1,z2⟩,hh,hok,hd,hL,ha⟩=>by
  subst hr hh
  refine⟨_,_,Shift.own (h:=aU (aU B ns (jK c a' sd')) ng (kT ns np L' pl)) e (λq hq=>?_) (a63 hw z1 z2),x,a',sd',L',by rw[aD.aRX ho],rfl,by omega,ha⟩
  have:=hw.oY q hq
  rw[aC _ _ _ _ (λe=>by rw[e,z2]at this;cases this),aC _ _ _ _ (λe=>by rw[e,z1]at this;cases this)];exact this
theorem aM4 (k n:Int):Sub (.agg [I k,I n,I 0,I 0,.bS]) (.agg (aD.mk k n 0 0 []).c):=by
 rw[aD.aZ]
 exact Sub.agg (.cons (.refl _) (.cons (.refl _) (.cons (.refl _) (.cons (.refl _) (.cons (Sub.nil 5 false) .nil)))))
theorem aAR (n:Int):fE Tryz.prog 158 [I n] (.agg (aD.mk 1 n 0 0 []).c):=by
 refine lS 5 aBD cU cF Tryz.func158 λh=>?_
 simp -dsimp -implicitDefEqProofs only[go_sem,↓reduceIte,Tryz.f158]
 exact λm hm=>Shift.of (aM4 1 n) (by rw[aO];exact aB.bM hm (aB.le_refl _))
theorem aPQ (n:Int):fE Tryz.prog 159 [I n] (.agg (aD.mk 2 n 0 0 []).c):=by
 refine lS 5 aBD cU cF Tryz.func159 λh=>?_
 simp -dsimp -implicitDefEqProofs only[go_sem,↓reduceIte,Tryz.f159]
 exact λm hm=>Shift.of (aM4 2 n) (by rw[aO];exact aB.bM hm (aB.le_refl _))
@[go_sem] def bBF:List Nat:=[0,1,2,4,5,6]
@[go_sem] def bOO:List Nat:=[4,5,10]
theorem a64 (k:Int) (x y:aD):fE Tryz.prog 157 [I k,.agg x.c,.agg y.c] (.agg (aD.mk k 0 0 0 [x,y]).c):=by
 rw[aD.aZ (.mk k 0 0 0 [x,y])]
 simp only[aD.aM,gF,p5,v7,aD.aT,aD.bB,aD.c4,aD.cN]
 rw[aD.aZ x,aD.aZ y]
 refine lS 12 bBF bOO cF Tryz.func157 λh=>?_
 simp -dsimp -implicitDefEqProofs only[go_sem,↓reduceIte,Tryz.f157]
 exact λn hn=>⟨by decide,by decide,Shift.of (Sub.agg (.cons (.refl _) (.cons (.refl _) (.cons (.refl _) (.cons (.refl _) (.cons (Sub.loose _ _ _) .nil)))))) (by rw[aO];exact aB.bM hn (aB.le_refl _))⟩
def tD (l:List aD):bV:=.row 5 ((l.map aD.c).map (List.map .v))
theorem a13 (l:List aD) (x:aD):tD (l++[x])=.row 5 (((l.map aD.c).map (List.map Cell.v))++[x.c.map .v]):=by simp[tD]
theorem aVR {P:Program} {L:aE->Prop} {et:TypeId} {sz n:Nat} {o:Option Nat} (hn:n<=9223372036854775807) (h:o=none->n=0) (t:Tag L):a0O P (some (.slice et)) (jN sz n o) L t=L (.int .i64 n):=by
 cases o with
 |none=>rw[h rfl];rfl
 |some m=>exact propext ⟨λa=>a hn,λa _=>a⟩
abbrev BSt:=Nat×List aD×Option Nat×Nat×Int
def l4:List UInt8:=[101,113]
def bOP (k:Nat) (G:aB) (ns np nf:Nat) (a:Nat):BSt->Prop:=λ(i,outs,oo,a8,_) =>
 i<=k/\outs.length=i/\eM G outs oo/\(∀ m,oo=some m->¬m=ns/\¬m=np/\¬m=nf)/\(∀ x∈outs,x.s<=60)/\(a<=a8/\a8<=a+1000*i)
@[go_sem] def a65:List Nat:=[0,1,2,3,4,5,12,13,14,15,16,28]
@[go_sem] def bOQ:List Nat:=[56,65]
@[go_sem] def bOR:Marks:=λid=>match id with|7=>([1,2,4,6,10,11,12,14,16],(.op 0 (.op 3 (.op 7 (.op 8 (.op 9 (.op 1 (.op 2 (.op 4 (.op 5 (.op 6 (.op 10 (.op 11 (.op 12 (.op 13 (.op 14 (.op 15 (.op 16 .nil))))))))))))))))),[(1,4),(1,6),(1,10),(1,11),(1,12),(2,4),(2,6),(2,10),(2,11)])|8=>([4,5,7,10],(.op 0 (.op 1 (.op 2 (.op 3 (.op 4 (.op 5 (.op 6 (.op 7 (.op 8 (.op 9 (.op 10 .nil))))))))))),[])|_=>([],.nil,[])
set_option maxHeartbeats 4000000 in
theorem a14 {ns np:Nat} {c:List Int} (hc:∀ x∈c,InB x) (hl:c.length<=4096) {fs:List aX} (hfl:fs.length<=3) (hP:yH ⟨fs⟩) {es:List (List OV)} {o:Option Nat} (hor:OR aX.o fs es) {G1:aB} (hfo:o=none->fs=[]) (hgs:yV G1 es o) (hns:cP G1 (.row 3 (OV.cells es)) o ns=none) (hnp:cP G1 (.row 3 (OV.cells es)) o np=none) (hne:¬np=ns) (args:List Int) (hal:args.length<=10) {k:Nat} (hk:1<=k/\k<=10) (from_:Int) (hfr:0<=from_/\from_<=10) {a:Nat} (ha:a<=700000000) {sd:Int} :
  iV Tryz.prog 83 [.op ns 3 0 0,.op np 1 0 0,.str l4,ints args,I k,I from_] (aU (aU (cP G1 (.row 3 (OV.cells es)) o) np (.row 1 [[.v (jN 3 fs.length o)]])) ns (jK c a sd)) λ_ h'=>∃ (outs:List aD) (m mo a':Nat) (sd':Int),outs.length=k/\(∀ x∈outs,x.s<=60)/\(G1 m=none/\¬m=ns/\¬m=np)/\(G1 mo=none/\¬mo=ns/\¬mo=np)/\¬mo=m /\
   h'=aU (aU (aU (aU G1 mo (tD outs)) m (.row 3 (OV.cells es++[[.v (.str l4),.v (I args.length),.v (.os mo 5 0 k)]]))) np (.row 1 [[.v (.os m 3 0 (fs.length+1))]])) ns (jK c a' sd'):=by
 obtain⟨aEF,fX,fW,aHS⟩:=cW (show ¬ns=np from iK hne)
 obtain⟨G,hG⟩:∃ G,G=cP G1 (.row 3 (OV.cells es)) o:=⟨_,rfl⟩
 rw[←hG]at hns hnp ⊢
 have hGm:∀ m,o=some m->G m=some (.row 3 (OV.cells es)):=λm e=>by rw[hG,e,aJ,aI]
 refine mC 69 a65 bOQ bOR Tryz.func83 ?_
 simp -dsimp -implicitDefEqProofs only[go_sem,↓reduceIte,Tryz.f83]
 intro _ nf qf
 have af:¬nf=ns:=by grind
 have bf:¬nf=np:=by grind
 have cf:G nf=none:=by grind
 obtain⟨bA9,dQ,dR,aEG⟩:=cW (show ¬nf=ns from af)
 obtain⟨bRL,kH,kI,bBG⟩:=cW (show ¬nf=np from bf)
 have aQQ:=λ{P:Program} {L:aE->Prop} {et:TypeId} {sz:Nat} (t:Tag L)=>aVR (P:=P) (L:=L) (et:=et) (sz:=sz) (n:=fs.length) (o:=o) aA (λq=>by rw[hfo q];rfl) t
 simp -dsimp -implicitDefEqProofs only[go_sem,↓reduceIte,Tryz.f83,dQ,kH,dR,fX,kI,fW,aC,aP,c8,dA,dB,dC,dD,dS,dP,fL,b5 aEG,aO,aQQ]
 refine cM a65 bOQ bOR (λx:BSt=>[(0,.op ns 3 0 0),(1,.op np 1 0 0),(4,I k),(5,I from_),(12,.op nf 3 0 0),(13,I fs.length),(14,I x.1)]) (λx=>aU (aU (aU (cP G (tD x.2.1) x.2.2.1) np (.row 1 [[.v (jN 3 fs.length o)]])) nf (.row 3 [[.v (.str l4),.v (I args.length),.v (jN 5 x.1 x.2.2.1)]])) ns (jK c x.2.2.2.1 x.2.2.2.2)) (λx=>bOP k G ns np nf a x) (λx=>k-x.1) (0,[],none,a,sd) ⟨by simp[cR,b6],aB.le_refl _,eF _,rfl,rfl,(λm e=>by cases e),(λx h=>by cases h),by simp⟩ ?_
 rintro⟨i,outs,oo,a8,sd8⟩ hbs
 obtain⟨hi,hol,hos,hon,hsz,ha8⟩:=id hbs
 simp only at hi hol hos hon hsz ha8 ⊢
 simp -dsimp -implicitDefEqProofs only[go_sem,↓reduceIte,Tryz.f83,dQ,kH,dR,fX,kI,fW,aC,aP,c8,dA,dB,dC,dD,dS,dP,fL]
 refine⟨λhlt=>?_,λhge=>?_⟩
 ·refine aH.gV (a5B (a:=a8) (sd:=sd8) hc hl aA 4 aA (aI ..)) ?_
  rintro r_ h' ⟨b,a9,sd9,rfl,ha9,rfl⟩
  rw[aO]
  simp -dsimp -implicitDefEqProofs only[go_sem,↓reduceIte,Tryz.f83,dQ,kH,dR,fX,kI,fW,aC,aP,c8,dA,dB,dC,dD,dS,dP,fL,kT]
  intro ng qg
  have ag:¬ng=ns:=by grind
  have bg:¬ng=nf:=by grind
  have cg:¬ng=np:=by grind
  have dg:cP G (tD outs) oo ng=none:=by grind
  obtain⟨kV,bL,bK,sW⟩:=cW (show ¬ng=ns from ag)
  obtain⟨aPN,jS,jT,bBB⟩:=cW (show ¬ng=nf from bg)
  obtain⟨aZQ,kG,kF,bA6⟩:=cW (show ¬ng=np from cg)
  simp -dsimp -implicitDefEqProofs only[go_sem,↓reduceIte,Tryz.f83,dQ,kH,jT,dR,fX,bK,kI,fW,kF,jS,bL,kG,aC,aP,c8,dA,dB,dC,dD,dS,dP,fL]
  rw[show ∀ H:aB,aU H ng (bV.row 4 [[Cell.v (aE.op ns 3 0 0),Cell.v (aE.op np 1 0 0),Cell.v (I 7),Cell.v (aE.bool !b)]])=aU H ng (kT ns np 7 !b)from λ_=>rfl]
  have hoG:∀ q R,G q=some R->cP G (tD outs) oo q=some R:=λq R hq=>by
   cases oo with
   |none=>exact hq
   |some m =>
    rw[aQ]at hos
    rw[aJ,aC _ _ _ _ (λe=>by rw[e,hos]at hq;cases hq)];exact hq
  have hB1:aU (aU (cP G (tD outs) oo) np (.row 1 [[.v (jN 3 fs.length o)]])) nf (.row 3 [[.v (.str l4),.v (I args.length),.v (jN 5 i oo)]]) ns=none:=by
   rw[aC _ _ _ _ aEG,aC _ _ _ _ aEF];exact j5 hns λm e=>(hon m e).1
  have hB2:aU (aU (cP G (tD outs) oo) np (.row 1 [[.v (jN 3 fs.length o)]])) nf (.row 3 [[.v (.str l4),.v (I args.length),.v (jN 5 i oo)]]) ng=none:=by
   rw[aC _ _ _ _ aPN,aC _ _ _ _ aZQ];exact dg
  have hpr:aAI ⟨fs⟩ np (aU (aU (cP G (tD outs) oo) np (.row 1 [[.v (jN 3 fs.length o)]])) nf (.row 3 [[.v (.str l4),.v (I args.length),.v (jN 5 i oo)]])):=by
   refine⟨es,o,hor,by rw[aC _ _ _ _ bBG,aI],hfo,λm e=>?_⟩
   have h1:=hGm m e
   rw[aC _ _ _ _ (λq=>by rw[q,cf]at h1;cases h1),aC _ _ _ _ (λq=>by rw[q,hnp]at h1;cases h1)]
   exact hoG _ _ h1
  refine aH.gV (bU2 hc hl sW hP (by simp only[aG.aK];omega) 4 args.length (a:=a9) (sd:=sd9) (L:=7) hB1 hB2 hpr ⟨by omega,by have:mL 7=6:=rfl;omega,by omega⟩) ?_
  rintro r_ h' ⟨x,a10,bU3,L10,rfl,rfl,hxs,bZ9⟩
  have hm6:mL 7=6:=rfl
  rw[aD.aZ x]
  simp -dsimp -implicitDefEqProofs only[go_sem,↓reduceIte,Tryz.f83,dQ,kH,jT,dR,fX,bK,kI,fW,kF,jS,bL,kG,aC,aP,c8,dA,dB,dC,dD,dS,dP,fL]
  intro nx qx
  have ax:¬nx=ns:=by grind
  have bx:¬nx=nf:=by grind
  have cx:¬nx=np:=by grind
  have dx:¬nx=ng:=by grind
  have ex:cP G (tD outs) oo nx=none:=by grind
  obtain⟨bRM,tE,tF,bBH⟩:=cW (show ¬nx=ns from ax)
  obtain⟨bRN,tG,tH,bRO⟩:=cW (show ¬nx=nf from bx)
  obtain⟨bRP,tI,tJ,bRQ⟩:=cW (show ¬nx=np from cx)
  obtain⟨bRR,tK,tL,bRS⟩:=cW (show ¬nx=ng from dx)
  simp -dsimp -implicitDefEqProofs only[go_sem,↓reduceIte,Tryz.f83,dQ,kH,jT,tH,dR,fX,bK,tF,kI,fW,kF,tJ,jS,bL,kG,tL,tG,tE,tI,tK,aC,aP,c8,dA,dB,dC,dD,dS,dP,fL,b5 sW,b5 bBH,aO]
  refine aH.gV (qY (a:=a10) (sd:=bU3) hc hl aA 5 aA (aI ..)) ?_
  rintro r_ h' ⟨y,a11,bOS,rfl,y0,y1,-,b0A,rfl⟩
  have y1:=y1 aA
  have wp:IntKind.i64.wrap (1+y)=1+y:=IntWalk.i64_in _ aA
  have wq:IntKind.i64.wrap (from_+i)=from_+i:=IntWalk.i64_in _ aA
  have hmul:=a64 5 (.mk 1 (1+y) 0 0 []) (.mk 2 (from_+i) 0 0 [])
  have hop:=a64 3 x (.mk 5 0 0 0 [.mk 1 (1+y) 0 0 [],.mk 2 (from_+i) 0 0 []])
  rw[aD.aZ x]at hop
  rw[aO]
  simp -dsimp -implicitDefEqProofs only[go_sem,↓reduceIte,Tryz.f83,dQ,kH,jT,tH,dR,fX,bK,tF,kI,fW,kF,tJ,jS,bL,kG,tL,tG,tE,tI,tK,aC,aP,c8,dA,dB,dC,dD,dS,dP,fL,wp]
  first|refine aH.mk (aAR (1+y)) ?_|refine aF.mk (aAR (1+y)) ?_|refine aH.bI (aAR (1+y)) ?_|refine aF.mk (bC.dI (aAR (1+y))) ?_
  simp -dsimp -implicitDefEqProofs only[go_sem,↓reduceIte,Tryz.f83,dQ,kH,jT,tH,dR,fX,bK,tF,kI,fW,kF,tJ,jS,bL,kG,tL,tG,tE,tI,tK,aC,aP,c8,dA,dB,dC,dD,dS,dP,fL,wp,wq]
  first|refine aH.mk (aPQ (from_+i)) ?_|refine aF.mk (aPQ (from_+i)) ?_|refine aH.bI (aPQ (from_+i)) ?_|refine aF.mk (bC.dI (aPQ (from_+i))) ?_
  simp -dsimp -implicitDefEqProofs only[go_sem,↓reduceIte,Tryz.f83,dQ,kH,jT,tH,dR,fX,bK,tF,kI,fW,kF,tJ,jS,bL,kG,tL,tG,tE,tI,tK,aC,aP,c8,dA,dB,dC,dD,dS,dP,fL,wp,wq]
  first|refine aH.mk (hmul) ?_|refine aF.mk (hmul) ?_|refine aH.bI (hmul) ?_|refine aF.mk (bC.dI (hmul)) ?_
  simp -dsimp -implicitDefEqProofs only[go_sem,↓reduceIte,Tryz.f83,dQ,kH,jT,tH,dR,fX,bK,tF,kI,fW,kF,tJ,jS,bL,kG,tL,tG,tE,tI,tK,aC,aP,c8,dA,dB,dC,dD,dS,dP,fL,wp,wq]
  generalize hz:(aD.mk 3 0 0 0 [x,.mk 5 0 0 0 [.mk 1 (1+y) 0 0 [],.mk 2 (from_+i) 0 0 []]])=z at hop
  have hzs:z.s<=60:=by
   rw[←hz]
   simp only[aUU,qU,p5,v7,aFM,List.sum_nil,tT,sB]
   omega
  rw[aD.aZ z]at hop
  refine aH.mk hop ?_
  cases oo with
  |none =>
   rw[aY]at hos
   subst hos
   obtain rfl:i=0:=hol.symm
   simp only[aL,mR]at *
   simp -dsimp -implicitDefEqProofs only[go_sem,↓reduceIte,Tryz.f83,dQ,kH,jT,tH,dR,fX,bK,tF,kI,fW,kF,tJ,jS,bL,kG,tL,tG,tE,tI,tK,aC,aP,c8,dA,dB,dC,dD,dS,dP,fL]
   refine⟨by decide,by decide,by decide,λm qm=>?_⟩
   have g1:¬m=ns:=by grind
   have g2:¬m=nx:=by grind
   have g3:¬m=ng:=by grind
   have g4:¬m=nf:=by grind
   have g5:¬m=np:=by grind
   have g6:G m=none:=by grind
   obtain⟨m8,fO,fP,o5⟩:=cW (show ¬m=ns from g1)
   obtain⟨bIG,aVS,aVT,bIH⟩:=cW (show ¬m=nx from g2)
   obtain⟨uT,iT,iU,uU⟩:=cW (show ¬m=ng from g3)
   obtain⟨aCK,nT,nU,aCL⟩:=cW (show ¬m=nf from g4)
   obtain⟨aFL,rO,rP,aKN⟩:=cW (show ¬m=np from g5)
   simp -dsimp -implicitDefEqProofs only[go_sem,↓reduceIte,Tryz.f83,dQ,kH,jT,tH,nU,dR,fX,bK,tF,fP,kI,fW,kF,tJ,rP,jS,bL,kG,tL,iU,tG,tE,tI,tK,aVT,nT,fO,rO,iT,aVS,aC,aP,c8,dA,dB,dC,dD,dS,dP,fL]
   have hrow:bV.row 5 [[Cell.v (aE.int IntKind.i64 z.aT),Cell.v (aE.int IntKind.i64 z.bB),Cell.v (aE.int IntKind.i64 z.c4),Cell.v (aE.int IntKind.i64 z.cN),Cell.v (gF 5 aD.c z.aM)]]=tD [z]:=by rw[tD,aP8,aD.aZ z];rfl
   rw[hrow]
   refine⟨(1,[z],some m,a11,bOS),IntWalk.i64_in _ aA,?_,⟨by omega,rfl,g6,λb q=>by cases q;exact⟨g1,g5,g4⟩,λw hw=>by rw[jL.1 hw];exact hzs,by omega⟩,by simp only;omega⟩
   intro q_
   simp only[aP,aJ,cK]
   grind
  |some m5 =>
   rw[aQ]at hos
   obtain⟨k1,k2,k3⟩:=hon m5 rfl
   obtain⟨aPO,oQ,oS,aHT⟩:=cW (show ¬m5=ns from k1)
   obtain⟨bBI,vZ,v5,bBJ⟩:=cW (show ¬m5=np from k2)
   obtain⟨aPP,oT,oU,aHU⟩:=cW (show ¬m5=nf from k3)
   have k4:¬m5=ng:=λe=>by rw[aJ,e,aI]at dg;cases dg
   obtain⟨bBC,aBB,aBC,aZV⟩:=cW (show ¬m5=ng from k4)
   have k5:¬m5=nx:=λe=>by rw[aJ,e,aI]at ex;cases ex
   simp only[aJ,cK]at *
   obtain⟨bRT,aZX,aZY,bBK⟩:=cW (show ¬m5=nx from k5)
   simp -dsimp -implicitDefEqProofs only[go_sem,↓reduceIte,Tryz.f83,dQ,kH,jT,tH,oU,dR,fX,bK,tF,oS,kI,fW,kF,tJ,v5,jS,bL,kG,tL,aBC,tG,tE,tI,tK,aZY,oT,oQ,vZ,aBB,aZX,aC,aP,c8,dA,dB,dC,dD,dS,dP,fL,tD]
   refine⟨by decide,by decide,by decide,by omega,by omega,by omega,λm qm=>?_⟩
   have g1:¬m=ns:=by grind
   have g2:¬m=nx:=by grind
   have g3:¬m=ng:=by grind
   have g4:¬m=nf:=by grind
   have g5:¬m=np:=by grind
   have g7:¬m=m5:=by grind
   have g6:G m=none:=by grind
   obtain⟨m8,fO,fP,o5⟩:=cW (show ¬m=ns from g1)
   obtain⟨bIG,aVS,aVT,bIH⟩:=cW (show ¬m=nx from g2)
   obtain⟨uT,iT,iU,uU⟩:=cW (show ¬m=ng from g3)
   obtain⟨aCK,nT,nU,aCL⟩:=cW (show ¬m=nf from g4)
   obtain⟨aFL,rO,rP,aKN⟩:=cW (show ¬m=np from g5)
   obtain⟨aVQ,aCM,aCN,aKM⟩:=cW (show ¬m=m5 from g7)
   simp -dsimp -implicitDefEqProofs only[go_sem,↓reduceIte,Tryz.f83,dQ,kH,jT,tH,nU,oU,dR,fX,bK,tF,fP,oS,kI,fW,kF,tJ,rP,v5,jS,bL,kG,tL,iU,aBC,tG,tE,tI,tK,aVT,aZY,nT,fO,rO,iT,aVS,aCM,oT,oQ,vZ,aBB,aZX,aCN,aC,aP,c8,dA,dB,dC,dD,dS,dP,fL]
   have hrow:bV.row 5 (List.take i (List.map (List.map Cell.v) (List.map aD.c outs))++[[Cell.v (aE.int IntKind.i64 z.aT),Cell.v (aE.int IntKind.i64 z.bB),Cell.v (aE.int IntKind.i64 z.c4),Cell.v (aE.int IntKind.i64 z.cN),Cell.v (gF 5 aD.c z.aM)]])=tD (outs++[z]):=by
    rw[a13,aD.aZ z,nI (by rw[gT,gT];omega)];rfl
   rw[hrow]
   refine⟨(i+1,outs++[z],some m,a11,bOS),IntWalk.i64_in _ aA,?_,⟨by omega,by rw[gD,hol];rfl,g6,λb q=>by cases q;exact⟨g1,g5,g4⟩,λw hw=>?_,by omega⟩,by simp only;omega⟩
   ·rw[aC _ _ _ _ bBK]at ex
    rw[aC _ _ _ _ aZV]at dg
    intro q_
    simp only[aP,aJ,cK]
    grind
   ·rcases oW.1 hw with hw|hw
    ·exact hsz w hw
    ·rw[jL.1 hw];exact hzs
 ·cases oo with
  |none =>
   rw[aY]at hos
   rw[hos]at hol
   simp at hol
   omega
  |some m5 =>
  rw[aQ]at hos
  obtain⟨k1,k2,k3⟩:=hon m5 rfl
  obtain⟨aPO,oQ,oS,aHT⟩:=cW (show ¬m5=ns from k1)
  obtain⟨bBI,vZ,v5,bBJ⟩:=cW (show ¬m5=np from k2)
  obtain⟨aPP,oT,oU,aHU⟩:=cW (show ¬m5=nf from k3)
  obtain rfl:i=k:=by omega
  simp only[aJ,cK]at *
  simp -dsimp -implicitDefEqProofs only[go_sem,↓reduceIte,Tryz.f83,dQ,kH,oU,dR,fX,oS,kI,fW,v5,oT,oQ,vZ,aC,aP,c8,dA,dB,dC,dD,dS,dP,fL]
  refine⟨by decide,by decide,?_⟩
  cases o with
  |none =>
   have hes:es=[]:=by
    have:=hor.length
    rw[hfo rfl]at this
    exact aGJ.1 this.symm
   have iX:fs=[]:=hfo rfl
   subst hes iX
   simp only[mR]at *
   simp -dsimp -implicitDefEqProofs only[go_sem,↓reduceIte,Tryz.f83,dQ,kH,oU,dR,fX,oS,kI,fW,v5,oT,oQ,vZ,aC,aP,c8,dA,dB,dC,dD,dS,dP,fL]
   refine⟨by decide,λm qm=>?_⟩
   have g1:¬m=ns:=by grind
   have g4:¬m=nf:=by grind
   have g5:¬m=np:=by grind
   have g7:¬m=m5:=by grind
   have g6:G m=none:=by grind
   obtain⟨m8,fO,fP,o5⟩:=cW (show ¬m=ns from g1)
   obtain⟨aCK,nT,nU,aCL⟩:=cW (show ¬m=nf from g4)
   obtain⟨aFL,rO,rP,aKN⟩:=cW (show ¬m=np from g5)
   obtain⟨aVQ,aCM,aCN,aKM⟩:=cW (show ¬m=m5 from g7)
   simp -dsimp -implicitDefEqProofs only[go_sem,↓reduceIte,Tryz.f83,dQ,kH,nU,oU,dR,fX,fP,oS,kI,fW,rP,v5,nT,fO,rO,aCM,oT,oQ,vZ,aCN,aC,aP,c8,dA,dB,dC,dD,dS,dP,fL]
   obtain rfl:G=G1:=hG
   refine⟨.gU [],_,eK ?_,outs,m,m5,a8,sd8,hol,hsz,⟨g6,g1,g5⟩,⟨hos,k1,k2⟩,aKM,rfl⟩
   intro q_
   simp only[aP,kL,dS]
   grind
  |some m0 =>
   have hg0:=hGm m0 rfl
   have j1:¬m0=ns:=λe=>by rw[e,hns]at hg0;cases hg0
   have j2:¬m0=np:=λe=>by rw[e,hnp]at hg0;cases hg0
   have j3:¬m0=nf:=λe=>by rw[e,cf]at hg0;cases hg0
   have j4:¬m0=m5:=λe=>by rw[e,hos]at hg0;cases hg0
   obtain⟨aA6,iG,iH,xM⟩:=cW (show ¬m0=ns from j1)
   obtain⟨bRU,bBL,bBM,bRV⟩:=cW (show ¬m0=np from j2)
   obtain⟨bBD,aEH,aEI,aZW⟩:=cW (show ¬m0=nf from j3)
   obtain⟨bRW,bBN,bBO,bBP⟩:=cW (show ¬m0=m5 from j4)
   simp only[cK]at *
   simp -dsimp -implicitDefEqProofs only[go_sem,↓reduceIte,Tryz.f83,dQ,kH,oU,aEI,dR,fX,oS,iH,kI,fW,v5,bBM,oT,oQ,vZ,bBO,aEH,iG,bBL,bBN,aC,aP,c8,dA,dB,dC,dD,dS,dP,fL,hg0,cO]
   have hel:es.length=fs.length:=hor.length.symm
   refine⟨by decide,by omega,by omega,by omega,λm qm=>?_⟩
   have g1:¬m=ns:=by grind
   have g4:¬m=nf:=by grind
   have g5:¬m=np:=by grind
   have g7:¬m=m5:=by grind
   have g6:G m=none:=by grind
   obtain⟨m8,fO,fP,o5⟩:=cW (show ¬m=ns from g1)
   obtain⟨aCK,nT,nU,aCL⟩:=cW (show ¬m=nf from g4)
   obtain⟨aFL,rO,rP,aKN⟩:=cW (show ¬m=np from g5)
   obtain⟨aVQ,aCM,aCN,aKM⟩:=cW (show ¬m=m5 from g7)
   simp -dsimp -implicitDefEqProofs only[go_sem,↓reduceIte,Tryz.f83,dQ,kH,nU,oU,dR,fX,fP,oS,kI,fW,rP,v5,nT,fO,rO,aCM,oT,oQ,vZ,aCN,aC,aP,c8,dA,dB,dC,dD,dS,dP,fL]
   have g8:¬m=m0:=λe=>by rw[e,hg0]at g6;cases g6
   rw[hG,aJ,aC _ _ _ _ g8]at g6
   rw[hG,aJ,aC _ _ _ _ bBP]at hos
   rw[jY]at hgs
   rw[hG,aJ,aC _ _ _ _ aZW]at cf
   refine⟨.gU [],_,eK ?_,outs,m,m5,a8,sd8,hol,hsz,⟨g6,g1,g5⟩,⟨hos,k1,k2⟩,aKM,rfl⟩
   have htk:List.take fs.length (OV.cells es)=OV.cells es:=nI (by rw[cO];omega)
   intro q_
   simp only[hG,aJ,aP,htk]
   grind
def aGF (fs:List aX) (n:Int) (mo k:Nat):List (List aE):=fs.map aX.c++[[.str l4,I n,.os mo 5 0 k]]
def aTI (fs:List aX) (n:Int) (mo k:Nat):bV:=.row 3 ((aGF fs n mo k).map (List.map .v))
def qZ (fs:List aX) (n:Int) (outs:List aD):aG:=⟨fs++[⟨l4,n,outs⟩]⟩
theorem aZZ {α:Type} (c:α->List aE) (l:List α):OV.cells (l.map λx=>(c x).map OV.v)=(l.map c).map (List.map .v):=by
 simp only[OV.cells,yS]
 refine zE λx _=>?_
 show((c x).map OV.v).map _=(c x).map _
 rw[yS];rfl
theorem aM5:∀ l:List aE,OV.bY (l.map OV.v)=[]
 | []=>rfl
 |x::l=>by rw[p5,OV.eC,OV.z5,aM5 l];rfl
theorem aVU {α:Type} (c:α->List aE):∀ l:List α,OV.bG (l.map λx=>(c x).map OV.v)=[]
 | []=>rfl
 |x::l=>by rw[p5,OV.bG,aM5,aVU c l];rfl
theorem a66 {α:Type} (c:α->List aE) (l:List α):(l.map λx=>(c x).map OV.v).map (List.map OV.qG)=l.map c:=by
 rw[yS]
 refine zE λx _=>?_
 show((c x).map OV.v).map OV.qG=c x
 rw[yS]
 exact(zE λy _=>rfl).trans (List.map_id _)
def HZ (fs:List aX) (n:Int) (outs:List aD) (B:aB) (np m mo:Nat):aB:=aU (aU (aU B mo (tD outs)) m (aTI fs n mo outs.length)) np (.row 1 [[.v (.os m 3 0 (fs.length+1))]])
def ovL (fs:List aX) (n:Int) (outs:List aD) (mo:Nat):List (List OV):=(fs.map λf=>f.c.map OV.v)++[[.v (.str l4),.v (I n),.sl mo 5 (outs.map λx=>x.c.map OV.v)]]
theorem aM6 (fs:List aX) (n:Int) (outs:List aD) (mo:Nat):OV.cells (ovL fs n outs mo)=(aGF fs n mo outs.length).map (List.map .v):=by
 rw[ovL,qL,aZZ,aGF,lT]
 congr 1
 simp[OV.cells,OV.val]
theorem aKO (fs:List aX) (n:Int) (outs:List aD) (mo:Nat):OV.bG (ovL fs n outs mo)=[(mo,tD outs)]:=by
 rw[ovL,OV.k7,aVU]
 simp only[OV.bG,OV.eC,OV.hJ,OV.z5,OV.eD,aVU,aZZ,dS,dP]
 rfl
theorem aZ0 (fs:List aX) (n:Int) (outs:List aD) (m mo:Nat):[OV.sl m 3 (ovL fs n outs mo)].map OV.qG=(qZ fs n outs).c:=by
 rw[aG.aZ,aP8,OV.qG,OV.kJ,ovL,lT,a66]
 simp only[qZ,aG.aK,gF,lT,aP8,p5,v7]
 rw[aX.aZ]
 simp only[aX.kQ,aX.aW,aX.aS,OV.qG,OV.kJ,a66,gF]
theorem bBQ {fs:List aX} {n:Int} {outs:List aD} {B:aB} {np m mo:Nat} (h1:B np=none) (h2:B m=none) (h3:B mo=none) (d1:¬mo=m) (d2:¬m=np) (d3:¬mo=np):View (HZ fs n outs B np m mo) (.op np 1 0 0) (.ip 1 [(qZ fs n outs).c] 0 0):=by
 have h:=View.box (g:=aU (aU B mo (tD outs)) m (aTI fs n mo outs.length)) (nb:=np) (sz:=1) (e:=[OV.sl m 3 (ovL fs n outs mo)]) (aZ0 fs n outs m mo) (by rw[aC _ _ _ _ (iK d2),aC _ _ _ _ (iK d3)];exact h1) (by
  rw[OV.eC,OV.hJ,dP,OV.eD,aKO,aM6]
  intro p hp
  rcases mW.1 hp with rfl|hp
  ·exact aI ..
  ·rw[jL.1 hp]
   show aU _ m _ mo=_
   rw[aC _ _ _ _ d1,aI])
 have e:OV.cells [[OV.sl m 3 (ovL fs n outs mo)]]=[[.v (.os m 3 0 (fs.length+1))]]:=by
  simp[OV.cells,OV.val,ovL]
 rw[e]at h
 exact h
theorem a15 {ns np:Nat} {c:List Int} (hc:∀ x∈c,InB x) (hl:c.length<=4096) {fs:List aX} (hfl:fs.length<=3) (hP:yH ⟨fs⟩) {es:List (List OV)} {o:Option Nat} (hor:OR aX.o fs es) {B G1:aB} (hnw:fH B (OV.bG es) G1) (hfo:o=none->fs=[]) (hgs:yV G1 es o) (hns:cP G1 (.row 3 (OV.cells es)) o ns=none) (hnp:cP G1 (.row 3 (OV.cells es)) o np=none) (hne:¬np=ns) (args:List Int) (hal:args.length<=10) {k:Nat} (hk:1<=k/\k<=10) (from_:Int) (hfr:0<=from_/\from_<=10) {a:Nat} (ha:a<=700000000) {sd:Int} :
  iV Tryz.prog 83 [.op ns 3 0 0,.op np 1 0 0,.str l4,ints args,I k,I from_] (aU (aU (cP G1 (.row 3 (OV.cells es)) o) np (.row 1 [[.v (jN 3 fs.length o)]])) ns (jK c a sd)) λ_ h'=>∃ (outs:List aD) (m mo a':Nat) (sd':Int),outs.length=k/\(∀ x∈outs,x.s<=60)/\(B m=none/\¬m=ns/\¬m=np)/\(B mo=none/\¬mo=ns/\¬mo=np)/\¬mo=m /\
   h'=aU (aU (aU (aU B mo (tD outs)) m (aTI fs args.length mo k)) np (.row 1 [[.v (.os m 3 0 (fs.length+1))]])) ns (jK c a' sd') :=
 (a14 hc hl hfl hP hor hfo hgs hns hnp hne args hal hk from_ hfr ha).shift λr h' ⟨outs,m,mo,a',sd',q1,q2,⟨m1,m2,m3⟩,⟨o1,o2,o3⟩,q5,e⟩=>by
  subst e
  have hG:∀ q,cP G1 (.row 3 (OV.cells es)) o q=none->G1 q=none:=λq hq=>by
   cases o with
   |none=>exact hq
   |some m0 =>
    rw[jY]at hgs
    rw[aJ]at hq
    by_cases e:q=m0
    ·rw[e];exact hgs
    ·rw[aC _ _ _ _ e]at hq;exact hq
  have hB:∀ q,G1 q=none->B q=none:=λq hq=>by
   cases hb:B q with
   |none=>rfl
   |some x=>rw[hnw.keep hb]at hq;cases hq
  have hN:∀ q,G1 q=none->q∉bF (OV.bG es):=λq hq hm=>by
   obtain⟨x,hx⟩:=dF.1 hm
   have:=hnw.oY _ hx
   simp only at this
   rw[hq]at this;cases this
  have hns':=hG _ hns
  have hnp':=hG _ hnp
  have hrw:OV.bG (es++[[.v (.str l4),.v (I args.length),.v (.os mo 5 0 k)]])=OV.bG es:=by
   rw[OV.k7];simp[OV.bG,OV.eC,OV.hJ,OV.z5]
  have hce:OV.cells (es++[[.v (.str l4),.v (I args.length),.v (.os mo 5 0 k)]])=OV.cells es++[[Cell.v (.str l4),Cell.v (I args.length),Cell.v (.os mo 5 0 k)]]:=by
   rw[qL];rfl
  have hdt:(es++[[OV.v (.str l4),.v (I args.length),.v (.os mo 5 0 k)]]).map (List.map OV.qG)=aGF fs args.length mo k:=by
   rw[lT,←OV.kJ,OR.qG (λ_ _ q=>aX.aRX q) hor];rfl
  have hw:=aB.bIF (h:=aU (aU (aU (aU G1 mo (tD outs)) m (.row 3 (OV.cells es++[[.v (.str l4),.v (I args.length),.v (.os mo 5 0 k)]]))) np (.row 1 [[.v (.os m 3 0 (fs.length+1))]])) ns (jK c a' sd')) (b:=m) (sz:=3) (es:=es++[[.v (.str l4),.v (I args.length),.v (.os mo 5 0 k)]])
   (by rw[hce,aC _ _ _ _ m2,aC _ _ _ _ m3,aI]) (λp hp=>by
    rw[hrw]at hp
    have:=hnw.oY p hp
    have hx:∀ q,G1 q=none->¬p.1=q:=λq hq e=>by rw[e,hq]at this;cases this
    rw[aC _ _ _ _ (hx _ hns'),aC _ _ _ _ (hx _ hnp'),aC _ _ _ _ (hx _ m1),aC _ _ _ _ (hx _ o1)];exact this) (by rw[hrw];exact hN _ m1)
  rw[hdt,hrw]at hw
  refine⟨_,(aB.kR λq=>?_).trans hw,outs,m,mo,a',sd',q1,q2,⟨hB _ m1,m2,m3⟩,⟨hB _ o1,o2,o3⟩,q5,rfl⟩
  by_cases e:q∈bF (OV.bG es)
  ·left
   have hx:∀ r,G1 r=none->¬q=r:=λr hr e2=>hN r hr (e2▸e)
   rw[aC _ _ _ _ (hx _ hns'),aC _ _ _ _ (hx _ hnp'),aC _ _ _ _ (hx _ m1),aC _ _ _ _ (hx _ o1)]
   exact hnw.fresh q e
  ·right
   by_cases e1:q=m
   ·rw[e1,aC _ _ _ _ m2,aC _ _ _ _ m3,aI,aI];rfl
   rw[aC _ _ _ _ e1,kZ e]
   by_cases e2:q=ns
   ·rw[e2,aI,aI]
   rw[aC _ _ _ _ e2,aC _ _ _ _ e2]
   by_cases e3:q=np
   ·rw[e3,aI,aI]
   rw[aC _ _ _ _ e3,aC _ _ _ _ e3,aC _ _ _ _ e1,aC _ _ _ _ e1]
   by_cases e4:q=mo
   ·rw[e4,aI,aI]
   rw[aC _ _ _ _ e4,aC _ _ _ _ e4,hnw.upto q e]
theorem aM7 {vs:List (List Int)} {u:Nat}:sT (.ok (vs,u))=(vs.map (·.getD 0 0),(u:Int),0):=rfl
@[go_sem] def aVV:List Nat:=[0,1,4,5,7,8,17,33]
@[go_sem] def bII:Marks:=λid=>match id with|6=>([3,7,12,16,19,23,24,25,27],(.op 0 (.op 1 (.op 2 (.op 4 (.op 8 (.op 9 (.op 10 (.op 11 (.op 13 (.op 17 (.op 20 (.op 21 (.op 22 (.op 3 (.op 5 (.op 6 (.op 7 (.op 12 (.op 14 (.op 15 (.op 16 (.op 18 (.op 19 (.op 23 (.op 24 (.op 25 (.op 26 (.op 27 .nil)))))))))))))))))))))))))))),[(3,24),(3,25),(7,24),(7,25),(12,24),(16,24),(19,24)])|_=>([],.nil,[])
set_option maxHeartbeats 4000000 in
theorem a67 {fs:List aX} (hfl:fs.length<=3) {outs:List aD} {k:Nat} (hol:outs.length=k) (hk:1<=k/\k<=10) (args:List Int) (na:dW args) (hal:args.length<=10) (hsz:∀ outs':List aD,outs'.length=k->(∀ x∈outs',x.s<=62)->(qZ fs args.length outs').s<=4194304) (hso:∀ x∈outs,x.s<=60) {B:aB} {np m mo:Nat} (z1:B np=none) (z2:B m=none) (z3:B mo=none) (d1:¬mo=m) (d2:¬m=np) (d3:¬mo=np) :
  iV Tryz.prog 84 [.op np 1 0 0,ints args] (HZ fs args.length outs B np m mo) λ_ h'=>∃ outs':List aD,outs'.length=k/\(∀ x∈outs',x.s<=62)/\h'=HZ fs args.length outs' B np m mo:=by
 have hps:=hsz outs hol λx hx=>by have:=hso x hx;omega
 have hlok:=bDC (qZ fs args.length outs) hps
 have hview:=bBQ (fs:=fs) (n:=args.length) (outs:=outs) z1 z2 z3 d1 d2 d3
 obtain⟨a68,aKP,aKQ,bIJ⟩:=cW (show ¬mo=m from d1)
 obtain⟨aFL,rO,rP,aKN⟩:=cW (show ¬m=np from d2)
 obtain⟨aZ1,aEK,aEL,bBR⟩:=cW (show ¬mo=np from d3)
 have hat:HZ fs args.length outs B np m mo np=some (.row 1 [[.v (.os m 3 0 (fs.length+1))]]):=aI ..
 have wa:IntKind.i64.wrap ((fs.length+1:Nat)-1)=fs.length:=by rw[IntWalk.i64_in _ aA];omega
 have hend:∀ v,∃ r1 g2,Shift v (HZ fs args.length outs B np m mo) r1 g2/\∃ outs':List aD,outs'.length=k/\(∀ x∈outs',x.s<=62)/\g2=HZ fs args.length outs' B np m mo:=λv=>⟨v,_,cD _ _,outs,hol,λx hx=>by have:=hso x hx;omega,rfl⟩
 refine mC 63 aVV cU bII Tryz.func84 ?_
 simp -dsimp -implicitDefEqProofs only[go_sem,↓reduceIte,Tryz.f84,hat]
 refine λ_=>aH.bME hlok (lQ.cons hview lQ.nil) rfl ?_
 simp -dsimp -implicitDefEqProofs only[go_sem,↓reduceIte,Tryz.f84,hat,wa]
 refine⟨λhp=>hend _,λhp=>?_⟩
 have hlen:(qZ fs args.length outs).aK.length=fs.length+1:=by simp[qZ,aG.aK]
 have hgetF:(qZ fs args.length outs).aK[(fs.length:Int).toNat]?=some ⟨l4,args.length,outs⟩:=by
  rw[tX,qZ];simp only[aG.aK];rw[v8 (bX _)];simp
 have hf:0<=(fs.length:Int)/\(fs.length:Int)<(qZ fs args.length outs).aK.length:=by rw[hlen];omega
 have hpar:∀ F,(qZ fs args.length outs).aK[(fs.length:Int).toNat]?=some F->(args.length:Int)=F.aW:=λF hF=>by rw[hgetF]at hF;cases hF;rfl
 have qF:=aSY hp (fs.length:Int) hf args na aA hpar
 have hvl:(sT (evF (qZ fs args.length outs) 1 (fs.length:Int) (args.map λn=>[n]))).1.length<=k/\dW (sT (evF (qZ fs args.length outs) 1 (fs.length:Int) (args.map λn=>[n]))).1:=by
  cases hX:evF (qZ fs args.length outs) 1 (fs.length:Int) (args.map λn=>[n])with
  |error c=>exact⟨eF _,λx hx=>by cases hx⟩
  |ok w =>
   obtain⟨ws,u⟩:=w
   have h:=aOG hp (sz:=1) bO (fs.length:Int) hf (args.map λn=>[n]) (λs hs=>by
    obtain⟨n,hn,rfl⟩:=lA.1 hs
    exact⟨rfl,λx hx=>by rw[jL.1 hx];exact na n hn⟩) (λF hF=>by rw[gT];exact hpar F hF) ws u hX
   have h1:ws.length=outs.length:=by
    have h1:=h.1
    rw[aG.outs,hgetF]at h1
    exact h1
   exact⟨by rw[aM7];simp only[gT];omega,λx hx=>by
    rw[aM7]at hx
    obtain⟨s,hs,rfl⟩:=lA.1 hx
    exact(h.2 s hs).2.get 0⟩
 generalize sT (evF (qZ fs args.length outs) 1 (fs.length:Int) (args.map λn=>[n]))=V at qF hvl
 obtain⟨vs,vt,vc⟩:=V
 simp only at qF hvl
 refine aH.ln qF (lQ.cons hview (lQ.cons (View.same _ _) (lQ.cons (View.same _ _) lQ.nil))) (QS.gE (λy hy=>OS.sol (λ_ _ q=>aUC (λ_=>rfl) q) hy) λx hx=>by simp[aE.gE,aE.aB4,hx]) ?_
 rintro r l g' ⟨y,hy,rfl,rfl⟩ hw
 rcases hy.y5 with⟨rfl,h0⟩|⟨q,rfl⟩
 ·rw[OV.qK]at hw
  obtain rfl:HZ fs args.length outs B np m mo=g':=funext λq=>(hw.upto q aQH).symm
  simp -dsimp -implicitDefEqProofs only[go_sem,↓reduceIte,Tryz.f84,OV.aNX]
  refine cM aVV cU bII (λx:Nat=>[(0,.op np 1 0 0),(4,I fs.length),(5,.sl 1 [] true),(7,I vc),(8,I x)]) (λ_=>HZ fs args.length outs B np m mo) (λ_=>True) (λx=>0) 0 ⟨by simp[cR,b6],aB.le_refl _,trivial⟩ ?_
  intro x _
  simp -dsimp -implicitDefEqProofs only[go_sem,↓reduceIte,Tryz.f84]
  exact⟨λh=>absurd h aA,λ_=>hend _⟩
 ·rw[OV.eD,gP,fQ]at hw
  obtain⟨zq,rfl⟩:=hw.rL
  have c1:¬q=np:=λe=>by rw[e,hat]at zq;cases zq
  have c2:¬q=m:=λe=>by rw[e,HZ,aC _ _ _ _ d2,aI]at zq;cases zq
  have c3:¬q=mo:=λe=>by rw[e,HZ,aC _ _ _ _ d3,aC _ _ _ _ d1,aI]at zq;cases zq
  obtain⟨bU4,aVW,aVX,bU5⟩:=cW (show ¬q=np from c1)
  obtain⟨bX1,a69,a7A,bX2⟩:=cW (show ¬q=m from c2)
  obtain⟨bU6,aVY,aVZ,bU7⟩:=cW (show ¬q=mo from c3)
  have z4:B q=none:=by rw[HZ,aC _ _ _ _ c1,aC _ _ _ _ c2,aC _ _ _ _ c3]at zq;exact zq
  simp -dsimp -implicitDefEqProofs only[go_sem,↓reduceIte,Tryz.f84,OV.iZ]
  have hm:∀ j:Nat,j=fs.length->(((aGF fs args.length mo k).map (List.map Cell.v)))[j]?=some [.v (.str l4),.v (I args.length),.v (.os mo 5 0 k)]:=λj hj=>by
   rw[hj,qR,aGF,v8 dG];simp
  have hml:((aGF fs args.length mo k).map (List.map Cell.v)).length=fs.length+1:=by simp[aGF]
  refine cM aVV cU bII (λx:Nat×List aD=>[(0,.op np 1 0 0),(4,I fs.length),(5,.os q 1 0 vs.length),(7,I vc),(8,I x.1)]) (λx=>aU (HZ fs args.length x.2 B np m mo) q (mE vs)) (λx=>x.1<=vs.length/\x.2.length=k/\(∀ j y,x.1<=j->x.2[j]?=some y->y.s<=60)/\∀ y∈x.2,y.s<=62) (λx=>vs.length-x.1) (0,outs) ⟨by simp[cR,b6],aB.le_refl _,eF _,hol,λj y _ hy=>hso y (rS hy),λx hx=>by have:=hso x hx;omega⟩ ?_
  rintro⟨i,aAS⟩ ⟨hi,aKR,sA,uZ⟩
  simp only at hi aKR sA uZ ⊢
  rcases bT i vs.length with hlt|hge
  ·have ev:=cQ hlt
   obtain⟨x,hx⟩:∃ x,aAS[i]?=some x:=⟨_,eY aA⟩
   have bOT:∀ v,∃ r1 g2,Shift v (aU (HZ fs args.length aAS B np m mo) q (mE vs)) r1 g2/\∃ outs':List aD,outs'.length=k/\(∀ x∈outs',x.s<=62)/\g2=HZ fs args.length outs' B np m mo:=λv=>⟨v,_,eK (aB.bM bB4 (aB.le_refl _)),aAS,aKR,uZ,rfl⟩
   have hop:=a64 4 x (.mk 1 (vs.getD i 0) 0 0 [])
   rw[aD.aZ x]at hop
   have hxs:x.s<=60:=sA i x (bX _) hx
   generalize hz:aD.mk 4 0 0 0 [x,.mk 1 (vs.getD i 0) 0 0 []]=z at hop
   rw[aD.aZ z]at hop
   simp -dsimp -implicitDefEqProofs only[go_sem,↓reduceIte,Tryz.f84,hlt,HZ,aTI,aKR,hm,hml,mE,tD,aVW,a69,aVY,aVX,rP,aEL,a7A,rO,aKQ,aVZ,aEK,aKP,aC,ev,hx]
   refine λ_=>⟨λhvc=>⟨by omega,by omega,by omega,?_⟩,λ_=>?_⟩
   ·rw[aD.aZ x]
    simp -dsimp -implicitDefEqProofs only[go_sem,↓reduceIte,Tryz.f84,HZ,aTI,aKR,hm,hml,mE,tD,aVW,a69,aVY,aVX,rP,aEL,a7A,rO,aKQ,aVZ,aEK,aKP,aC,ev,hx]
    first|refine aH.mk (aAR (vs.getD i 0)) ?_|refine aF.mk (aAR (vs.getD i 0)) ?_|refine aH.bI (aAR (vs.getD i 0)) ?_|refine aF.mk (bC.dI (aAR (vs.getD i 0))) ?_
    simp -dsimp -implicitDefEqProofs only[go_sem,↓reduceIte,Tryz.f84]
    refine aH.mk hop ?_
    simp -dsimp -implicitDefEqProofs only[go_sem,↓reduceIte,Tryz.f84,HZ,aTI,aKR,hm,hml,mE,tD,aVW,a69,aVY,aVX,rP,aEL,a7A,rO,aKQ,aVZ,aEK,aKP,aC,ev,hx]
    have hset:((((((List.map Cell.v x.c).set 0 (Cell.v (aE.int IntKind.i64 z.aT))).set 1 (Cell.v (aE.int IntKind.i64 z.bB))).set 2 (Cell.v (aE.int IntKind.i64 z.c4))).set 3 (Cell.v (aE.int IntKind.i64 z.cN))).set 4 (Cell.v (gF 5 aD.c z.aM)))=z.c.map Cell.v:=by rw[aD.aZ x,aD.aZ z];rfl
    have hrow:((aAS.map aD.c).map (List.map Cell.v)).set i (z.c.map Cell.v)=((aAS.set i z).map aD.c).map (List.map Cell.v):=by rw[aHZ,aHZ]
    have hzs:z.s<=62:=by
     rw[←hz]
     simp only[aUU,qU,p5,v7,aFM,List.sum_nil,tT,sB]
     omega
    rw[hset,hrow]
    refine⟨by omega,by rw[aD.aRM];exact bX _,(i+1,aAS.set i z),IntWalk.i64_in _ aA,?_,⟨hlt,by rw[tW];exact aKR,λj y hj hy=>sA j y aA (by rw[rT aA]at hy;exact hy),λy hy=>?_⟩,by simp only;omega⟩
    ·rw[tW,aKR]
     intro q_
     simp only[aP]
     grind
    ·rcases wJ hy with hy|rfl
     ·exact uZ y hy
     ·exact hzs
   ·have h5:=bOT (.gU [])
    rw[HZ,tD,aTI,aKR,mE]at h5
    exact h5
  ·obtain rfl:i=vs.length:=by omega
   simp -dsimp -implicitDefEqProofs only[go_sem,↓reduceIte,Tryz.f84,bU,cT]
   exact λ_=>⟨.gU [],_,eK (aB.bM bB4 (aB.le_refl _)),aAS,aKR,uZ,rfl⟩
theorem Shift.bU8 {h h':aB} {w:aE->aE} (hw:aUE w) (e:List OV) (ho:qH h' (OV.bY e)) (hl:h.le (iL h' (bF (OV.bY e)))):Shift (w (.agg (e.map OV.val))) h' (w (.agg (e.map OV.qG))) h:=λE W v R rx =>
 ⟨E,(Ev.iL _).forget hl,(R.iL _).forget hl,(hw E h' _ W _ _ v (λb=>pV _ b) (λu ru=>fC.aRO R e u ho (λp hp=>dF.2 ⟨p.2,hp⟩) ru) rx).pD λb hb=>nX.le hl hb⟩
theorem aPR {α:Type} (f:α->Nat) (m:Nat):∀ l:List α,(∀ x∈l,f x<=m)->qU f l<=(m+1)*l.length
 | [],_=>by simp[qU]
 |x::l,h=>by
  have h1:=aPR f m l λy hy=>h y (.tail _ hy)
  have h2:=h x (.head _)
  simp only[qU,tT,p5,aFM]at h1 ⊢
  rw[Nat.mul_add,aP7];omega
theorem aZ2 {fs:List aX} (hd:aBS fs) (hl:fs.length<=3) {n:Int} {k:Nat} (hk:k<=10) {outs:List aD} (ho:outs.length=k) (hs:∀ x∈outs,x.s<=62):(qZ fs n outs).s<=4194304:=by
 have h1:∀ f∈fs,f.s<=1000:=λf hf=>by
  obtain⟨j,hj,-,⟨w,hw,hn⟩,-,h3,h4⟩:=hd.get hf
  obtain⟨c,hc,-,-⟩:=aTG (k:=j) aA
  have h5:w.length<=4:=by simp only[aPL,mW,aP4,or_false]at hw;rcases hw with rfl|rfl|rfl|rfl <;> decide
  have h6:=aPR aD.s 39 f.aS λx hx=>(h4 x hx).1
  rw[aX.aB6,hn,hc,gD,nA]
  omega
 have h2:=aPR aX.s 1000 (fs++[⟨l4,n,outs⟩]) λf hf=>by
  rcases oW.1 hf with hf|hf
  ·exact h1 f hf
  ·rw[jL.1 hf,aX.aB6]
   have h7:=aPR aD.s 62 outs hs
   simp only[aX.kQ,aX.aS,l4,tT,sB]
   omega
 rw[aG.aB6,qZ]
 simp only[aG.aK]
 rw[gD,nA]at h2
 omega
@[go_sem] def bIK:List Nat:=[0,2,3,4,5,6,7,8,9]
@[go_sem] def bU9:List Nat:=[22,24]
@[go_sem] def bVA:Marks:=λid=>match id with|8=>([0,2,6],(.op 1 (.op 5 (.op 0 (.op 2 (.op 3 (.op 4 (.op 6 (.op 7 (.op 8 .nil))))))))),[(2,6)])|_=>([],.nil,[])
set_option maxHeartbeats 4000000 in
theorem aTJ {c:List Int} (hc:∀ x∈c,InB x) (hl:c.length<=4096) {g:aB}:iV Tryz.prog 24 [.sl 1 (c.map λn=>[.int .u8 n]) false] g λr h'=>∃ (p:aG) (f:Int) (start:List Int),(p.s<=4194304/\start.length<=3)/\r=.gU [.agg p.c,I f,ints start]/\h'=g:=by
 refine mC 37 bIK bU9 bVA Tryz.func24 ?_
 simp -dsimp -implicitDefEqProofs only[go_sem,↓reduceIte,Tryz.f24]
 intro n2 q2
 refine aH.gV (bOM c) ?_
 rintro r_ h' ⟨ns,rfl,hns,rfl⟩
 have k1:¬n2=ns:=λe=>by rw[e,aI]at hns;cases hns
 obtain⟨bRX,bBS,bBT,bBU⟩:=cW (show ¬n2=ns from k1)
 simp -dsimp -implicitDefEqProofs only[go_sem,↓reduceIte,Tryz.f24]
 refine aH.gV (qY (a:=0) (sd:=0) hc hl aA 2 aA (aI ..)) ?_
 rintro r_ h' ⟨x,a1,sd1,rfl,x0,x1,-,ha1,rfl⟩
 have x1:=x1 aA
 obtain⟨nk,rfl⟩:∃ nk:Nat,x=nk:=⟨x.toNat,by omega⟩
 rw[aO]
 simp -dsimp -implicitDefEqProofs only[go_sem,↓reduceIte,Tryz.f24]
 refine aH.gV (bOJ (L0:=8) ⟨by decide,by decide⟩ (a:=a1) (sd:=sd1) (n:=nk) (pl:=true) (B:=aU g n2 (.row 1 [[.v .bS]])) hc hl aA hns aA) ?_
 rintro r_ h' ⟨fs,es,o,g1,a2,sd2,hfl,hdr,hor,hnw,z0,hgs,hon,hfo,rfl,ha2,rfl⟩
 simp -dsimp -implicitDefEqProofs only[go_sem,↓reduceIte,Tryz.f24]
 rintro np ⟨p1,p2⟩
 obtain⟨aHS,fW,fX,aEF⟩:=cW (show ¬np=ns from p1)
 rw[aO,b5 aEF]
 refine⟨oA ..,?_⟩
 refine aH.gV (qY (a:=a2) (sd:=sd2) hc hl aA 3 aA (aI ..)) ?_
 rintro r_ h' ⟨y,a3,sd3,rfl,y0,y1,-,ha3,rfl⟩
 have y1:=y1 aA
 obtain⟨k,hk⟩:∃ k:Nat,1+y=k:=⟨(1+y).toNat,by omega⟩
 have wk:IntKind.i64.wrap (1+y)=k:=by rw[IntWalk.i64_in _ aA,hk]
 have hk3:1<=k/\k<=3:=by omega
 rw[aO]
 simp -dsimp -implicitDefEqProofs only[go_sem,↓reduceIte,Tryz.f24,wk]
 have zs:cP g1 (.row 3 (OV.cells es)) o ns=none:=j5 z0 hon
 refine aH.gV (a5F (a:=a3) (sd:=sd3) hc hl k aA (B:=aU (cP g1 (.row 3 (OV.cells es)) o) np (.row 1 [[.v (jN 3 fs.length o)]])) (by rw[aC _ _ _ _ aEF];exact zs) aA) ?_
 rintro r_ h' ⟨start,a4,sd4,hsl,hsn,rfl,ha4,rfl⟩
 rw[tX]at hsl
 have hne:¬start=[]:=λq=>by rw[q]at hsl;simp at hsl;omega
 simp -dsimp -implicitDefEqProofs only[go_sem,↓reduceIte,Tryz.f24]
 refine⟨by decide,by decide,by decide,λq=>absurd (aV7.1 q) hne,λ_=>⟨by omega,by omega,λn hn0=>⟨ints (0::start),aU (aU (cP g1 (.row 3 (OV.cells es)) o) np (.row 1 [[.v (jN 3 fs.length o)]])) ns (jK c a4 sd4),eT (0::start) (by rw[aC _ _ _ _ hn0.1,aC _ _ _ _ hn0.2.1];exact hn0.2.2) (aB.le_refl _) aQC,?_⟩⟩⟩
 have hl0:((0::start).length:Int)=(k:Int)+1:=by rw[tT];omega
 have hna:dW (0::start):=λw hw=>by
  rcases mW.1 hw with rfl|hw
  ·exact qN
  ·exact hsn w hw
 refine aH.gV (a15 (a:=a4) (sd:=sd4) hc hl aA hdr.aZR hor hnw hfo hgs zs p2 p1 (0::start) aQC (k:=k) aA 1 bO aA) ?_
 rintro r_ h' ⟨outs,m,mo,a5,sd5,hol,hos,⟨m1,m2,m3⟩,⟨o1,o2,o3⟩,d1,rfl⟩
 obtain⟨m8,fO,fP,o5⟩:=cW (show ¬m=ns from m2)
 obtain⟨aFL,rO,rP,aKN⟩:=cW (show ¬m=np from m3)
 obtain⟨aZ3,bBV,bBW,bRY⟩:=cW (show ¬mo=ns from o2)
 obtain⟨aZ1,aEK,aEL,bBR⟩:=cW (show ¬mo=np from o3)
 obtain⟨a68,aKP,aKQ,bIJ⟩:=cW (show ¬mo=m from d1)
 have hB2:∀ q,aU g n2 (.row 1 [[.v .bS]]) q=none->¬q=n2/\g q=none:=λq hq=>by
  have h1:¬q=n2:=λe=>by rw[e,aI]at hq;cases hq
  rw[aC _ _ _ _ h1]at hq
  exact⟨h1,hq⟩
 have bOU:aU g n2 (.row 1 [[.v .bS]]) np=none:=by
  cases hb:aU g n2 (.row 1 [[.v .bS]]) np with
  |none=>rfl
  |some v =>
   have h1:=hnw.keep hb
   cases o with
   |none=>rw[aL]at p2;rw[p2]at h1;cases h1
   |some m0 =>
    rw[aJ]at p2
    rw[jY]at hgs
    by_cases e:np=m0
    ·rw[e,hgs]at h1;cases h1
    ·rw[aC _ _ _ _ e,h1]at p2;cases p2
 have hz:aU (aU (aU (aU (aU g n2 (.row 1 [[.v .bS]])) mo (tD outs)) m (aTI fs (0::start).length mo k)) np (.row 1 [[.v (.os m 3 0 (fs.length+1))]])) ns (jK c a5 sd5)=HZ fs (0::start).length outs (aU (aU g n2 (.row 1 [[.v .bS]])) ns (jK c a5 sd5)) np m mo:=by
  rw[HZ,hol,b5 aHS,b5 m8,b5 aZ3]
 rw[hz]
 simp -dsimp -implicitDefEqProofs only[go_sem,↓reduceIte,Tryz.f24]
 refine aH.gV (a67 aA hol aA (0::start) hna aQC (λouts' h1 h2=>aZ2 hdr aA (k:=k) aA h1 h2) hos (by rw[aC _ _ _ _ aHS];exact bOU) (by rw[aC _ _ _ _ m8];exact m1) (by rw[aC _ _ _ _ aZ3];exact o1) d1 m3 o3) ?_
 rintro r_ h' ⟨aAS,aKR,bVB,rfl⟩
 obtain⟨e1,e2⟩:=hB2 _ m1
 obtain⟨e3,e4⟩:=hB2 _ o1
 obtain⟨e5,e6⟩:=hB2 _ bOU
 obtain⟨bIL,bIM,bIN,bVC⟩:=cW (show ¬m=n2 from e1)
 obtain⟨bBX,bBY,bBZ,bRZ⟩:=cW (show ¬mo=n2 from e3)
 obtain⟨bR0,bB0,bB1,bR1⟩:=cW (show ¬np=n2 from e5)
 have wf:IntKind.i64.wrap ((fs.length+1:Nat)-1)=fs.length:=by rw[IntWalk.i64_in _ aA];omega
 simp -dsimp -implicitDefEqProofs only[go_sem,↓reduceIte,Tryz.f24,HZ,fW,rP,aEL,bB0,fX,fP,bBW,bBT,rO,fO,aKQ,bIM,aEK,bBV,aKP,bBY,bB1,bBS,bIN,bBZ,aC,aP,wf]
 have bVD:g ns=none:=by rw[aC _ _ _ _ bBU]at hns;exact hns
 have hw:=λ(h':aB) ho hl=>Shift.bU8 (h:=g) (h':=h') (aDL [] [I fs.length,ints start]) [OV.sl m 3 (ovL fs ((start.length+1:Nat):Int) aAS mo)] ho hl
 have hvl:[OV.sl m 3 (ovL fs ((start.length+1:Nat):Int) aAS mo)].map OV.val=[.os m 3 0 (fs.length+1)]:=by simp[OV.val,ovL]
 rw[aZ0,hvl]at hw
 refine⟨_,g,hw _ ?_ ?_,qZ fs ((start.length+1:Nat):Int) aAS,fs.length,start,⟨aZ2 hdr aA (k:=k) aA aKR bVB,by omega⟩,rfl,rfl⟩
 ·rw[OV.eC,OV.hJ,dP,OV.eD,aKO,aM6]
  intro p hp
  rcases mW.1 hp with rfl|hp
  ·rw[aC _ _ _ _ bIL,aC _ _ _ _ aFL,aI];rfl
  ·rw[jL.1 hp]
   show aU _ n2 _ mo=_
   rw[aC _ _ _ _ bBX,aC _ _ _ _ aZ1,aC _ _ _ _ a68,aI]
 ·rw[OV.eC,OV.hJ,dP,OV.eD,aKO]
  intro q
  by_cases f1:q=m
  ·rw[f1];exact .inl e2
  by_cases f2:q=mo
  ·rw[f2];exact .inl e4
  by_cases f3:q=n2
  ·rw[f3];exact .inl q2
  by_cases f4:q=np
  ·rw[f4];exact .inl e6
  by_cases f5:q=ns
  ·rw[f5];exact .inl bVD
  right
  rw[kZ (by simp[bF,f1,f2]),aC _ _ _ _ f3,aC _ _ _ _ f4,aC _ _ _ _ f1,aC _ _ _ _ f2,aC _ _ _ _ f5,aC _ _ _ _ f3]
theorem bB2 (l:List (List Int)) (k:Nat):(l.map λs=>s.getD 0 0).getD k 0=nK l k:=by
 rw[nK,gG,qR,gG (l:=l)]
 cases l[k]? <;> rfl
@[go_sem] def bEG:List Nat:=[0,1,4,5,6,7,9,10,11,12,13,14,15,16,17,18,19,22,45,47,52,64,73,99]
@[go_sem] def ib5:List Nat:=[53,65]
@[go_sem] def mk5:Marks:=λid=>match id with|21=>([0,4,5],(.op 1 (.op 2 (.op 3 (.op 0 (.op 4 (.op 5 (.op 6 (.op 7 (.op 8 (.op 9 (.op 10 .nil))))))))))),[(0,4)])|_=>([],.nil,[])
set_option maxHeartbeats 4000000 in
theorem bIO {c:List Int} (hc:∀ x∈c,InB x) {d:List Int} (hd:∀ x∈d,InB x):fE Tryz.prog 5 [.sl 1 (c.map λn=>[.int .u8 n]) false,.sl 1 (d.map λn=>[.int .u8 n]) false] (.bool true):=by
 have hb:=bH5 c d
 refine fU 100 bEG ib5 mk5 Tryz.func5 λh=>?_
 simp -dsimp -implicitDefEqProofs only[go_sem,↓reduceIte,Tryz.f5]
 first|refine aH.mk (hb) ?_|refine aF.mk (hb) ?_|refine aH.bI (hb) ?_|refine aF.mk (bC.dI (hb)) ?_
 simp -dsimp -implicitDefEqProofs only[go_sem,↓reduceIte,Tryz.f5]
 intro hlong
 have hlc:c.length<=4096:=by omega
 refine aH.gV (aTJ hc hlc) ?_
 rintro r_ h' ⟨p,f,start,⟨hps,hsl⟩,rfl,rfl⟩
 have hsp:=aGT p hps f start aA
 have him:=aTE p hps f start aA
 rw[aG.aZ]at hsp him ⊢
 simp -dsimp -implicitDefEqProofs only[go_sem,↓reduceIte,Tryz.f5]
 intro n5 q5
 rw[aO]
 first|refine aH.mk (hsp) ?_|refine aF.mk (hsp) ?_|refine aH.bI (hsp) ?_|refine aF.mk (bC.dI (hsp)) ?_
 simp -dsimp -implicitDefEqProofs only[go_sem,↓reduceIte,Tryz.f5,aP]
 first|refine aH.mk (him) ?_|refine aF.mk (him) ?_|refine aH.bI (him) ?_|refine aF.mk (bC.dI (him)) ?_
 simp -dsimp -implicitDefEqProofs only[go_sem,↓reduceIte,Tryz.f5,aP]
 have bOV:∀ Y,h'.le (aU h' n5 Y):=λY=>aB.bM q5 (aB.le_refl _)
 refine⟨λ_=>bOV _,λhz=>?_⟩
 obtain⟨h0,hS,L,F,u,hr,T,hL,hys,hdot⟩:=bA0 hz
 obtain⟨h1,h2,F0,ef,e1,e2,e3⟩:=yF h0
 obtain⟨G1,aKH⟩:=rN (sz:=1) bO h0 hS
 have hy1:=iI start 1 bO
 have na:dW (0::start):=hy1▸G1.ns
 have hpar:∀ H,p.aK[f.toNat]?=some H->((0::start).length:Int)=H.aW:=hy1▸G1.par
 have hR:=aUP h1 hps f h2 (0::start) na aQC hpar
 rw[show oZ p f (0::start)=(⟨(0::start).length,F.code,F.guards,L⟩,0)by rw[oZ,hr],aG.aZ,iM.aZ]at hR
 simp only[aVK]at hdot
 generalize (fN p f start).1=Y at hys hdot
 have hn1:1<=start.length:=by have:=G1.hn;rw[aKH]at this;exact this.1
 clear him hsp hz hS h0 e1 e2 e3 aKH hy1 G1 hr
 have hwide:fE Tryz.prog 27 [bW Y,I start.length,I 2] (.bool true):=bH6 hys.1 λs hs=>(hys.2 s hs).1
 have hcol:fE Tryz.prog 30 [bW Y,I 1] (ints (Y.map λs=>s.getD 1 0)):=a6P (c:=1) hys aA bO
 have s7:fE Tryz.prog 28 [ints [0],ints start] (ints (0::start)):=a6N [0] start dG aA
 have wH:fE Tryz.prog 28 [ints [1],ints (Y.map λs=>s.getD 1 0)] (ints (1::Y.map λs=>s.getD 1 0)):=a6N [1] (Y.map λs=>s.getD 1 0) dG (by rw[gT,hys.1];omega)
 intro _
 first|refine aH.mk (hwide) ?_|refine aF.mk (hwide) ?_|refine aH.bI (hwide) ?_|refine aF.mk (bC.dI (hwide)) ?_
 simp -dsimp -implicitDefEqProofs only[go_sem,↓reduceIte,Tryz.f5]
 refine⟨by decide,by decide,aH.mk (fE.sub (.cons (Sub.loose 1 [[I 0]] true) (.cons (.refl _) .nil)) s7) ?_⟩
 simp -dsimp -implicitDefEqProofs only[go_sem,↓reduceIte,Tryz.f5,aP]
 first|refine aH.mk (hR) ?_|refine aF.mk (hR) ?_|refine aH.bI (hR) ?_|refine aF.mk (bC.dI (hR)) ?_
 simp -dsimp -implicitDefEqProofs only[go_sem,↓reduceIte,Tryz.f5]
 rintro n13 ⟨d13,z13⟩
 obtain⟨bOW,uV,uW,bOX⟩:=cW (show ¬n13=n5 from d13)
 rw[aO]
 refine⟨by decide,by decide,?_⟩
 first|refine aH.mk (hcol) ?_|refine aF.mk (hcol) ?_|refine aH.bI (hcol) ?_|refine aF.mk (bC.dI (hcol)) ?_
 simp -dsimp -implicitDefEqProofs only[go_sem,↓reduceIte,Tryz.f5,uV,uW,aC,aP]
 refine aH.mk (fE.sub (.cons (Sub.loose 1 [[I 1]] true) (.cons (.refl _) .nil)) wH) ?_
 simp -dsimp -implicitDefEqProofs only[go_sem,↓reduceIte,Tryz.f5,uV,uW,aC,aP]
 have hbn:dW (1::Y.map λs=>s.getD 1 0):=λx hx=>by
  rcases mW.1 hx with rfl|hx
  ·exact⟨by decide,by decide⟩
  ·obtain⟨s,hs,rfl⟩:=lA.1 hx
   exact(hys.2 s hs).2.get 1
 have hbl:(1::Y.map λs=>s.getD 1 0).length=start.length+1:=by rw[tT,gT,hys.1]
 generalize (1::Y.map λs=>s.getD 1 0)=Z at *
 have bOY:∀ X Z,h'.le (aU (aU h' n5 X) n13 Z):=λX Z=>aB.bM z13 (bOV _)
 refine λ_=>?_
 refine cM bEG ib5 mk5 (λi:Nat=>[(12,ints (0::start)),(13,.op n13 4 0 0),(15,ints Z),(16,I start.length),(17,I i)]) (λ_=>aU (aU h' n5 (.row 1 [[.v (gF 3 aX.c p.aK)]])) n13 (.row 4 [[.v (I (start.length+1:Nat)),.v (gF 4 bH.c F.code),.v (gF 2 gA.c F.guards),.v (ints L)]])) (λi=>i<=start.length) (λi=>start.length-i) 0 ⟨by simp[cR,b6],aB.le_refl _,eF _⟩ ?_
 intro i hi
 rcases bT i start.length with hlt|hge
 ·have hTR:fE Tryz.prog 31 [.agg (iM.mk ((0::start).length:Nat) F.code F.guards L).c,ints (0::start),ints (eQ L.length i)] (.gU [ints ((uQ F.code L (iD 2 (dX (0::start) (0::start)) F.code F.code.length) 2 (start.length+1) i).map λs=>s.getD 0 0),I 0]) :=
   aSH ⟨(0::start).length,F.code,F.guards,L⟩ (inp:=(0::start).length) rfl T.ok T.ins (0::start) (eQ L.length i) ⟨rfl,na⟩ ⟨tR _ _,nS _ _⟩ T.one (λk c ec h6=>T.nz 2 _ bO ⟨⟨lI rfl,oC na na⟩,λk hk=>by rw[aA1 hk hk];rfl⟩ k c ec h6)
  rw[hL]at hTR
  have hS:=aAN (sz:=2) (inp:=start.length+1) (i:=i) bO T.ins (uR T.ins (X:=dX (0::start) (0::start)) ⟨lI rfl,oC na na⟩) T.outs
  have hd0:=hdot i hlt
  generalize uQ F.code L (iD 2 (dX (0::start) (0::start)) F.code F.code.length) 2 (start.length+1) i=Q at hTR hS hd0
  have hQl:(Q.map λs=>s.getD 0 0).length=start.length+1:=by rw[gT,hS.1]
  have hQn:dW (Q.map λs=>s.getD 0 0):=λx hx=>by
   obtain⟨s,hs,rfl⟩:=lA.1 hx
   exact(hS.2 s hs).2.get 0
  have hdt:=bOD hQn hbn (by rw[hbl,hQl]) (by rw[hQl];omega) (by
   rw[hQl]
   refine(Cg.of_eq (lO _ λk _=>?_)).trans hd0
   rw[bB2])
  rw[iM.aZ]at hTR
  have hun:=bH7 start.length i aA hlt
  simp -dsimp -implicitDefEqProofs only[go_sem,↓reduceIte,Tryz.f5,uV,uW,aC,aP,hlt]
  first|refine aH.mk (hun) ?_|refine aF.mk (hun) ?_|refine aH.bI (hun) ?_|refine aF.mk (bC.dI (hun)) ?_
  simp -dsimp -implicitDefEqProofs only[go_sem,↓reduceIte,Tryz.f5,uV,uW,aC,aP]
  first|refine aH.mk (hTR) ?_|refine aF.mk (hTR) ?_|refine aH.bI (hTR) ?_|refine aF.mk (bC.dI (hTR)) ?_
  simp -dsimp -implicitDefEqProofs only[go_sem,↓reduceIte,Tryz.f5,uV,uW,aC,aP]
  have hQ1:=hS.1
  refine λ_ _=>⟨λ_=>?_,λq=>absurd hQ1 q⟩
  first|refine aH.mk (hdt) ?_|refine aF.mk (hdt) ?_|refine aH.bI (hdt) ?_|refine aF.mk (bC.dI (hdt)) ?_
  simp -dsimp -implicitDefEqProofs only[go_sem,↓reduceIte,Tryz.f5,uV,uW,aC,aP]
  exact⟨i+1,IntWalk.i64_in _ aA,hlt,by omega⟩
 ·obtain rfl:i=start.length:=by omega
  simp -dsimp -implicitDefEqProofs only[go_sem,↓reduceIte,Tryz.f5,uV,uW,aC,aP,bU,cT]
  exact bOY _ _
end Go.Hl
