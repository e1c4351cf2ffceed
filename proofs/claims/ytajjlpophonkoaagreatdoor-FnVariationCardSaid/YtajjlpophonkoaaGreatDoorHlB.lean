/-
  Contracts of functions and laws of the layer over the walk.
-/
import Derived.Test.YtajjlpophonkoaaGreatDoorHlA
import Derived.Orders
namespace Go.Hl
set_option linter.unusedVariables false
set_option linter.unusedSimpArgs false
def aZK:List aH->Nat->List aH->List aH
 |es,_,[]=>es
 |es,off,v::vs=>aZK (es.set off v) (off+1) vs
theorem aEK:∀ (vs es:List aH) (off:Nat),(aZK es off vs).length=es.length
 | [],_,_=>rfl
 |v::vs,es,off=>by simp[aZK,aEK vs]
theorem aZL:∀ (vs es:List aH) (off k:Nat),off+vs.length<=es.length->(aZK es off vs)[k]?=if off<=k/\k<off+vs.length then vs[k-off]? else es[k]?
 | [],es,off,k,_=>by
  rw[if_neg]
  ·rfl
  ·simp only[al3];omega
 |v::vs,es,off,k,h=>by
  simp only[al2]at h
  rw[aZK,aZL vs _ _ _ s4]
  by_cases e:k=off
  ·subst e
   rw[if_neg aA,if_pos cT,aLH aA]
   try simp
  ·rw[aLI (l5 e)]
   by_cases h1:off+1<=k/\k<off+1+vs.length
   ·rw[if_pos h1,if_pos s4,show k-off=(k-(off+1))+1 by omega];simp
   ·rw[if_neg h1,if_neg s4]
def aPB (place:Nat->Option (Nat×Nat)) (es:List aH):List (Nat×aH)->List aH
 | []=>es
 |(i,v)::r=>match place i with
  |some (off,_)=>aPB place (aZK es off v.cells) r
  |none=>es
def aCC (place:Nat->Option (Nat×Nat)) (n:Nat):List (Nat×aH)->Bool
 | []=>true
 |(i,v)::r=>(match place i with
  |some (off,sz)=>decide (v.cells.length=sz) && decide (off+sz<=n)
  |none=>false) && v.cells.all aH.flat && aCC place n r
theorem b68 (a:Array Value):a.toList.length=a.size:=rfl
theorem aTQ {E:Env} {h:aE} {w:World} {ρ:Operand->aH} {place:Nat->Option (Nat×Nat)} {ρc:Operand->Value} (hρ:∀ x,gC E h w (ρ x) (ρc x)):∀ (ps:List (Nat×Operand)) (es:List aH) (cs:Array Value),aCC place es.length (ps.map λp=>(p.1,ρ p.2))=true ->
  fD E h w es cs.toList->∃ cs',Instr.fill place cs (ps.map λp=>(p.1,ρc p.2))=some cs'/\fD E h w (aPB place es (ps.map λp=>(p.1,ρ p.2))) cs'.toList
 | [],es,cs,_,hL=>⟨cs,rfl,hL⟩
 |(i,x)::ps,es,cs,hf,hL=>by
  simp only[nZ,aCC,oW]at hf
  obtain⟨⟨hp,hfl⟩,hf⟩:=hf
  cases hpl:place i with
  |none=>simp[hpl]at hp
  |some os =>
   obtain⟨off,sz⟩:=os
   simp only[hpl,oW,decide_eq_true_eq]at hp
   obtain⟨c6,hfit⟩:=hp
   obtain⟨hcL,hc1⟩:=(hρ x).aLR hfl
   have hvs:(ρc x).cells.size=sz:=by have:=hcL.length;simp at this;omega
   have hcsz:cs.size=es.length:=by have:=hL.length;simpa using this.symm
   have hget:=λk=>aDT (ρc x).cells off cs k aA
   have hsize:=aA5 (ρc x).cells off cs
   obtain⟨cs',r1,r2⟩:=aTQ hρ ps (aZK es off (ρ x).cells) ((ρc x).cells.zipIdx.foldl (λcs (cj:Value×Nat)=>cs.setIfInBounds (off+cj.2) cj.1) cs) (by rw[aEK];exact hf) (by
    refine fD.mk (by rw[aEK,b68,hsize,hcsz]) ?_
    intro k y v hy hv
    rw[aZL _ _ _ _ aA]at hy
    rw[aSD,hget k]at hv
    by_cases hr:off<=k/\k<off+(ρ x).cells.length
    ·rw[if_pos hr]at hy
     rw[if_pos aA]at hv
     exact hcL.get _ _ _ hy aB6
    ·rw[if_neg hr]at hy
     rw[if_neg aA]at hv
     exact hL.get _ _ _ hy aB6)
   refine⟨cs',?_,?_⟩
   ·simp only[nZ,Instr.fill,hpl,hvs]
    rw[if_neg s4]
    exact r1
   ·simpa only[nZ,aPB,hpl]using r2
def places (P:Program):TyD->Nat->Option (Nat×Nat)
 | .st fs,i=>(fs[i]?).map λf=>(f.1,f.2.2)
 | .arr _ e,i=>match jH P e with|some re=>some (i*re.sz,re.sz)|none=>none
 | _,_=>none
def aEL (P:Program):TyD->Bool
 | .st _=>true
 | .arr _ e=>(jH P e).isSome
 | _=>false
theorem bBA {P:Program} {o:Oper} {ρ:Operand->aH} {h:aE} {K:aH->aE->Prop} (t:TypeId) (ps:Array (Nat×Operand)) (r:nP) (ho:o.op=.build t ps) (ht:jH P t=some r) (hd:aEL P r.d=true) (hz:r.zero≠[])
  (hf:aCC (places P r.d) r.zero.length (ps.toList.map λp=>(p.1,ρ p.2))=true) (hk:K (.agg (aPB (places P r.d) r.zero (ps.toList.map λp=>(p.1,ρ p.2)))) h):rS P o ρ h K :=
 cP hk λE w ρc R hρ=>by
  obtain⟨u,hu,hud,hrun⟩:=cF (w:=w) ht
  obtain⟨z,hzr,hzz⟩:=tE (w:=w) ht hz
  have hL:fD E h w r.zero z.cells.toList:=by rw[←hzz];exact uD E h w _
  obtain⟨cs,h1,h2⟩:=aTQ hρ ps.toList r.zero z.cells hf hL
  refine⟨.agg cs,?_,by have:=gC.agg (E:=E) (h:=h) (w:=w) _ cs.toList h2.length h2.get;simpa using this⟩
  have hmap:(ps.map λ(i,x)=>(i,ρc x)).toList=ps.toList.map λp=>(p.1,ρc p.2):=by simp
  cases hdd:r.d with
  |st fs =>
   obtain⟨gs,rfl,hall,hgs⟩:=bD9 (hud.trans hdd)
   have hpl:∀ i:Nat,((gs.toList.map λf=>(f.offset,P.cellsOf f.type)).toArray)[i]?=places P r.d i:=by
    intro i
    rw[hdd]
    simp only[places,←hgs,a2K,nE,Option.map_map]
    rfl
   have hm:(gs.mapM λf=>(do pure (f.offset,←sizeOf f.type):Sem (Nat×Nat))).run P w=.ok (gs.toList.map λf=>(f.offset,P.cellsOf f.type)).toArray w:=by
    rw[←Array.toArray_toList (xs:=gs),List.mapM_toArray]
    have key:∀ l:List Field,l.all (λf=>(P.info? f.type).isSome)=true->(l.mapM λf=>(do pure (f.offset,←sizeOf f.type):Sem (Nat×Nat))).run P w=.ok (l.map λf=>(f.offset,P.cellsOf f.type)) w:=by
     intro l
     induction l with
     |nil=>intro _;simp
     |cons f l ih =>
      intro hl
      simp only[List.all_cons,oW]at hl
      simp only[List.mapM_cons,Sem.run_bind,aEE hl.1,Result.andThen_ok,Sem.run_pure,ih hl.2,nZ]
    have hk':=key _ hall
    simp only[bind_pure_comp]at hk' ⊢
    simp[hk']
   simp only[execOp,ho,Instr.build,Sem.run_bind,hzr,Result.andThen_ok,hrun,hm,hmap]
   have:(λx=>(gs.toList.map λf=>(f.offset,P.cellsOf f.type)).toArray[x]?)=places P r.d:=funext hpl
   rw[this,h1]
   simp
  |arr n e =>
   obtain rfl:=bKB (hud.trans hdd)
   rw[hdd]at hd
   obtain⟨re,hre⟩:=Option.isSome_iff_exists.1 hd
   have hsize:=jI (w:=w) hre
   simp only[execOp,ho,Instr.build,Sem.run_bind,hzr,Result.andThen_ok,hrun,hsize,hmap]
   have:(λi=>some (i*re.sz,re.sz))=places P r.d:=by funext i;rw[hdd];simp[places,hre]
   rw[this,h1]
   simp
  | _=>rw[hdd]at hd;simp[aEL]at hd
section
variable {P:Program} {o:Oper} {ρ:Operand->aH} {h:aE} {K:aH->aE->Prop}
theorem aSN (t et:TypeId) (x:Operand) (lo hi:Option Operand) (mx:Operand) (r re:nP) (sz:Nat) (es:List (List aH)) (tg:Bool) (l m M:Int) (ho:o.op=.slice t x lo hi (some mx)) (ht:jH P t=some r) (hd:r.d=.slice et)
  (he:jH P et=some re) (c6:re.sz=sz) (hx:ρ x=.sl sz es tg) (hhi:hi.isSome=true)
  (hl:lR 0 (lo.map ρ)=some l) (hh:lR es.length (hi.map ρ)=some m) (hM:lR 0 (some (ρ mx))=some M) (h0:0<=l) (h1:l<=m) (h2:m<=M) (h3:M<=es.length)
  (hk:K (.sl sz ((es.take m.toNat).drop l.toNat) (decide (M=m))) h):rS P o ρ h K :=
 cP hk λE w ρc R hρ=>by
  have hr:=hρ x
  rw[hx]at hr
  obtain⟨u,hu,hud,hrun⟩:=cF (w:=w) ht
  obtain rfl:=j0 (hud.trans hd)
  have hsize:=jI (w:=w) he
  have hml:maxLen=9223372036854775807:=rfl
  have key:∀ (a:Option Addr) (cap:Nat),ρc x=.slice a es.length cap->es.length<=cap ->
    (execOp ρc o).run P w=.ok (.value (.slice (if M.toNat=l.toNat then a else a.map (·.add (l.toNat*sz))) (m.toNat-l.toNat) (M.toNat-l.toNat))) w:=by
   intro a cap hv hc
   have hM':lR cap (some (ρ mx))=some M:=by
    generalize ρ mx=z at hM
    cases z <;> simp[lR]at hM ⊢
    exact hM
   have hb:=yC (P:=P) R hρ true es.length cap lo hi (some mx) l m M hl hh hM' (λ_=>hhi) h0 h1 h2 aA
   simp only[aNH]at hb
   simp[execOp,ho,Instr.sliceAt,Instr.slice,hrun,hv,hb,hsize,c6]
  have htk:∀ i j y,kA ((es.take m.toNat).drop l.toNat) i j=some y->kA es (l.toNat+i) j=some y:=by
   intro i j y hy
   obtain⟨e,h1,h2⟩:=lG hy
   rw[aYP]at h1
   have hlt:l.toNat+i<m.toNat:=by have:=(mS.1 h1).1;simp at this;omega
   rw[aOS hlt]at h1
   simp[kA,h1,h2]
  cases hv:ρc x <;> rw[hv]at hr <;> try(cases hr;done)
  cases hr with
  |sl0 _ _ _ _ htt hmax ha =>
   have hl0:l=0:=by simp at h3;omega
   have hm0:m=0:=by simp at h3;omega
   have hM0:M=0:=by simp at h3;omega
   subst hl0 hm0 hM0
   refine⟨_,key _ _ aB6 cT,?_⟩
   simp only[bC4,aSF,List.drop_nil,bC5,bC0,wI,al3]
   exact .sl0 sz _ _ _ (λ_=>rfl) aA trivial
  |sl _ _ _ b o' cap cv hI hcap hmax htt hs hc h1' hrr =>
   rename_i cap
   refine⟨_,key _ cap hv hcap,?_⟩
   have hlen:((es.take m.toNat).drop l.toNat).length=m.toNat-l.toNat:=by simp;omega
   by_cases hemp:m.toNat=l.toNat
   ·have e1:(es.take m.toNat).drop l.toNat=[]:=bC6 s4
    rw[e1,hemp,wI]
    refine .sl0 sz _ _ _ (λe=>?_) aA trivial
    simp at e;omega
   ·have hne:¬M.toNat=l.toNat:=by omega
    rw[if_neg hne,←hlen]
    simp only[aNH,oB]
    refine .sl sz _ _ b (o'+l.toNat*sz) (M.toNat-l.toNat) (λi j=>cv (l.toNat+i) j) hI aA aA (λe=>?_) ?_ ?_ ?_ ?_
    ·simp at e;omega
    ·intro e he
     exact hs e (bAZ (bC7 he))
    ·intro i j y hy
     rw[←hc _ _ _ (htk i j y hy)];congr 2;rw[wH];omega
    ·intro i j y hy;exact h1' _ _ _ (htk i j y hy)
    ·intro i j y hy;exact hrr _ _ _ (htk i j y hy)
theorem aJJ (t et:TypeId) (x:Operand) (lo hi:Option Operand) (r re:nP) (n sz i len:Nat) (l m:Int) (ho:o.op=.slice t x lo hi none) (ht:jH P t=some r) (hd:r.d=.slice et)
  (he:jH P et=some re) (c6:re.sz=sz) (hx:ρ x=.os n sz i len)
  (hl:lR 0 (lo.map ρ)=some l) (hh:lR len (hi.map ρ)=some m) (h0:0<=l) (h1:l<m) (h2:m<=len)
  (hk:K (.os n sz (i+l.toNat) (m.toNat-l.toNat)) h):rS P o ρ h K :=
 cP hk λE w ρc R hρ=>by
  have hr:=hρ x
  rw[hx]at hr
  obtain⟨u,hu,hud,hrun⟩:=cF (w:=w) ht
  obtain rfl:=j0 (hud.trans hd)
  have hsize:=jI (w:=w) he
  have hml:maxLen=9223372036854775807:=rfl
  have key:∀ (a:Option Addr) (cap:Nat),ρc x=.slice a len cap->len<=cap ->
    (execOp ρc o).run P w=.ok (.value (.slice (if cap=l.toNat then a else a.map (·.add (l.toNat*sz))) (m.toNat-l.toNat) (cap-l.toNat))) w:=by
   intro a cap hv hc
   have hb:=yC (P:=P) R hρ true len cap lo hi none l m cap hl hh rfl cT h0 aA aA aA
   simp only[bC3]at hb
   have e:((cap:Int)).toNat=cap:=by omega
   simp[execOp,ho,Instr.sliceAt,Instr.slice,hrun,hv,hb,hsize,c6,e]
  cases hv:ρc x <;> rw[hv]at hr <;> try(cases hr;done)
  cases hr with
  |os0 _ _ hd' hl'=>simp at h2;omega
  |os _ _ _ _ b o' cap t' mm hd' hl' hlc hmax hsh hm =>
   refine⟨_,key _ _ hv hlc,?_⟩
   rename_i cap
   rw[if_neg aA]
   simp only[aNH,oB]
   have e:o'+i*sz+l.toNat*sz=o'+(i+l.toNat)*sz:=by rw[wH];omega
   rw[e]
   refine .os n sz (i+l.toNat) (m.toNat-l.toNat) b o' (cap-l.toNat) t' mm hd' hl' aA aA hsh ?_
   rw[show i+l.toNat+(cap-l.toNat)=i+cap by omega]
   exact hm
theorem aSO (t et:TypeId) (x:Operand) (lo hi:Option Operand) (r re:nP) (n sz i len:Nat) (l m:Int) (ho:o.op=.slice t x lo hi none) (ht:jH P t=some r) (hd:r.d=.slice et)
  (he:jH P et=some re) (c6:re.sz=sz) (hx:ρ x=.os n sz i len)
  (hl:lR 0 (lo.map ρ)=some l) (hh:lR len (hi.map ρ)=some m) (h0:0<=l) (h1:l=m) (bKH:m=len)
  (hk:K (.os n sz (i+len) 0) h) (hk2:K (.sl sz [] true) h):rS P o ρ h K :=
 by
  intro E w ρc R hρ
  have hr:=hρ x
  rw[hx]at hr
  obtain⟨u,hu,hud,hrun⟩:=cF (w:=w) ht
  obtain rfl:=j0 (hud.trans hd)
  have hsize:=jI (w:=w) he
  have hml:maxLen=9223372036854775807:=rfl
  have key:∀ (a:Option Addr) (cap:Nat),ρc x=.slice a len cap->len<=cap ->
    (execOp ρc o).run P w=.ok (.value (.slice (if cap=l.toNat then a else a.map (·.add (l.toNat*sz))) (m.toNat-l.toNat) (cap-l.toNat))) w:=by
   intro a cap hv hc
   have hb:=yC (P:=P) R hρ true len cap lo hi none l m cap hl hh rfl cT h0 aA aA aA
   simp only[bC3]at hb
   have e:((cap:Int)).toNat=cap:=by omega
   simp[execOp,ho,Instr.sliceAt,Instr.slice,hrun,hv,hb,hsize,c6,e]
  cases hv:ρc x <;> rw[hv]at hr <;> try(cases hr;done)
  have e0:m.toNat-l.toNat=0:=by omega
  cases hr with
  |os0 _ _ hd' hl' =>
   have hk':=key _ _ hv (iH _)
   refine .lH hk' (.same hk2 R ?_)
   rw[e0]
   have e1:l.toNat=0:=by have h2:=bKH;simp at h2;omega
   rw[e1]
   exact .sl0 sz true _ _ (λ_=>rfl) (by simp[maxLen]) trivial
  |os _ _ _ _ b o' cap t' mm hd' hl' hlc hmax hsh hm =>
   have hk':=key _ _ hv hlc
   rename_i cap
   by_cases hcl:cap=l.toNat
   ·refine .lH hk' (.same hk2 R ?_)
    rw[e0,if_pos hcl]
    exact .sl0 sz true _ _ (λ_=>by omega) aA trivial
   ·refine .lH hk' (.same hk R ?_)
    rw[e0,if_neg hcl]
    simp only[aNH,oB]
    have hlm:m=len:=bKH
    have e:o'+i*sz+l.toNat*sz=o'+(i+len)*sz:=by
     have:l.toNat=len:=by omega
     rw[this,wH];omega
    rw[e]
    refine .os n sz (i+len) 0 b o' (cap-l.toNat) t' mm hd' hl' aA aA hsh ?_
    rw[show i+len+(cap-l.toNat)=i+cap by omega]
    exact hm
def bytesOf:List (List aH)->Option (List UInt8)
 | []=>some []
 | [.int .u8 n]::r=>(bytesOf r).map (UInt8.ofNat n.toNat::·)
 | _=>none
theorem aJK:∀ {es:List (List aH)} {s:List UInt8},bytesOf es=some s->∃ ns:List Int,es=ns.map (λn=>[.int .u8 n])/\s=ns.map λn=>UInt8.ofNat n.toNat
 | [],s,h=>by simp[bytesOf]at h;subst h;exact⟨[],rfl,rfl⟩
 |e::r,s,h=>by
  unfold bytesOf at h
  split at h
  ·simp_all
  ·rename_i n r' heq
   obtain⟨rfl,rfl⟩:=List.cons.inj heq
   obtain⟨s',hs,rfl⟩:=u5.1 h
   obtain⟨ns,rfl,rfl⟩:=aJK hs
   exact⟨n::ns,rfl,rfl⟩
  ·simp at h
theorem foldl_push:∀ (ns:List Int) (r:ByteArray),ns.foldl (λr n=>r.push (UInt8.ofNat n.toNat)) r=⟨(r.data.toList++ns.map λn=>UInt8.ofNat n.toNat).toArray⟩
 | [],r=>by simp
 |n::ns,r=>by
  rw[List.foldl_cons,foldl_push ns]
  simp[ByteArray.push,aD6]
theorem aPC (s d et:TypeId) (x:Operand) (rs rd re:nP) (es:List (List aH)) (tg:Bool) (bs:List UInt8) (ho:o.op=.convert s d x) (hs:jH P s=some rs) (hss:rs.d=.slice et) (het:jH P et=some re) (hee:re.d=.int .u8)
  (hd:jH P d=some rd) (hdd:rd.d=.str) (hx:ρ x=.sl 1 es tg) (hb:bytesOf es=some bs) (hk:K (.str bs) h):rS P o ρ h K :=
 cP hk λE w ρc R hρ=>by
  have hr:=hρ x
  rw[hx]at hr
  obtain⟨u,hu,hud,hrun⟩:=cF (w:=w) hs
  obtain rfl:=j0 (hud.trans hss)
  obtain⟨u',hu',hud',hrun'⟩:=cF (w:=w) hd
  obtain rfl:=aJB (hud'.trans hdd)
  obtain⟨ue,hue,hude,hrune⟩:=cF (w:=w) het
  obtain rfl:=a68 (hude.trans hee)
  obtain⟨ns,rfl,rfl⟩:=aJK hb
  generalize hes:(ns.map λn=>[aH.int .u8 n])=es at hr
  cases hv:ρc x <;> rw[hv]at hr <;> try(cases hr;done)
  cases hr with
  |sl0 _ _ a cap htt hmax ha =>
   have hns:ns=[]:=by simpa using hes
   subst hns
   rename_i a cap
   refine⟨.string ⟨#[]⟩,?_,.str [] cT⟩
   cases a with
   |none=>simp[execOp,ho,convert,hv,hrun,hrun',hrune,Conv.bytesToString];rfl
   |some a =>
    have:=run_bytesToString (P:=P) w a 0 cap [] (by simp[loadCells,loadCellsFrom])
    simp[execOp,ho,convert,hv,hrun,hrun',hrune,this];rfl
  |sl _ _ _ b o' cap cv hI hcap hmax htt hs' hc h1' hrr =>
   rename_i cap
   subst hes
   have hns:(ns.map λn=>UInt8.ofNat n.toNat).length<=maxLen:=by simp at hcap ⊢;omega
   refine⟨.string ⟨(ns.map λn=>UInt8.ofNat n.toNat).toArray⟩,?_,.str _ hns⟩
   have hl:(loadCells ⟨b,o',none⟩ ns.length).run P w=.ok (ns.map (Value.int .u8)).toArray w:=by
    have:=run_loadCells_list (P:=P) (w:=w) ⟨b,o',none⟩ (ns.map (Value.int .u8)) (λj v hj=>by
     rw[nE]at hj
     obtain⟨n,hn,rfl⟩:=u5.1 hj
     have hat:kA (ns.map λn=>[aH.int .u8 n]) j 0=some (.int .u8 n):=by simp[kA,hn]
     have h1:=hc j 0 _ hat
     have h2:=l9 (hrr j 0 _ hat)
     rw[oB,←h2,←h1]
     simp)
    simpa using this
   have:=run_bytesToString (P:=P) w ⟨b,o',none⟩ ns.length cap ns hl
   simp only[nG]at hv
   simp[execOp,ho,convert,hv,hrun,hrun',hrune,this]
   rw[foldl_push];simp
theorem aZM (t ty:TypeId) (x y:Operand) (a b:List UInt8) (ho:o.op=.binOp .add t x y ty) (hx:ρ x=.str a) (hy:ρ y=.str b) (hl:a.length+b.length<=9223372036854775807) (hk:K (.str (a++b)) h):rS P o ρ h K :=
 cP hk λE w ρc R hρ=>by
  obtain⟨e1,h1⟩:=zJ (hx▸hρ x)
  obtain⟨e2,h2⟩:=zJ (hy▸hρ y)
  have hg:(eqGuard .add t x y (ρc x) (ρc y)).run P w=.ok () w:=by rw[e1,e2];simp[eqGuard]
  refine⟨.string ⟨(a++b).toArray⟩,?_,.str _ (by simp[maxLen]at *;omega)⟩
  simp only[execOp,ho,Sem.run_bind,hg,Result.andThen_ok,e1,e2,binOp,Op.stringOp]
  have hs:¬((((⟨a.toArray⟩:ByteArray).size+(⟨b.toArray⟩:ByteArray).size:Nat):Int) > IntKind.i64.max):=by
   have:IntKind.i64.max=9223372036854775807:=by decide
   rw[this];simp[ByteArray.size];omega
  rw[if_neg hs]
  simp only[Sem.run_pure]
  congr 3
def a2T (op:BinOp) (a b:List UInt8):Option Bool :=
 match op with
 | .lss=>some (Op.bytesLess a b)
 | .leq=>some (Op.bytesLess a b || a == b)
 | .gtr=>some (!(Op.bytesLess a b || a == b))
 | .geq=>some (!(Op.bytesLess a b))
 | _=>none
theorem aZN (op:BinOp) (t ty:TypeId) (x y:Operand) (a b:List UInt8) (c:Bool) (ho:o.op=.binOp op t x y ty) (hx:ρ x=.str a) (hy:ρ y=.str b) (hc:a2T op a b=some c) (hk:K (.bool c) h):rS P o ρ h K :=
 cP hk λE w ρc R hρ=>by
  obtain⟨e1,h1⟩:=zJ (hx▸hρ x)
  obtain⟨e2,h2⟩:=zJ (hy▸hρ y)
  refine⟨.bool c,?_,.bool c⟩
  have q1:(⟨a.toArray⟩:ByteArray).toList=a:=by rw[ByteArray.toList_eq]
  have q2:(⟨b.toArray⟩:ByteArray).toList=b:=by rw[ByteArray.toList_eq]
  have hg:(eqGuard op t x y (ρc x) (ρc y)).run P w=.ok () w:=by
   rw[e1,e2];cases op <;> simp[eqGuard]
  rw[e1,e2]at hg
  cases op <;> simp only[a2T,bAY,reduceCtorEq]at hc <;> subst hc <;>
   simp only[execOp,ho,Sem.run_bind,hg,Result.andThen_ok,e1,e2,binOp,Op.stringOp,q1,q2,Sem.run_pure]
theorem aCD (op:BinOp) (t ty:TypeId) (x y:Operand) (r:nP) (et:TypeId) (Z Z2:Prop) (ho:o.op=.binOp op t x y ty) (ht:jH P t=some r) (hd:r.d=.slice et)
  (hx:∀ E w v,gC E h w (ρ x) v->∃ a n c,v=.slice a n c/\(a=none->Z)/\(¬a=none->Z2)) (hy:ρ y=.bD)
  (hop:op=.eql∨op=.neq) (h1:Z->K (.bool (op == .eql)) h) (h2:Z2->K (.bool (op != .eql)) h):rS P o ρ h K:=by
 intro E w ρc R hρ
 have hyv:ρc y=.slice none 0 0:=by have:=hy▸hρ y;generalize ρc y=v at this;cases this;rfl
 obtain⟨u,hu,hud,hrun⟩:=cF (w:=w) ht
 obtain rfl:=j0 (hud.trans hd)
 have hg:(eqGuard op t x y (ρc x) (ρc y)).run P w=.ok () w:=by
  rw[hyv];rcases hop with rfl|rfl <;> cases ρc x <;> simp[eqGuard]
 have bEC:∀ (d:Nat) (a:Option Addr) (n c:Nat),(Op.equalIn (d+1) t (.slice a n c) (.slice none 0 0)).run P w=.ok a.isNone w:=by
  intro d a n c
  cases a <;> simp[Op.equalIn,hrun]
 have key:∀ (a:Option Addr) (n c:Nat),(Op.equal t (.slice a n c) (.slice none 0 0)).run P w=.ok a.isNone w:=λa n c=>bEC 9999 a n c
 have fin:∀ (a:Option Addr) (n c:Nat),ρc x=.slice a n c->K (.bool (if op=.eql then a.isNone else !a.isNone)) h->∃ v,(execOp ρc o).run P w=.ok (.value v) w/\gC E h w (.bool (if op=.eql then a.isNone else !a.isNone)) v:=by
  intro a n c e hk
  rw[e,hyv]at hg
  refine⟨.bool (if op=.eql then a.isNone else !a.isNone),?_,.bool _⟩
  rcases hop with rfl|rfl
  ·simp only[execOp,ho,Sem.run_bind,e,hyv,hg,Result.andThen_ok,binOp,key,Sem.run_pure];simp
  ·simp only[execOp,ho,Sem.run_bind,e,hyv,hg,Result.andThen_ok,binOp,key,Sem.run_pure];simp
 obtain⟨a,n,c,hv,hz,hz2⟩:=hx E w _ (hρ x)
 have h1':Z->K (.bool (if op=.eql then true else false)) h:=λq=>by have:=h1 q;rcases hop with rfl|rfl <;> exact this
 have h2':Z2->K (.bool (if op=.eql then false else true)) h:=λq=>by have:=h2 q;rcases hop with rfl|rfl <;> exact this
 cases a with
 |none =>
  have he:=hz rfl
  obtain⟨v,hv1,hv2⟩:=fin none n c hv (by simpa using h1' he)
  exact .lH hv1 (.same (by simpa using h1' he) R (by simpa using hv2))
 |some a =>
  have he:=hz2 cT
  obtain⟨v,hv1,hv2⟩:=fin (some a) n c hv (by simpa using h2' he)
  exact .lH hv1 (.same (by simpa using h2' he) R (by simpa using hv2))
theorem aMY (op:BinOp) (t ty:TypeId) (x y:Operand) (r:nP) (et:TypeId) (sz:Nat) (es:List (List aH)) (tt:Bool) (ho:o.op=.binOp op t x y ty) (ht:jH P t=some r) (hd:r.d=.slice et) (hx:ρ x=.sl sz es tt) (hy:ρ y=.bD)
  (hop:op=.eql∨op=.neq) (h1:es=[]->K (.bool (op == .eql)) h) (h2:K (.bool (op != .eql)) h):rS P o ρ h K :=
 aCD op t ty x y r et (es=[]) True ho ht hd (λE w v hr=>by
  rw[hx]at hr
  cases v <;> try(cases hr;done)
  exact⟨_,_,_,rfl,λq=>by subst q;cases hr <;> rfl,λ_=>trivial⟩) hy hop h1 λ_=>h2
theorem aJL (op:BinOp) (t ty:TypeId) (x y:Operand) (r:nP) (et:TypeId) (m sz i len:Nat) (ho:o.op=.binOp op t x y ty) (ht:jH P t=some r) (hd:r.d=.slice et) (hx:ρ x=.os m sz i len) (hy:ρ y=.bD)
  (hop:op=.eql∨op=.neq) (h1:len=0->K (.bool (op == .eql)) h) (h2:K (.bool (op != .eql)) h):rS P o ρ h K :=
 aCD op t ty x y r et (len=0) True ho ht hd (λE w v hr=>by
  rw[hx]at hr
  cases v <;> try(cases hr;done)
  exact⟨_,_,_,rfl,λq=>by subst q;cases hr;rfl,λ_=>trivial⟩) hy hop h1 λ_=>h2
theorem aJM (op:BinOp) (t ty:TypeId) (x y:Operand) (r:nP) (et:TypeId) (ho:o.op=.binOp op t x y ty) (ht:jH P t=some r) (hd:r.d=.slice et) (hx:ρ x=.bD) (hy:ρ y=.bD)
  (hop:op=.eql∨op=.neq) (h1:K (.bool (op == .eql)) h):rS P o ρ h K :=
 aCD op t ty x y r et True False ho ht hd (λE w v hr=>by
  rw[hx]at hr
  cases v <;> try(cases hr;done)
  exact⟨_,_,_,rfl,λ_=>trivial,λq=>by cases hr;exact q rfl⟩) hy hop (λ_=>h1) λq=>q.elim
def aMZ (P:Program) (t:TypeId):Bool:=match P.underlying t with|some (.interface _)=>true|_=>false
def xF:Operand->Bool | .const _=>true|_=>false
theorem zO (op:BinOp) (t ty:TypeId) (x y:Operand) (b:Bool) (ho:o.op=.binOp op t x y ty) (hi:aMZ P t=true) (hc:xF y=true) (hx:(ρ x=.nK/\b=true)∨(∃ ti xi,ρ x=.iface ti xi)/\b=false) (hy:ρ y=.nK)
  (hop:op=.eql∨op=.neq) (h1:K (.bool (if op=.eql then b else !b)) h):rS P o ρ h K:=by
 intro E w ρc R hρ
 have hyv:ρc y=.nilIface:=by have:=hy▸hρ y;generalize ρc y=v at this;cases this;rfl
 obtain⟨ms,hu⟩:∃ ms,P.underlying t=some (.interface ms):=by
  unfold aMZ at hi
  split at hi
  ·exact⟨_,by assumption⟩
  ·cases hi
 have hrun:(underlying t).run P w=.ok (.interface ms) w:=by simp[underlying,hu]
 have hyc:∃ v,y=.const v:=by cases y <;> first|exact⟨_,rfl⟩|(simp[xF]at hc)
 obtain⟨yv,rfl⟩:=hyc
 refine .lH (v:=.bool (if op=.eql then b else !b)) ?_ (.same h1 R (.bool _))
 rcases hx with⟨hx,rfl⟩|⟨⟨ti,xi,hx⟩,rfl⟩
 ·have hxv:ρc x=.nilIface:=by have:=hx▸hρ x;generalize ρc x=v at this;cases this;rfl
  have hg:(eqGuard op t x (.const yv) (ρc x) (ρc (.const yv))).run P w=.ok () w:=by
   rw[hxv,hyv];rcases hop with rfl|rfl <;> simp[eqGuard]
  have bEC:∀ d:Nat,(Op.equalIn (d+1) t .nilIface .nilIface).run P w=.ok true w:=by
   intro d
   simp[Op.equalIn,hrun]
  have key:(Op.equal t .nilIface .nilIface).run P w=.ok true w:=bEC 9999
  rw[hxv,hyv]at hg
  rcases hop with rfl|rfl
  ·simp only[execOp,ho,Sem.run_bind,hxv,hyv,hg,Result.andThen_ok,binOp,key,Sem.run_pure];simp
  ·simp only[execOp,ho,Sem.run_bind,hxv,hyv,hg,Result.andThen_ok,binOp,key,Sem.run_pure];simp
 ·obtain⟨xv,hxv⟩:∃ xv,ρc x=.iface ti xv:=by have:=hx▸hρ x;generalize ρc x=v at this;cases this;exact⟨_,rfl⟩
  have hg:(eqGuard op t x (.const yv) (ρc x) (ρc (.const yv))).run P w=.ok () w:=by
   rw[hxv,hyv];rcases hop with rfl|rfl <;> simp[eqGuard]
  have bEC:∀ d:Nat,(Op.equalIn (d+1) t (.iface ti xv) .nilIface).run P w=.ok false w:=by
   intro d
   simp[Op.equalIn,hrun]
  have key:(Op.equal t (.iface ti xv) .nilIface).run P w=.ok false w:=bEC 9999
  rw[hxv,hyv]at hg
  rcases hop with rfl|rfl
  ·simp only[execOp,ho,Sem.run_bind,hxv,hyv,hg,Result.andThen_ok,binOp,key,Sem.run_pure];simp
  ·simp only[execOp,ho,Sem.run_bind,hxv,hyv,hg,Result.andThen_ok,binOp,key,Sem.run_pure];simp
end
variable {ds:List Deferred}
def kC (P:Program) (f:FuncId):Bool :=
 match P.funcs[f]? with
 |some fn=>fn.body.isSome && !(fn.name == "runtime.NumGoroutine")
 |none=>false
def jC (P:Program) (f:FuncId) (args:List aH) (h:aE) (K:aH->aE->Prop):Prop:=kC P f=true/\aVH P f args h K
theorem jC.mono {P:Program} {f:FuncId} {args:List aH} {h:aE} {K K':aH->aE->Prop} (a:jC P f args h K) (hk:∀ r h',K r h'->K' r h'):jC P f args h K':=⟨a.1,a.2.mono hk⟩
def fM (P:Program) (f:FuncId) (args:List aH) (r:aH):Prop:=∀ h,jC P f args h λr' h'=>r'=r/\h'=h
theorem fM.call {P:Program} {f:FuncId} {args:List aH} {r:aH} (a:fM P f args r) {h:aE} {K:aH->aE->Prop} (hk:K r h):jC P f args h K :=
 (a h).mono λ_ _ ⟨e,e'⟩=>e▸e'▸hk
section
variable {P:Program} {o:Oper} {ρ:Operand->aH} {h:aE} {K:aH->aE->Prop}
theorem bED (f:Operand) (as:Array Operand) (ats:Array TypeId) (g:FuncId) (first cap:List aH) (ho:o.op=.call { callee:=.value f,args:=as,argTypes:=ats }) (hf:ρ f=.fn (.func g) first cap)
  (hk:jC P g (first++as.toList.map ρ++cap) h K):rS P o ρ h K:=by
 intro E w ρc R hρ
 have hr:=hρ f
 rw[hf]at hr
 obtain⟨hc,hk⟩:=hk
 cases hv:ρc f <;> rw[hv]at hr <;> try(cases hr;done)
 cases hr with
 |fn _ _ _ vs us hl hrr hl' hrr' =>
  have hL:=(fD.append (fD.append (fD.mk hl hrr) (aJE hρ as.toList)) (fD.mk hl' hrr'))
  unfold kC at hc
  cases hfn:P.funcs[g]? with
  |none=>simp[hfn]at hc
  |some fn =>
   simp only[hfn,oW,bA2,beq_eq_false_iff_ne,ne_eq]at hc
   have hb:fn.body.isNone=false:=by cases hb:fn.body <;> simp_all
   have hrun:(execOp ρc o).run P w=.ok (.enter g (vs++as.toList.map ρc++us).toArray) w:=by
    have hb':¬fn.body=none:=by intro e;simp[e]at hb
    simp[execOp,ho,resolve,hv,Deferred.ofValue,invoke,callFunc,hfn,hc.2]
    rw[if_neg hb']
    congr 2
    apply Array.ext'
    simp
   unfold aA3
   rw[hrun]
   exact Calls.mono (hk E w _ R hL) λe w' he=>by cases e <;> exact he
end
abbrev bJ:=List (Nat×aH)
def b7:bJ->Nat->aH
 | [],_=>.any
 |(j,v)::r,k=>if j=k then v else b7 r k
def zE (τ:bJ):Operand->aH
 | .tmp t=>b7 τ t
 | .const v=>.ofValue v
 | .global _=>.any
 | .func f=>.fn (.func f) [] []
def iT (τ:bJ) (d:Option Tmp) (v:aH):bJ :=
 match d with
 |some d=>(d,v)::τ
 |none=>τ
def prune (keep:List Nat) (τ:bJ):bJ:=keep.map λk=>(k,b7 τ k)
structure aAN (ds:List Deferred) (E:Env) (h:aE) (w:World) (N:Nat) (τ:bJ) (a:Act):Prop where
 size:a.tmps.size=N
 defers:a.defers=ds
 get:∀ k,gC E h w (b7 τ k) (a.tmps.getD k undef)
theorem aAN.zE {E:Env} {h:aE} {w:World} {N:Nat} {τ:bJ} {a:Act} (r:aAN ds E h w N τ a) (x:Operand):gC E h w (zE τ x) (a.eval x):=by
 cases x with
 |tmp t=>exact r.get t
 |const v=>exact .ofValue _ _ _ _
 |global g=>exact .any _
 |func f =>
  have:=gC.fn (E:=E) (h:=h) (w:=w) (.func f) [] [] [] [] rfl cT rfl cT
  exact this
theorem aAN.put {E:Env} {h:aE} {w:World} {N:Nat} {τ:bJ} {a:Act} (r:aAN ds E h w N τ a) (d:Option Tmp) (hd:∀ k,d=some k->k<N) {x:aH} {v:Value} (hx:gC E h w x v) :
  aAN ds E h w N (iT τ d x) (a.put d v):=by
 cases d with
 |none=>exact r
 |some d =>
  have hlt:d<a.tmps.size:=by rw[r.size];exact hd d rfl
  refine⟨by simpa[Act.put]using r.size,r.defers,λk=>?_⟩
  simp only[iT,b7,Act.put]
  by_cases e:d=k
  ·subst e
   simp[hlt];exact hx
  ·rw[if_neg e]
   have:=r.get k
   simpa[a2J e]using this
theorem aAN.ev {E E':Env} {h h':aE} {w w':World} {N:Nat} {τ:bJ} {a:Act} (r:aAN ds E h w N τ a) (ev:Ev E h w E' h' w'):aAN ds E' h' w' N τ a :=
 ⟨r.size,r.defers,λk=>(r.get k).ev ev⟩
theorem a2U (keep:List Nat) (τ:bJ) (k:Nat):b7 (prune keep τ) k=.any∨b7 (prune keep τ) k=b7 τ k:=by
 induction keep with
 |nil=>exact .inl rfl
 |cons j keep ih =>
  simp only[prune,nZ,b7]
  by_cases e:j=k
  ·subst e;simp
  ·rw[if_neg e];exact ih
theorem aAN.prune {E:Env} {h:aE} {w:World} {N:Nat} {τ:bJ} {a:Act} (keep:List Nat) (r:aAN ds E h w N τ a):aAN ds E h w N (prune keep τ) a :=
 ⟨r.size,r.defers,λk=>by
  rcases a2U keep τ k with e|e
  ·rw[e];exact .any _
  ·rw[e];exact r.get k⟩
def wL (ds:List Deferred) (N:Nat) (Q:Exit->bJ->aE->Prop) (E:Env) (h:aE) (w:World) (e:Exit) (a':Act) (w':World):Prop :=
 ∃ τ' h' E',Q e τ' h'/\Ev E h w E' h' w'/\Rel E' h' w'/\aAN ds E' h' w' N τ' a'
def tH (P:Program) (N:Nat) (c:Code) (Q:Exit->bJ->aE->Prop) (τ:bJ) (h:aE):Prop :=
 ∀ (ds:List Deferred) E w a,Rel E h w->aAN ds E h w N τ a->Code.wp P c (wL ds N Q E h w) a w
theorem wL.trans {N:Nat} {Q:Exit->bJ->aE->Prop} {E E':Env} {h h':aE} {w w':World} {e:Exit} {a:Act} {w'':World} (ev:Ev E h w E' h' w') (x:wL ds N Q E' h' w' e a w''):wL ds N Q E h w e a w'' :=
 let ⟨τ,g,F,q,ev',R,r⟩:=x;⟨τ,g,F,q,ev.trans ev',R,r⟩
theorem tH.mono {P:Program} {N:Nat} {c:Code} {Q Q':Exit->bJ->aE->Prop} {τ:bJ} {h:aE} (hq:∀ e τ h,Q e τ h->Q' e τ h) (x:tH P N c Q τ h):tH P N c Q' τ h :=
 λds E w a R r=>Code.wp_mono (λe a' w' ⟨τ',h',E',q,rest⟩=>⟨τ',h',E',hq _ _ _ q,rest⟩) (x ds E w a R r)
theorem tH.prune {P:Program} {N:Nat} {c:Code} {Q:Exit->bJ->aE->Prop} {τ:bJ} {h:aE} (keep:List Nat) (x:tH P N c Q (prune keep τ) h):tH P N c Q τ h :=
 λds E w a R r=>x ds E w a R (r.prune keep)
theorem tH.forget {P:Program} {N:Nat} {c:Code} {Q:Exit->bJ->aE->Prop} {τ:bJ} {h g:aE} (hl:g.le h) (x:tH P N c Q τ g):tH P N c Q τ h :=
 λds E w a R r=>Code.wp_mono (λe a' w' y=>wL.trans ((Ev.refl E h w).forget hl) y) (x ds E w a (R.forget hl) (r.ev ((Ev.refl E h w).forget hl)))
theorem tH.skip {P:Program} {N:Nat} {Q:Exit->bJ->aE->Prop} {τ:bJ} {h:aE} (hq:Q .normal τ h):tH P N .skip Q τ h :=
 λds E w a R r=>wp_skip ⟨τ,h,E,hq,.refl _ _ _,R,r⟩
theorem tH.exit {P:Program} {N id:Nat} {Q:Exit->bJ->aE->Prop} {τ:bJ} {h:aE} (hq:Q (.exit id) τ h):tH P N (.exit id) Q τ h :=
 λds E w a R r=>wp_exit ⟨τ,h,E,hq,.refl _ _ _,R,r⟩
theorem tH.ret {P:Program} {N:Nat} {Q:Exit->bJ->aE->Prop} {τ:bJ} {h:aE} (hq:Q .ret τ h):tH P N .ret Q τ h :=
 λds E w a R r=>wp_ret ⟨τ,h,E,hq,.refl _ _ _,R,r⟩
def aA7 (next:bJ->aE->Prop) (Q:Exit->bJ->aE->Prop):Exit->bJ->aE->Prop
 | .normal,τ,h=>next τ h
 | .outgrown,_,_=>False
 |e,τ,h=>Q e τ h
theorem tH.seq {P:Program} {N:Nat} {x y:Code} {Q:Exit->bJ->aE->Prop} {τ:bJ} {h:aE} (hx:tH P N x (aA7 (tH P N y Q) Q) τ h):tH P N (.seq x y) Q τ h:=by
 intro ds E w a R r
 refine wp_seq (Code.wp_mono ?_ (hx ds E w a R r))
 rintro e a' w' ⟨τ',h',E',q,ev,R',r'⟩
 cases e <;> simp only[aA7]at q
 ·simp only[Exit.then]
  exact Code.wp_mono (λe a w y=>wL.trans ev y) (q ds E' w' a' R' r')
 all_goals first|exact q.elim|exact⟨τ',h',E',q,ev,R',r'⟩
theorem tH.cond {P:Program} {N:Nat} {c:Operand} {x y:Code} {Q:Exit->bJ->aE->Prop} {τ:bJ} {h:aE} {b:Bool} (hc:zE τ c=.bool b)
  (ht:b=true->tH P N x Q τ h) (hf:b=false->tH P N y Q τ h):tH P N (.cond c x y) Q τ h:=by
 intro ds E w a R r
 have:=r.zE c
 rw[hc]at this
 exact wp_cond_split (aA4 this) (λe=>ht e ds E w a R r) (λe=>hf e ds E w a R r)
def aVN (id:Nat) (Q:Exit->bJ->aE->Prop):Exit->bJ->aE->Prop
 | .exit id',τ,h=>if id'=id then Q .normal τ h else Q (.exit id') τ h
 | .outgrown,_,_=>False
 |e,τ,h=>Q e τ h
theorem tH.block {P:Program} {N id:Nat} {c:Code} {Q:Exit->bJ->aE->Prop} {τ:bJ} {h:aE} (hx:tH P N c (aVN id Q) τ h):tH P N (.block id c) Q τ h:=by
 intro ds E w a R r
 refine wp_block (Code.wp_mono ?_ (hx ds E w a R r))
 rintro e a' w' ⟨τ',h',E',q,ev,R',r'⟩
 cases e <;> simp only[aVN]at q <;> simp only[Exit.inBlock]
 case exit id' =>
  split
  ·rename_i e;rw[if_pos e]at q;exact⟨τ',h',E',q,ev,R',r'⟩
  ·rename_i e;rw[if_neg e]at q;exact⟨τ',h',E',q,ev,R',r'⟩
 all_goals first|exact q.elim|exact⟨τ',h',E',q,ev,R',r'⟩
theorem tH.loop {P:Program} {N:Nat} {c:Code} {Q:Exit->bJ->aE->Prop} {τ:bJ} {h:aE} {α:Type} (I:α->bJ->aE->Prop) (μ:α->Nat) (x₀:α) (h₀:I x₀ τ h)
  (round:∀ x τ h,I x τ h->tH P N c (aA7 (λτ' h'=>∃ x',I x' τ' h'/\μ x'<μ x) Q) τ h):tH P N (.loop c) Q τ h:=by
 intro ds E w a R r
 have key:∀ n x τ₁ h₁ E₁ a₁ w₁,μ x=n->I x τ₁ h₁->Ev E h w E₁ h₁ w₁->Rel E₁ h₁ w₁->aAN ds E₁ h₁ w₁ N τ₁ a₁->∀ b k cs,
   ∃ e a' w',wL ds N Q E h w e a' w'/\Arrives P (lone (b.at a₁ (.code c::.inLoop c::k)) cs w₁) b k cs e a' w':=by
  intro n
  induction n using Nat.strongRecOn with
  | _ n ih =>
   intro x τ₁ h₁ E₁ a₁ w₁ hn hI ev₁ R₁ r₁ b k cs
   obtain⟨e,a₂,w₂,⟨τ₂,h₂,E₂,q,ev₂,R₂,r₂⟩,harr⟩:=round x τ₁ h₁ hI ds E₁ w₁ a₁ R₁ r₁ b (.inLoop c::k) cs
   cases e with
   |normal =>
    obtain⟨x',hI',hlt⟩:=q
    obtain⟨e₃,a₃,w₃,q₃,harr₃⟩:=ih (μ x') (hn▸hlt) x' τ₂ h₂ E₂ a₂ w₂ rfl hI' (ev₁.trans ev₂) R₂ r₂ b k cs
    exact⟨e₃,a₃,w₃,q₃,.of_steps (Steps.trans harr (.one step_inLoop)) harr₃⟩
   |outgrown=>exact q.elim
   |exit id=>exact⟨_,a₂,w₂,⟨τ₂,h₂,E₂,q,ev₁.trans ev₂,R₂,r₂⟩,.pass (x:=.inLoop c) rfl (λ_ _=>.inl cT) harr⟩
   |goto l=>exact⟨_,a₂,w₂,⟨τ₂,h₂,E₂,q,ev₁.trans ev₂,R₂,r₂⟩,.pass (x:=.inLoop c) rfl (λ_ _=>.inl cT) harr⟩
   |ret=>exact⟨_,a₂,w₂,⟨τ₂,h₂,E₂,q,ev₁.trans ev₂,R₂,r₂⟩,.pass (x:=.inLoop c) rfl (λ_ _=>.inl cT) harr⟩
   |panic ch=>exact⟨_,a₂,w₂,⟨τ₂,h₂,E₂,q,ev₁.trans ev₂,R₂,r₂⟩,.pass (x:=.inLoop c) rfl (λ_ _=>.inl cT) harr⟩
 intro b k cs
 obtain⟨e,a',w',q,harr⟩:=key _ x₀ τ h E a w rfl h₀ (.refl _ _ _) R r b k cs
 exact⟨e,a',w',q,.of_steps (.one step_loop) harr⟩
def nT (P:Program) (t:TypeId):Option nP :=
 match jH P t with
 |some r=>match r.d with
  | .slice et=>jH P et
  | _=>none
 |none=>none
theorem o5 {P:Program} {t:TypeId} {re:nP} (h:nT P t=some re):∃ r et,jH P t=some r/\r.d=.slice et/\jH P et=some re:=by
 unfold nT at h
 split at h
 ·rename_i r hr
  split at h
  ·rename_i et hd;exact⟨r,et,hr,hd,h⟩
  ·simp at h
 ·simp at h
def dOf (P:Program) (t:TypeId):Option TyD:=(jH P t).map (·.d)
theorem lY {P:Program} {t:TypeId} {d:TyD} (h:dOf P t=some d):∃ r,jH P t=some r/\r.d=d:=by
 unfold dOf at h
 obtain⟨r,hr,rfl⟩:=u5.1 h
 exact⟨r,hr,rfl⟩
def iU (P:Program) (op:BinOp) (t:TypeId) (x y:aH) (K:aH->Prop):Prop :=
 match x,y with
 | .bool a,.bool b=>dOf P t=some .bool/\(match op with | .eql=>K (.bool (a == b)) | .neq=>K (.bool (a != b))|_=>False)
 | .int k a,.int k' b =>
  match op with
  | .quo=>k=k'/\b≠0/\K (.int k (k.wrap (a.tdiv b)))
  | .rem=>k=k'/\b≠0/\K (.int k (a.tmod b))
  | .shl=>0<=b/\K (.int k (k.wrap (a*2 ^ (min b.toNat k.bits))))
  | .shr=>0<=b/\K (.int k (a.fdiv (2 ^ (min b.toNat k.bits))))
  |op=>match p5 op (.int k a) (.int k' b)with|some v=>K v|none=>False
 | .str a,.str b =>
  match op with
  | .add=>a.length+b.length<=9223372036854775807/\K (.str (a++b))
  | .eql=>K (.bool (decide (a=b)))
  | .neq=>K (.bool (!decide (a=b)))
  |op=>match a2T op a b with|some c=>K (.bool c)|none=>False
 |x,y=>match p5 op x y with|some v=>K v|none=>False
def aA8 (P:Program) (op:BinOp) (t:TypeId) (x y:aH) (K:aH->Prop):Prop :=
 match x,y with
 | .sl _ es _,.bD=>(match dOf P t with|some (.slice _)=>True|_=>False)/\(match op with | .eql=>(es=[]->K (.bool true))/\K (.bool false) | .neq=>(es=[]->K (.bool false))/\K (.bool true)|_=>False)
 | .os _ _ _ len,.bD=>(match dOf P t with|some (.slice _)=>True|_=>False)/\(match op with | .eql=>(len=0->K (.bool true))/\K (.bool false) | .neq=>(len=0->K (.bool false))/\K (.bool true)|_=>False)
 | .bD,.bD=>(match dOf P t with|some (.slice _)=>True|_=>False)/\(match op with | .eql=>K (.bool true) | .neq=>K (.bool false)|_=>False)
 |x,y=>iU P op t x y K
def aA9 (P:Program) (op:BinOp) (t:TypeId) (c:Bool) (x y:aH) (K:aH->Prop):Prop :=
 match c,x,y with
 |true,.nK,.nK=>aMZ P t=true/\(match op with | .eql=>K (.bool true) | .neq=>K (.bool false)|_=>False)
 |true,.iface _ _,.nK=>aMZ P t=true/\(match op with | .eql=>K (.bool false) | .neq=>K (.bool true)|_=>False)
 | _,x,y=>aA8 P op t x y K
def aLV (op:UnOp) (x:aH) (K:aH->Prop):Prop :=
 match op,x with
 | .not,.bool b=>K (.bool (!b))
 | .neg,.int k n=>K (.int k (k.wrap (0-n)))
 | _,_=>False
def aLW (d:Option TyD) (f:Nat) (x:aH) (K:aH->Prop):Prop :=
 match d with
 |some (.st fs)=>match fs[f]? with
  |some (off,_,oC)=>oC≠0/\(match x with
   | .op n sz i k=>K (.op n sz i (k+off))
   | .ip sz es i k=>K (.ip sz es i (k+off))
   | _=>False)
  |none=>False
 | _=>False
def aLX (re:Option nP) (x i:aH) (K:aH->Prop):Prop :=
 match re with
 |some re=>match x,i with
  | .sl sz es _,.int _ n=>re.sz=sz/\0<=n/\n<es.length/\K (.ip sz es n.toNat 0)
  | .os m sz i0 len,.int _ n=>re.sz=sz/\0<=n/\n<len/\K (.op m sz (i0+n.toNat) 0)
  | _,_=>False
 |none=>False
def aHJ (d:Option TyD) (x i:aH) (K:aH->Prop):Prop :=
 match d,x,i with
 |some .str,.str s,.int _ n=>0<=n/\(match s[n.toNat]? with|some c=>K (.int .u8 c.toNat)|none=>False)
 | _,_,_=>False
def lS (r:Option nP) (a:aH) (h:aE) (K:aH->Prop):Prop :=
 match r with
 |some r=>match a with
  | .ip _ es i off=>match es[i]? with
   |some e=>match ld r e off with
    |some x=>K x
    |none=>False
   |none=>False
  | .op n sz i off=>match h n with
   |some (.row oC es)=>oC=sz/\(match es[i]? with
    |some e=>match aMT r e off with
     |some x=>K x
     |none=>False
    |none=>False)
   | _=>False
  | _=>False
 |none=>False
def aVO (r:Option nP) (a v:aH) (h:aE) (K:aE->Prop):Prop :=
 match r with
 |some r=>match a with
  | .op n sz i off=>match h n with
   |some (.row oC es)=>oC=sz/\(match es[i]? with
    |some e=>v.cells.all aH.flat=true/\v.cells.length=r.sz/\off+r.sz<=e.length/\K (aR h n (.row sz (es.set i (sP e off v.cells))))
    |none=>False)
   | _=>False
  | _=>False
 |none=>False
def aLY (r:Option nP) (h:aE) (K:aH->aE->Prop):Prop :=
 match r with
 |some r=>r.zero≠[]/\r.zero.all aH.flat=true/\∀ n,h n=none->K (.op n r.zero.length 0 0) (aR h n (.row r.zero.length [r.zero.map .v]))
 |none=>False
def a7D (x:aH) (h:aE) (K:aH->aE->Prop):Prop :=
 x.cells.all aH.flat=true/\∀ n,h n=none->K (.op n x.cells.length 0 0) (aR h n (.row x.cells.length [x.cells.map .v]))
def bRX (t:TypeId):Bool:=match bD5 with|none=>false|some r=>decide (t=r)
def a7E (t:TypeId) (x:aH) (h:aE) (K:aH->aE->Prop):Prop :=
 x.cells=[.kT,.bD]/\∀ n,h n=none->K (.op n 2 0 0) (aR h n (.raw t #[.pointer none,.slice none 0 0]))
def aPD (re:Option nP) (l c:aH) (h:aE) (K:aH->aE->Prop):Prop :=
 match re with
 |some re=>match l,c with
  | .int _ a,.int _ b=>re.zero.length=re.sz/\0<re.sz/\re.zero.all aH.flat=true/\0<=a/\a<=b/\b<=281474976710656/\re.bytes*b<=281474976710656 /\
    ∀ n,h n=none->K (.os n re.sz 0 a.toNat) (aR h n (.row re.sz ((List.replicate b.toNat re.zero).map (List.map .v))))
  | _,_=>False
 |none=>False
def pT (P:Program) (t:TypeId) (x:aH) (lo hi:Option aH) (K:aH->Prop):Prop :=
 match x with
 | .str s=>dOf P t=some .str/\(match lR 0 lo,lR s.length hi with
  |some l,some m=>0<=l/\l<=m/\m<=s.length/\K (.str ((s.take m.toNat).drop l.toNat))
  | _,_=>False)
 | .sl sz es tg=>match nT P t with
  |some re=>re.sz=sz/\(match lR 0 lo,lR es.length hi with
   |some l,some m=>0<=l/\l<=m/\m<=es.length/\K (.sl sz ((es.take m.toNat).drop l.toNat) (tg && decide (m=es.length)))
   | _,_=>False)
  |none=>False
 | .os n sz i len=>match nT P t with
  |some re=>re.sz=sz/\(match lR 0 lo,lR len hi with
   |some l,some m=>0<=l/\l<m/\m<=len/\K (.os n sz (i+l.toNat) (m.toNat-l.toNat))
   | _,_=>False)
  |none=>False
 | _=>False
def vD (P:Program) (t:TypeId) (x:aH) (lo hi:Option aH) (K:aH->Prop):Prop :=
 match x,hi with
 | .os n sz i len,none=>(match nT P t with
  |some re=>re.sz=sz/\(match lR 0 lo with
   |some l=>0<=l/\l<=len/\(l<len->K (.os n sz (i+l.toNat) (len-l.toNat)))/\(l=len->K (.os n sz (i+len) 0)/\K (.sl sz [] true))
   |none=>False)
  |none=>False)
 |x,hi=>pT P t x lo hi K
def s5 (P:Program) (t:TypeId) (x:aH) (lo:Option aH) (hi mx:aH) (K:aH->Prop):Prop :=
 match x with
 | .sl sz es tg=>match nT P t with
  |some re=>re.sz=sz/\(match lR 0 lo,lR es.length (some hi),lR 0 (some mx)with
   |some l,some m,some M=>0<=l/\l<=m/\m<=M/\M<=es.length/\K (.sl sz ((es.take m.toNat).drop l.toNat) (decide (M=m)))
   | _,_,_=>False)
  |none=>False
 | _=>False
def aVP (P:Program) (t:Option TypeId) (x:aH) (K:aH->Prop):Prop :=
 match t with
 |some t=>match dOf P t,x with
  |some (.slice _),.sl _ es _=>es.length<=9223372036854775807->K (.int .i64 es.length)
  |some (.slice _),.os _ _ _ n=>n<=9223372036854775807->K (.int .i64 n)
  |some (.slice _),.bD=>K (.int .i64 0)
  |some .str,.str s=>s.length<=9223372036854775807->K (.int .i64 s.length)
  | _,_=>False
 |none=>False
def xV (P:Program) (r:Option nP) (ps:List (Nat×aH)) (K:aH->Prop):Prop :=
 match r with
 |some r=>aEL P r.d=true/\r.zero≠[]/\aCC (places P r.d) r.zero.length ps=true/\K (.agg (aPB (places P r.d) r.zero ps))
 |none=>False
def yE (re:Option nP) (len:Nat) (ps:List (Nat×aH)) (K:Nat->List (List aH)->Prop):Prop :=
 match re with
 |some re=>re.zero.length=re.sz/\0<re.sz/\re.zero.all aH.flat=true/\len*re.sz<=16777216/\vC len re.sz ps=true/\K re.sz (yD (List.replicate len re.zero) ps)
 |none=>False
def aCE (P:Program) (re:Option nP) (t1:Option TypeId) (x y:aH) (h:aE) (K:aH->aE->Prop):Prop :=
 match re with
 |some re=>re.zero.length=re.sz/\0<re.sz/\aEI P t1=true/\(match x with
  | .os n sz i len=>re.sz=sz/\(match h n with
   |some (.row oC es)=>oC=sz/\i+len<=es.length/\(match zN h sz y with
    |some ys=>(len+ys.length)*re.bytes<=140737488355328/\len+ys.length<=9223372036854775807 /\
      ∀ b,h b=none->K (.os b sz 0 (len+ys.length)) (aR (aR h n .gone) b (.row sz ((es.drop i).take len++ys.map (List.map .v))))
    |none=>False)
   | _=>False)
  |x=>match aJH re.sz x,zN h re.sz y with
   |some olds,some ys=>(ys=[]->K x h)/\(ys≠[]->(olds.length+ys.length)*re.bytes<=140737488355328/\olds.length+ys.length<=9223372036854775807 /\
     ∀ n,h n=none->K (.os n re.sz 0 (olds.length+ys.length)) (aR h n (.row re.sz ((olds++ys).map (List.map .v)))))
   | _,_=>False)
 |none=>False
def bKI (P:Program) (t:Option TypeId):Option nP:=match t with|some t=>nT P t|none=>none
def aEM (P:Program) (c:Call) (ρ:Operand->aH) (h:aE) (K:aH->aE->Prop):Prop :=
 match c with
 | { callee:=.value f,args:=as,argTypes:=_ }=>match ρ f with
  | .fn (.func g) first cap=>jC P g (first++as.toList.map ρ++cap) h K
  | _=>False
 | { callee:=.builtin .len,args:=as,argTypes:=ats }=>match as.toList with
  | [x]=>aVP P ats[0]? (ρ x) λv=>K v h
  | _=>False
 | { callee:=.builtin .max,args:=as,argTypes:=_ }=>match as.toList with
  | [x,y]=>match ρ x,ρ y with
   | .int k a,.int _ b=>(match ρ y with | .int k' _=>k'=k|_=>False)/\K (.int k (max a b)) h
   | _,_=>False
  | _=>False
 | { callee:=.builtin .append,args:=as,argTypes:=ats }=>match as.toList with
  | [x,y]=>aCE P (bKI P ats[0]?) ats[1]? (ρ x) (ρ y) h K
  | _=>False
 | _=>False
def aEN (P:Program) (s d:TypeId) (x:aH) (K:aH->Prop):Prop :=
 match dOf P d,x with
 |some (.int k'),.int k n=>(dOf P s).isSome=true/\K (.int k' (k'.wrap n))
 |some .str,.sl 1 es _=>(match dOf P s with
  |some (.slice et)=>dOf P et=some (.int .u8)/\(match bytesOf es with|some bs=>K (.str bs)|none=>False)
  | _=>False)
 | _,_=>False
def step (P:Program) (o:Oper) (ρ:Operand->aH) (h:aE) (K:aH->aE->Prop):Prop :=
 match o.op with
 | .move x=>K (ρ x) h
 | .assign x=>K (ρ x) h
 | .pick c a b=>match ρ c with
  | .bool t=>(t=true->K (ρ a) h)/\(t=false->K (ρ b) h)
  | _=>False
 | .binOp op t x y _=>aA9 P op t (xF y) (ρ x) (ρ y) λv=>K v h
 | .unOp op _ x=>aLV op (ρ x) λv=>K v h
 | .convert s d x=>aEN P s d (ρ x) λv=>K v h
 | .fieldAddr t x f=>aLW (dOf P t) f (ρ x) λv=>K v h
 | .indexAddr t x i=>aLX (nT P t) (ρ x) (ρ i) λv=>K v h
 | .index t x i=>aHJ (dOf P t) (ρ x) (ρ i) λv=>K v h
 | .load t a=>lS (jH P t) (ρ a) h λv=>K v h
 | .store t a v=>aVO (jH P t) (ρ a) (ρ v) h λh'=>K .any h'
 | .alloc t=>aLY (jH P t) h K
 | .box t x=>if bRX t then a7E t (ρ x) h K else a7D (ρ x) h K
 | .makeSlice t l c=>aPD (nT P t) (ρ l) (ρ c) h K
 | .slice t x lo hi none=>vD P t (ρ x) (lo.map ρ) (hi.map ρ) λv=>K v h
 | .extract t i=>match ρ t with
  | .jO cs=>match cs[i]? with|some x=>K x h|none=>False
  | _=>False
 | .nilCheck x=>match ρ x with
  | .op n sz i k=>K (.op n sz i k) h
  | .ip sz es i k=>K (.ip sz es i k) h
  | _=>False
 | .makeFunc fn fs cs=>K (.fn fn (fs.toList.map ρ) (cs.toList.map ρ)) h
 | .call c=>aEM P c ρ h K
 | .build t ps=>xV P (jH P t) (ps.toList.map λp=>(p.1,ρ p.2)) λv=>K v h
 | .buildSlice t len ps=>yE (nT P t) len (ps.toList.map λp=>(p.1,ρ p.2)) λsz es=>∀ n,h n=none->K (.os n sz 0 len) (aR h n (.row sz (es.map (List.map .v))))
 | .slice t x lo (some hi) (some mx)=>s5 P t (ρ x) (lo.map ρ) (ρ hi) (ρ mx) λv=>K v h
 | _=>False
section
variable {P:Program} {o:Oper} {ρ:Operand->aH} {h:aE} {K:aH->aE->Prop}
theorem aSP (op:BinOp) (t ty:TypeId) (x y:Operand) (ho:o.op=.binOp op t x y ty) (hs:iU P op t (ρ x) (ρ y) λv=>K v h):rS P o ρ h K:=by
 have gen:∀ v,p5 op (ρ x) (ρ y)=some v->K v h->rS P o ρ h K:=λv hv hk=>bKA op t ty x y v ho hv hk
 unfold iU at hs
 split at hs
 ·rename_i a b ex ey
  obtain⟨hd,hs⟩:=hs
  obtain⟨r,hr,hd⟩:=lY hd
  split at hs
  ·exact aJF .eql t ty x y r a b _ ho hr hd ex ey (.inl ⟨rfl,rfl⟩) hs
  ·exact aJF .neq t ty x y r a b _ ho hr hd ex ey (.inr ⟨rfl,rfl⟩) hs
  ·exact hs.elim
 ·rename_i k a k' b ex ey
  split at hs
  ·obtain⟨rfl,hb,hk⟩:=hs
   exact a69 .quo t ty x y k a b _ ho ex ey hb (.inl ⟨rfl,rfl⟩) hk
  ·obtain⟨rfl,hb,hk⟩:=hs
   exact a69 .rem t ty x y k a b _ ho ex ey hb (.inr ⟨rfl,rfl⟩) hk
  ·obtain⟨hb,hk⟩:=hs
   exact aTN .shl t ty x y k k' a b _ ho ex ey hb (.inl ⟨rfl,rfl⟩) hk
  ·obtain⟨hb,hk⟩:=hs
   exact aTN .shr t ty x y k k' a b _ ho ex ey hb (.inr ⟨rfl,rfl⟩) hk
  ·split at hs
   ·rename_i v hv;exact gen v (by rw[ex,ey];exact hv) hs
   ·exact hs.elim
 ·rename_i a b ex ey
  split at hs
  ·exact aZM t ty x y a b ho ex ey hs.1 hs.2
  ·exact gen _ (by rw[ex,ey];rfl) hs
  ·exact gen _ (by rw[ex,ey];rfl) hs
  ·split at hs
   ·rename_i c hc;exact aZN _ t ty x y a b c ho ex ey hc hs
   ·exact hs.elim
 ·split at hs
  ·rename_i v hv;exact gen v hv hs
  ·exact hs.elim
theorem aPE (op:BinOp) (t ty:TypeId) (x y:Operand) (ho:o.op=.binOp op t x y ty) (hs:aA8 P op t (ρ x) (ρ y) λv=>K v h):rS P o ρ h K:=by
 unfold aA8 at hs
 split at hs
 ·rename_i sz es tt ex ey
  obtain⟨hd0,hs⟩:=hs
  split at hd0
  ·rename_i et hd
   obtain⟨r,hr,hd⟩:=lY hd
   split at hs
   ·exact aMY .eql t ty x y r et sz es tt ho hr hd ex ey (.inl rfl) hs.1 hs.2
   ·exact aMY .neq t ty x y r et sz es tt ho hr hd ex ey (.inr rfl) hs.1 hs.2
   ·exact hs.elim
  ·exact hd0.elim
 ·rename_i m sz i len ex ey
  obtain⟨hd0,hs⟩:=hs
  split at hd0
  ·rename_i et hd
   obtain⟨r,hr,hd⟩:=lY hd
   split at hs
   ·exact aJL .eql t ty x y r et m sz i len ho hr hd ex ey (.inl rfl) hs.1 hs.2
   ·exact aJL .neq t ty x y r et m sz i len ho hr hd ex ey (.inr rfl) hs.1 hs.2
   ·exact hs.elim
  ·exact hd0.elim
 ·rename_i ex ey
  obtain⟨hd0,hs⟩:=hs
  split at hd0
  ·rename_i et hd
   obtain⟨r,hr,hd⟩:=lY hd
   split at hs
   ·exact aJM .eql t ty x y r et ho hr hd ex ey (.inl rfl) hs
   ·exact aJM .neq t ty x y r et ho hr hd ex ey (.inr rfl) hs
   ·exact hs.elim
  ·exact hd0.elim
 ·exact aSP op t ty x y ho hs
theorem aPF (op:BinOp) (t ty:TypeId) (x y:Operand) (ho:o.op=.binOp op t x y ty) (hs:aA9 P op t (xF y) (ρ x) (ρ y) λv=>K v h):rS P o ρ h K:=by
 unfold aA9 at hs
 split at hs
 ·rename_i ec ex ey
  obtain⟨hi,hs⟩:=hs
  split at hs
  ·exact zO .eql t ty x y true ho hi ec (.inl ⟨ex,rfl⟩) ey (.inl rfl) hs
  ·exact zO .neq t ty x y true ho hi ec (.inl ⟨ex,rfl⟩) ey (.inr rfl) hs
  ·exact hs.elim
 ·rename_i ti xi ec ex ey
  obtain⟨hi,hs⟩:=hs
  split at hs
  ·exact zO .eql t ty x y false ho hi ec (.inr ⟨⟨_,_,ex⟩,rfl⟩) ey (.inl rfl) hs
  ·exact zO .neq t ty x y false ho hi ec (.inr ⟨⟨_,_,ex⟩,rfl⟩) ey (.inr rfl) hs
  ·exact hs.elim
 ·exact aPE op t ty x y ho hs
theorem aSQ (x y:Operand) (ats:Array TypeId) (ho:o.op=.call { callee:=.builtin .append,args:=#[x,y],argTypes:=ats }) (hs:aCE P (bKI P ats[0]?) ats[1]? (ρ x) (ρ y) h K):rS P o ρ h K:=by
 unfold aCE at hs
 split at hs
 ·rename_i re hre
  unfold bKI at hre
  split at hre
  ·rename_i t a0
   obtain⟨r,et,hr,hd,he⟩:=o5 hre
   obtain⟨hz,hz0,h1,hs⟩:=hs
   split at hs
   ·rename_i n sz i len hx
    obtain⟨c6,hs⟩:=hs
    split at hs
    ·rename_i oC es hn
     obtain⟨rfl,hle,hs⟩:=hs
     split at hs
     ·rename_i ys hy
      exact aSM x y ats t et r re n oC i len es ys ho a0 hr hd he hz hz0 h1 hx c6 hn hle hy hs.1 hs.2.1 hs.2.2
     ·exact hs.elim
    ·exact hs.elim
   ·split at hs
    ·rename_i olds ys hx hy
     rcases List.eq_nil_or_concat ys with e|⟨_,_,e⟩
     ·subst e
      exact aNK x y ats t et r re ho a0 hr hd he h1 (by rw[hx];rfl) hy (hs.1 rfl)
     ·have hne:ys≠[]:=by rw[e];simp
      have hs:=hs.2 hne
      exact aO9 x y ats t et r re olds ys ho a0 hr hd he hz hz0 h1 hx hy hne hs.1 hs.2.1 hs.2.2
    ·exact hs.elim
  ·simp at hre
 ·exact hs.elim
theorem nQ (hs:step P o ρ h K):rS P o ρ h K:=by
 unfold step at hs
 split at hs
 case h_1 x ho=>exact bD6 x ho hs
 case h_2 x ho=>exact a2Q x ho hs
 case h_3 c a b ho =>
  split at hs
  ·rename_i t ht
   refine bD7 c a b t ho ht ?_
   cases t
   ·exact hs.2 rfl
   ·exact hs.1 rfl
  ·exact hs.elim
 case h_4 op t x y ty ho=>exact aPF op t ty x y ho hs
 case h_5 op t x ho =>
  unfold aLV at hs
  split at hs
  ·rename_i b hb;exact bKE t x b ho hb hs
  ·rename_i k n hn;exact bKF t x k n ho hn hs
  ·exact hs.elim
 case h_6 s d x ho =>
  unfold aEN at hs
  split at hs
  ·rename_i k' k n hd hx
   obtain⟨x8,hk⟩:=hs
   obtain⟨rd,hrd,hdd⟩:=lY hd
   obtain⟨ds,hds⟩:=Option.isSome_iff_exists.1 x8
   obtain⟨rs,hrs,_⟩:=lY hds
   exact aNJ s d x rs rd k k' n ho hrs hrd hdd hx hk
  ·rename_i es tg hd hx
   split at hs
   ·rename_i et hss
    obtain⟨hee,hs⟩:=hs
    split at hs
    ·rename_i bs hbs
     obtain⟨rd,hrd,hdd⟩:=lY hd
     obtain⟨rs,hrs,hsd⟩:=lY hss
     obtain⟨re,hre,hed⟩:=lY hee
     exact aPC s d et x rs rd re es tg bs ho hrs hsd hre hed hrd hdd hx hbs hs
    ·exact hs.elim
   ·exact hs.elim
  ·exact hs.elim
 case h_7 t x f ho =>
  unfold aLW at hs
  split at hs
  ·rename_i fs hd
   obtain⟨r,hr,hd⟩:=lY hd
   split at hs
   ·rename_i off ft oC hf
    obtain⟨c6,hs⟩:=hs
    split at hs
    ·rename_i n sz i k hx;exact aGU t x f r fs off oC ft _ ho hr hd hf c6 (.inl ⟨n,sz,i,k,hx,rfl⟩) hs
    ·rename_i sz es i k hx;exact aGU t x f r fs off oC ft _ ho hr hd hf c6 (.inr ⟨sz,es,i,k,hx,rfl⟩) hs
    ·exact hs.elim
   ·exact hs.elim
  ·exact hs.elim
 case h_8 t x i ho =>
  unfold aLX at hs
  split at hs
  ·rename_i re hre
   obtain⟨r,et,hr,hd,he⟩:=o5 hre
   split at hs
   ·rename_i sz es tg k n hx hi
    obtain⟨c6,h0,hn,hk⟩:=hs
    exact aLS t et x i r re sz es tg k n ho hr hd he c6 hx hi h0 hn hk
   ·rename_i m sz i0 len k n hx hi
    obtain⟨c6,h0,hn,hk⟩:=hs
    exact aLT t et x i r re m sz i0 len k n ho hr hd he c6 hx hi h0 hn hk
   ·exact hs.elim
  ·exact hs.elim
 case h_9 t x i ho =>
  unfold aHJ at hs
  split at hs
  ·rename_i s k n hd hx hi
   obtain⟨r,hr,hd⟩:=lY hd
   obtain⟨h0,hs⟩:=hs
   split at hs
   ·rename_i c hc;exact aSI t x i r s k n c ho hr hd hx hi h0 hc hs
   ·exact hs.elim
  ·exact hs.elim
 case h_10 t a ho =>
  unfold lS at hs
  split at hs
  ·rename_i r hr
   split at hs
   ·rename_i sz es i off ha
    split at hs
    ·rename_i e he
     split at hs
     ·rename_i x hx;exact aZB t a r sz i off es e x ho hr ha he hx hs
     ·exact hs.elim
    ·exact hs.elim
   ·rename_i n sz i off ha
    split at hs
    ·rename_i oC es hn
     obtain⟨rfl,hs⟩:=hs
     split at hs
     ·rename_i e he
      split at hs
      ·rename_i x hx;exact aZC t a r n oC i off es e x ho hr ha hn he hx hs
      ·exact hs.elim
     ·exact hs.elim
    ·exact hs.elim
   ·exact hs.elim
  ·exact hs.elim
 case h_11 t a v ho =>
  unfold aVO at hs
  split at hs
  ·rename_i r hr
   split at hs
   ·rename_i n sz i off ha
    split at hs
    ·rename_i oC es hn
     obtain⟨rfl,hs⟩:=hs
     split at hs
     ·rename_i e he
      obtain⟨hf,c6,hoff,hk⟩:=hs
      exact bA6 t a v r n oC i off es e ho hr ha hn he hf c6 hoff hk
     ·exact hs.elim
    ·exact hs.elim
   ·exact hs.elim
  ·exact hs.elim
 case h_12 t ho =>
  unfold aLY at hs
  split at hs
  ·rename_i r hr
   obtain⟨hz,hf,hk⟩:=hs
   exact bA7 t r ho hr hz hf hk
  ·exact hs.elim
 case h_13 t x ho =>
  split at hs
  ·exact aZD t x ho hs.1 hs.2
  ·exact bKD t x ho hs.1 hs.2
 case h_14 t l c ho =>
  unfold aPD at hs
  split at hs
  ·rename_i re hre
   obtain⟨r,et,hr,hd,he⟩:=o5 hre
   split at hs
   ·rename_i k a k' b hl hc
    obtain⟨hz,hz0,hf,h0,hab,hb,hbb,hk⟩:=hs
    exact aSK t et l c r re k k' a b ho hr hd he hz hz0 hf hl hc h0 hab hb hbb hk
   ·exact hs.elim
  ·exact hs.elim
 case h_15 t x lo hi ho =>
  unfold vD at hs
  split at hs
  ·rename_i n sz i len hx hhi
   split at hs
   ·rename_i re hre
    obtain⟨r,et,hr,hd,he⟩:=o5 hre
    obtain⟨c6,hs⟩:=hs
    split at hs
    ·rename_i l hl
     obtain⟨h0,h1,h2,h3⟩:=hs
     rcases Int.lt_or_eq_of_le h1 with q|q
     ·have:=h2 q
      exact aJJ t et x lo hi r re n sz i len l len ho hr hd he c6 hx hl (by rw[hhi];rfl) h0 q (aLJ _) (by simpa using this)
     ·exact aSO t et x lo hi r re n sz i len l len ho hr hd he c6 hx hl (by rw[hhi];rfl) h0 q rfl (h3 q).1 (h3 q).2
    ·exact hs.elim
   ·exact hs.elim
  unfold pT at hs
  split at hs
  ·rename_i s hx
   obtain⟨hd,hs⟩:=hs
   obtain⟨r,hr,hd⟩:=lY hd
   split at hs
   ·rename_i l m hl hh
    obtain⟨h0,h1,h2,hk⟩:=hs
    exact aSJ t x lo hi r s l m ho hr hd hx hl hh h0 h1 h2 hk
   ·exact hs.elim
  ·rename_i sz es tg hx
   split at hs
   ·rename_i re hre
    obtain⟨r,et,hr,hd,he⟩:=o5 hre
    obtain⟨c6,hs⟩:=hs
    split at hs
    ·rename_i l m hl hh
     obtain⟨h0,h1,h2,hk⟩:=hs
     exact aVK t et x lo hi r re sz es tg l m ho hr hd he c6 hx hl hh h0 h1 h2 hk
    ·exact hs.elim
   ·exact hs.elim
  ·rename_i n sz i len hx
   split at hs
   ·rename_i re hre
    obtain⟨r,et,hr,hd,he⟩:=o5 hre
    obtain⟨c6,hs⟩:=hs
    split at hs
    ·rename_i l m hl hh
     obtain⟨h0,h1,h2,hk⟩:=hs
     exact aJJ t et x lo hi r re n sz i len l m ho hr hd he c6 hx hl hh h0 h1 h2 hk
    ·exact hs.elim
   ·exact hs.elim
  ·exact hs.elim
 case h_16 t i ho =>
  split at hs
  ·rename_i cs ht
   split at hs
   ·rename_i x hx;exact aZE t i cs x ho ht hx hs
   ·exact hs.elim
  ·exact hs.elim
 case h_17 x ho =>
  split at hs
  ·rename_i n sz i k hx;exact aJD x ho (.inl ⟨n,sz,i,k,hx⟩) (hx▸hs)
  ·rename_i sz es i k hx;exact aJD x ho (.inr ⟨sz,es,i,k,hx⟩) (hx▸hs)
  ·exact hs.elim
 case h_18 fn fs cs ho=>exact aVJ fn fs cs ho hs
 case h_19 c ho =>
  unfold aEM at hs
  split at hs
  ·rename_i f as ats
   split at hs
   ·rename_i g first cap hf;exact bED f as ats g first cap ho hf hs
   ·exact hs.elim
  ·rename_i as ats
   split at hs
   ·rename_i x hax
    have hax':as=#[x]:=by cases as;simp_all
    subst hax'
    unfold aVP at hs
    split at hs
    ·rename_i t hat
     split at hs
     ·rename_i et sz es tg hd hx
      obtain⟨r,hr,hd⟩:=lY hd
      exact aNV t x r es.length ats ho hat hr (.inl ⟨_,sz,es,tg,hd,hx,rfl⟩) hs
     ·rename_i et m sz i n hd hx
      obtain⟨r,hr,hd⟩:=lY hd
      exact aNV t x r n ats ho hat hr (.inr (.inl ⟨_,m,sz,i,hd,hx⟩)) hs
     ·rename_i et hd hx
      obtain⟨r,hr,hd⟩:=lY hd
      exact aNV t x r 0 ats ho hat hr (.inr (.inr (.inl ⟨_,hd,hx,rfl⟩))) λ_=>hs
     ·rename_i s hd hx
      obtain⟨r,hr,hd⟩:=lY hd
      exact aNV t x r s.length ats ho hat hr (.inr (.inr (.inr ⟨s,hd,hx,rfl⟩))) hs
     ·exact hs.elim
    ·exact hs.elim
   ·exact hs.elim
  ·rename_i as ats
   split at hs
   ·rename_i x y hax
    have hax':as=#[x,y]:=by cases as;simp_all
    subst hax'
    split at hs
    ·rename_i k a k' b hx hy
     obtain⟨h1,hk⟩:=hs
     rw[hy]at h1
     simp only at h1
     subst h1
     exact bKG x y ats _ a b ho hx hy hk
    ·exact hs.elim
   ·exact hs.elim
  ·rename_i as ats
   split at hs
   ·rename_i x y hax
    have hax':as=#[x,y]:=by cases as;simp_all
    subst hax'
    exact aSQ x y ats ho hs
   ·exact hs.elim
  ·exact hs.elim
 case h_20 t ps ho =>
  unfold xV at hs
  split at hs
  ·rename_i r hr
   obtain⟨h1,h2,h3,hk⟩:=hs
   exact bBA t ps r ho hr h1 h2 h3 hk
  ·exact hs.elim
 case h_21 t len ps ho =>
  unfold yE at hs
  split at hs
  ·rename_i re hre
   obtain⟨r,et,hr,hd,he⟩:=o5 hre
   obtain⟨h1,h2,h3,h4,h5,hk⟩:=hs
   exact aO7 t et len ps r re ho hr hd he h1 h2 h3 h4 h5 hk
  ·exact hs.elim
 case h_22 t x lo hi mx ho =>
  unfold s5 at hs
  split at hs
  ·rename_i sz es tg hx
   split at hs
   ·rename_i re hre
    obtain⟨r,et,hr,hd,he⟩:=o5 hre
    obtain⟨c6,hs⟩:=hs
    split at hs
    ·rename_i l m M hl hh hM
     obtain⟨h0,h1,h2,h3,hk⟩:=hs
     exact aSN t et x lo (some hi) mx r re sz es tg l m M ho hr hd he c6 hx rfl hl hh hM h0 h1 h2 h3 hk
    ·exact hs.elim
   ·exact hs.elim
  ·exact hs.elim
 case h_23=>exact hs.elim
def aPG (x:aH) (K:aH->Prop):Prop:=x.cells.all aH.flat=true/\K (.ip x.cells.length [x.cells] 0 0)
def bRY (r':aH) (h':aE) (r:aH) (h:aE):Prop :=
 ∀ E w v,Rel E h' w->gC E h' w r' v->∃ E',Ev E h' w E' h w/\Rel E' h w/\gC E' h w r v
def a7F (K:aH->aE->Prop):aH->aE->Prop:=λv h'=>∃ r g,bRY v h' r g/\K r g
theorem rS.seal {P:Program} {o:Oper} {ρ:Operand->aH} {h:aE} {K:aH->aE->Prop} (a:rS P o ρ h (a7F K)):rS P o ρ h K:=λE w ρc R hρ =>
 (a E w ρc R hρ).mono λv w' ⟨r',h',E',⟨r,g,s,k⟩,ev,R',x⟩ =>
  let ⟨E'',ev',R'',x'⟩:=s E' w' v R' x
  ⟨r,g,E'',k,ev.trans ev',R'',x'⟩
def yF (P:Program) (ib:List Nat) (o:Oper) (ρ:Operand->aH) (h:aE) (K:aH->aE->Prop):Prop :=
 match o.dst with
 |some d=>if ib.contains d then(match o.op with
   | .box _ x=>aPG (ρ x) λv=>K v h
   | .buildSlice t len ps=>yE (nT P t) len (ps.toList.map λp=>(p.1,ρ p.2)) λsz es=>K (.sl sz es true) h
   | .call ⟨.builtin .append,_,_⟩=>step P o ρ h (a7F K)
   | _=>step P o ρ h K)else step P o ρ h K
 |none=>step P o ρ h K
theorem aEO {ib:List Nat} (hs:yF P ib o ρ h K):rS P o ρ h K:=by
 unfold yF at hs
 split at hs
 ·split at hs
  ·split at hs
   ·rename_i t x ho;exact aZG t x ho hs.1 hs.2
   ·rename_i t len ps ho
    unfold yE at hs
    split at hs
    ·rename_i re hre
     obtain⟨r,et,hr,hd,he⟩:=o5 hre
     obtain⟨h1,h2,h3,h4,h5,hk⟩:=hs
     exact aHG t et len ps r re ho hr hd he h1 h2 h3 h4 h5 hk
    ·exact hs.elim
   ·exact(nQ hs).seal
   ·exact nQ hs
  ·exact nQ hs
 ·exact nQ hs
end
variable {ds:List Deferred}
def want (ops:Array Oper) (τ:bJ) (o:Oper):Option Bool :=
 match o.guard with
 |none=>some true
 |some (g,b)=>match (ops[g]?).bind (·.dst)with
  |some d=>match b7 τ d with
   | .bool b'=>some (b' == b)
   | .jO []=>some false
   | _=>none
  |none=>none
theorem aHK {E:Env} {h:aE} {w:World} {N:Nat} {τ:bJ} {a:Act} {ops:Array Oper} {o:Oper} {c:Bool} (r:aAN ds E h w N τ a) (hw:want ops τ o=some c) (hd:∀ (g:Nat) (og:Oper) d,ops[g]?=some og->og.dst=some d->d<N) :
  Region.wanted o (yielded ops a.tmps)=c:=by
 unfold want at hw
 unfold Region.wanted
 split at hw
 ·rename_i hg;rw[hg];exact gV hw
 ·rename_i g b hg
  rw[hg]
  split at hw
  ·rename_i d hdd
   obtain⟨og,hog,hod⟩:=Option.bind_eq_some_iff.1 hdd
   have hlt:d<a.tmps.size:=by rw[r.size];exact hd g og d hog hod
   have hr:=r.get d
   have hge:a.tmps[d]?=some a.tmps[d]:=aOT hlt
   have hgd:a.tmps.getD d undef=a.tmps[d]:=by simp[Array.getD,hlt]
   split at hw
   ·rename_i b' hb'
    rw[hb',hgd]at hr
    have:=aA4 hr
    obtain rfl:=gV hw
    simp only[yielded,hog,a2I,hod,hge,this]
    cases b <;> cases b' <;> rfl
   ·rename_i hb'
    rw[hb',hgd]at hr
    obtain rfl:=gV hw
    have:a.tmps[d]=.tuple #[]:=by
     cases hv:a.tmps[d] <;> rw[hv]at hr <;> try(cases hr;done)
     cases hr with
     |jO _ vs hl hrr =>
      have:vs=[]:=by cases vs <;> simp_all
      simp[this]
    simp only[yielded,hog,a2I,hod,hge,this]
    cases b <;> rfl
   ·simp at hw
  ·simp at hw
def aJN (P:Program) (ib:List Nat) (ops:Array Oper):List Oper->bJ->aE->(bJ->aE->Prop)->Prop
 | [],τ,h,K=>K τ h
 |o::rest,τ,h,K=>match o.guard with
  |none=>yF P ib o (zE τ) h λv h'=>aJN P ib ops rest (iT τ o.dst v) h' K
  |some (g,b)=>match (ops[g]?).bind (·.dst)with
   |some d=>match b7 τ d with
    | .bool b'=>(b'=b->yF P ib o (zE ((d,.bool b)::τ)) h λv h'=>aJN P ib ops rest (iT ((d,.bool b)::τ) o.dst v) h' K) /\
      (b'=!b->aJN P ib ops rest (iT ((d,.bool !b)::τ) o.dst (.jO [])) h K)
    | .jO []=>aJN P ib ops rest (iT τ o.dst (.jO [])) h K
    | _=>False
   |none=>False
theorem aCF {τ:bJ} {d:Nat} {v:aH} (hv:b7 τ d=v) (k:Nat):b7 ((d,v)::τ) k=b7 τ k:=by
 simp only[b7];split
 ·rename_i e;rw[←e,hv]
 ·rfl
theorem aJN.cases {P:Program} {ib:List Nat} {ops:Array Oper} {o:Oper} {rest:List Oper} {τ:bJ} {h:aE} {K:bJ->aE->Prop} (r:aJN P ib ops (o::rest) τ h K) :
  ∃ σ,(∀ k,b7 σ k=b7 τ k)/\((want ops τ o=some true/\yF P ib o (zE σ) h λv h'=>aJN P ib ops rest (iT σ o.dst v) h' K) ∨
   (want ops τ o=some false/\aJN P ib ops rest (iT σ o.dst (.jO [])) h K)):=by
 unfold aJN at r
 unfold want
 split at r
 ·rename_i hg;exact⟨τ,λ_=>rfl,.inl ⟨by simp[hg],r⟩⟩
 ·rename_i g b hg
  try simp only[hg]
  split at r
  ·rename_i d hd
   try simp only[hd]
   split at r
   ·rename_i b' hb'
    by_cases e:b'=b
    ·subst e
     exact⟨(d,.bool b')::τ,aCF hb',.inl ⟨by simp[hb'],r.1 rfl⟩⟩
    ·have e':b'=!b:=by cases b' <;> cases b <;> simp_all
     subst e'
     exact⟨(d,.bool !b)::τ,aCF hb',.inr ⟨by first|(cases b <;> rfl)|(simp only[hb'];cases b <;> rfl),r.2 rfl⟩⟩
   ·rename_i hb';exact⟨τ,λ_=>rfl,.inr ⟨by simp[hb'],r⟩⟩
   ·exact r.elim
  ·exact r.elim
def aHL (N:Nat) (ops:Array Oper):Bool:=ops.toList.all λo=>match o.dst with|some d=>decide (d<N)|none=>true
theorem aCG {N:Nat} {ops:Array Oper} (h:aHL N ops=true) (g:Nat) (og:Oper) (d:Nat) (hg:ops[g]?=some og) (hd:og.dst=some d):d<N:=by
 have:=zF.1 h og (by rw[←aSD]at hg;exact nO hg)
 simpa[hd]using this
theorem aVQ {P:Program} {ib:List Nat} {N:Nat} {ops:Array Oper} {Q:Exit->bJ->aE->Prop} {K:bJ->aE->Prop} (hN:aHL N ops=true) (keep:List Nat) (hK:∀ τ h,K τ h->Q .normal (prune keep τ) h) {E₀:Env} {h₀:aE} {w₀:World} :
  ∀ (l:List Oper),(∀ o∈l,o∈ops.toList)->∀ (τ:bJ) (h:aE),aJN P ib ops l τ h K->∀ E w a,Ev E₀ h₀ w₀ E h w->Rel E h w->aAN ds E h w N τ a->wpList P ops (wL ds N Q E₀ h₀ w₀) l a w
 | [],_,τ,h,hr,E,w,a,ev,R,r=>⟨prune keep τ,h,E,hK _ _ hr,ev,R,r.prune keep⟩
 |o::rest,hl,τ,h,hr,E,w,a,ev,R,r=>by
  have hdst:∀ k,o.dst=some k->k<N:=λk hk=>by
   have:=zF.1 hN o (hl o cT)
   simpa[hk]using this
  obtain⟨σ,hσ,hr⟩:=hr.cases
  have rσ:aAN ds E h w N σ a:=⟨r.size,r.defers,λk=>by rw[hσ];exact r.get k⟩
  rcases hr with⟨hw,hr⟩|⟨hw,hr⟩
  ·have hwant:=aHK r hw (aCG hN)
   unfold wpList
   rw[hwant,if_pos rfl]
   left
   refine aA3.wp ((aEO hr E w _ R λx=>rσ.zE x).mono ?_)
   rintro v w' ⟨x,h',E',k,ev',R',rx⟩
   exact aVQ hN keep hK rest (λo ho=>hl o (by simp[ho])) _ h' k E' w' (a.put o.dst v) (ev.trans ev') R' ((rσ.ev ev').put o.dst hdst rx)
  ·have hwant:=aHK r hw (aCG hN)
   unfold wpList
   rw[hwant,if_neg cT]
   refine aVQ hN keep hK rest (λo ho=>hl o (by simp[ho])) _ h hr E w _ ev R (rσ.put o.dst hdst ?_)
   exact gC.jO [] [] rfl cT
theorem tH.region {P:Program} {ib:List Nat} {N id:Nat} {ops:Array Oper} {Q:Exit->bJ->aE->Prop} {τ:bJ} {h:aE} (hN:aHL N ops=true) (keep:List Nat) (hr:aJN P ib ops ops.toList τ h λτ' h'=>Q .normal (Hl.prune keep τ') h'):tH P N (.region id ops false) Q τ h :=
 λds E w a R r=>wp_region_list (aVQ hN keep (λ_ _ x=>x) ops.toList (λ_ ho=>ho) τ h hr E w a (.refl _ _ _) R r)
def a2V (P:Program) (τ:bJ) (h:aE):ResultVar->(aH->Prop)->Prop
 | .tmp t,K=>K (b7 τ t)
 | .cell a t,K=>lS (jH P t) (b7 τ a) h K
def bEE (P:Program) (τ:bJ) (h:aE):List ResultVar->(List aH->Prop)->Prop
 | [],K=>K []
 |x::l,K=>a2V P τ h x λv=>bEE P τ h l λvs=>K (v::vs)
def bKJ (P:Program) (rs:Array ResultVar) (τ:bJ) (h:aE) (K:aH->aE->Prop):Prop :=
 bEE P τ h rs.toList λvs=>match vs with
  | [v]=>K v h
  |vs=>K (.jO vs) h
def aJO (P:Program) (rs:Array ResultVar) (K:aH->aE->Prop):Exit->bJ->aE->Prop
 | .normal,τ,h=>bKJ P rs τ h K
 | .ret,τ,h=>bKJ P rs τ h K
 | _,_,_=>False
theorem a2W {P:Program} {t:TypeId} {a:aH} {h:aE} {K:aH->Prop} (hs:lS (jH P t) a h K) {E:Env} {w:World} {v:Value} (R:Rel E h w) (hv:gC E h w a v) :
  ∃ (b o:Nat) (x:aH) (c:Value),v=.pointer (some ⟨b,o,none⟩)/\(loadVar t ⟨b,o,none⟩).run P w=.ok c w/\K x/\gC E h w x c:=by
 unfold lS at hs
 split at hs
 ·rename_i r hr
  split at hs
  ·rename_i sz es i off
   split at hs
   ·rename_i e he
    split at hs
    ·rename_i x hx
     obtain⟨b,k,c,h1,h2,h3⟩:=aMU (P:=P) t r sz i off es e x hr hv he hx
     exact⟨b,k,x,c,h1,h2,hs,h3⟩
    ·exact hs.elim
   ·exact hs.elim
  ·rename_i n sz i off
   split at hs
   ·rename_i oC es hn
    obtain⟨rfl,hs⟩:=hs
    split at hs
    ·rename_i e he
     split at hs
     ·rename_i x hx
      obtain⟨b,k,c,h1,h2,h3⟩:=aMV (P:=P) R t r n oC i off es e x hr hv hn he hx
      exact⟨b,k,x,c,h1,h2,hs,h3⟩
     ·exact hs.elim
    ·exact hs.elim
   ·exact hs.elim
  ·exact hs.elim
 ·exact hs.elim
def aPH (P:Program) (tmps:Array Value):ResultVar->Sem Value
 | .tmp t=>pure (tmps.getD t undef)
 | .cell a t=>do loadVar t (←asAddr (tmps.getD a undef))
theorem aPI {P:Program} {N:Nat} {τ:bJ} {h:aE} {E:Env} {w:World} {a:Act} (R:Rel E h w) (r:aAN ds E h w N τ a):∀ (l:List ResultVar) (K:List aH->Prop),bEE P τ h l K ->
  ∃ xs vs,(l.mapM (aPH P a.tmps)).run P w=.ok vs w/\K xs/\fD E h w xs vs
 | [],K,hk=>⟨[],[],by simp,hk,trivial⟩
 |x::l,K,hk=>by
  unfold bEE at hk
  cases x with
  |tmp t =>
   simp only[a2V]at hk
   obtain⟨xs,vs,h1,h2,h3⟩:=aPI R r l _ hk
   exact⟨_::xs,_::vs,by simp[aPH,h1],h2,r.get t,h3⟩
  |cell p t =>
   simp only[a2V]at hk
   obtain⟨b,o,x,c,h1,h2,h3,h4⟩:=a2W hk R (r.get p)
   obtain⟨xs,vs,k1,k2,k3⟩:=aPI R r l _ h3
   exact⟨x::xs,c::vs,by simp[aPH,h1,asAddr,h2,k1],k2,h4,k3⟩
theorem bEF {P:Program} {N:Nat} {τ:bJ} {h:aE} {E:Env} {w:World} {a:Act} {fn:Func} {K:aH->aE->Prop} (R:Rel E h w) (r:aAN ds E h w N τ a) (hk:bKJ P fn.results τ h K) :
  ∃ x v,(results fn a.tmps).run P w=.ok v w/\K x h/\gC E h w x v:=by
 unfold bKJ at hk
 obtain⟨xs,vs,h1,h2,h3⟩:=aPI R r _ _ hk
 have hm:(fn.results.mapM (aPH P a.tmps)).run P w=.ok vs.toArray w:=by
  rw[←Array.toArray_toList (xs:=fn.results),List.mapM_toArray]
  simp[h1]
 have hres:(results fn a.tmps).run P w=.ok (if h:vs.toArray.size=1 then vs.toArray[0]else .tuple vs.toArray) w:=by
  have e:results fn a.tmps=(do let vs ←fn.results.mapM (aPH P a.tmps);pure (if h:vs.size=1 then vs[0]else .tuple vs)):=by
   unfold results
   congr 1
  rw[e,Sem.run_bind,hm]
  rfl
 split at h2
 ·rename_i x
  cases vs with
  |nil=>exact h3.elim
  |cons v vs =>
   cases vs with
   |nil=>exact⟨x,v,by rw[hres];simp,h2,h3.1⟩
   |cons _ _=>exact h3.2.elim
 ·rename_i hne
  refine⟨.jO xs,.tuple vs.toArray,?_,h2,.jO xs vs h3.length h3.get⟩
  rw[hres,dif_neg]
  intro e
  have hl:=h3.length
  simp at e
  rw[e]at hl
  cases xs with
  |nil=>simp at hl
  |cons y ys =>
   cases ys with
   |nil=>exact hne y rfl
   |cons _ _=>simp at hl
def sC:Nat->List aH->bJ
 | _,[]=>[]
 |i,x::xs=>(i,x)::sC (i+1) xs
theorem aPJ:∀ (xs:List aH) (i k:Nat),b7 (sC i xs) k=if i<=k then(xs[k-i]?).getD .any else .any
 | [],i,k=>by simp[sC,b7]
 |x::xs,i,k=>by
  simp only[sC,b7]
  by_cases e:i=k
  ·subst e;simp
  ·rw[if_neg e,aPJ xs (i+1) k]
   by_cases h:i+1<=k
   ·rw[if_pos h,if_pos aA,show k-i=(k-(i+1))+1 by omega];simp
   ·rw[if_neg h,if_neg aA]
theorem bEG {P:Program} {f:FuncId} {fn:Func} {c:Code} {N:Nat} {args:List aH} {h:aE} {K:aH->aE->Prop} (hf:P.funcs[f]?=some fn) (hb:fn.body=some c) (hc:kC P f=true) (hN:fn.ntmps=N)
  (hl:args.length<=N) {K':aH->aE->Prop} (hw:tH P N c (aJO P fn.results K') (sC 0 args) h) (hk':∀ r h',K' r h'->∃ g:aE,g.le h'/\K r g):jC P f args h K:=by
 refine⟨hc,λE w vs R hL=>calls_of_wp hf hb ?_⟩
 have hlen:=hL.length
 refine Code.wp_mono ?_ (hw [] E w _ R ⟨?_,rfl,?_⟩)
 ·rintro e a' w' ⟨τ',h',E',q,ev,R',r'⟩
  cases e <;> simp only[aJO]at q <;> try exact q.elim
  all_goals
   obtain⟨x,v,h1,hk0,hx⟩:=bEF R' r' q
   obtain⟨g,hg,hk⟩:=hk' _ _ hk0
   exact⟨r'.defers,v,h1,x,g,E',hk,ev.forget hg,R'.forget hg,hx.sB λb=>qK.le hg⟩
 ·simp[hN];omega
 ·intro k
  rw[aPJ]
  simp only[fE,if_true,bC5]
  by_cases hk:k<args.length
  ·have hx:args[k]?=some args[k]:=cM hk
   have hv:vs[k]?=some (vs[k]'aA):=cM aA
   rw[hx]
   have hg:(vs.toArray++Array.replicate (fn.ntmps-vs.toArray.size) undef).getD k undef=vs[k]'aA:=by
    have hk':k<vs.length:=by omega
    simp[Array.getD,Array.getElem_append,hk'];omega
   rw[hg]
   exact hL.get k _ _ hx hv
  ·rw[a2L aA]
   exact .any _
variable {ds:List Deferred}
def wM (ops:Array Oper) (o:Oper):List Tmp :=
 (o.op.operands.toList.filterMap fun | .tmp t=>some t|_=>none)++(match o.guard with|some (g,_)=>((ops[g]?).bind (·.dst)).toList|none=>[])
def xG (ops:Array Oper) (o:Oper) (τ:bJ):Operand->aH
 | .tmp t=>if (wM ops o).contains t then b7 τ t else .any
 |x=>zE τ x
theorem s6 {ops:Array Oper} {o:Oper} {τ τ':bJ} (h:∀ t∈wM ops o,b7 τ t=b7 τ' t):xG ops o τ=xG ops o τ':=by
 funext x
 cases x with
 |tmp t =>
  simp only[xG]
  split
  ·rename_i hc;exact h t (by simpa using hc)
  ·rfl
 | _=>rfl
def yG (P:Program) (o:Oper) (ρ:Operand->aH) (v:aH):Prop:=∀ h,rS P o ρ h λv' h'=>v'=v/\h'=h
def aD1:List (Nat×Nat)->Nat->Nat->Bool
 | [],_,_=>false
 |(a,b)::r,x,i=>(a == x && b == i) || aD1 r x i
def bEH:List (Nat×Nat)->Nat->Bool
 | [],_=>false
 |(a,_)::r,x=>a == x || bEH r x
theorem aZO {x i:Nat}:∀ {cr:List (Nat×Nat)},bEH cr x=false->aD1 cr x i=false
 | [],_=>rfl
 |(a,b)::r,h=>by
  simp only[bEH,Bool.or_eq_false_iff]at h
  simp only[aD1,h.1,bJ3,aU7]
  exact aZO h.2
def a2X (o:Oper):Bool:=match o.op with | .load _ _=>true|_=>false
def aVR (P:Program) (o:Oper) (ρ:Operand->aH) (h:aE) (n:Nat) (v:aH):Prop:=∀ h',h' n=h n->rS P o ρ h' λv' h''=>v'=v/\h''=h'
def aPK (cr:List (Nat×Nat)) (i:Nat) (pr:List (Nat×Nat)) (h h':aE):Prop:=∀ p∈pr,aD1 cr p.1 i=true->h' p.2=h p.2
inductive wN where
 |nil
 |op (i:Nat) (p:wN)
 |alt (i:Nat) (p:wN) (j:Nat) (q:wN)
def OpL (P:Program) (ops:Array Oper) (ms:List Nat) (i:Nat) (cr:List (Nat×Nat)) (pr:List (Nat×Nat)) (τ:bJ) (h:aE) (C:List (Nat×Nat)->bJ->aE->Prop):Prop :=
 match ops[i]? with
  |none=>False
  |some o=>match want ops τ o with
   |none=>False
   |some true=>if ms.contains i then(if a2X o then(∃ n v,aVR P o (xG ops o τ) h n v/\C ((i,n)::pr) (iT τ o.dst v) h)∨∃ v,yG P o (xG ops o τ) v/\C pr (iT τ o.dst v) h
      else rS P o (xG ops o τ) h λv h'=>aPK cr i pr h h'/\C pr (iT τ o.dst v) h')
     else ∃ v,yG P o (xG ops o τ) v/\C pr (iT τ o.dst v) h
   |some false=>C pr (iT τ o.dst (.jO [])) h
def lT (P:Program) (ops:Array Oper) (ms:List Nat) (cr:List (Nat×Nat)):wN->List (Nat×Nat)->bJ->aE->(bJ->aE->Prop)->Prop
 | .nil,_,τ,h,K=>K τ h
 | .op i p,pr,τ,h,K=>OpL P ops ms i cr pr τ h λpr τ h=>lT P ops ms cr p pr τ h K
 | .alt i p j q,pr,τ,h,K=>(OpL P ops ms i cr pr τ h λpr τ h=>lT P ops ms cr p pr τ h K)/\OpL P ops ms j cr pr τ h λpr τ h=>lT P ops ms cr q pr τ h K
def TEq (τ τ':bJ):Prop:=∀ k,b7 τ k=b7 τ' k
theorem aBA (τ:bJ) (d:Option Tmp) (v:aH) (k:Nat):b7 (iT τ d v) k=if d=some k then v else b7 τ k:=by
 cases d with
 |none=>simp[iT]
 |some d=>simp only[iT,b7,bAY]
theorem TEq.put {τ τ':bJ} (h:TEq τ τ') (d:Option Tmp) (v:aH):TEq (iT τ d v) (iT τ' d v):=λk=>by
 rw[aBA,aBA,h k]
theorem TEq.put_comm (τ:bJ) {d e:Option Tmp} (u v:aH) (hne:∀ k,d=some k->e≠some k):TEq (iT (iT τ d u) e v) (iT (iT τ e v) d u):=λk=>by
 simp only[aBA]
 by_cases h1:e=some k <;> by_cases h2:d=some k
 ·exact absurd h1 (hne k h2)
 ·simp[h1,h2]
 ·simp[h1,h2]
 ·simp[h1,h2]
theorem aCH {ops:Array Oper} {o:Oper} {τ τ':bJ} (h:∀ t∈wM ops o,b7 τ t=b7 τ' t):want ops τ o=want ops τ' o:=by
 unfold want
 split
 ·rfl
 ·rename_i g b hg
  split
  ·rename_i d hd
   rw[h d (by simp[wM,hg,hd])]
  ·rfl
theorem aPK.sub {cr:List (Nat×Nat)} {i:Nat} {pr pr':List (Nat×Nat)} {h h':aE} (hs:∀ p∈pr',p∈pr∨∀ j,aD1 cr p.1 j=false) (x:aPK cr i pr h h'):aPK cr i pr' h h':=λp hp hc=>by
 rcases hs p hp with h1|h1
 ·exact x p h1 hc
 ·rw[h1 i]at hc;cases hc
theorem bEI {cr pr pr':List (Nat×Nat)} (hs:∀ p∈pr',p∈pr∨∀ j,aD1 cr p.1 j=false) (q:Nat×Nat):∀ p∈q::pr',p∈q::pr∨∀ j,aD1 cr p.1 j=false:=λp hp=>by
 rcases pY.1 hp with rfl|hp
 ·exact .inl x6
 ·exact(hs p hp).imp (w6 _) id
theorem OpL.congr {P:Program} {ops:Array Oper} {ms:List Nat} {cr:List (Nat×Nat)} {i:Nat} {C C':List (Nat×Nat)->bJ->aE->Prop} {pr pr':List (Nat×Nat)} {τ τ':bJ} {h:aE}
  (hC:∀ (pr pr':List (Nat×Nat)) (τ τ':bJ) (h:aE),(∀ p∈pr',p∈pr∨∀ j,aD1 cr p.1 j=false)->TEq τ τ'->C pr τ h->C' pr' τ' h) (hs:∀ p∈pr',p∈pr∨∀ j,aD1 cr p.1 j=false) (e:TEq τ τ') (r:OpL P ops ms i cr pr τ h C):OpL P ops ms i cr pr' τ' h C':=by
 unfold OpL at r ⊢
 cases ho:ops[i]? with
 |none=>simp[ho]at r
 |some o =>
  simp only[ho]at r ⊢
  rw[←aCH (ops:=ops) (o:=o) (τ:=τ) (τ':=τ') λt _=>e t]
  cases hw:want ops τ o with
  |none=>simp[hw]at r
  |some c =>
   simp only[hw]at r ⊢
   rw[←s6 (ops:=ops) (o:=o) (τ:=τ) (τ':=τ') λt _=>e t]
   cases c with
   |false=>exact hC _ _ _ _ h hs (e.put _ _) r
   |true =>
    simp only at r ⊢
    split at r
    ·rename_i hm;rw[if_pos hm]
     split at r
     ·rename_i hl;rw[if_pos hl]
      rcases r with⟨n,v,hr,x⟩|⟨v,hr,x⟩
      ·exact .inl ⟨n,v,hr,hC _ _ _ _ h (bEI hs _) (e.put _ _) x⟩
      ·exact .inr ⟨v,hr,hC _ _ _ _ h hs (e.put _ _) x⟩
     ·rename_i hl;rw[if_neg hl]
      exact r.mono λv h' x=>⟨x.1.sub hs,hC _ _ _ _ h' hs (e.put _ _) x.2⟩
    ·rename_i hm;rw[if_neg hm]
     obtain⟨v,hs',x⟩:=r
     exact⟨v,hs',hC _ _ _ _ h hs (e.put _ _) x⟩
theorem lT.congr {P:Program} {ops:Array Oper} {ms:List Nat} {cr:List (Nat×Nat)} {K:bJ->aE->Prop} (hK:∀ τ τ' h,TEq τ τ'->K τ h->K τ' h):∀ (l:wN) (pr pr':List (Nat×Nat)) (τ τ':bJ) (h:aE),(∀ p∈pr',p∈pr∨∀ j,aD1 cr p.1 j=false)->TEq τ τ'->lT P ops ms cr l pr τ h K->lT P ops ms cr l pr' τ' h K
 | .nil,pr,pr',τ,τ',h,hs,e,r=>hK _ _ _ e r
 | .op i l,pr,pr',τ,τ',h,hs,e,r=>OpL.congr (λpr pr' τ τ' h hs e r=>lT.congr hK l pr pr' τ τ' h hs e r) hs e r
 | .alt i l j q,pr,pr',τ,τ',h,hs,e,r=>⟨OpL.congr (λpr pr' τ τ' h hs e r=>lT.congr hK l pr pr' τ τ' h hs e r) hs e r.1,OpL.congr (λpr pr' τ τ' h hs e r=>lT.congr hK q pr pr' τ τ' h hs e r) hs e r.2⟩
def aPM (ops:Array Oper) (x y:Oper):Bool :=
 (match x.dst with|some d=>!(wM ops y).contains d && !(y.dst == some d)|none=>true) && (match y.dst with|some d=>!(wM ops x).contains d|none=>true)
theorem aZP {ops:Array Oper} {x y:Oper} (h:aPM ops x y=true):(∀ d,x.dst=some d->d∉wM ops y)/\(∀ d,x.dst=some d->y.dst≠some d)/\(∀ d,y.dst=some d->d∉wM ops x):=by
 unfold aPM at h
 refine⟨λd hd=>?_,λd hd=>?_,λd hd=>?_⟩ <;> simp[hd]at h
 ·exact h.1.1
 ·exact h.1.2
 ·exact h.2
def bEJ (ms:List Nat) (cr:List (Nat×Nat)) (x i:Nat) (ox oi:Oper):Bool:=!ms.contains x || (a2X ox && (aD1 cr x i || a2X oi || !ms.contains i))
theorem lT.swap {P:Program} {ops:Array Oper} {ms:List Nat} {cr:List (Nat×Nat)} {K:bJ->aE->Prop} (hK:∀ τ τ' h,TEq τ τ'->K τ h->K τ' h) {x i:Nat} {ox oi:Oper} {l:wN} {pr:List (Nat×Nat)} {τ:bJ} {h:aE}
  (hx:ops[x]?=some ox) (hi:ops[i]?=some oi) (hm:bEJ ms cr x i ox oi=true) (hap:aPM ops ox oi=true) (r:lT P ops ms cr (.op x (.op i l)) pr τ h K):lT P ops ms cr (.op i (.op x l)) pr τ h K:=by
 obtain⟨a1,a2,a3⟩:=aZP hap
 have ei:∀ v,(∀ t∈wM ops oi,b7 (iT τ ox.dst v) t=b7 τ t):=λv t ht=>by
  rw[aBA,if_neg];intro e;exact a1 t e ht
 have ex:∀ v,(∀ t∈wM ops ox,b7 (iT τ oi.dst v) t=b7 τ t):=λv t ht=>by
  rw[aBA,if_neg];intro e;exact a3 t e ht
 have hc:∀ u v,TEq (iT (iT τ ox.dst u) oi.dst v) (iT (iT τ oi.dst v) ox.dst u):=λu v=>TEq.put_comm τ u v a2
 have ids:∀ pr:List (Nat×Nat),∀ p∈pr,p∈pr∨∀ j,aD1 cr p.1 j=false:=λ_ _ h=>.inl h
 have sw:∀ (a b:Nat×Nat),∀ p∈b::a::pr,p∈a::b::pr∨∀ j,aD1 cr p.1 j=false:=λa b p hp=>by
  left
  simp only[pY]at hp ⊢
  rcases hp with h1|h1|h1
  ·exact .inr (.inl h1)
  ·exact .inl h1
  ·exact .inr (.inr h1)
 unfold lT OpL at r
 simp only[hx]at r
 cases hwx:want ops τ ox with
 |none=>simp[hwx]at r
 |some cx =>
  simp only[hwx]at r
  have hwx':∀ v,want ops (iT τ oi.dst v) ox=some cx:=λv=>by rw[aCH (ex v)];exact hwx

  have key:∀ u,lT P ops ms cr (.op i l) pr (iT τ ox.dst u) h K ->
    (∀ τ' h' pr',lT P ops ms cr l pr' (iT (iT τ oi.dst τ') ox.dst u) h' K->lT P ops ms cr (.op x l) pr' (iT τ oi.dst τ') h' K) ->
    lT P ops ms cr (.op i (.op x l)) pr τ h K:=by
   intro u r hback
   unfold lT OpL at r
   rw[lT];unfold OpL
   simp only[hi]at r ⊢
   rw[aCH (ei u),s6 (ei u)]at r
   cases hwi:want ops τ oi with
   |none=>simp[hwi]at r
   |some ci =>
    simp only[hwi]at r ⊢
    cases ci with
    |false=>exact hback _ _ _ (lT.congr hK l _ _ _ _ h (ids _) (hc _ _) r)
    |true =>
     simp only at r ⊢
     split at r
     ·rename_i hmi;rw[if_pos hmi]
      split at r
      ·rename_i hl;rw[if_pos hl]
       rcases r with⟨n,v,hr,y⟩|⟨v,hr,y⟩
       ·exact .inl ⟨n,v,hr,hback _ _ _ (lT.congr hK l _ _ _ _ h (ids _) (hc _ _) y)⟩
       ·exact .inr ⟨v,hr,hback _ _ _ (lT.congr hK l _ _ _ _ h (ids _) (hc _ _) y)⟩
      ·rename_i hl;rw[if_neg hl]
       exact r.mono λv h' y=>⟨y.1,hback _ _ _ (lT.congr hK l _ _ _ _ h' (ids _) (hc _ _) y.2)⟩
     ·rename_i hmi;rw[if_neg hmi]
      obtain⟨v,hs,y⟩:=r
      exact⟨v,hs,hback _ _ _ (lT.congr hK l _ _ _ _ h (ids _) (hc _ _) y)⟩
  cases cx with
  |false =>
   refine key _ r λu h' pr' y=>?_
   rw[lT];unfold OpL;simp only[hx,hwx' u];exact y
  |true =>
   simp only at r
   by_cases hmx:ms.contains x=true
   ·rw[if_pos hmx]at r
    simp only[bEJ,hmx,bDA,aU7,oW,Bool.or_eq_true,bA2]at hm
    obtain⟨hlx,hm⟩:=hm
    rw[if_pos hlx]at r
    rcases r with⟨n,v,hr,r⟩|⟨v,hs,r⟩
    case inr =>
     refine key v r λu h' pr' y=>?_
     rw[lT];unfold OpL;simp only[hx,hwx' u,hmx,hlx,if_true]
     exact .inr ⟨v,by rw[s6 (ex u)];exact hs,y⟩

    have back:∀ (u:aH) (h':aE) (pr':List (Nat×Nat)),h' n=h n->lT P ops ms cr l ((x,n)::pr') (iT (iT τ oi.dst u) ox.dst v) h' K->lT P ops ms cr (.op x l) pr' (iT τ oi.dst u) h' K:=by
     intro u h' pr' e y
     rw[lT];unfold OpL;simp only[hx,hwx' u,hmx,hlx,if_true]
     exact .inl ⟨n,v,λh'' e'=>by rw[s6 (ex u)];exact hr h'' (e'.trans e),y⟩
    unfold lT OpL at r
    rw[lT];unfold OpL
    simp only[hi]at r ⊢
    rw[aCH (ei v),s6 (ei v)]at r
    cases hwi:want ops τ oi with
    |none=>simp[hwi]at r
    |some ci =>
     simp only[hwi]at r ⊢
     cases ci with
     |false=>exact back _ _ _ rfl (lT.congr hK l _ _ _ _ h (ids _) (hc _ _) r)
     |true =>
      simp only at r ⊢
      split at r
      ·rename_i hmi;rw[if_pos hmi]
       split at r
       ·rename_i hl;rw[if_pos hl]
        rcases r with⟨m,u,hri,y⟩|⟨u,hri,y⟩
        ·exact .inl ⟨m,u,hri,back _ _ _ rfl (lT.congr hK l _ _ _ _ h (sw _ _) (hc _ _) y)⟩
        ·exact .inr ⟨u,hri,back _ _ _ rfl (lT.congr hK l _ _ _ _ h (ids _) (hc _ _) y)⟩
       ·rename_i hl;rw[if_neg hl]
        refine r.mono λu h' y=>⟨y.1.sub λp hp=>.inl (w6 _ hp),?_⟩
        have hcx:aD1 cr x i=true:=by
         rcases hm with(h1|h1)|h1
         ·exact h1
         ·exact absurd h1 hl
         ·rw[hmi]at h1;cases h1
        exact back _ _ _ (y.1 (x,n) x6 hcx) (lT.congr hK l _ _ _ _ h' (ids _) (hc _ _) y.2)
      ·rename_i hmi;rw[if_neg hmi]
       obtain⟨u,hs,y⟩:=r
       exact⟨u,hs,back _ _ _ rfl (lT.congr hK l _ _ _ _ h (ids _) (hc _ _) y)⟩
   ·rw[if_neg hmx]at r
    obtain⟨v,hs,r⟩:=r
    refine key v r λu h' pr' y=>?_
    rw[lT];unfold OpL;simp only[hx,hwx' u]
    rw[if_neg hmx]
    exact⟨v,by rw[s6 (ex u)];exact hs,y⟩
def blk:List Oper->Nat->List Nat->List Nat
 | [],_,B=>B
 |o::l,j,B=>blk l (j+1) (if o.after.toList.any (λe=>Region.binds .any e && B.contains e.on)then j::B else B)
theorem a7G:∀ (l:List Oper) (j:Nat) (B:List Nat) (b:Nat),b∈B->b∈blk l j B
 | [],_,_,_,h=>h
 |o::l,j,B,b,h=>by
  unfold blk
  refine a7G l (j+1) _ b ?_
  split
  ·exact w6 _ h
  ·exact h
theorem a7H:∀ (l:List Oper) (j:Nat) (B:List Nat) (b:Nat),b∈blk l j B->b∈B∨∃ o e,j<=b/\l[b-j]?=some o/\e∈o.after.toList/\Region.binds .any e=true/\e.on∈blk l j B
 | [],_,_,_,h=>.inl h
 |o::l,j,B,b,h=>by
  unfold blk at h
  rcases a7H l (j+1) _ b h with h1|⟨o',e,h1,h2,h3,h4,h5⟩
  ·split at h1
   ·rename_i hany
    rcases pY.1 h1 with rfl|h1
    ·right
     obtain⟨e,he,hb⟩:=aOU.1 hany
     simp only[oW,bJ4]at hb
     exact⟨o,e,iH _,by simp,he,hb.1,a7G _ _ _ _ hb.2⟩
    ·exact .inl h1
   ·exact .inl h1
  ·refine .inr ⟨o',e,by omega,?_,h3,h4,?_⟩
   ·rw[show b-j=(b-(j+1))+1 by omega];simpa using h2
   ·unfold blk;exact h5
def wO (ops:Array Oper) (ms:List Nat) (cr:List (Nat×Nat)):wN->List Nat->Bool
 | .nil,U=>U.isEmpty
 | .op x p,U=>U.contains x && (let B:=blk ops.toList 0 [x]
   (U.erase x).all λi=>B.contains i || (match ops[x]?,ops[i]? with|some ox,some oi=>bEJ ms cr x i ox oi && aPM ops ox oi|_,_=>false)) && wO ops ms cr p (U.erase x)
 | .alt x p y q,U=>U.contains x && U.contains y && (let B:=blk ops.toList 0 [x]
   let C:=blk ops.toList 0 [y]
   U.all λi=>i == x || i == y || B.contains i || C.contains i) && wO ops ms cr p (U.erase x) && wO ops ms cr q (U.erase y)
def bRZ (ops:Array Oper) (ms:List Nat) (p:wN) (cr:List (Nat×Nat)):Bool :=
 wO ops ms cr p (List.range ops.size) &&
 (List.range ops.size).all λi=>match ops[i]? with|some o=>o.after.toList.all λe=>!Region.binds .any e || decide (e.on<i)|none=>true
def aVS (ops:Array Oper) (L:Nat->Prop):Prop:=∀ (j:Nat) (o:Oper),ops[j]?=some o->L j->∀ e∈o.after.toList,Region.binds .any e=true->L e.on
theorem aPN {ops:Array Oper} {L:Nat->Prop} (hc:aVS ops L) {x:Nat} (hx:¬L x):∀ (l:List Oper) (j:Nat) (B:List Nat),(∀ k o,l[k]?=some o->ops[j+k]?=some o)->(∀ b∈B,¬L b)->∀ b∈blk l j B,¬L b
 | [],_,_,_,hB,b,h=>hB b h
 |o::l,j,B,hl,hB,b,h=>by
  unfold blk at h
  refine aPN hc hx l (j+1) _ (λk o hk=>by have:=hl (k+1) o (by simpa using hk);rwa [show j+1+k=j+(k+1)by omega]) ?_ b h
  intro b' hb'
  split at hb'
  ·rename_i hany
   rcases pY.1 hb' with rfl|hb'
   ·intro hL
    obtain⟨e,he,hb⟩:=aOU.1 hany
    simp only[oW,bJ4]at hb
    exact hB _ hb.2 (hc b' o (by simpa using hl 0 o rfl) hL e he hb.1)
   ·exact hB b' hb'
  ·exact hB b' hb'
theorem bBB {ops:Array Oper} {L:Nat->Prop} (hc:aVS ops L) {x i:Nat} (hx:¬L x) (hne:i≠x) {oi:Oper} (hi:ops[i]?=some oi) (hr:∀ e∈oi.after.toList,Region.binds .any e=true->L e.on):(blk ops.toList 0 [x]).contains i=false:=by
 cases hb:(blk ops.toList 0 [x]).contains i with
 |false=>rfl
 |true =>
  exfalso
  rw[bJ4]at hb
  have hlist:=aPN hc hx ops.toList 0 [x] (λk o hk=>by simpa using hk) aO1
  rcases a7H _ _ _ _ hb with h1|⟨o,e,_,h2,h3,h4,h5⟩
  ·exact hne (by simpa using h1)
  ·have:o=oi:=by
    simp only[bC5,aSD]at h2
    rw[hi]at h2;exact(gV h2).symm
   subst this
   exact hlist _ h5 (hr e h3 h4)
inductive aPO (ops:Array Oper) (ms:List Nat) (cr:List (Nat×Nat)) (i:Nat) (oi:Oper):wN->wN->Prop where
 |here (p:wN):aPO ops ms cr i oi (.op i p) p
 |skip {x:Nat} {ox:Oper} {p p':wN} (hox:ops[x]?=some ox) (hm:bEJ ms cr x i ox oi=true) (hap:aPM ops ox oi=true) (f:aPO ops ms cr i oi p p'):aPO ops ms cr i oi (.op x p) (.op x p')
 |left (p:wN) (j:Nat) (q:wN):aPO ops ms cr i oi (.alt i p j q) p
 |right (j:Nat) (p q:wN):aPO ops ms cr i oi (.alt j p i q) q
theorem lT.front {P:Program} {ops:Array Oper} {ms:List Nat} {cr:List (Nat×Nat)} {K:bJ->aE->Prop} (hK:∀ τ τ' h,TEq τ τ'->K τ h->K τ' h) {i:Nat} {oi:Oper} (hi:ops[i]?=some oi) {p p':wN} (f:aPO ops ms cr i oi p p') :
  ∀ (pr:List (Nat×Nat)) (τ:bJ) (h:aE),lT P ops ms cr p pr τ h K->lT P ops ms cr (.op i p') pr τ h K:=by
 induction f with
 |here p=>intro pr τ h r;exact r
 |left p j q=>intro pr τ h r;exact r.1
 |right j p q=>intro pr τ h r;exact r.2
 | @skip x ox p p' hox hm hap f ih =>
  intro pr τ h r
  refine lT.swap hK hox hi hm hap ?_
  rw[lT]at r ⊢
  unfold OpL at r ⊢
  simp only[hox]at r ⊢
  cases hw:want ops τ ox with
  |none=>simp[hw]at r
  |some c =>
   simp only[hw]at r ⊢
   cases c with
   |false=>exact ih _ _ h r
   |true =>
    simp only at r ⊢
    by_cases hmx:ms.contains x=true
    ·rw[if_pos hmx]at r ⊢
     have hlx:a2X ox=true:=by
      simp only[bEJ,hmx,bDA,aU7,oW]at hm
      exact hm.1
     rw[if_pos hlx]at r ⊢
     rcases r with⟨n,v,hs,r⟩|⟨v,hs,r⟩
     ·exact .inl ⟨n,v,hs,ih _ _ h r⟩
     ·exact .inr ⟨v,hs,ih _ _ h r⟩
    ·rw[if_neg hmx]at r ⊢
     obtain⟨v,hs,r⟩:=r;exact⟨v,hs,ih _ _ h r⟩
theorem aZQ {ops:Array Oper} {ms:List Nat} {cr:List (Nat×Nat)} {i:Nat} {oi:Oper} (hoi:ops[i]?=some oi):∀ (p:wN) (U:List Nat),wO ops ms cr p U=true->U.Nodup->i∈U ->
  (∀ x∈U,x≠i->(blk ops.toList 0 [x]).contains i=false)->∃ p',aPO ops ms cr i oi p p'/\wO ops ms cr p' (U.erase i)=true
 | .nil,U,hv,_,hi,_=>by
  simp only[wO,List.isEmpty_iff]at hv
  subst hv;cases hi
 | .op x p,U,hv,hnd,hi,hb=>by
  simp only[wO,oW,zF]at hv
  obtain⟨⟨hx,hall⟩,hp⟩:=hv
  by_cases e:x=i
  ·subst e;exact⟨p,.here p,hp⟩
  ·have hie:i∈U.erase x:=(List.mem_erase_of_ne (l5 e)).2 hi
   have h1:=hall i hie
   have hxU:x∈U:=by simpa using hx
   rw[hb x hxU e,aU7]at h1
   cases hox:ops[x]? with
   |none=>simp[hox]at h1
   |some ox =>
    simp only[hox,hoi,oW]at h1
    obtain⟨p',f,hp'⟩:=aZQ hoi p (U.erase x) hp (hnd.erase x) hie λy hy hne=>hb y (List.mem_of_mem_erase hy) hne
    refine⟨.op x p',.skip hox h1.1 h1.2 f,?_⟩
    simp only[wO,oW,zF]
    refine⟨⟨by simpa using(List.mem_erase_of_ne e).2 hxU,λj hj=>hall j ?_⟩,?_⟩
    ·rw[List.erase_comm]at hj;exact List.mem_of_mem_erase hj
    ·rw[List.erase_comm];exact hp'
 | .alt x p y q,U,hv,hnd,hi,hb=>by
  simp only[wO,oW,zF,Bool.or_eq_true,beq_iff_eq]at hv
  obtain⟨⟨⟨⟨hx,hy⟩,hall⟩,hp⟩,hq⟩:=hv
  by_cases e:x=i
  ·subst e;exact⟨p,.left p y q,hp⟩
  ·by_cases e2:y=i
   ·subst e2;exact⟨q,.right x p q,hq⟩
   ·exfalso
    rcases hall i hi with((h1|h1)|h1)|h1
    ·exact e h1.symm
    ·exact e2 h1.symm
    ·rw[hb x aO1 e]at h1;cases h1
    ·rw[hb y (by simpa using hy) e2]at h1;cases h1
theorem aZR {P:Program} {N:Nat} {ops:Array Oper} {ms:List Nat} {cr:List (Nat×Nat)} {Q:Exit->bJ->aE->Prop} (hN:aHL N ops=true) (keep:List Nat) {E₀:Env} {h₀:aE} {w₀:World}
  (hback:∀ (i:Nat) (o:Oper),ops[i]?=some o->∀ e∈o.after.toList,Region.binds .any e=true->e.on<i) :
  ∀ (fuel:Nat) (listed:Array Bool) (p:wN) (l:List Nat),listed.size=ops.size->l.Nodup->(∀ i,i∈l↔listed[i]?=some false)->fuel=l.length ->
   wO ops ms cr p l=true ->
   aVS ops (λi=>listed[i]?=some true) ->
   ∀ (pr:List (Nat×Nat)) (τ:bJ) (h:aE),lT P ops ms cr p pr τ h (λτ' h'=>Q .normal (Hl.prune keep τ') h')->∀ E w a,Ev E₀ h₀ w₀ E h w->Rel E h w->aAN ds E h w N τ a ->
   wpAny P .any ops (wL ds N Q E₀ h₀ w₀) fuel listed a w
 |0,listed,p,l,c6,hnd,hl,hf,hp,hcl,pr,τ,h,r,E,w,a,ev,R,rt=>by
  have:l=[]:=aNI.1 hf.symm
  subst this
  have:p=.nil:=by cases p <;> simp[wO]at hp ⊢
  subst this
  refine⟨?_,⟨Hl.prune keep τ,h,E,r,ev,R,rt.prune keep⟩⟩
  unfold Region.ready
  rw[List.filter_eq_nil_iff]
  intro i hi hc
  simp only[aLK]at hi
  simp only[oW,bA2]at hc
  have hlt:i<listed.size:=by omega
  have:listed[i]?=some false:=by
   rw[aOT hlt]
   have:=hc.1
   simp only[Array.getD,hlt,dif_pos]at this
   rw[←this];rfl
  exact absurd ((hl i).2 this) cT
 |fuel+1,listed,p,l,c6,hnd,hl,hf,hp,hcl,pr,τ,h,r,E,w,a,ev,R,rt=>by
  have hK:∀ τ τ' h,TEq τ τ'->Q .normal (Hl.prune keep τ) h->Q .normal (Hl.prune keep τ') h:=λτ τ' h e q=>by
   have:Hl.prune keep τ=Hl.prune keep τ':=by unfold Hl.prune;exact aG7 λk _=>by rw[e k]
   rwa [←this]
  have hready:∀ i,i∈Region.ready .any ops listed->i∈l/\∃ o,ops[i]?=some o/\∀ e∈o.after.toList,Region.binds .any e=true->listed[e.on]?=some true:=by
   intro i hi
   unfold Region.ready at hi
   rw[List.mem_filter]at hi
   obtain⟨hi,hc⟩:=hi
   simp only[aLK]at hi
   simp only[oW,bA2]at hc
   have hlt:i<listed.size:=by omega
   have hlf:listed[i]?=some false:=by
    rw[aOT hlt]
    have:=hc.1
    simp only[Array.getD,hlt,dif_pos]at this
    rw[←this];rfl
   refine⟨(hl i).2 hlf,ops[i],aOT hi,λe he hb=>?_⟩
   have h2:=hc.2
   simp only[aOT hi,aNH,bA1]at h2
   rw[bDB]at h2
   have:=h2 e (by simpa using he)
   simp only[hb,bDA,aU7]at this
   by_cases hel:e.on<listed.size
   ·simp only[Array.getD,hel,dif_pos]at this
    rw[aOT hel,←this];rfl
   ·simp[Array.getD,hel]at this
  refine⟨λhnil=>?_,λi hi=>?_⟩
  ·
   exfalso
   have hne:l≠[]:=by intro e;simp[e]at hf

   have:∃ m∈l,∀ j∈l,m<=j:=by
    obtain⟨x,hx⟩:=List.exists_mem_of_ne_nil l hne
    have key:∀ n,∀ x∈l,x<=n->∃ m∈l,∀ j∈l,m<=j:=by
     intro n
     induction n with
     |zero=>intro x hx hn;exact⟨x,hx,λj _=>by omega⟩
     |succ n ih =>
      intro x hx hn
      by_cases hall:∀ j∈l,x<=j
      ·exact⟨x,hx,hall⟩
      ·have:∃ j∈l,j<x:=by
        apply bDC
        intro hcon
        exact hall λj hj=>by
         apply bDC
         intro hlt
         exact hcon ⟨j,hj,by omega⟩
       obtain⟨j,hj,hlt⟩:=this
       exact ih j hj aA
    exact key x x hx (iH _)
   obtain⟨m,hm,hmin⟩:=this
   have hmf:=(hl m).1 hm
   have hmlt:m<listed.size:=(aU2.1 hmf).1
   have hmo:m<ops.size:=by omega
   have hmem:m∈Region.ready .any ops listed:=by
    unfold Region.ready
    rw[List.mem_filter]
    refine⟨by simpa using hmo,?_⟩
    simp only[oW,bA2]
    refine⟨?_,?_⟩
    ·simp only[Array.getD,hmlt,dif_pos]
     have:=(aU2.1 hmf).2
     exact this
    ·simp only[aOT hmo,aNH,bA1]
     rw[bDB]
     intro e he
     cases hb:Region.binds .any e with
     |false=>rfl
     |true =>
      simp only[bDA,aU7]
      have hlt:=hback m _ (aOT hmo) e (by simpa using he) hb
      have hel:e.on<listed.size:=by omega
      simp only[Array.getD,hel,dif_pos]
      cases hv:listed[e.on]with
      |true=>exact hv
      |false =>
       have:=hmin e.on ((hl e.on).2 (by rw[aOT hel,hv]))
       omega
   rw[hnil]at hmem
   simp at hmem
  ·obtain⟨hil,o,ho,hedges⟩:=hready i hi
   obtain⟨p',hfr,hp'⟩:=aZQ ho p l hp hnd hil λx hx hne=>bBB hcl (x:=x) (i:=i) (by simp[(hl x).1 hx]) (l5 hne) ho hedges
   have hfront:=lT.front hK ho hfr pr τ h r
   unfold wpOp
   simp only[ho]
   have hdst:∀ k,o.dst=some k->k<N:=λk hk=>aCG hN i o k ho hk
   have hil':listed[i]?=some false:=(hl i).1 hil
   have hilt:i<listed.size:=(aU2.1 hil').1
   have hrest:∀ (pr':List (Nat×Nat)) (τ':bJ) (h':aE),lT P ops ms cr p' pr' τ' h' (λτ' h'=>Q .normal (Hl.prune keep τ') h')->∀ E' w' a',Ev E₀ h₀ w₀ E' h' w'->Rel E' h' w'->aAN ds E' h' w' N τ' a' ->
     wpAny P .any ops (wL ds N Q E₀ h₀ w₀) fuel (listed.setIfInBounds i true) a' w':=by
    intro pr' τ' h' r' E' w' a' ev' R' rt'
    refine aZR hN keep hback fuel _ p' (l.erase i) (by simpa using c6) (hnd.erase i) ?_ (by rw[List.length_erase_of_mem hil];omega) hp' ?_ pr' τ' h' r' E' w' a' ev' R' rt'
    ·intro j
     rw[hnd.mem_erase_iff]
     by_cases e:j=i
     ·subst e
      simp[hilt]
     ·rw[a2J (l5 e),←hl j]
      simp[e]
    ·intro j oj hoj hL e he hb
     by_cases ej:j=i
     ·subst ej
      rw[ho]at hoj
      obtain rfl:=gV hoj
      have:=hedges e he hb
      by_cases e2:e.on=j
      ·rw[e2]at this;rw[this]at hil';simp at hil'
      ·rw[a2J (l5 e2)];exact this
     ·rw[a2J (l5 ej)]at hL
      have:=hcl j oj hoj hL e he hb
      by_cases e2:e.on=i
      ·rw[e2]at this;rw[this]at hil';simp at hil'
      ·rw[a2J (l5 e2)];exact this
   rw[lT]at hfront
   unfold OpL at hfront
   simp only[ho]at hfront
   have hmask:∀ x,gC E h w (xG ops o τ x) (a.eval x):=λx=>by
    cases x with
    |tmp t =>
     simp only[xG]
     split
     ·exact rt.get t
     ·exact .any _
    |const v=>exact rt.zE (.const v)
    |global g=>exact rt.zE (.global g)
    |func f=>exact rt.zE (.func f)
   cases hw:want ops τ o with
   |none=>simp[hw]at hfront
   |some c =>
    simp only[hw]at hfront
    have hwant:=aHK rt hw (aCG hN)
    rw[hwant]
    cases c with
    |false =>
     rw[if_neg cT]
     exact hrest _ _ h hfront E w _ ev R (rt.put o.dst hdst (gC.jO [] [] rfl cT))
    |true =>
     rw[if_pos rfl]
     left
     simp only at hfront
     split at hfront
     ·split at hfront
      ·rcases hfront with⟨n,v,hs,hfront⟩|⟨v,hs,hfront⟩
       ·refine aA3.wp ((hs h rfl E w _ R hmask).mono ?_)
        rintro c w' ⟨x,h',E',⟨rfl,rfl⟩,ev',R',rx⟩
        exact hrest _ _ _ hfront E' w' _ (ev.trans ev') R' ((rt.ev ev').put o.dst hdst rx)
       ·refine aA3.wp ((hs h E w _ R hmask).mono ?_)
        rintro c w' ⟨x,h',E',⟨rfl,rfl⟩,ev',R',rx⟩
        exact hrest _ _ _ hfront E' w' _ (ev.trans ev') R' ((rt.ev ev').put o.dst hdst rx)
      ·refine aA3.wp ((hfront E w _ R hmask).mono ?_)
       rintro v w' ⟨x,h',E',k,ev',R',rx⟩
       exact hrest _ _ h' k.2 E' w' _ (ev.trans ev') R' ((rt.ev ev').put o.dst hdst rx)
     ·obtain⟨v,hs,hfront⟩:=hfront
      refine aA3.wp ((hs h E w _ R hmask).mono ?_)
      rintro c w' ⟨x,h',E',⟨rfl,rfl⟩,ev',R',rx⟩
      exact hrest _ _ _ hfront E' w' _ (ev.trans ev') R' ((rt.ev ev').put o.dst hdst rx)
theorem tH.aZS {P:Program} {N id:Nat} {ops:Array Oper} {ms:List Nat} {ord:wN} {cr:List (Nat×Nat)} {Q:Exit->bJ->aE->Prop} {τ:bJ} {h:aE} (hmix:P.follows .mixedOrders=true) (hN:aHL N ops=true) (hord:bRZ ops ms ord cr=true) (keep:List Nat)
  (hr:lT P ops ms cr ord [] τ h λτ' h'=>Q .normal (Hl.prune keep τ') h'):tH P N (.region id ops true) Q τ h:=by
 intro ds E w a R r
 simp only[bRZ,oW]at hord
 obtain⟨h1,h5⟩:=hord
 rw[zF]at h5
 refine wp_region_any hmix ?_
 have ev:Ev E h w E h { w with drawn:=w.drawn+1 }:=⟨iH _,λ_ hb=>⟨rfl,hb⟩,λ_ _=>rfl,λ_ hn=>⟨rfl,hn⟩,rfl,rfl⟩
 have R':Rel E h { w with drawn:=w.drawn+1 }:=⟨R.fin,R.dom,R.lt,R.apart,λn o hn=>(R.obj n o hn).ev ev rfl rfl λ_ _ _=>rfl,R.laid.ev ev⟩
 refine aZR hN keep ?_ ops.size _ ord (List.range ops.size) cT List.nodup_range ?_ cT h1 ?_ [] τ h hr E _ a ev R' (r.ev ev)
 ·intro i o ho e he hb
  have:=h5 i (by simp;exact(aU2.1 ho).1)
  simp only[ho,zF]at this
  have:=this e he
  simpa[hb]using this
 ·intro i
  rw[aLK]
  constructor
  ·intro hi;simp[hi]
  ·intro hi;have:=(aU2.1 hi).1;simpa using this
 ·intro j o ho hL
  rw[Array.getElem?_replicate]at hL
  split at hL <;> simp at hL
def Det (F:(aH->Prop)->Prop):Prop:=∀ K,F K->∃ v,K v/\∀ K':aH->Prop,K' v->F K'
theorem tI (v:aH):Det λK=>K v:=λK hk=>⟨v,hk,λ_ h=>h⟩
theorem bKK {c:Prop} {F:(aH->Prop)->Prop} (h:c->Det F):Det λK=>c/\F K:=λK ⟨hc,hk⟩=>let ⟨v,h1,h2⟩:=h hc K hk;⟨v,h1,λK' h'=>⟨hc,h2 K' h'⟩⟩
theorem bKL (P:Program) (op:BinOp) (t:TypeId) (x y:aH):Det (iU P op t x y):=by
 intro K hk
 unfold iU at hk ⊢
 split at hk
 ·obtain⟨hd,hk⟩:=hk
  split at hk
  ·exact⟨_,hk,λK' h=>⟨hd,h⟩⟩
  ·exact⟨_,hk,λK' h=>⟨hd,h⟩⟩
  ·exact hk.elim
 ·split at hk
  ·exact⟨_,hk.2.2,λK' h=>⟨hk.1,hk.2.1,h⟩⟩
  ·exact⟨_,hk.2.2,λK' h=>⟨hk.1,hk.2.1,h⟩⟩
  ·exact⟨_,hk.2,λK' h=>⟨hk.1,h⟩⟩
  ·exact⟨_,hk.2,λK' h=>⟨hk.1,h⟩⟩
  ·split at hk
   ·rename_i v hv;exact⟨v,hk,λK' h=>by first|exact h|(simp only[hv];exact h)⟩
   ·exact hk.elim
 ·split at hk
  ·exact⟨_,hk.2,λK' h=>⟨hk.1,h⟩⟩
  ·exact⟨_,hk,λK' h=>h⟩
  ·exact⟨_,hk,λK' h=>h⟩
  ·split at hk
   ·rename_i v hv;exact⟨_,hk,λK' h=>by first|exact h|(simp only[hv];exact h)⟩
   ·exact hk.elim
 ·split at hk
  ·rename_i v hv;exact⟨v,hk,λK' h=>by first|exact h|(simp only[hv];exact h)⟩
  ·exact hk.elim
theorem bBC {P:Program} {op:BinOp} {t:TypeId} {x y:aH} {K:aH->Prop} (h:iU P op t x y K):aA8 P op t x y K:=by
 unfold aA8
 split
 ·simp[iU,p5]at h
 ·simp[iU,p5]at h
 ·simp[iU,p5]at h
 ·exact h
theorem bBD {P:Program} {op:BinOp} {t:TypeId} {c:Bool} {x y:aH} {K:aH->Prop} (h:iU P op t x y K):aA9 P op t c x y K:=by
 unfold aA9
 split
 ·simp[iU,p5]at h
 ·simp[iU,p5]at h
 ·exact bBC h
theorem bR0 (op:UnOp) (x:aH):Det (aLV op x):=by
 intro K hk
 unfold aLV at hk ⊢
 split at hk
 ·exact⟨_,hk,λK' h=>h⟩
 ·exact⟨_,hk,λK' h=>h⟩
 ·exact hk.elim
theorem bEK (P:Program) (s d:TypeId) (x:aH):Det (aEN P s d x):=by
 intro K hk
 unfold aEN at hk ⊢
 split at hk
 ·rename_i hd;exact⟨_,hk.2,λK' h=>by first|exact⟨hk.1,h⟩|(simp only[hd];exact⟨hk.1,h⟩)⟩
 ·rename_i hd
  split at hk
  ·rename_i h1
   obtain⟨h2,hk⟩:=hk
   split at hk
   ·rename_i h3
    exact⟨_,hk,λK' h=>by exact⟨h2,h⟩⟩
   ·exact hk.elim
  ·exact hk.elim
 ·exact hk.elim
theorem bR1 (d:Option TyD) (f:Nat) (x:aH):Det (aLW d f x):=by
 intro K hk
 unfold aLW at hk ⊢
 split at hk
 ·split at hk
  ·rename_i hf
   obtain⟨h1,hk⟩:=hk
   split at hk
   ·exact⟨_,hk,λK' h=>by first|exact⟨h1,h⟩|(simp only[hf];exact⟨h1,h⟩)⟩
   ·exact⟨_,hk,λK' h=>by first|exact⟨h1,h⟩|(simp only[hf];exact⟨h1,h⟩)⟩
   ·exact hk.elim
  ·exact hk.elim
 ·exact hk.elim
theorem bR2 (re:Option nP) (x i:aH):Det (aLX re x i):=by
 intro K hk
 unfold aLX at hk ⊢
 split at hk
 ·split at hk
  ·exact⟨_,hk.2.2.2,λK' h=>⟨hk.1,hk.2.1,hk.2.2.1,h⟩⟩
  ·exact⟨_,hk.2.2.2,λK' h=>⟨hk.1,hk.2.1,hk.2.2.1,h⟩⟩
  ·exact hk.elim
 ·exact hk.elim
theorem bR3 (d:Option TyD) (x i:aH):Det (aHJ d x i):=by
 intro K hk
 unfold aHJ at hk ⊢
 split at hk
 ·obtain⟨h1,hk⟩:=hk
  split at hk
  ·rename_i c hc;exact⟨_,hk,λK' h=>by first|exact⟨h1,h⟩|(simp only[hc];exact⟨h1,h⟩)⟩
  ·exact hk.elim
 ·exact hk.elim
theorem bEL (r:Option nP) (sz i off:Nat) (es:List (List aH)) (h:aE):Det (lS r (.ip sz es i off) h):=by
 intro K hk
 unfold lS at hk ⊢
 split at hk
 ·simp only at hk ⊢
  split at hk
  ·rename_i he
   split at hk
   ·rename_i x hx;exact⟨x,hk,λK' h=>by first|exact h|(simp only[he,hx];exact h)⟩
   ·exact hk.elim
  ·exact hk.elim
 ·exact hk.elim
theorem a7I (r:Option nP) (sz i off:Nat) (es:List (List aH)) (h h':aE) (K:aH->Prop):lS r (.ip sz es i off) h K=lS r (.ip sz es i off) h' K:=by
 unfold lS;rfl
theorem aZU {P:Program} {t:TypeId} {x:aH} {lo hi:Option aH} {K:aH->Prop} (h:pT P t x lo hi K):vD P t x lo hi K:=by
 unfold vD
 split
 ·simp only[pT]at h
  split at h
  ·rename_i re hre
   obtain⟨h1,h⟩:=h
   split at h
   ·rename_i l m hl hm
    obtain rfl:_=m:=gV hm
    obtain⟨a,b,c,d⟩:=h
    try rw[hre]
    simp only[hl]
    exact⟨h1,a,Int.le_of_lt b,λ_=>by simpa using d,λq=>absurd b aA⟩
   ·exact h.elim
  ·exact h.elim
 ·exact h
theorem bBE (P:Program) (t:TypeId) (x:aH) (lo hi:Option aH):Det (pT P t x lo hi):=by
 intro K hk
 unfold pT at hk ⊢
 split at hk
 ·obtain⟨h1,hk⟩:=hk
  split at hk
  ·rename_i e1 e2;exact⟨_,hk.2.2.2,λK' h=>by first|exact⟨h1,hk.1,hk.2.1,hk.2.2.1,h⟩|(simp only[e1,e2];exact⟨h1,hk.1,hk.2.1,hk.2.2.1,h⟩)⟩
  ·exact hk.elim
 ·split at hk
  ·rename_i e0
   obtain⟨h1,hk⟩:=hk
   split at hk
   ·rename_i e1 e2;exact⟨_,hk.2.2.2,λK' h=>by first|exact⟨h1,hk.1,hk.2.1,hk.2.2.1,h⟩|(simp only[e0,e1,e2];exact⟨h1,hk.1,hk.2.1,hk.2.2.1,h⟩)⟩
   ·exact hk.elim
  ·exact hk.elim
 ·split at hk
  ·rename_i e0
   obtain⟨h1,hk⟩:=hk
   split at hk
   ·rename_i e1 e2;exact⟨_,hk.2.2.2,λK' h=>by first|exact⟨h1,hk.1,hk.2.1,hk.2.2.1,h⟩|(simp only[e0,e1,e2];exact⟨h1,hk.1,hk.2.1,hk.2.2.1,h⟩)⟩
   ·exact hk.elim
  ·exact hk.elim
 ·exact hk.elim
theorem a2Y (P:Program) (t:TypeId) (x:aH) (lo:Option aH) (hi mx:aH):Det (s5 P t x lo hi mx):=by
 intro K hk
 unfold s5 at hk ⊢
 split at hk
 ·split at hk
  ·rename_i e0
   obtain⟨h1,hk⟩:=hk
   split at hk
   ·rename_i e1 e2 e3
    obtain⟨a,b,c,d,hk⟩:=hk
    exact⟨_,hk,λK' h=>by exact⟨h1,a,b,c,d,h⟩⟩
   ·exact hk.elim
  ·exact hk.elim
 ·exact hk.elim
theorem bBF (P:Program) (r:Option nP) (ps:List (Nat×aH)):Det (xV P r ps):=by
 intro K hk
 unfold xV at hk ⊢
 split at hk
 ·exact⟨_,hk.2.2.2,λK' h=>⟨hk.1,hk.2.1,hk.2.2.1,h⟩⟩
 ·exact hk.elim
theorem bR4 (re:Option nP) (len:Nat) (ps:List (Nat×aH)):Det λK=>yE re len ps λsz es=>K (.sl sz es true):=by
 intro K hk
 unfold yE at hk
 split at hk
 ·exact⟨_,hk.2.2.2.2.2,λK' h=>by unfold yE;exact⟨hk.1,hk.2.1,hk.2.2.1,hk.2.2.2.1,hk.2.2.2.2.1,h⟩⟩
 ·exact hk.elim
def aZV (P:Program) (t:Option TypeId) (x:aH) (K:aH->Prop):Prop :=
 match t with
 |some t=>match dOf P t,x with
  |some (.slice _),.sl _ es _=>K (.int .i64 es.length)
  |some (.slice _),.os _ _ _ n=>K (.int .i64 n)
  |some (.slice _),.bD=>K (.int .i64 0)
  |some .str,.str s=>K (.int .i64 s.length)
  | _,_=>False
 |none=>False
def bEM (P:Program) (g:FuncId) (args:List aH) (K:aH->Prop):Prop:=∃ r,fM P g args r/\K r
def aM0 (P:Program) (o:Oper) (ρ:Operand->aH) (K:aH->Prop):Prop :=
 match o.op with
 | .move x=>K (ρ x)
 | .assign x=>K (ρ x)
 | .pick c a b=>match ρ c with
  | .bool t=>(t=true->K (ρ a))/\(t=false->K (ρ b))
  | _=>False
 | .binOp op t x y _=>iU P op t (ρ x) (ρ y) K
 | .unOp op _ x=>aLV op (ρ x) K
 | .convert s d x=>aEN P s d (ρ x) K
 | .fieldAddr t x f=>aLW (dOf P t) f (ρ x) K
 | .indexAddr t x i=>aLX (nT P t) (ρ x) (ρ i) K
 | .index t x i=>aHJ (dOf P t) (ρ x) (ρ i) K
 | .load t a=>match ρ a with
  | .ip sz es i off=>lS (jH P t) (.ip sz es i off) (λ_=>none) K
  | _=>False
 | .slice t x lo hi none=>pT P t (ρ x) (lo.map ρ) (hi.map ρ) K
 | .extract t i=>match ρ t with
  | .jO cs=>match cs[i]? with|some x=>K x|none=>False
  | _=>False
 | .nilCheck x=>match ρ x with
  | .op n sz i k=>K (.op n sz i k)
  | .ip sz es i k=>K (.ip sz es i k)
  | _=>False
 | .makeFunc fn fs cs=>K (.fn fn (fs.toList.map ρ) (cs.toList.map ρ))
 | .build t ps=>xV P (jH P t) (ps.toList.map λp=>(p.1,ρ p.2)) K
 | .call { callee:=.value f,args:=as,argTypes:=_ }=>match ρ f with
  | .fn (.func g) first cap=>bEM P g (first++as.toList.map ρ++cap) K
  | _=>False
 | .call { callee:=.builtin .len,args:=as,argTypes:=ats }=>match as.toList with
  | [x]=>aZV P ats[0]? (ρ x) K
  | _=>False
 | .call { callee:=.builtin .max,args:=as,argTypes:=_ }=>match as.toList with
  | [x,y]=>match ρ x,ρ y with
   | .int k a,.int _ b=>(match ρ y with | .int k' _=>k'=k|_=>False)/\K (.int k (max a b))
   | _,_=>False
  | _=>False
 | .slice t x lo (some hi) (some mx)=>s5 P t (ρ x) (lo.map ρ) (ρ hi) (ρ mx) K
 | _=>False
theorem nL {P:Program} {o:Oper} {ρ:Operand->aH} {F:(aH->Prop)->Prop} {K:aH->Prop} (hd:Det F) (hk:F K) (hs:∀ h K',F (λv=>K' v h)->step P o ρ h K'):∃ v,yG P o ρ v/\K v:=by
 obtain⟨v,h1,h2⟩:=hd K hk
 exact⟨v,λh=>nQ (hs h _ (h2 (λv'=>v'=v/\h=h) ⟨rfl,rfl⟩)),h1⟩
theorem aEP {P:Program} {o:Oper} {ρ:Operand->aH} {K:aH->Prop} (hs:aM0 P o ρ K):∃ v,yG P o ρ v/\K v:=by
 unfold aM0 at hs
 split at hs
 case h_1 x ho=>exact nL (tI _) hs λh K' f=>by unfold step;rw[ho];exact f
 case h_2 x ho=>exact nL (tI _) hs λh K' f=>by unfold step;rw[ho];exact f
 case h_3 c a b ho =>
  split at hs
  ·rename_i t ht
   refine⟨if t then ρ a else ρ b,λh=>nQ ?_,?_⟩
   ·unfold step;rw[ho];simp only[ht]
    cases t <;> simp
   ·cases t
    ·exact hs.2 rfl
    ·exact hs.1 rfl
  ·exact hs.elim
 case h_4 op t x y ty ho=>exact nL (bKL P op t _ _) hs λh K' f=>by unfold step;rw[ho];exact bBD f
 case h_5 op t x ho=>exact nL (bR0 op _) hs λh K' f=>by unfold step;rw[ho];exact f
 case h_6 s d x ho=>exact nL (bEK P s d _) hs λh K' f=>by unfold step;rw[ho];exact f
 case h_7 t x f ho=>exact nL (bR1 _ f _) hs λh K' f=>by unfold step;rw[ho];exact f
 case h_8 t x i ho=>exact nL (bR2 _ _ _) hs λh K' f=>by unfold step;rw[ho];exact f
 case h_9 t x i ho=>exact nL (bR3 _ _ _) hs λh K' f=>by unfold step;rw[ho];exact f
 case h_10 t a ho =>
  split at hs
  ·rename_i sz es i off ha
   refine nL (bEL _ sz i off es _) hs λh K' f=>?_
   unfold step;rw[ho];simp only[ha];rw[a7I _ _ _ _ _ h (λ_=>none)];exact f
  ·exact hs.elim
 case h_11 t x lo hi ho=>exact nL (bBE P t _ _ _) hs λh K' f=>by unfold step;rw[ho];exact aZU f
 case h_12 t i ho =>
  split at hs
  ·rename_i cs ht
   split at hs
   ·rename_i x hx
    exact nL (tI _) hs λh K' f=>by unfold step;rw[ho];simp only[ht,hx];exact f
   ·exact hs.elim
  ·exact hs.elim
 case h_13 x ho =>
  split at hs
  ·rename_i n sz i k hx;exact nL (tI _) hs λh K' f=>by unfold step;rw[ho];simp only[hx];exact f
  ·rename_i sz es i k hx;exact nL (tI _) hs λh K' f=>by unfold step;rw[ho];simp only[hx];exact f
  ·exact hs.elim
 case h_14 fn fs cs ho=>exact nL (tI _) hs λh K' f=>by unfold step;rw[ho];exact f
 case h_15 t ps ho=>exact nL (bBF P _ _) hs λh K' f=>by unfold step;rw[ho];exact f
 case h_16 f as ats ho =>
  split at hs
  ·rename_i g first cap hf
   obtain⟨r,hr,hk⟩:=hs
   refine⟨r,λh=>nQ ?_,hk⟩
   unfold step;rw[ho];simp only[aEM,hf]
   exact hr h
  ·exact hs.elim
 case h_17 as ats ho =>
  split at hs
  ·rename_i x hax
   unfold aZV at hs
   split at hs
   ·rename_i t hat
    split at hs
    all_goals first
     |exact hs.elim
     |(rename_i e1 e2;refine nL (tI _) hs λh K' f=>?_;unfold step;rw[ho];simp only[aEM,hax,aVP,hat,e1,e2];first|exact λ_=>f|exact f)
   ·exact hs.elim
  ·exact hs.elim
 case h_18 as ats ho =>
  split at hs
  ·rename_i x y hax
   split at hs
   ·rename_i k a k' b hx hy
    refine⟨_,λh=>nQ ?_,hs.2⟩
    unfold step;rw[ho];simp only[aEM,hax,hx,hy]
    have:=hs.1;simp only[hy]at this;simp[this]
   ·exact hs.elim
  ·exact hs.elim
 case h_19 t x lo hi mx ho=>exact nL (a2Y P t _ _ _ _) hs λh K' f=>by unfold step;rw[ho];exact f
 case h_20=>exact hs.elim
def aLZ (P:Program) (ib:List Nat) (o:Oper) (ρ:Operand->aH) (K:aH->Prop):Prop :=
 match o.dst with
 |some d=>if ib.contains d then(match o.op with
   | .box _ x=>aPG (ρ x) K
   | .buildSlice t len ps=>yE (nT P t) len (ps.toList.map λp=>(p.1,ρ p.2)) λsz es=>K (.sl sz es true)
   | _=>aM0 P o ρ K)else aM0 P o ρ K
 |none=>aM0 P o ρ K
theorem aZW {P:Program} {ib:List Nat} {o:Oper} {ρ:Operand->aH} {F:(aH->Prop)->Prop} {K:aH->Prop} (hd:Det F) (hk:F K) (hs:∀ h K',F (λv=>K' v h)->yF P ib o ρ h K'):∃ v,yG P o ρ v/\K v:=by
 obtain⟨v,h1,h2⟩:=hd K hk
 exact⟨v,λh=>aEO (hs h _ (h2 (λv'=>v'=v/\h=h) ⟨rfl,rfl⟩)),h1⟩
theorem aVT {P:Program} {ib:List Nat} {o:Oper} {ρ:Operand->aH} {K:aH->Prop} (hs:aLZ P ib o ρ K):∃ v,yG P o ρ v/\K v:=by
 unfold aLZ at hs
 split at hs
 ·rename_i d hd
  split at hs
  ·rename_i hib
   split at hs
   ·rename_i t x ho
    exact aZW (ib:=ib) (bKK λ_=>tI _) hs λh K' f=>by unfold yF;rw[hd];simp only[hib,if_true,ho];exact f
   ·rename_i t len ps ho
    exact aZW (ib:=ib) (bR4 _ _ _) hs λh K' f=>by unfold yF;rw[hd];simp only[hib,if_true,ho];exact f
   ·exact aEP hs
  ·exact aEP hs
 ·exact aEP hs
def aZX (P:Program) (o:Oper) (ρ:Operand->aH) (h:aE) (K:Option Nat->aH->Prop):Prop :=
 match o.op with
 | .load t a=>match ρ a with
  | .op n sz i off=>lS (jH P t) (.op n sz i off) h λv=>K (some n) v
  | .ip sz es i off=>lS (jH P t) (.ip sz es i off) h λv=>K none v
  | _=>False
 | _=>False
theorem bKM (r:Option nP) (n sz i off:Nat) (h:aE):Det (lS r (.op n sz i off) h):=by
 intro K hk
 unfold lS at hk ⊢
 split at hk
 ·simp only at hk
  split at hk
  ·rename_i oC es e0
   obtain⟨h1,hk⟩:=hk
   split at hk
   ·rename_i e e1
    split at hk
    ·rename_i x e2
     exact⟨x,hk,λK' q=>by simp only[e0,e1,e2];exact⟨h1,q⟩⟩
    ·exact hk.elim
   ·exact hk.elim
  ·exact hk.elim
 ·exact hk.elim
theorem bEN (r:Option nP) (n sz i off:Nat) (h h':aE) (e:h' n=h n) (K:aH->Prop):lS r (.op n sz i off) h' K=lS r (.op n sz i off) h K:=by
 unfold lS;simp only[e]
theorem aZY {P:Program} {o:Oper} {ρ:Operand->aH} {h:aE} {K:Option Nat->aH->Prop} (hs:aZX P o ρ h K):(∃ n v,aVR P o ρ h n v/\K (some n) v)∨∃ v,yG P o ρ v/\K none v:=by
 unfold aZX at hs
 split at hs
 ·rename_i t a ho
  split at hs
  ·rename_i n sz i off ha
   obtain⟨v,h1,h2⟩:=bKM _ n sz i off h _ hs
   refine .inl ⟨n,v,λh' e=>nQ ?_,h1⟩
   unfold step;rw[ho];simp only[ha]
   rw[bEN _ _ _ _ _ h h' e]
   have:=h2 (λv'=>v'=v/\h'=h') ⟨rfl,rfl⟩
   simpa using this
  ·rename_i sz es i off ha
   obtain⟨v,h1,h2⟩:=bEL _ sz i off es h _ hs
   refine .inr ⟨v,λh'=>nQ ?_,h1⟩
   unfold step;rw[ho];simp only[ha]
   rw[a7I _ _ _ _ _ h' h]
   have:=h2 (λv'=>v'=v/\h'=h') ⟨rfl,rfl⟩
   simpa using this
  ·exact hs.elim
 ·exact hs.elim
def aZZ (cr:List (Nat×Nat)) (i:Nat):Option Nat->List (Nat×Nat)->List (Nat×Nat)
 |some n,pr=>if bEH cr i then(i,n)::pr else pr
 |none,pr=>pr
def aPP (cr:List (Nat×Nat)) (i:Nat):List (Nat×Nat)->aE->aE->Prop
 | [],_,_=>True
 |(x,n)::pr,h,h'=>(if aD1 cr x i then h' n=h n else True)/\aPP cr i pr h h'
theorem a7J {cr:List (Nat×Nat)} {i:Nat} {h h':aE}:∀ {pr:List (Nat×Nat)},aPP cr i pr h h'->aPK cr i pr h h'
 | [],_=>λp hp=>by simp at hp
 |(x,n)::pr,q=>λp hp hc=>by
  simp only[aPP]at q
  rcases pY.1 hp with rfl|hp
  ·have:=q.1;rw[if_pos hc]at this;exact this
  ·exact a7J q.2 p hp hc
def aM1 (P:Program) (ib:List Nat) (cr:List (Nat×Nat)) (i:Nat) (m:Bool) (o:Oper) (ρ:Operand->aH) (pr:List (Nat×Nat)) (h:aE) (K:List (Nat×Nat)->aH->aE->Prop):Prop :=
 if m then(if a2X o then aZX P o ρ h (λn v=>K (aZZ cr i n pr) v h)else yF P ib o ρ h (λv h'=>aPP cr i pr h h'/\K pr v h'))
 else aLZ P ib o ρ (λv=>K pr v h)
def OpD (P:Program) (ib:List Nat) (ops:Array Oper) (ms:List Nat) (cr:List (Nat×Nat)) (i:Nat) (pr:List (Nat×Nat)) (τ:bJ) (h:aE) (C:List (Nat×Nat)->bJ->aE->Prop):Prop :=
 match ops[i]? with
  |none=>False
  |some o=>match o.guard with
   |none=>aM1 P ib cr i (ms.contains i) o (xG ops o τ) pr h (λpr' v h'=>C pr' (iT τ o.dst v) h')
   |some (g,b)=>match (ops[g]?).bind (·.dst)with
    |some d=>match b7 τ d with
     | .bool b'=>(b'=b->aM1 P ib cr i (ms.contains i) o (xG ops o ((d,.bool b)::τ)) pr h (λpr' v h'=>C pr' (iT ((d,.bool b)::τ) o.dst v) h')) /\
       (b'=!b->C pr (iT ((d,.bool !b)::τ) o.dst (.jO [])) h)
     | .jO []=>C pr (iT τ o.dst (.jO [])) h
     | _=>False
    |none=>False
def aL0 (P:Program) (ib:List Nat) (ops:Array Oper) (ms:List Nat) (cr:List (Nat×Nat)):wN->List (Nat×Nat)->bJ->aE->(bJ->aE->Prop)->Prop
 | .nil,_,τ,h,K=>K τ h
 | .op i l,pr,τ,h,K=>OpD P ib ops ms cr i pr τ h λpr τ h=>aL0 P ib ops ms cr l pr τ h K
 | .alt i l j q,pr,τ,h,K=>(OpD P ib ops ms cr i pr τ h λpr τ h=>aL0 P ib ops ms cr l pr τ h K)/\OpD P ib ops ms cr j pr τ h λpr τ h=>aL0 P ib ops ms cr q pr τ h K
theorem OpD.sound {P:Program} {ib:List Nat} {ops:Array Oper} {ms:List Nat} {cr:List (Nat×Nat)} {i:Nat} {C C':List (Nat×Nat)->bJ->aE->Prop}
  (hC:∀ (pr pr':List (Nat×Nat)) (τ τ':bJ) (h:aE),(∀ p∈pr',p∈pr∨∀ j,aD1 cr p.1 j=false)->TEq τ τ'->C pr τ h->C' pr' τ' h) (pr:List (Nat×Nat)) (τ:bJ) (h:aE) (r:OpD P ib ops ms cr i pr τ h C):OpL P ops ms i cr pr τ h C':=by
  have ids:∀ pr:List (Nat×Nat),∀ p∈pr,p∈pr∨∀ j,aD1 cr p.1 j=false:=λ_ _ h=>.inl h
  unfold OpD at r
  unfold OpL
  cases ho:ops[i]? with
  |none=>simp[ho]at r
  |some o =>
   simp only[ho]at r ⊢
   have go:∀ σ:bJ,(∀ k,b7 σ k=b7 τ k)->want ops τ o=some true->aM1 P ib cr i (ms.contains i) o (xG ops o σ) pr h (λpr' v h'=>C pr' (iT σ o.dst v) h')->(match want ops τ o with
      |none=>False
      |some true=>if ms.contains i then(if a2X o then(∃ n v,aVR P o (xG ops o τ) h n v/\C' ((i,n)::pr) (iT τ o.dst v) h)∨∃ v,yG P o (xG ops o τ) v/\C' pr (iT τ o.dst v) h
         else rS P o (xG ops o τ) h λv h'=>aPK cr i pr h h'/\C' pr (iT τ o.dst v) h')
        else ∃ v,yG P o (xG ops o τ) v/\C' pr (iT τ o.dst v) h
      |some false=>C' pr (iT τ o.dst (.jO [])) h):=by
    intro σ hσ hw r
    rw[hw]
    simp only
    rw[s6 (ops:=ops) (o:=o) (τ:=σ) (τ':=τ) λt _=>hσ t]at r
    unfold aM1 at r
    split at r
    ·rename_i hm;rw[if_pos hm]
     split at r
     ·rename_i hl;rw[if_pos hl]
      rcases aZY r with⟨n,v,h1,h2⟩|⟨v,h1,h2⟩
      ·refine .inl ⟨n,v,h1,hC _ _ _ _ h ?_ (TEq.put hσ _ _) h2⟩
       intro p hp
       simp only[aZZ]
       split
       ·exact .inl hp
       ·rename_i hn
        rcases pY.1 hp with rfl|hp
        ·exact .inr λj=>aZO (by simpa using hn)
        ·exact .inl hp
      ·exact .inr ⟨v,h1,hC _ _ _ _ h (ids _) (TEq.put hσ _ _) h2⟩
     ·rename_i hl;rw[if_neg hl]
      exact(aEO r).mono λv h' x=>⟨a7J x.1,hC _ _ _ _ h' (ids _) (TEq.put hσ _ _) x.2⟩
    ·rename_i hm;rw[if_neg hm]
     obtain⟨v,h1,h2⟩:=aVT r
     exact⟨v,h1,hC _ _ _ _ h (ids _) (TEq.put hσ _ _) h2⟩
   have skip:∀ σ:bJ,(∀ k,b7 σ k=b7 τ k)->want ops τ o=some false->C pr (iT σ o.dst (.jO [])) h->(match want ops τ o with
      |none=>False
      |some true=>if ms.contains i then(if a2X o then(∃ n v,aVR P o (xG ops o τ) h n v/\C' ((i,n)::pr) (iT τ o.dst v) h)∨∃ v,yG P o (xG ops o τ) v/\C' pr (iT τ o.dst v) h
         else rS P o (xG ops o τ) h λv h'=>aPK cr i pr h h'/\C' pr (iT τ o.dst v) h')
        else ∃ v,yG P o (xG ops o τ) v/\C' pr (iT τ o.dst v) h
      |some false=>C' pr (iT τ o.dst (.jO [])) h):=by
    intro σ hσ hw r
    rw[hw]
    exact hC _ _ _ _ h (ids _) (TEq.put hσ _ _) r
   cases hg:o.guard with
   |none=>simp only[hg]at r;exact go τ (λ_=>rfl) (by simp[want,hg]) r
   |some gb =>
    obtain⟨g,b⟩:=gb
    simp only[hg]at r
    split at r
    ·rename_i d hd
     split at r
     ·rename_i b' hb'
      by_cases e:b'=b
      ·subst e
       exact go _ (aCF hb') (by simp[want,hg,hd,hb']) (r.1 rfl)
      ·have e':b'=!b:=by cases b' <;> cases b <;> simp_all
       subst e'
       exact skip _ (aCF hb') (by simp only[want,hg,hd,hb'];cases b <;> rfl) (r.2 rfl)
     ·rename_i hb';exact skip τ (λ_=>rfl) (by simp[want,hg,hd,hb']) r
     ·exact r.elim
    ·exact r.elim
theorem aL0.sound {P:Program} {ib:List Nat} {ops:Array Oper} {ms:List Nat} {cr:List (Nat×Nat)} {K:bJ->aE->Prop} (hK:∀ τ τ' h,TEq τ τ'->K τ h->K τ' h):∀ (l:wN) (pr:List (Nat×Nat)) (τ:bJ) (h:aE),aL0 P ib ops ms cr l pr τ h K->lT P ops ms cr l pr τ h K
 | .nil,_,_,_,r=>r
 | .op i l,pr,τ,h,r=>OpD.sound (λpr pr' τ τ' h hs e r=>lT.congr hK l _ _ _ _ h hs e (aL0.sound hK l pr τ h r)) pr τ h r
 | .alt i l j q,pr,τ,h,r=>⟨OpD.sound (λpr pr' τ τ' h hs e r=>lT.congr hK l _ _ _ _ h hs e (aL0.sound hK l pr τ h r)) pr τ h r.1,OpD.sound (λpr pr' τ τ' h hs e r=>lT.congr hK q _ _ _ _ h hs e (aL0.sound hK q pr τ h r)) pr τ h r.2⟩
abbrev Marks:=Nat->List Nat×wN×List (Nat×Nat)
def aPQ (id:Nat) (K:bJ->aE->Prop) (Q:Exit->bJ->aE->Prop):Exit->bJ->aE->Prop
 | .exit i,τ,h=>if i=id then K τ h else Q (.exit i) τ h
 |e,τ,h=>Q e τ h
def hwp (P:Program) (N:Nat) (keep ib:List Nat) (mk:Marks):Code->(bJ->aE->Prop)->(Exit->bJ->aE->Prop)->bJ->aE->Prop
 | .skip,K,Q,τ,h=>K τ h
 | .region id ops false,K,Q,τ,h=>aJN P ib ops ops.toList τ h λτ' h'=>K (Hl.prune keep τ') h'
 | .region id ops true,K,Q,τ,h=>aL0 P ib ops (mk id).1 (mk id).2.2 (mk id).2.1 [] τ h λτ' h'=>K (Hl.prune keep τ') h'
 | .seq a b,K,Q,τ,h=>hwp P N keep ib mk a (λτ h=>hwp P N keep ib mk b K Q τ h) Q τ h
 | .cond c a b,K,Q,τ,h=>match zE τ c with
  | .bool t=>(t=true->hwp P N keep ib mk a K Q τ h)/\(t=false->hwp P N keep ib mk b K Q τ h)
  | _=>False
 | .block id c,K,Q,τ,h=>hwp P N keep ib mk c K (aPQ id K Q) τ h
 | .loop c,K,Q,τ,h=>tH P N (.loop c) (aA7 K Q) τ h
 | .exit id,K,Q,τ,h=>Q (.exit id) τ h
 | .ret,K,Q,τ,h=>Q .ret τ h
 | _,_,_,_,_=>False
def iV (N:Nat) (mk:Marks):Code->Bool
 | .region _ ops false=>aHL N ops
 | .region id ops true=>aHL N ops && bRZ ops (mk id).1 (mk id).2.1 (mk id).2.2
 | .seq a b=>iV N mk a && iV N mk b
 | .cond _ a b=>iV N mk a && iV N mk b
 | .block _ c=>iV N mk c
 | .loop c=>iV N mk c
 | _=>true
theorem vE {P:Program} {N:Nat} {keep ib:List Nat} {mk:Marks} (hmix:P.follows .mixedOrders=true):∀ (c:Code) (K:bJ->aE->Prop) (Q:Exit->bJ->aE->Prop) (τ:bJ) (h:aE),iV N mk c=true->hwp P N keep ib mk c K Q τ h->tH P N c (aA7 K Q) τ h
 | .skip,K,Q,τ,h,_,hw=>.skip hw
 | .region id ops false,K,Q,τ,h,hc,hw=>.region hc keep hw
 | .region id ops true,K,Q,τ,h,hc,hw=>by
  simp only[iV,oW]at hc
  exact .aZS hmix hc.1 hc.2 keep (aL0.sound (λτ τ' h e q=>by
   have:Hl.prune keep τ=Hl.prune keep τ':=by unfold Hl.prune;exact aG7 λk _=>by rw[e k]
   rwa [←this]) _ _ _ _ hw)
 | .seq a b,K,Q,τ,h,hc,hw=>by
  simp only[iV,oW]at hc
  refine .seq ((vE hmix a _ _ τ h hc.1 hw).mono ?_)
  intro e τ' h' q
  cases e <;> simp only[aA7]at q ⊢ <;> first|exact q|exact vE hmix b _ _ _ _ hc.2 q
 | .cond c a b,K,Q,τ,h,hc,hw=>by
  simp only[iV,oW]at hc
  unfold hwp at hw
  split at hw
  ·rename_i t ht
   exact .cond ht (λe=>vE hmix a _ _ _ _ hc.1 (hw.1 e)) (λe=>vE hmix b _ _ _ _ hc.2 (hw.2 e))
  ·exact hw.elim
 | .block id c,K,Q,τ,h,hc,hw=>.block ((vE hmix c _ _ τ h hc hw).mono λe τ' h' q=>by
   cases e <;> simp only[aA7,aPQ,aVN]at q ⊢ <;> first|exact q|(split at q <;> rename_i hi <;> simp_all [aA7,aVN]))
 | .loop c,K,Q,τ,h,hc,hw=>hw
 | .exit id,K,Q,τ,h,hc,hw=>.exit hw
 | .ret,K,Q,τ,h,hc,hw=>.ret hw
 | .rangeFunc _ _ _ _,_,_,_,_,_,hw=>hw.elim
 | .scope _,_,_,_,_,_,hw=>hw.elim
 | .label _,_,_,_,_,_,hw=>hw.elim
 | .goto _,_,_,_,_,_,hw=>hw.elim
 | .refuse _,_,_,_,_,_,hw=>hw.elim
theorem aPR {P:Program} {f:FuncId} {fn:Func} {c:Code} (N:Nat) (keep ib:List Nat) (mk:Marks) {args:List aH} {h:aE} {K:aH->aE->Prop} (hmix:P.follows .mixedOrders=true) (hf:P.funcs[f]?=some fn) (hb:fn.body=some c)
  (hck:(kC P f && decide (fn.ntmps=N) && iV N mk c)=true) (hl:args.length<=N) {K':aH->aE->Prop}
  (hw:hwp P N keep ib mk c (aJO P fn.results K' .normal) (aJO P fn.results K') (sC 0 args) h) (hk:∀ r h',K' r h'->∃ g:aE,g.le h'/\K r g):jC P f args h K:=by
 simp only[oW,decide_eq_true_eq]at hck
 refine bEG hf hb hck.1.1 hck.1.2 hl ((vE hmix c _ _ _ _ hck.2 hw).mono ?_) hk
 intro e τ h q
 cases e <;> exact q
theorem bKN {P:Program} {f:FuncId} {fn:Func} {c:Code} (N:Nat) (keep ib:List Nat) (mk:Marks) {args:List aH} {r:aH} (hmix:P.follows .mixedOrders=true) (hf:P.funcs[f]?=some fn) (hb:fn.body=some c)
  (hck:(kC P f && decide (fn.ntmps=N) && iV N mk c)=true) (hl:args.length<=N)
  (hw:∀ h,hwp P N keep ib mk c (aJO P fn.results (λr' h'=>r'=r/\h.le h') .normal) (aJO P fn.results λr' h'=>r'=r/\h.le h') (sC 0 args) h):fM P f args r :=
 λh=>aPR N keep ib mk hmix hf hb hck hl (hw h) λ_ _ hx=>⟨h,hx.2,hx.1,rfl⟩
theorem bP {h h':aE} {n:Nat} {o:bE} (hn:h n=none):h.le (aR h' n o)↔h.le h':=by
 constructor
 ·intro hl m
  by_cases e:m=n
  ·subst e;exact .inl hn
  ·have:=hl m;rwa [aI _ _ _ _ e]at this
 ·exact aE.bP hn
theorem r9 {h:aE} {n m:Nat} {o:bE}:aR h n o m=none↔m≠n/\h m=none:=by
 simp only[aR];split <;> simp_all
def c4:bJ->bJ->Prop
 | [],_=>True
 |(k,v)::r,τ=>b7 τ k=v/\c4 r τ
theorem c4.get:∀ {l τ:bJ},c4 l τ->∀ k,b7 l k=.any∨b7 l k=b7 τ k
 | [],τ,_,k=>.inl rfl
 |(j,v)::r,τ,h,k=>by
  simp only[b7]
  by_cases e:j=k
  ·subst e;right;rw[if_pos rfl];exact h.1.symm
  ·rw[if_neg e];exact c4.get h.2 k
theorem tH.weaken {P:Program} {N:Nat} {c:Code} {Q:Exit->bJ->aE->Prop} {σ τ:bJ} {g h:aE} (hs:c4 σ τ) (hl:g.le h) (x:tH P N c Q σ g):tH P N c Q τ h :=
 tH.forget hl λds E w a R r=>x ds E w a R ⟨r.size,r.defers,λk=>by
  rcases hs.get k with e|e
  ·rw[e];exact .any _
  ·rw[e];exact r.get k⟩
theorem tH.aZ0 {P:Program} {N:Nat} {c:Code} {Q:Exit->bJ->aE->Prop} {τ:bJ} {h:aE} {α:Type} (S:α->bJ) (H:α->aE) (side:α->Prop) (μ:α->Nat) (x₀:α)
  (h₀:c4 (S x₀) τ/\(H x₀).le h/\side x₀)
  (round:∀ x,side x->tH P N c (aA7 (λτ' h'=>∃ x',c4 (S x') τ'/\(H x').le h'/\side x'/\μ x'<μ x) Q) (S x) (H x)):tH P N (.loop c) Q τ h :=
 tH.loop (λx τ h=>c4 (S x) τ/\(H x).le h/\side x) μ x₀ h₀ λx τ h ⟨h1,h2,h3⟩ =>
  tH.weaken h1 h2 ((round x h3).mono λe τ h q=>by
   cases e <;> simp only[aA7]at q ⊢ <;> first|exact q|(obtain⟨x',a,b,c,d⟩:=q;exact⟨x',⟨a,b,c⟩,d⟩))
end Go.Hl
