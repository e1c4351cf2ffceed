/-
  Contracts of functions and laws of the layer over the walk.
-/
import Derived.Test.YtoomflalicffnaaGreatHlA
import Derived.Orders
namespace Go.Hl
set_option linter.unusedVariables false
set_option linter.unusedSimpArgs false
def aQS:List aE->Nat->List aE->List aE
 |es,_,[]=>es
 |es,off,v::vs=>aQS (es.set off v) (off+1) vs
theorem zN:∀ (vs es:List aE) (off:Nat),(aQS es off vs).length=es.length
 | [],_,_=>rfl
 |v::vs,es,off=>by simp[aQS,zN vs]
theorem aQT:∀ (vs es:List aE) (off k:Nat),off+vs.length<=es.length->(aQS es off vs)[k]?=if off<=k/\k<off+vs.length then vs[k-off]? else es[k]?
 | [],es,off,k,_=>by
  rw[if_neg]
  ·rfl
  ·simp only[sB];omega
 |v::vs,es,off,k,h=>by
  simp only[tT]at h
  rw[aQS,aQT vs _ _ _ sP]
  by_cases e:k=off
  ·subst e
   rw[if_neg aA,if_pos dG,qT aA]
   try simp
  ·rw[rT (iK e)]
   by_cases h1:off+1<=k/\k<off+1+vs.length
   ·rw[if_pos h1,if_pos sP,show k-off=(k-(off+1))+1 by omega];simp
   ·rw[if_neg h1,if_neg sP]
def aIF (place:Nat->Option (Nat×Nat)) (es:List aE):List (Nat×aE)->List aE
 | []=>es
 |(i,v)::r=>match place i with
  |some (off,_)=>aIF place (aQS es off v.cells) r
  |none=>es
def xS (place:Nat->Option (Nat×Nat)) (n:Nat):List (Nat×aE)->Bool
 | []=>true
 |(i,v)::r=>(match place i with
  |some (off,sz)=>decide (v.cells.length=sz) && decide (off+sz<=n)
  |none=>false) && v.cells.all aE.flat && xS place n r
theorem bR5 (a:Array Value):a.toList.length=a.size:=rfl
theorem aL4 {E:Env} {h:aB} {w:World} {ρ:Operand->aE} {place:Nat->Option (Nat×Nat)} {ρc:Operand->Value} (hρ:∀ x,fC E h w (ρ x) (ρc x)):∀ (ps:List (Nat×Operand)) (es:List aE) (cs:Array Value),xS place es.length (ps.map λp=>(p.1,ρ p.2))=true ->
  dV E h w es cs.toList->∃ cs',Instr.fill place cs (ps.map λp=>(p.1,ρc p.2))=some cs'/\dV E h w (aIF place es (ps.map λp=>(p.1,ρ p.2))) cs'.toList
 | [],es,cs,_,hL=>⟨cs,rfl,hL⟩
 |(i,x)::ps,es,cs,hf,hL=>by
  simp only[p5,xS,l7]at hf
  obtain⟨⟨hp,hfl⟩,hf⟩:=hf
  cases hpl:place i with
  |none=>simp[hpl]at hp
  |some os =>
   obtain⟨off,sz⟩:=os
   simp only[hpl,l7,decide_eq_true_eq]at hp
   obtain⟨hsz,hfit⟩:=hp
   obtain⟨hcL,hc1⟩:=(hρ x).aER hfl
   have hvs:(ρc x).cells.size=sz:=by have:=hcL.length;simp at this;omega
   have hcsz:cs.size=es.length:=by have:=hL.length;simpa using this.symm
   have hget:=λk=>yT (ρc x).cells off cs k aA
   have hsize:=wU (ρc x).cells off cs
   obtain⟨cs',r1,r2⟩:=aL4 hρ ps (aQS es off (ρ x).cells) ((ρc x).cells.zipIdx.foldl (λcs (cj:Value×Nat)=>cs.setIfInBounds (off+cj.2) cj.1) cs) (by rw[zN];exact hf) (by
    refine dV.mk (by rw[zN,bR5,hsize,hcsz]) ?_
    intro k y v hy hv
    rw[aQT _ _ _ _ aA]at hy
    rw[al6,hget k]at hv
    by_cases hr:off<=k/\k<off+(ρ x).cells.length
    ·rw[if_pos hr]at hy
     rw[if_pos aA]at hv
     exact hcL.get _ _ _ hy aCZ
    ·rw[if_neg hr]at hy
     rw[if_neg aA]at hv
     exact hL.get _ _ _ hy aCZ)
   refine⟨cs',?_,?_⟩
   ·simp only[p5,Instr.fill,hpl,hvs]
    rw[if_neg sP]
    exact r1
   ·simpa only[p5,aIF,hpl]using r2
def sD (P:Program):TyD->Nat->Option (Nat×Nat)
 | .st fs,i=>(fs[i]?).map λf=>(f.1,f.2.2)
 | .arr _ e,i=>match iE P e with|some re=>some (i*re.sz,re.sz)|none=>none
 | _,_=>none
def zO (P:Program):TyD->Bool
 | .st _=>true
 | .arr _ e=>(iE P e).isSome
 | _=>false
theorem a0I {P:Program} {o:Oper} {ρ:Operand->aE} {h:aB} {K:aE->aB->Prop} (t:TypeId) (ps:Array (Nat×Operand)) (r:lJ) (ho:o.op=.build t ps) (ht:iE P t=some r) (hd:zO P r.d=true) (hz:r.zero≠[])
  (hf:xS (sD P r.d) r.zero.length (ps.toList.map λp=>(p.1,ρ p.2))=true) (hk:K (.agg (aIF (sD P r.d) r.zero (ps.toList.map λp=>(p.1,ρ p.2)))) h):oV P o ρ h K :=
 cG hk λE w ρc R hρ=>by
  obtain⟨u,hu,hud,hrun⟩:=cE (w:=w) ht
  obtain⟨z,hzr,hzz⟩:=pP (w:=w) ht hz
  have hL:dV E h w r.zero z.cells.toList:=by rw[←hzz];exact qE E h w _
  obtain⟨cs,h1,h2⟩:=aL4 hρ ps.toList r.zero z.cells hf hL
  refine⟨.agg cs,?_,by have:=fC.agg (E:=E) (h:=h) (w:=w) _ cs.toList h2.length h2.get;simpa using this⟩
  have hmap:(ps.map λ(i,x)=>(i,ρc x)).toList=ps.toList.map λp=>(p.1,ρc p.2):=by simp
  cases hdd:r.d with
  |st fs =>
   obtain⟨gs,rfl,hall,hgs⟩:=a28 (hud.trans hdd)
   have hpl:∀ i:Nat,((gs.toList.map λf=>(f.offset,P.cellsOf f.type)).toArray)[i]?=sD P r.d i:=by
    intro i
    rw[hdd]
    simp only[sD,←hgs,aTU,qR,Option.map_map]
    rfl
   have hm:(gs.mapM λf=>(do pure (f.offset,←sizeOf f.type):Sem (Nat×Nat))).run P w=.ok (gs.toList.map λf=>(f.offset,P.cellsOf f.type)).toArray w:=by
    rw[←Array.toArray_toList (xs:=gs),List.mapM_toArray]
    have key:∀ l:List Field,l.all (λf=>(P.info? f.type).isSome)=true->(l.mapM λf=>(do pure (f.offset,←sizeOf f.type):Sem (Nat×Nat))).run P w=.ok (l.map λf=>(f.offset,P.cellsOf f.type)) w:=by
     intro l
     induction l with
     |nil=>intro _;simp
     |cons f l ih =>
      intro hl
      simp only[List.all_cons,l7]at hl
      simp only[List.mapM_cons,Sem.run_bind,zH hl.1,Result.andThen_ok,Sem.run_pure,ih hl.2,p5]
    have hk':=key _ hall
    simp only[bind_pure_comp]at hk' ⊢
    simp[hk']
   simp only[execOp,ho,Instr.build,Sem.run_bind,hzr,Result.andThen_ok,hrun,hm,hmap]
   have:(λx=>(gs.toList.map λf=>(f.offset,P.cellsOf f.type)).toArray[x]?)=sD P r.d:=funext hpl
   rw[this,h1]
   simp
  |arr n e =>
   obtain rfl:=a7X (hud.trans hdd)
   rw[hdd]at hd
   obtain⟨re,hre⟩:=Option.isSome_iff_exists.1 hd
   have hsize:=gQ (w:=w) hre
   simp only[execOp,ho,Instr.build,Sem.run_bind,hzr,Result.andThen_ok,hrun,hsize,hmap]
   have:(λi=>some (i*re.sz,re.sz))=sD P r.d:=by funext i;rw[hdd];simp[sD,hre]
   rw[this,h1]
   simp
  | _=>rw[hdd]at hd;simp[zO]at hd
section
variable {P:Program} {o:Oper} {ρ:Operand->aE} {h:aB} {K:aE->aB->Prop}
theorem aK3 (t et:TypeId) (x:Operand) (lo hi:Option Operand) (mx:Operand) (r re:lJ) (sz:Nat) (es:List (List aE)) (tg:Bool) (l m M:Int) (ho:o.op=.slice t x lo hi (some mx)) (ht:iE P t=some r) (hd:r.d=.slice et)
  (he:iE P et=some re) (hsz:re.sz=sz) (hx:ρ x=.sl sz es tg) (hhi:hi.isSome=true)
  (hl:jV 0 (lo.map ρ)=some l) (hh:jV es.length (hi.map ρ)=some m) (hM:jV 0 (some (ρ mx))=some M) (h0:0<=l) (h1:l<=m) (h2:m<=M) (h3:M<=es.length)
  (hk:K (.sl sz ((es.take m.toNat).drop l.toNat) (decide (M=m))) h):oV P o ρ h K :=
 cG hk λE w ρc R hρ=>by
  have hr:=hρ x
  rw[hx]at hr
  obtain⟨u,hu,hud,hrun⟩:=cE (w:=w) ht
  obtain rfl:=gX (hud.trans hd)
  have hsize:=gQ (w:=w) he
  have hml:maxLen=9223372036854775807:=rfl
  have key:∀ (a:Option Addr) (cap:Nat),ρc x=.slice a es.length cap->es.length<=cap ->
    (execOp ρc o).run P w=.ok (.value (.slice (if M.toNat=l.toNat then a else a.map (·.add (l.toNat*sz))) (m.toNat-l.toNat) (M.toNat-l.toNat))) w:=by
   intro a cap hv hc
   have hM':jV cap (some (ρ mx))=some M:=by
    generalize ρ mx=z at hM
    cases z <;> simp[jV]at hM ⊢
    exact hM
   have hb:=uB (P:=P) R hρ true es.length cap lo hi (some mx) l m M hl hh hM' (λ_=>hhi) h0 h1 h2 aA
   simp only[aBT]at hb
   simp[execOp,ho,Instr.sliceAt,Instr.slice,hrun,hv,hb,hsize,hsz]
  have htk:∀ i j y,iJ ((es.take m.toNat).drop l.toNat) i j=some y->iJ es (l.toNat+i) j=some y:=by
   intro i j y hy
   obtain⟨e,h1,h2⟩:=kP hy
   rw[aHW]at h1
   have hlt:l.toNat+i<m.toNat:=by have:=(iO.1 h1).1;simp at this;omega
   rw[aHV hlt]at h1
   simp[iJ,h1,h2]
  cases hv:ρc x <;> rw[hv]at hr <;> try(cases hr;done)
  cases hr with
  |sl0 _ _ _ _ htt hmax ha =>
   have hl0:l=0:=by simp at h3;omega
   have hm0:m=0:=by simp at h3;omega
   have hM0:M=0:=by simp at h3;omega
   subst hl0 hm0 hM0
   refine⟨_,key _ _ aCZ dG,?_⟩
   simp only[a2E,a7N,List.drop_nil,a2F,a2A,sU,sB]
   exact .sl0 sz _ _ _ (λ_=>rfl) aA trivial
  |sl _ _ _ b o' cap cv hI hcap hmax htt hs hc h1' hrr =>
   rename_i cap
   refine⟨_,key _ cap hv hcap,?_⟩
   have hlen:((es.take m.toNat).drop l.toNat).length=m.toNat-l.toNat:=by simp;omega
   by_cases hemp:m.toNat=l.toNat
   ·have e1:(es.take m.toNat).drop l.toNat=[]:=a2G sP
    rw[e1,hemp,sU]
    refine .sl0 sz _ _ _ (λe=>?_) aA trivial
    simp at e;omega
   ·have hne:¬M.toNat=l.toNat:=by omega
    rw[if_neg hne,←hlen]
    simp only[aBT,lV]
    refine .sl sz _ _ b (o'+l.toNat*sz) (M.toNat-l.toNat) (λi j=>cv (l.toNat+i) j) hI aA aA (λe=>?_) ?_ ?_ ?_ ?_
    ·simp at e;omega
    ·intro e he
     exact hs e (aZ7 (aZ8 he))
    ·intro i j y hy
     rw[←hc _ _ _ (htk i j y hy)];congr 2;rw[tV];omega
    ·intro i j y hy;exact h1' _ _ _ (htk i j y hy)
    ·intro i j y hy;exact hrr _ _ _ (htk i j y hy)
theorem aDA (t et:TypeId) (x:Operand) (lo hi:Option Operand) (r re:lJ) (n sz i len:Nat) (l m:Int) (ho:o.op=.slice t x lo hi none) (ht:iE P t=some r) (hd:r.d=.slice et)
  (he:iE P et=some re) (hsz:re.sz=sz) (hx:ρ x=.os n sz i len)
  (hl:jV 0 (lo.map ρ)=some l) (hh:jV len (hi.map ρ)=some m) (h0:0<=l) (h1:l<m) (h2:m<=len)
  (hk:K (.os n sz (i+l.toNat) (m.toNat-l.toNat)) h):oV P o ρ h K :=
 cG hk λE w ρc R hρ=>by
  have hr:=hρ x
  rw[hx]at hr
  obtain⟨u,hu,hud,hrun⟩:=cE (w:=w) ht
  obtain rfl:=gX (hud.trans hd)
  have hsize:=gQ (w:=w) he
  have hml:maxLen=9223372036854775807:=rfl
  have key:∀ (a:Option Addr) (cap:Nat),ρc x=.slice a len cap->len<=cap ->
    (execOp ρc o).run P w=.ok (.value (.slice (if cap=l.toNat then a else a.map (·.add (l.toNat*sz))) (m.toNat-l.toNat) (cap-l.toNat))) w:=by
   intro a cap hv hc
   have hb:=uB (P:=P) R hρ true len cap lo hi none l m cap hl hh rfl dG h0 aA aA aA
   simp only[a2D]at hb
   have e:((cap:Int)).toNat=cap:=by omega
   simp[execOp,ho,Instr.sliceAt,Instr.slice,hrun,hv,hb,hsize,hsz,e]
  cases hv:ρc x <;> rw[hv]at hr <;> try(cases hr;done)
  cases hr with
  |os0 _ _ hd' hl'=>simp at h2;omega
  |os _ _ _ _ b o' cap t' mm hd' hl' hlc hmax hsh hm =>
   refine⟨_,key _ _ hv hlc,?_⟩
   rename_i cap
   rw[if_neg aA]
   simp only[aBT,lV]
   have e:o'+i*sz+l.toNat*sz=o'+(i+l.toNat)*sz:=by rw[tV];omega
   rw[e]
   refine .os n sz (i+l.toNat) (m.toNat-l.toNat) b o' (cap-l.toNat) t' mm hd' hl' aA aA hsh ?_
   rw[show i+l.toNat+(cap-l.toNat)=i+cap by omega]
   exact hm
theorem aK4 (t et:TypeId) (x:Operand) (lo hi:Option Operand) (r re:lJ) (n sz i len:Nat) (l m:Int) (ho:o.op=.slice t x lo hi none) (ht:iE P t=some r) (hd:r.d=.slice et)
  (he:iE P et=some re) (hsz:re.sz=sz) (hx:ρ x=.os n sz i len)
  (hl:jV 0 (lo.map ρ)=some l) (hh:jV len (hi.map ρ)=some m) (h0:0<=l) (h1:l=m) (a73:m=len)
  (hk:K (.os n sz (i+len) 0) h) (hk2:K (.sl sz [] true) h):oV P o ρ h K :=
 by
  intro E w ρc R hρ
  have hr:=hρ x
  rw[hx]at hr
  obtain⟨u,hu,hud,hrun⟩:=cE (w:=w) ht
  obtain rfl:=gX (hud.trans hd)
  have hsize:=gQ (w:=w) he
  have hml:maxLen=9223372036854775807:=rfl
  have key:∀ (a:Option Addr) (cap:Nat),ρc x=.slice a len cap->len<=cap ->
    (execOp ρc o).run P w=.ok (.value (.slice (if cap=l.toNat then a else a.map (·.add (l.toNat*sz))) (m.toNat-l.toNat) (cap-l.toNat))) w:=by
   intro a cap hv hc
   have hb:=uB (P:=P) R hρ true len cap lo hi none l m cap hl hh rfl dG h0 aA aA aA
   simp only[a2D]at hb
   have e:((cap:Int)).toNat=cap:=by omega
   simp[execOp,ho,Instr.sliceAt,Instr.slice,hrun,hv,hb,hsize,hsz,e]
  cases hv:ρc x <;> rw[hv]at hr <;> try(cases hr;done)
  have e0:m.toNat-l.toNat=0:=by omega
  cases hr with
  |os0 _ _ hd' hl' =>
   have hk':=key _ _ hv (bX _)
   refine .jM hk' (.same hk2 R ?_)
   rw[e0]
   have e1:l.toNat=0:=by have h2:=a73;simp at h2;omega
   rw[e1]
   exact .sl0 sz true _ _ (λ_=>rfl) (by simp[maxLen]) trivial
  |os _ _ _ _ b o' cap t' mm hd' hl' hlc hmax hsh hm =>
   have hk':=key _ _ hv hlc
   rename_i cap
   by_cases hcl:cap=l.toNat
   ·refine .jM hk' (.same hk2 R ?_)
    rw[e0,if_pos hcl]
    exact .sl0 sz true _ _ (λ_=>by omega) aA trivial
   ·refine .jM hk' (.same hk R ?_)
    rw[e0,if_neg hcl]
    simp only[aBT,lV]
    have hlm:m=len:=a73
    have e:o'+i*sz+l.toNat*sz=o'+(i+len)*sz:=by
     have:l.toNat=len:=by omega
     rw[this,tV];omega
    rw[e]
    refine .os n sz (i+len) 0 b o' (cap-l.toNat) t' mm hd' hl' aA aA hsh ?_
    rw[show i+len+(cap-l.toNat)=i+cap by omega]
    exact hm
def bytesOf:List (List aE)->Option (List UInt8)
 | []=>some []
 | [.int .u8 n]::r=>(bytesOf r).map (UInt8.ofNat n.toNat::·)
 | _=>none
theorem aDB:∀ {es:List (List aE)} {s:List UInt8},bytesOf es=some s->∃ ns:List Int,es=ns.map (λn=>[.int .u8 n])/\s=ns.map λn=>UInt8.ofNat n.toNat
 | [],s,h=>by simp[bytesOf]at h;subst h;exact⟨[],rfl,rfl⟩
 |e::r,s,h=>by
  unfold bytesOf at h
  split at h
  ·simp_all
  ·rename_i n r' heq
   obtain⟨rfl,rfl⟩:=List.cons.inj heq
   obtain⟨s',hs,rfl⟩:=q0.1 h
   obtain⟨ns,rfl,rfl⟩:=aDB hs
   exact⟨n::ns,rfl,rfl⟩
  ·simp at h
theorem foldl_push:∀ (ns:List Int) (r:ByteArray),ns.foldl (λr n=>r.push (UInt8.ofNat n.toNat)) r=⟨(r.data.toList++ns.map λn=>UInt8.ofNat n.toNat).toArray⟩
 | [],r=>by simp
 |n::ns,r=>by
  rw[List.foldl_cons,foldl_push ns]
  simp[ByteArray.push,aNB]
theorem aIG (s d et:TypeId) (x:Operand) (rs rd re:lJ) (es:List (List aE)) (tg:Bool) (bs:List UInt8) (ho:o.op=.convert s d x) (hs:iE P s=some rs) (hss:rs.d=.slice et) (het:iE P et=some re) (hee:re.d=.int .u8)
  (hd:iE P d=some rd) (hdd:rd.d=.str) (hx:ρ x=.sl 1 es tg) (hb:bytesOf es=some bs) (hk:K (.str bs) h):oV P o ρ h K :=
 cG hk λE w ρc R hρ=>by
  have hr:=hρ x
  rw[hx]at hr
  obtain⟨u,hu,hud,hrun⟩:=cE (w:=w) hs
  obtain rfl:=gX (hud.trans hss)
  obtain⟨u',hu',hud',hrun'⟩:=cE (w:=w) hd
  obtain rfl:=aC2 (hud'.trans hdd)
  obtain⟨ue,hue,hude,hrune⟩:=cE (w:=w) het
  obtain rfl:=aW4 (hude.trans hee)
  obtain⟨ns,rfl,rfl⟩:=aDB hb
  generalize hes:(ns.map λn=>[aE.int .u8 n])=es at hr
  cases hv:ρc x <;> rw[hv]at hr <;> try(cases hr;done)
  cases hr with
  |sl0 _ _ a cap htt hmax ha =>
   have hns:ns=[]:=by simpa using hes
   subst hns
   rename_i a cap
   refine⟨.string ⟨#[]⟩,?_,.str [] dG⟩
   cases a with
   |none=>simp[execOp,ho,convert,hv,hrun,hrun',hrune,Conv.bytesToString];rfl
   |some a =>
    have:=run_bytesToString (P:=P) w a 0 cap [] (by simp[loadCells,loadCellsFrom])
    simp[execOp,ho,convert,hv,hrun,hrun',hrune,this];rfl
  |sl _ _ _ b o' cap cv hI hcap hmax htt hs' hc h1' hrr =>
   rename_i cap
   subst hes
   have hns:(ns.map λn=>UInt8.ofNat n.toNat).length<=maxLen:=by simp at hcap ⊢;omega
   refine⟨.string ⟨(ns.map λn=>UInt8.ofNat n.toNat).toArray⟩,?_,.str _ hns⟩
   have hl:(loadCells ⟨b,o',none⟩ ns.length).run P w=.ok (ns.map (Value.int .u8)).toArray w:=by
    have:=run_loadCells_list (P:=P) (w:=w) ⟨b,o',none⟩ (ns.map (Value.int .u8)) (λj v hj=>by
     rw[qR]at hj
     obtain⟨n,hn,rfl⟩:=q0.1 hj
     have hat:iJ (ns.map λn=>[aE.int .u8 n]) j 0=some (.int .u8 n):=by simp[iJ,hn]
     have h1:=hc j 0 _ hat
     have h2:=lD (hrr j 0 _ hat)
     rw[lV,←h2,←h1]
     simp)
    simpa using this
   have:=run_bytesToString (P:=P) w ⟨b,o',none⟩ ns.length cap ns hl
   simp only[gT]at hv
   simp[execOp,ho,convert,hv,hrun,hrun',hrune,this]
   rw[foldl_push];simp
theorem aQU (t ty:TypeId) (x y:Operand) (a b:List UInt8) (ho:o.op=.binOp .add t x y ty) (hx:ρ x=.str a) (hy:ρ y=.str b) (hl:a.length+b.length<=9223372036854775807) (hk:K (.str (a++b)) h):oV P o ρ h K :=
 cG hk λE w ρc R hρ=>by
  obtain⟨e1,h1⟩:=u6 (hx▸hρ x)
  obtain⟨e2,h2⟩:=u6 (hy▸hρ y)
  have hg:(eqGuard .add t x y (ρc x) (ρc y)).run P w=.ok () w:=by rw[e1,e2];simp[eqGuard]
  refine⟨.string ⟨(a++b).toArray⟩,?_,.str _ (by simp[maxLen]at *;omega)⟩
  simp only[execOp,ho,Sem.run_bind,hg,Result.andThen_ok,e1,e2,binOp,Op.stringOp]
  have hs:¬((((⟨a.toArray⟩:ByteArray).size+(⟨b.toArray⟩:ByteArray).size:Nat):Int) > IntKind.i64.max):=by
   have:IntKind.i64.max=9223372036854775807:=by decide
   rw[this];simp[ByteArray.size];omega
  rw[if_neg hs]
  simp only[Sem.run_pure]
  congr 3
def aT0 (op:BinOp) (a b:List UInt8):Option Bool :=
 match op with
 | .lss=>some (Op.bytesLess a b)
 | .leq=>some (Op.bytesLess a b || a == b)
 | .gtr=>some (!(Op.bytesLess a b || a == b))
 | .geq=>some (!(Op.bytesLess a b))
 | _=>none
theorem aQV (op:BinOp) (t ty:TypeId) (x y:Operand) (a b:List UInt8) (c:Bool) (ho:o.op=.binOp op t x y ty) (hx:ρ x=.str a) (hy:ρ y=.str b) (hc:aT0 op a b=some c) (hk:K (.bool c) h):oV P o ρ h K :=
 cG hk λE w ρc R hρ=>by
  obtain⟨e1,h1⟩:=u6 (hx▸hρ x)
  obtain⟨e2,h2⟩:=u6 (hy▸hρ y)
  refine⟨.bool c,?_,.bool c⟩
  have q1:(⟨a.toArray⟩:ByteArray).toList=a:=by rw[ByteArray.toList_eq]
  have q2:(⟨b.toArray⟩:ByteArray).toList=b:=by rw[ByteArray.toList_eq]
  have hg:(eqGuard op t x y (ρc x) (ρc y)).run P w=.ok () w:=by
   rw[e1,e2];cases op <;> simp[eqGuard]
  rw[e1,e2]at hg
  cases op <;> simp only[aT0,aZ6,reduceCtorEq]at hc <;> subst hc <;>
   simp only[execOp,ho,Sem.run_bind,hg,Result.andThen_ok,e1,e2,binOp,Op.stringOp,q1,q2,Sem.run_pure]
theorem xT (op:BinOp) (t ty:TypeId) (x y:Operand) (r:lJ) (et:TypeId) (Z Z2:Prop) (ho:o.op=.binOp op t x y ty) (ht:iE P t=some r) (hd:r.d=.slice et)
  (hx:∀ E w v,fC E h w (ρ x) v->∃ a n c,v=.slice a n c/\(a=none->Z)/\(¬a=none->Z2)) (hy:ρ y=.bS)
  (hop:op=.eql∨op=.neq) (h1:Z->K (.bool (op == .eql)) h) (h2:Z2->K (.bool (op != .eql)) h):oV P o ρ h K:=by
 intro E w ρc R hρ
 have hyv:ρc y=.slice none 0 0:=by have:=hy▸hρ y;generalize ρc y=v at this;cases this;rfl
 obtain⟨u,hu,hud,hrun⟩:=cE (w:=w) ht
 obtain rfl:=gX (hud.trans hd)
 have hg:(eqGuard op t x y (ρc x) (ρc y)).run P w=.ok () w:=by
  rw[hyv];rcases hop with rfl|rfl <;> cases ρc x <;> simp[eqGuard]
 have a3B:∀ (d:Nat) (a:Option Addr) (n c:Nat),(Op.equalIn (d+1) t (.slice a n c) (.slice none 0 0)).run P w=.ok a.isNone w:=by
  intro d a n c
  cases a <;> simp[Op.equalIn,hrun]
 have key:∀ (a:Option Addr) (n c:Nat),(Op.equal t (.slice a n c) (.slice none 0 0)).run P w=.ok a.isNone w:=λa n c=>a3B 9999 a n c
 have fin:∀ (a:Option Addr) (n c:Nat),ρc x=.slice a n c->K (.bool (if op=.eql then a.isNone else !a.isNone)) h->∃ v,(execOp ρc o).run P w=.ok (.value v) w/\fC E h w (.bool (if op=.eql then a.isNone else !a.isNone)) v:=by
  intro a n c e hk
  rw[e,hyv]at hg
  refine⟨.bool (if op=.eql then a.isNone else !a.isNone),?_,.bool _⟩
  rcases hop with rfl|rfl
  ·simp only[execOp,ho,Sem.run_bind,e,hyv,hg,Result.andThen_ok,binOp,key,Sem.run_pure];simp
  ·simp only[execOp,ho,Sem.run_bind,e,hyv,hg,Result.andThen_ok,binOp,key,Sem.run_pure];simp
 obtain⟨a,n,c,hv,hz,hz2⟩:=hx E w _ (hρ x)
 have h1':Z->K (.bool (if op=.eql then true else false)) h:=λq=>by have:=h1 q;rcases hop with rfl|rfl <;> exact this
 have h2':Z2->K (.bool (if op=.eql then false else true)) h:=λq=>by have:=h2 q;rcases hop with rfl|rfl <;> exact this
 cases a with
 |none =>
  have he:=hz rfl
  obtain⟨v,hv1,hv2⟩:=fin none n c hv (by simpa using h1' he)
  exact .jM hv1 (.same (by simpa using h1' he) R (by simpa using hv2))
 |some a =>
  have he:=hz2 dG
  obtain⟨v,hv1,hv2⟩:=fin (some a) n c hv (by simpa using h2' he)
  exact .jM hv1 (.same (by simpa using h2' he) R (by simpa using hv2))
theorem aF1 (op:BinOp) (t ty:TypeId) (x y:Operand) (r:lJ) (et:TypeId) (sz:Nat) (es:List (List aE)) (tt:Bool) (ho:o.op=.binOp op t x y ty) (ht:iE P t=some r) (hd:r.d=.slice et) (hx:ρ x=.sl sz es tt) (hy:ρ y=.bS)
  (hop:op=.eql∨op=.neq) (h1:es=[]->K (.bool (op == .eql)) h) (h2:K (.bool (op != .eql)) h):oV P o ρ h K :=
 xT op t ty x y r et (es=[]) True ho ht hd (λE w v hr=>by
  rw[hx]at hr
  cases v <;> try(cases hr;done)
  exact⟨_,_,_,rfl,λq=>by subst q;cases hr <;> rfl,λ_=>trivial⟩) hy hop h1 λ_=>h2
theorem aDC (op:BinOp) (t ty:TypeId) (x y:Operand) (r:lJ) (et:TypeId) (m sz i len:Nat) (ho:o.op=.binOp op t x y ty) (ht:iE P t=some r) (hd:r.d=.slice et) (hx:ρ x=.os m sz i len) (hy:ρ y=.bS)
  (hop:op=.eql∨op=.neq) (h1:len=0->K (.bool (op == .eql)) h) (h2:K (.bool (op != .eql)) h):oV P o ρ h K :=
 xT op t ty x y r et (len=0) True ho ht hd (λE w v hr=>by
  rw[hx]at hr
  cases v <;> try(cases hr;done)
  exact⟨_,_,_,rfl,λq=>by subst q;cases hr;rfl,λ_=>trivial⟩) hy hop h1 λ_=>h2
theorem aDD (op:BinOp) (t ty:TypeId) (x y:Operand) (r:lJ) (et:TypeId) (ho:o.op=.binOp op t x y ty) (ht:iE P t=some r) (hd:r.d=.slice et) (hx:ρ x=.bS) (hy:ρ y=.bS)
  (hop:op=.eql∨op=.neq) (h1:K (.bool (op == .eql)) h):oV P o ρ h K :=
 xT op t ty x y r et True False ho ht hd (λE w v hr=>by
  rw[hx]at hr
  cases v <;> try(cases hr;done)
  exact⟨_,_,_,rfl,λ_=>trivial,λq=>by cases hr;exact q rfl⟩) hy hop (λ_=>h1) λq=>q.elim
def aF2 (P:Program) (t:TypeId):Bool:=match P.underlying t with|some (.interface _)=>true|_=>false
def sX:Operand->Bool | .const _=>true|_=>false
theorem vC (op:BinOp) (t ty:TypeId) (x y:Operand) (b:Bool) (ho:o.op=.binOp op t x y ty) (hi:aF2 P t=true) (hc:sX y=true) (hx:(ρ x=.lU/\b=true)∨(∃ ti xi,ρ x=.iface ti xi)/\b=false) (hy:ρ y=.lU)
  (hop:op=.eql∨op=.neq) (h1:K (.bool (if op=.eql then b else !b)) h):oV P o ρ h K:=by
 intro E w ρc R hρ
 have hyv:ρc y=.nilIface:=by have:=hy▸hρ y;generalize ρc y=v at this;cases this;rfl
 obtain⟨ms,hu⟩:∃ ms,P.underlying t=some (.interface ms):=by
  unfold aF2 at hi
  split at hi
  ·exact⟨_,by assumption⟩
  ·cases hi
 have hrun:(underlying t).run P w=.ok (.interface ms) w:=by simp[underlying,hu]
 have hyc:∃ v,y=.const v:=by cases y <;> first|exact⟨_,rfl⟩|(simp[sX]at hc)
 obtain⟨yv,rfl⟩:=hyc
 refine .jM (v:=.bool (if op=.eql then b else !b)) ?_ (.same h1 R (.bool _))
 rcases hx with⟨hx,rfl⟩|⟨⟨ti,xi,hx⟩,rfl⟩
 ·have hxv:ρc x=.nilIface:=by have:=hx▸hρ x;generalize ρc x=v at this;cases this;rfl
  have hg:(eqGuard op t x (.const yv) (ρc x) (ρc (.const yv))).run P w=.ok () w:=by
   rw[hxv,hyv];rcases hop with rfl|rfl <;> simp[eqGuard]
  have a3B:∀ d:Nat,(Op.equalIn (d+1) t .nilIface .nilIface).run P w=.ok true w:=by
   intro d
   simp[Op.equalIn,hrun]
  have key:(Op.equal t .nilIface .nilIface).run P w=.ok true w:=a3B 9999
  rw[hxv,hyv]at hg
  rcases hop with rfl|rfl
  ·simp only[execOp,ho,Sem.run_bind,hxv,hyv,hg,Result.andThen_ok,binOp,key,Sem.run_pure];simp
  ·simp only[execOp,ho,Sem.run_bind,hxv,hyv,hg,Result.andThen_ok,binOp,key,Sem.run_pure];simp
 ·obtain⟨xv,hxv⟩:∃ xv,ρc x=.iface ti xv:=by have:=hx▸hρ x;generalize ρc x=v at this;cases this;exact⟨_,rfl⟩
  have hg:(eqGuard op t x (.const yv) (ρc x) (ρc (.const yv))).run P w=.ok () w:=by
   rw[hxv,hyv];rcases hop with rfl|rfl <;> simp[eqGuard]
  have a3B:∀ d:Nat,(Op.equalIn (d+1) t (.iface ti xv) .nilIface).run P w=.ok false w:=by
   intro d
   simp[Op.equalIn,hrun]
  have key:(Op.equal t (.iface ti xv) .nilIface).run P w=.ok false w:=a3B 9999
  rw[hxv,hyv]at hg
  rcases hop with rfl|rfl
  ·simp only[execOp,ho,Sem.run_bind,hxv,hyv,hg,Result.andThen_ok,binOp,key,Sem.run_pure];simp
  ·simp only[execOp,ho,Sem.run_bind,hxv,hyv,hg,Result.andThen_ok,binOp,key,Sem.run_pure];simp
end
variable {ds:List Deferred}
def iY (P:Program) (f:FuncId):Bool :=
 match P.funcs[f]? with
 |some fn=>fn.body.isSome && !(fn.name == "runtime.NumGoroutine")
 |none=>false
def iV (P:Program) (f:FuncId) (args:List aE) (h:aB) (K:aE->aB->Prop):Prop:=iY P f=true/\aND P f args h K
theorem iV.mono {P:Program} {f:FuncId} {args:List aE} {h:aB} {K K':aE->aB->Prop} (a:iV P f args h K) (hk:∀ r h',K r h'->K' r h'):iV P f args h K':=⟨a.1,a.2.mono hk⟩
def fE (P:Program) (f:FuncId) (args:List aE) (r:aE):Prop:=∀ h,iV P f args h λr' h'=>r'=r/\h'=h
theorem fE.call {P:Program} {f:FuncId} {args:List aE} {r:aE} (a:fE P f args r) {h:aB} {K:aE->aB->Prop} (hk:K r h):iV P f args h K :=
 (a h).mono λ_ _ ⟨e,e'⟩=>e▸e'▸hk
section
variable {P:Program} {o:Oper} {ρ:Operand->aE} {h:aB} {K:aE->aB->Prop}
theorem a3C (f:Operand) (as:Array Operand) (ats:Array TypeId) (g:FuncId) (first cap:List aE) (ho:o.op=.call { callee:=.value f,args:=as,argTypes:=ats }) (hf:ρ f=.fn (.func g) first cap)
  (hk:iV P g (first++as.toList.map ρ++cap) h K):oV P o ρ h K:=by
 intro E w ρc R hρ
 have hr:=hρ f
 rw[hf]at hr
 obtain⟨hc,hk⟩:=hk
 cases hv:ρc f <;> rw[hv]at hr <;> try(cases hr;done)
 cases hr with
 |fn _ _ _ vs us hl hrr hl' hrr' =>
  have hL:=(dV.append (dV.append (dV.mk hl hrr) (aC5 hρ as.toList)) (dV.mk hl' hrr'))
  unfold iY at hc
  cases hfn:P.funcs[g]? with
  |none=>simp[hfn]at hc
  |some fn =>
   simp only[hfn,l7,a0B,beq_eq_false_iff_ne,ne_eq]at hc
   have hb:fn.body.isNone=false:=by cases hb:fn.body <;> simp_all
   have hrun:(execOp ρc o).run P w=.ok (.enter g (vs++as.toList.map ρc++us).toArray) w:=by
    have hb':¬fn.body=none:=by intro e;simp[e]at hb
    simp[execOp,ho,resolve,hv,Deferred.ofValue,invoke,callFunc,hfn,hc.2]
    rw[if_neg hb']
    congr 2
    apply Array.ext'
    simp
   unfold wS
   rw[hrun]
   exact Calls.mono (hk E w _ R hL) λe w' he=>by cases e <;> exact he
end
abbrev bP:=List (Nat×aE)
def b6:bP->Nat->aE
 | [],_=>.any
 |(j,v)::r,k=>if j=k then v else b6 r k
def qF (τ:bP):Operand->aE
 | .tmp t=>b6 τ t
 | .const v=>.ofValue v
 | .global _=>.any
 | .func f=>.fn (.func f) [] []
def gK (τ:bP) (d:Option Tmp) (v:aE):bP :=
 match d with
 |some d=>(d,v)::τ
 |none=>τ
def prune (keep:List Nat) (τ:bP):bP:=keep.map λk=>(k,b6 τ k)
structure wD (ds:List Deferred) (E:Env) (h:aB) (w:World) (N:Nat) (τ:bP) (a:Act):Prop where
 size:a.tmps.size=N
 defers:a.defers=ds
 get:∀ k,fC E h w (b6 τ k) (a.tmps.getD k undef)
theorem wD.qF {E:Env} {h:aB} {w:World} {N:Nat} {τ:bP} {a:Act} (r:wD ds E h w N τ a) (x:Operand):fC E h w (qF τ x) (a.eval x):=by
 cases x with
 |tmp t=>exact r.get t
 |const v=>exact .ofValue _ _ _ _
 |global g=>exact .any _
 |func f =>
  have:=fC.fn (E:=E) (h:=h) (w:=w) (.func f) [] [] [] [] rfl dG rfl dG
  exact this
theorem wD.put {E:Env} {h:aB} {w:World} {N:Nat} {τ:bP} {a:Act} (r:wD ds E h w N τ a) (d:Option Tmp) (hd:∀ k,d=some k->k<N) {x:aE} {v:Value} (hx:fC E h w x v) :
  wD ds E h w N (gK τ d x) (a.put d v):=by
 cases d with
 |none=>exact r
 |some d =>
  have hlt:d<a.tmps.size:=by rw[r.size];exact hd d rfl
  refine⟨by simpa[Act.put]using r.size,r.defers,λk=>?_⟩
  simp only[gK,b6,Act.put]
  by_cases e:d=k
  ·subst e
   simp[hlt];exact hx
  ·rw[if_neg e]
   have:=r.get k
   simpa[aTS e]using this
theorem wD.ev {E E':Env} {h h':aB} {w w':World} {N:Nat} {τ:bP} {a:Act} (r:wD ds E h w N τ a) (ev:Ev E h w E' h' w'):wD ds E' h' w' N τ a :=
 ⟨r.size,r.defers,λk=>(r.get k).ev ev⟩
theorem aT1 (keep:List Nat) (τ:bP) (k:Nat):b6 (prune keep τ) k=.any∨b6 (prune keep τ) k=b6 τ k:=by
 induction keep with
 |nil=>exact .inl rfl
 |cons j keep ih =>
  simp only[prune,p5,b6]
  by_cases e:j=k
  ·subst e;simp
  ·rw[if_neg e];exact ih
theorem wD.prune {E:Env} {h:aB} {w:World} {N:Nat} {τ:bP} {a:Act} (keep:List Nat) (r:wD ds E h w N τ a):wD ds E h w N (prune keep τ) a :=
 ⟨r.size,r.defers,λk=>by
  rcases aT1 keep τ k with e|e
  ·rw[e];exact .any _
  ·rw[e];exact r.get k⟩
def sE (ds:List Deferred) (N:Nat) (Q:Exit->bP->aB->Prop) (E:Env) (h:aB) (w:World) (e:Exit) (a':Act) (w':World):Prop :=
 ∃ τ' h' E',Q e τ' h'/\Ev E h w E' h' w'/\Rel E' h' w'/\wD ds E' h' w' N τ' a'
def pT (P:Program) (N:Nat) (c:Code) (Q:Exit->bP->aB->Prop) (τ:bP) (h:aB):Prop :=
 ∀ (ds:List Deferred) E w a,Rel E h w->wD ds E h w N τ a->Code.wp P c (sE ds N Q E h w) a w
theorem sE.trans {N:Nat} {Q:Exit->bP->aB->Prop} {E E':Env} {h h':aB} {w w':World} {e:Exit} {a:Act} {w'':World} (ev:Ev E h w E' h' w') (x:sE ds N Q E' h' w' e a w''):sE ds N Q E h w e a w'' :=
 let ⟨τ,g,F,q,ev',R,r⟩:=x;⟨τ,g,F,q,ev.trans ev',R,r⟩
theorem pT.mono {P:Program} {N:Nat} {c:Code} {Q Q':Exit->bP->aB->Prop} {τ:bP} {h:aB} (hq:∀ e τ h,Q e τ h->Q' e τ h) (x:pT P N c Q τ h):pT P N c Q' τ h :=
 λds E w a R r=>Code.wp_mono (λe a' w' ⟨τ',h',E',q,rest⟩=>⟨τ',h',E',hq _ _ _ q,rest⟩) (x ds E w a R r)
theorem pT.prune {P:Program} {N:Nat} {c:Code} {Q:Exit->bP->aB->Prop} {τ:bP} {h:aB} (keep:List Nat) (x:pT P N c Q (prune keep τ) h):pT P N c Q τ h :=
 λds E w a R r=>x ds E w a R (r.prune keep)
theorem pT.forget {P:Program} {N:Nat} {c:Code} {Q:Exit->bP->aB->Prop} {τ:bP} {h g:aB} (hl:g.le h) (x:pT P N c Q τ g):pT P N c Q τ h :=
 λds E w a R r=>Code.wp_mono (λe a' w' y=>sE.trans ((Ev.refl E h w).forget hl) y) (x ds E w a (R.forget hl) (r.ev ((Ev.refl E h w).forget hl)))
theorem pT.skip {P:Program} {N:Nat} {Q:Exit->bP->aB->Prop} {τ:bP} {h:aB} (hq:Q .normal τ h):pT P N .skip Q τ h :=
 λds E w a R r=>wp_skip ⟨τ,h,E,hq,.refl _ _ _,R,r⟩
theorem pT.exit {P:Program} {N id:Nat} {Q:Exit->bP->aB->Prop} {τ:bP} {h:aB} (hq:Q (.exit id) τ h):pT P N (.exit id) Q τ h :=
 λds E w a R r=>wp_exit ⟨τ,h,E,hq,.refl _ _ _,R,r⟩
theorem pT.ret {P:Program} {N:Nat} {Q:Exit->bP->aB->Prop} {τ:bP} {h:aB} (hq:Q .ret τ h):pT P N .ret Q τ h :=
 λds E w a R r=>wp_ret ⟨τ,h,E,hq,.refl _ _ _,R,r⟩
def wW (next:bP->aB->Prop) (Q:Exit->bP->aB->Prop):Exit->bP->aB->Prop
 | .normal,τ,h=>next τ h
 | .outgrown,_,_=>False
 |e,τ,h=>Q e τ h
theorem pT.seq {P:Program} {N:Nat} {x y:Code} {Q:Exit->bP->aB->Prop} {τ:bP} {h:aB} (hx:pT P N x (wW (pT P N y Q) Q) τ h):pT P N (.seq x y) Q τ h:=by
 intro ds E w a R r
 refine wp_seq (Code.wp_mono ?_ (hx ds E w a R r))
 rintro e a' w' ⟨τ',h',E',q,ev,R',r'⟩
 cases e <;> simp only[wW]at q
 ·simp only[Exit.then]
  exact Code.wp_mono (λe a w y=>sE.trans ev y) (q ds E' w' a' R' r')
 all_goals first|exact q.elim|exact⟨τ',h',E',q,ev,R',r'⟩
theorem pT.cond {P:Program} {N:Nat} {c:Operand} {x y:Code} {Q:Exit->bP->aB->Prop} {τ:bP} {h:aB} {b:Bool} (hc:qF τ c=.bool b)
  (ht:b=true->pT P N x Q τ h) (hf:b=false->pT P N y Q τ h):pT P N (.cond c x y) Q τ h:=by
 intro ds E w a R r
 have:=r.qF c
 rw[hc]at this
 exact wp_cond_split (wT this) (λe=>ht e ds E w a R r) (λe=>hf e ds E w a R r)
def aNH (id:Nat) (Q:Exit->bP->aB->Prop):Exit->bP->aB->Prop
 | .exit id',τ,h=>if id'=id then Q .normal τ h else Q (.exit id') τ h
 | .outgrown,_,_=>False
 |e,τ,h=>Q e τ h
theorem pT.block {P:Program} {N id:Nat} {c:Code} {Q:Exit->bP->aB->Prop} {τ:bP} {h:aB} (hx:pT P N c (aNH id Q) τ h):pT P N (.block id c) Q τ h:=by
 intro ds E w a R r
 refine wp_block (Code.wp_mono ?_ (hx ds E w a R r))
 rintro e a' w' ⟨τ',h',E',q,ev,R',r'⟩
 cases e <;> simp only[aNH]at q <;> simp only[Exit.inBlock]
 case exit id' =>
  split
  ·rename_i e;rw[if_pos e]at q;exact⟨τ',h',E',q,ev,R',r'⟩
  ·rename_i e;rw[if_neg e]at q;exact⟨τ',h',E',q,ev,R',r'⟩
 all_goals first|exact q.elim|exact⟨τ',h',E',q,ev,R',r'⟩
theorem pT.loop {P:Program} {N:Nat} {c:Code} {Q:Exit->bP->aB->Prop} {τ:bP} {h:aB} {α:Type} (I:α->bP->aB->Prop) (μ:α->Nat) (x₀:α) (h₀:I x₀ τ h)
  (round:∀ x τ h,I x τ h->pT P N c (wW (λτ' h'=>∃ x',I x' τ' h'/\μ x'<μ x) Q) τ h):pT P N (.loop c) Q τ h:=by
 intro ds E w a R r
 have key:∀ n x τ₁ h₁ E₁ a₁ w₁,μ x=n->I x τ₁ h₁->Ev E h w E₁ h₁ w₁->Rel E₁ h₁ w₁->wD ds E₁ h₁ w₁ N τ₁ a₁->∀ b k cs,
   ∃ e a' w',sE ds N Q E h w e a' w'/\Arrives P (lone (b.at a₁ (.code c::.inLoop c::k)) cs w₁) b k cs e a' w':=by
  intro n
  induction n using Nat.strongRecOn with
  | _ n ih =>
   intro x τ₁ h₁ E₁ a₁ w₁ hn hI ev₁ R₁ r₁ b k cs
   obtain⟨e,a₂,w₂,⟨τ₂,h₂,E₂,q,ev₂,R₂,r₂⟩,harr⟩:=round x τ₁ h₁ hI ds E₁ w₁ a₁ R₁ r₁ b (.inLoop c::k) cs
   cases e with
   |normal =>
    obtain⟨x',hI',hlt⟩:=q
    obtain⟨e₃,a₃,w₃,q₃,harr₃⟩:=ih (μ x') (hn▸hlt) x' τ₂ h₂ E₂ a₂ w₂ rfl hI' (ev₁.trans ev₂) R₂ r₂ b k cs
    exact⟨e₃,a₃,w₃,q₃,.of_steps (Steps.trans harr (.one step_inLoop)) harr₃⟩
   |outgrown=>exact q.elim
   |exit id=>exact⟨_,a₂,w₂,⟨τ₂,h₂,E₂,q,ev₁.trans ev₂,R₂,r₂⟩,.pass (x:=.inLoop c) rfl (λ_ _=>.inl dG) harr⟩
   |goto l=>exact⟨_,a₂,w₂,⟨τ₂,h₂,E₂,q,ev₁.trans ev₂,R₂,r₂⟩,.pass (x:=.inLoop c) rfl (λ_ _=>.inl dG) harr⟩
   |ret=>exact⟨_,a₂,w₂,⟨τ₂,h₂,E₂,q,ev₁.trans ev₂,R₂,r₂⟩,.pass (x:=.inLoop c) rfl (λ_ _=>.inl dG) harr⟩
   |panic ch=>exact⟨_,a₂,w₂,⟨τ₂,h₂,E₂,q,ev₁.trans ev₂,R₂,r₂⟩,.pass (x:=.inLoop c) rfl (λ_ _=>.inl dG) harr⟩
 intro b k cs
 obtain⟨e,a',w',q,harr⟩:=key _ x₀ τ h E a w rfl h₀ (.refl _ _ _) R r b k cs
 exact⟨e,a',w',q,.of_steps (.one step_loop) harr⟩
def lP (P:Program) (t:TypeId):Option lJ :=
 match iE P t with
 |some r=>match r.d with
  | .slice et=>iE P et
  | _=>none
 |none=>none
theorem mA {P:Program} {t:TypeId} {re:lJ} (h:lP P t=some re):∃ r et,iE P t=some r/\r.d=.slice et/\iE P et=some re:=by
 unfold lP at h
 split at h
 ·rename_i r hr
  split at h
  ·rename_i et hd;exact⟨r,et,hr,hd,h⟩
  ·simp at h
 ·simp at h
def yU (P:Program) (t:TypeId):Option TyD:=(iE P t).map (·.d)
theorem jZ {P:Program} {t:TypeId} {d:TyD} (h:yU P t=some d):∃ r,iE P t=some r/\r.d=d:=by
 unfold yU at h
 obtain⟨r,hr,rfl⟩:=q0.1 h
 exact⟨r,hr,rfl⟩
def gL (P:Program) (op:BinOp) (t:TypeId) (x y:aE) (K:aE->Prop):Prop :=
 match x,y with
 | .bool a,.bool b=>yU P t=some .bool/\(match op with | .eql=>K (.bool (a == b)) | .neq=>K (.bool (a != b))|_=>False)
 | .int k a,.int k' b =>
  match op with
  | .quo=>k=k'/\b≠0/\K (.int k (k.wrap (a.tdiv b)))
  | .rem=>k=k'/\b≠0/\K (.int k (a.tmod b))
  | .shl=>0<=b/\K (.int k (k.wrap (a*2 ^ (min b.toNat k.bits))))
  | .shr=>0<=b/\K (.int k (a.fdiv (2 ^ (min b.toNat k.bits))))
  |op=>match mY op (.int k a) (.int k' b)with|some v=>K v|none=>False
 | .str a,.str b =>
  match op with
  | .add=>a.length+b.length<=9223372036854775807/\K (.str (a++b))
  | .eql=>K (.bool (decide (a=b)))
  | .neq=>K (.bool (!decide (a=b)))
  |op=>match aT0 op a b with|some c=>K (.bool c)|none=>False
 |x,y=>match mY op x y with|some v=>K v|none=>False
def wX (P:Program) (op:BinOp) (t:TypeId) (x y:aE) (K:aE->Prop):Prop :=
 match x,y with
 | .sl _ es _,.bS=>(match yU P t with|some (.slice _)=>True|_=>False)/\(match op with | .eql=>(es=[]->K (.bool true))/\K (.bool false) | .neq=>(es=[]->K (.bool false))/\K (.bool true)|_=>False)
 | .os _ _ _ len,.bS=>(match yU P t with|some (.slice _)=>True|_=>False)/\(match op with | .eql=>(len=0->K (.bool true))/\K (.bool false) | .neq=>(len=0->K (.bool false))/\K (.bool true)|_=>False)
 | .bS,.bS=>(match yU P t with|some (.slice _)=>True|_=>False)/\(match op with | .eql=>K (.bool true) | .neq=>K (.bool false)|_=>False)
 |x,y=>gL P op t x y K
def wY (P:Program) (op:BinOp) (t:TypeId) (c:Bool) (x y:aE) (K:aE->Prop):Prop :=
 match c,x,y with
 |true,.lU,.lU=>aF2 P t=true/\(match op with | .eql=>K (.bool true) | .neq=>K (.bool false)|_=>False)
 |true,.iface _ _,.lU=>aF2 P t=true/\(match op with | .eql=>K (.bool false) | .neq=>K (.bool true)|_=>False)
 | _,x,y=>wX P op t x y K
def aEV (op:UnOp) (x:aE) (K:aE->Prop):Prop :=
 match op,x with
 | .not,.bool b=>K (.bool (!b))
 | .neg,.int k n=>K (.int k (k.wrap (0-n)))
 | _,_=>False
def aEW (d:Option TyD) (f:Nat) (x:aE) (K:aE->Prop):Prop :=
 match d with
 |some (.st fs)=>match fs[f]? with
  |some (off,_,sz')=>sz'≠0/\(match x with
   | .op n sz i k=>K (.op n sz i (k+off))
   | .ip sz es i k=>K (.ip sz es i (k+off))
   | _=>False)
  |none=>False
 | _=>False
def aEX (re:Option lJ) (x i:aE) (K:aE->Prop):Prop :=
 match re with
 |some re=>match x,i with
  | .sl sz es _,.int _ n=>re.sz=sz/\0<=n/\n<es.length/\K (.ip sz es n.toNat 0)
  | .os m sz i0 len,.int _ n=>re.sz=sz/\0<=n/\n<len/\K (.op m sz (i0+n.toNat) 0)
  | _,_=>False
 |none=>False
def aB1 (d:Option TyD) (x i:aE) (K:aE->Prop):Prop :=
 match d,x,i with
 |some .str,.str s,.int _ n=>0<=n/\(match s[n.toNat]? with|some c=>K (.int .u8 c.toNat)|none=>False)
 | _,_,_=>False
def jW (r:Option lJ) (a:aE) (h:aB) (K:aE->Prop):Prop :=
 match r with
 |some r=>match a with
  | .ip _ es i off=>match es[i]? with
   |some e=>match ld r e off with
    |some x=>K x
    |none=>False
   |none=>False
  | .op n sz i off=>match h n with
   |some (.row sz' es)=>sz'=sz/\(match es[i]? with
    |some e=>match aFW r e off with
     |some x=>K x
     |none=>False
    |none=>False)
   | _=>False
  | _=>False
 |none=>False
def aNI (r:Option lJ) (a v:aE) (h:aB) (K:aB->Prop):Prop :=
 match r with
 |some r=>match a with
  | .op n sz i off=>match h n with
   |some (.row sz' es)=>sz'=sz/\(match es[i]? with
    |some e=>v.cells.all aE.flat=true/\v.cells.length=r.sz/\off+r.sz<=e.length/\K (aU h n (.row sz (es.set i (pE e off v.cells))))
    |none=>False)
   | _=>False
  | _=>False
 |none=>False
def aEY (r:Option lJ) (h:aB) (K:aE->aB->Prop):Prop :=
 match r with
 |some r=>r.zero≠[]/\r.zero.all aE.flat=true/\∀ n,h n=none->K (.op n r.zero.length 0 0) (aU h n (.row r.zero.length [r.zero.map .v]))
 |none=>False
def aW9 (x:aE) (h:aB) (K:aE->aB->Prop):Prop :=
 x.cells.all aE.flat=true/\∀ n,h n=none->K (.op n x.cells.length 0 0) (aU h n (.row x.cells.length [x.cells.map .v]))
def bER (t:TypeId):Bool:=match a24 with|none=>false|some r=>decide (t=r)
def aXA (t:TypeId) (x:aE) (h:aB) (K:aE->aB->Prop):Prop :=
 x.cells=[.jU,.bS]/\∀ n,h n=none->K (.op n 2 0 0) (aU h n (.raw t #[.pointer none,.slice none 0 0]))
def aIH (re:Option lJ) (l c:aE) (h:aB) (K:aE->aB->Prop):Prop :=
 match re with
 |some re=>match l,c with
  | .int _ a,.int _ b=>re.zero.length=re.sz/\0<re.sz/\re.zero.all aE.flat=true/\0<=a/\a<=b/\b<=281474976710656/\re.bytes*b<=281474976710656 /\
    ∀ n,h n=none->K (.os n re.sz 0 a.toNat) (aU h n (.row re.sz ((List.replicate b.toNat re.zero).map (List.map .v))))
  | _,_=>False
 |none=>False
def mP (P:Program) (t:TypeId) (x:aE) (lo hi:Option aE) (K:aE->Prop):Prop :=
 match x with
 | .str s=>yU P t=some .str/\(match jV 0 lo,jV s.length hi with
  |some l,some m=>0<=l/\l<=m/\m<=s.length/\K (.str ((s.take m.toNat).drop l.toNat))
  | _,_=>False)
 | .sl sz es tg=>match lP P t with
  |some re=>re.sz=sz/\(match jV 0 lo,jV es.length hi with
   |some l,some m=>0<=l/\l<=m/\m<=es.length/\K (.sl sz ((es.take m.toNat).drop l.toNat) (tg && decide (m=es.length)))
   | _,_=>False)
  |none=>False
 | .os n sz i len=>match lP P t with
  |some re=>re.sz=sz/\(match jV 0 lo,jV len hi with
   |some l,some m=>0<=l/\l<m/\m<=len/\K (.os n sz (i+l.toNat) (m.toNat-l.toNat))
   | _,_=>False)
  |none=>False
 | _=>False
def rD (P:Program) (t:TypeId) (x:aE) (lo hi:Option aE) (K:aE->Prop):Prop :=
 match x,hi with
 | .os n sz i len,none=>(match lP P t with
  |some re=>re.sz=sz/\(match jV 0 lo with
   |some l=>0<=l/\l<=len/\(l<len->K (.os n sz (i+l.toNat) (len-l.toNat)))/\(l=len->K (.os n sz (i+len) 0)/\K (.sl sz [] true))
   |none=>False)
  |none=>False)
 |x,hi=>mP P t x lo hi K
def pH (P:Program) (t:TypeId) (x:aE) (lo:Option aE) (hi mx:aE) (K:aE->Prop):Prop :=
 match x with
 | .sl sz es tg=>match lP P t with
  |some re=>re.sz=sz/\(match jV 0 lo,jV es.length (some hi),jV 0 (some mx)with
   |some l,some m,some M=>0<=l/\l<=m/\m<=M/\M<=es.length/\K (.sl sz ((es.take m.toNat).drop l.toNat) (decide (M=m)))
   | _,_,_=>False)
  |none=>False
 | _=>False
def aNJ (P:Program) (t:Option TypeId) (x:aE) (K:aE->Prop):Prop :=
 match t with
 |some t=>match yU P t,x with
  |some (.slice _),.sl _ es _=>es.length<=9223372036854775807->K (.int .i64 es.length)
  |some (.slice _),.os _ _ _ n=>n<=9223372036854775807->K (.int .i64 n)
  |some (.slice _),.bS=>K (.int .i64 0)
  |some .str,.str s=>s.length<=9223372036854775807->K (.int .i64 s.length)
  | _,_=>False
 |none=>False
def tN (P:Program) (r:Option lJ) (ps:List (Nat×aE)) (K:aE->Prop):Prop :=
 match r with
 |some r=>zO P r.d=true/\r.zero≠[]/\xS (sD P r.d) r.zero.length ps=true/\K (.agg (aIF (sD P r.d) r.zero ps))
 |none=>False
def uE (re:Option lJ) (len:Nat) (ps:List (Nat×aE)) (K:Nat->List (List aE)->Prop):Prop :=
 match re with
 |some re=>re.zero.length=re.sz/\0<re.sz/\re.zero.all aE.flat=true/\len*re.sz<=16777216/\rC len re.sz ps=true/\K re.sz (uC (List.replicate len re.zero) ps)
 |none=>False
def xU (P:Program) (re:Option lJ) (t1:Option TypeId) (x y:aE) (h:aB) (K:aE->aB->Prop):Prop :=
 match re with
 |some re=>re.zero.length=re.sz/\0<re.sz/\zL P t1=true/\(match x with
  | .os n sz i len=>re.sz=sz/\(match h n with
   |some (.row sz' es)=>sz'=sz/\i+len<=es.length/\(match vB h sz y with
    |some ys=>(len+ys.length)*re.bytes<=140737488355328/\len+ys.length<=9223372036854775807 /\
      ∀ b,h b=none->K (.os b sz 0 (len+ys.length)) (aU (aU h n .gone) b (.row sz ((es.drop i).take len++ys.map (List.map .v))))
    |none=>False)
   | _=>False)
  |x=>match aC8 re.sz x,vB h re.sz y with
   |some olds,some ys=>(ys=[]->K x h)/\(ys≠[]->(olds.length+ys.length)*re.bytes<=140737488355328/\olds.length+ys.length<=9223372036854775807 /\
     ∀ n,h n=none->K (.os n re.sz 0 (olds.length+ys.length)) (aU h n (.row re.sz ((olds++ys).map (List.map .v)))))
   | _,_=>False)
 |none=>False
def a74 (P:Program) (t:Option TypeId):Option lJ:=match t with|some t=>lP P t|none=>none
def zP (P:Program) (c:Call) (ρ:Operand->aE) (h:aB) (K:aE->aB->Prop):Prop :=
 match c with
 | { callee:=.value f,args:=as,argTypes:=_ }=>match ρ f with
  | .fn (.func g) first cap=>iV P g (first++as.toList.map ρ++cap) h K
  | _=>False
 | { callee:=.builtin .len,args:=as,argTypes:=ats }=>match as.toList with
  | [x]=>aNJ P ats[0]? (ρ x) λv=>K v h
  | _=>False
 | { callee:=.builtin .max,args:=as,argTypes:=_ }=>match as.toList with
  | [x,y]=>match ρ x,ρ y with
   | .int k a,.int _ b=>(match ρ y with | .int k' _=>k'=k|_=>False)/\K (.int k (max a b)) h
   | _,_=>False
  | _=>False
 | { callee:=.builtin .append,args:=as,argTypes:=ats }=>match as.toList with
  | [x,y]=>xU P (a74 P ats[0]?) ats[1]? (ρ x) (ρ y) h K
  | _=>False
 | _=>False
def zQ (P:Program) (s d:TypeId) (x:aE) (K:aE->Prop):Prop :=
 match yU P d,x with
 |some (.int k'),.int k n=>(yU P s).isSome=true/\K (.int k' (k'.wrap n))
 |some .str,.sl 1 es _=>(match yU P s with
  |some (.slice et)=>yU P et=some (.int .u8)/\(match bytesOf es with|some bs=>K (.str bs)|none=>False)
  | _=>False)
 | _,_=>False
def step (P:Program) (o:Oper) (ρ:Operand->aE) (h:aB) (K:aE->aB->Prop):Prop :=
 match o.op with
 | .move x=>K (ρ x) h
 | .assign x=>K (ρ x) h
 | .pick c a b=>match ρ c with
  | .bool t=>(t=true->K (ρ a) h)/\(t=false->K (ρ b) h)
  | _=>False
 | .binOp op t x y _=>wY P op t (sX y) (ρ x) (ρ y) λv=>K v h
 | .unOp op _ x=>aEV op (ρ x) λv=>K v h
 | .convert s d x=>zQ P s d (ρ x) λv=>K v h
 | .fieldAddr t x f=>aEW (yU P t) f (ρ x) λv=>K v h
 | .indexAddr t x i=>aEX (lP P t) (ρ x) (ρ i) λv=>K v h
 | .index t x i=>aB1 (yU P t) (ρ x) (ρ i) λv=>K v h
 | .load t a=>jW (iE P t) (ρ a) h λv=>K v h
 | .store t a v=>aNI (iE P t) (ρ a) (ρ v) h λh'=>K .any h'
 | .alloc t=>aEY (iE P t) h K
 | .box t x=>if bER t then aXA t (ρ x) h K else aW9 (ρ x) h K
 | .makeSlice t l c=>aIH (lP P t) (ρ l) (ρ c) h K
 | .slice t x lo hi none=>rD P t (ρ x) (lo.map ρ) (hi.map ρ) λv=>K v h
 | .extract t i=>match ρ t with
  | .gU cs=>match cs[i]? with|some x=>K x h|none=>False
  | _=>False
 | .nilCheck x=>match ρ x with
  | .op n sz i k=>K (.op n sz i k) h
  | .ip sz es i k=>K (.ip sz es i k) h
  | _=>False
 | .makeFunc fn fs cs=>K (.fn fn (fs.toList.map ρ) (cs.toList.map ρ)) h
 | .call c=>zP P c ρ h K
 | .build t ps=>tN P (iE P t) (ps.toList.map λp=>(p.1,ρ p.2)) λv=>K v h
 | .buildSlice t len ps=>uE (lP P t) len (ps.toList.map λp=>(p.1,ρ p.2)) λsz es=>∀ n,h n=none->K (.os n sz 0 len) (aU h n (.row sz (es.map (List.map .v))))
 | .slice t x lo (some hi) (some mx)=>pH P t (ρ x) (lo.map ρ) (ρ hi) (ρ mx) λv=>K v h
 | _=>False
section
variable {P:Program} {o:Oper} {ρ:Operand->aE} {h:aB} {K:aE->aB->Prop}
theorem aK5 (op:BinOp) (t ty:TypeId) (x y:Operand) (ho:o.op=.binOp op t x y ty) (hs:gL P op t (ρ x) (ρ y) λv=>K v h):oV P o ρ h K:=by
 have gen:∀ v,mY op (ρ x) (ρ y)=some v->K v h->oV P o ρ h K:=λv hv hk=>a7W op t ty x y v ho hv hk
 unfold gL at hs
 split at hs
 ·rename_i a b ex ey
  obtain⟨hd,hs⟩:=hs
  obtain⟨r,hr,hd⟩:=jZ hd
  split at hs
  ·exact aC6 .eql t ty x y r a b _ ho hr hd ex ey (.inl ⟨rfl,rfl⟩) hs
  ·exact aC6 .neq t ty x y r a b _ ho hr hd ex ey (.inr ⟨rfl,rfl⟩) hs
  ·exact hs.elim
 ·rename_i k a k' b ex ey
  split at hs
  ·obtain⟨rfl,hb,hk⟩:=hs
   exact aW5 .quo t ty x y k a b _ ho ex ey hb (.inl ⟨rfl,rfl⟩) hk
  ·obtain⟨rfl,hb,hk⟩:=hs
   exact aW5 .rem t ty x y k a b _ ho ex ey hb (.inr ⟨rfl,rfl⟩) hk
  ·obtain⟨hb,hk⟩:=hs
   exact aL0 .shl t ty x y k k' a b _ ho ex ey hb (.inl ⟨rfl,rfl⟩) hk
  ·obtain⟨hb,hk⟩:=hs
   exact aL0 .shr t ty x y k k' a b _ ho ex ey hb (.inr ⟨rfl,rfl⟩) hk
  ·split at hs
   ·rename_i v hv;exact gen v (by rw[ex,ey];exact hv) hs
   ·exact hs.elim
 ·rename_i a b ex ey
  split at hs
  ·exact aQU t ty x y a b ho ex ey hs.1 hs.2
  ·exact gen _ (by rw[ex,ey];rfl) hs
  ·exact gen _ (by rw[ex,ey];rfl) hs
  ·split at hs
   ·rename_i c hc;exact aQV _ t ty x y a b c ho ex ey hc hs
   ·exact hs.elim
 ·split at hs
  ·rename_i v hv;exact gen v hv hs
  ·exact hs.elim
theorem aII (op:BinOp) (t ty:TypeId) (x y:Operand) (ho:o.op=.binOp op t x y ty) (hs:wX P op t (ρ x) (ρ y) λv=>K v h):oV P o ρ h K:=by
 unfold wX at hs
 split at hs
 ·rename_i sz es tt ex ey
  obtain⟨hd0,hs⟩:=hs
  split at hd0
  ·rename_i et hd
   obtain⟨r,hr,hd⟩:=jZ hd
   split at hs
   ·exact aF1 .eql t ty x y r et sz es tt ho hr hd ex ey (.inl rfl) hs.1 hs.2
   ·exact aF1 .neq t ty x y r et sz es tt ho hr hd ex ey (.inr rfl) hs.1 hs.2
   ·exact hs.elim
  ·exact hd0.elim
 ·rename_i m sz i len ex ey
  obtain⟨hd0,hs⟩:=hs
  split at hd0
  ·rename_i et hd
   obtain⟨r,hr,hd⟩:=jZ hd
   split at hs
   ·exact aDC .eql t ty x y r et m sz i len ho hr hd ex ey (.inl rfl) hs.1 hs.2
   ·exact aDC .neq t ty x y r et m sz i len ho hr hd ex ey (.inr rfl) hs.1 hs.2
   ·exact hs.elim
  ·exact hd0.elim
 ·rename_i ex ey
  obtain⟨hd0,hs⟩:=hs
  split at hd0
  ·rename_i et hd
   obtain⟨r,hr,hd⟩:=jZ hd
   split at hs
   ·exact aDD .eql t ty x y r et ho hr hd ex ey (.inl rfl) hs
   ·exact aDD .neq t ty x y r et ho hr hd ex ey (.inr rfl) hs
   ·exact hs.elim
  ·exact hd0.elim
 ·exact aK5 op t ty x y ho hs
theorem aIJ (op:BinOp) (t ty:TypeId) (x y:Operand) (ho:o.op=.binOp op t x y ty) (hs:wY P op t (sX y) (ρ x) (ρ y) λv=>K v h):oV P o ρ h K:=by
 unfold wY at hs
 split at hs
 ·rename_i ec ex ey
  obtain⟨hi,hs⟩:=hs
  split at hs
  ·exact vC .eql t ty x y true ho hi ec (.inl ⟨ex,rfl⟩) ey (.inl rfl) hs
  ·exact vC .neq t ty x y true ho hi ec (.inl ⟨ex,rfl⟩) ey (.inr rfl) hs
  ·exact hs.elim
 ·rename_i ti xi ec ex ey
  obtain⟨hi,hs⟩:=hs
  split at hs
  ·exact vC .eql t ty x y false ho hi ec (.inr ⟨⟨_,_,ex⟩,rfl⟩) ey (.inl rfl) hs
  ·exact vC .neq t ty x y false ho hi ec (.inr ⟨⟨_,_,ex⟩,rfl⟩) ey (.inr rfl) hs
  ·exact hs.elim
 ·exact aII op t ty x y ho hs
theorem aK6 (x y:Operand) (ats:Array TypeId) (ho:o.op=.call { callee:=.builtin .append,args:=#[x,y],argTypes:=ats }) (hs:xU P (a74 P ats[0]?) ats[1]? (ρ x) (ρ y) h K):oV P o ρ h K:=by
 unfold xU at hs
 split at hs
 ·rename_i re hre
  unfold a74 at hre
  split at hre
  ·rename_i t a0
   obtain⟨r,et,hr,hd,he⟩:=mA hre
   obtain⟨hz,hz0,h1,hs⟩:=hs
   split at hs
   ·rename_i n sz i len hx
    obtain⟨hsz,hs⟩:=hs
    split at hs
    ·rename_i sz' es hn
     obtain⟨rfl,hle,hs⟩:=hs
     split at hs
     ·rename_i ys hy
      exact aK2 x y ats t et r re n sz' i len es ys ho a0 hr hd he hz hz0 h1 hx hsz hn hle hy hs.1 hs.2.1 hs.2.2
     ·exact hs.elim
    ·exact hs.elim
   ·split at hs
    ·rename_i olds ys hx hy
     rcases List.eq_nil_or_concat ys with e|⟨_,_,e⟩
     ·subst e
      exact aGM x y ats t et r re ho a0 hr hd he h1 (by rw[hx];rfl) hy (hs.1 rfl)
     ·have hne:ys≠[]:=by rw[e];simp
      have hs:=hs.2 hne
      exact aID x y ats t et r re olds ys ho a0 hr hd he hz hz0 h1 hx hy hne hs.1 hs.2.1 hs.2.2
    ·exact hs.elim
  ·simp at hre
 ·exact hs.elim
theorem lK (hs:step P o ρ h K):oV P o ρ h K:=by
 unfold step at hs
 split at hs
 case h_1 x ho=>exact a25 x ho hs
 case h_2 x ho=>exact aTX x ho hs
 case h_3 c a b ho =>
  split at hs
  ·rename_i t ht
   refine a26 c a b t ho ht ?_
   cases t
   ·exact hs.2 rfl
   ·exact hs.1 rfl
  ·exact hs.elim
 case h_4 op t x y ty ho=>exact aIJ op t ty x y ho hs
 case h_5 op t x ho =>
  unfold aEV at hs
  split at hs
  ·rename_i b hb;exact a70 t x b ho hb hs
  ·rename_i k n hn;exact a71 t x k n ho hn hs
  ·exact hs.elim
 case h_6 s d x ho =>
  unfold zQ at hs
  split at hs
  ·rename_i k' k n hd hx
   obtain⟨sA,hk⟩:=hs
   obtain⟨rd,hrd,hdd⟩:=jZ hd
   obtain⟨ds,hds⟩:=Option.isSome_iff_exists.1 sA
   obtain⟨rs,hrs,_⟩:=jZ hds
   exact aGL s d x rs rd k k' n ho hrs hrd hdd hx hk
  ·rename_i es tg hd hx
   split at hs
   ·rename_i et hss
    obtain⟨hee,hs⟩:=hs
    split at hs
    ·rename_i bs hbs
     obtain⟨rd,hrd,hdd⟩:=jZ hd
     obtain⟨rs,hrs,hsd⟩:=jZ hss
     obtain⟨re,hre,hed⟩:=jZ hee
     exact aIG s d et x rs rd re es tg bs ho hrs hsd hre hed hrd hdd hx hbs hs
    ·exact hs.elim
   ·exact hs.elim
  ·exact hs.elim
 case h_7 t x f ho =>
  unfold aEW at hs
  split at hs
  ·rename_i fs hd
   obtain⟨r,hr,hd⟩:=jZ hd
   split at hs
   ·rename_i off ft sz' hf
    obtain⟨hsz,hs⟩:=hs
    split at hs
    ·rename_i n sz i k hx;exact aBG t x f r fs off sz' ft _ ho hr hd hf hsz (.inl ⟨n,sz,i,k,hx,rfl⟩) hs
    ·rename_i sz es i k hx;exact aBG t x f r fs off sz' ft _ ho hr hd hf hsz (.inr ⟨sz,es,i,k,hx,rfl⟩) hs
    ·exact hs.elim
   ·exact hs.elim
  ·exact hs.elim
 case h_8 t x i ho =>
  unfold aEX at hs
  split at hs
  ·rename_i re hre
   obtain⟨r,et,hr,hd,he⟩:=mA hre
   split at hs
   ·rename_i sz es tg k n hx hi
    obtain⟨hsz,h0,hn,hk⟩:=hs
    exact aES t et x i r re sz es tg k n ho hr hd he hsz hx hi h0 hn hk
   ·rename_i m sz i0 len k n hx hi
    obtain⟨hsz,h0,hn,hk⟩:=hs
    exact aET t et x i r re m sz i0 len k n ho hr hd he hsz hx hi h0 hn hk
   ·exact hs.elim
  ·exact hs.elim
 case h_9 t x i ho =>
  unfold aB1 at hs
  split at hs
  ·rename_i s k n hd hx hi
   obtain⟨r,hr,hd⟩:=jZ hd
   obtain⟨h0,hs⟩:=hs
   split at hs
   ·rename_i c hc;exact aKZ t x i r s k n c ho hr hd hx hi h0 hc hs
   ·exact hs.elim
  ·exact hs.elim
 case h_10 t a ho =>
  unfold jW at hs
  split at hs
  ·rename_i r hr
   split at hs
   ·rename_i sz es i off ha
    split at hs
    ·rename_i e he
     split at hs
     ·rename_i x hx;exact aQI t a r sz i off es e x ho hr ha he hx hs
     ·exact hs.elim
    ·exact hs.elim
   ·rename_i n sz i off ha
    split at hs
    ·rename_i sz' es hn
     obtain⟨rfl,hs⟩:=hs
     split at hs
     ·rename_i e he
      split at hs
      ·rename_i x hx;exact aQJ t a r n sz' i off es e x ho hr ha hn he hx hs
      ·exact hs.elim
     ·exact hs.elim
    ·exact hs.elim
   ·exact hs.elim
  ·exact hs.elim
 case h_11 t a v ho =>
  unfold aNI at hs
  split at hs
  ·rename_i r hr
   split at hs
   ·rename_i n sz i off ha
    split at hs
    ·rename_i sz' es hn
     obtain⟨rfl,hs⟩:=hs
     split at hs
     ·rename_i e he
      obtain⟨hf,hsz,hoff,hk⟩:=hs
      exact a0F t a v r n sz' i off es e ho hr ha hn he hf hsz hoff hk
     ·exact hs.elim
    ·exact hs.elim
   ·exact hs.elim
  ·exact hs.elim
 case h_12 t ho =>
  unfold aEY at hs
  split at hs
  ·rename_i r hr
   obtain⟨hz,hf,hk⟩:=hs
   exact a0G t r ho hr hz hf hk
  ·exact hs.elim
 case h_13 t x ho =>
  split at hs
  ·exact aQK t x ho hs.1 hs.2
  ·exact a7Z t x ho hs.1 hs.2
 case h_14 t l c ho =>
  unfold aIH at hs
  split at hs
  ·rename_i re hre
   obtain⟨r,et,hr,hd,he⟩:=mA hre
   split at hs
   ·rename_i k a k' b hl hc
    obtain⟨hz,hz0,hf,h0,hab,hb,hbb,hk⟩:=hs
    exact aK1 t et l c r re k k' a b ho hr hd he hz hz0 hf hl hc h0 hab hb hbb hk
   ·exact hs.elim
  ·exact hs.elim
 case h_15 t x lo hi ho =>
  unfold rD at hs
  split at hs
  ·rename_i n sz i len hx hhi
   split at hs
   ·rename_i re hre
    obtain⟨r,et,hr,hd,he⟩:=mA hre
    obtain⟨hsz,hs⟩:=hs
    split at hs
    ·rename_i l hl
     obtain⟨h0,h1,h2,h3⟩:=hs
     rcases Int.lt_or_eq_of_le h1 with q|q
     ·have:=h2 q
      exact aDA t et x lo hi r re n sz i len l len ho hr hd he hsz hx hl (by rw[hhi];rfl) h0 q (aEP _) (by simpa using this)
     ·exact aK4 t et x lo hi r re n sz i len l len ho hr hd he hsz hx hl (by rw[hhi];rfl) h0 q rfl (h3 q).1 (h3 q).2
    ·exact hs.elim
   ·exact hs.elim
  unfold mP at hs
  split at hs
  ·rename_i s hx
   obtain⟨hd,hs⟩:=hs
   obtain⟨r,hr,hd⟩:=jZ hd
   split at hs
   ·rename_i l m hl hh
    obtain⟨h0,h1,h2,hk⟩:=hs
    exact aK0 t x lo hi r s l m ho hr hd hx hl hh h0 h1 h2 hk
   ·exact hs.elim
  ·rename_i sz es tg hx
   split at hs
   ·rename_i re hre
    obtain⟨r,et,hr,hd,he⟩:=mA hre
    obtain⟨hsz,hs⟩:=hs
    split at hs
    ·rename_i l m hl hh
     obtain⟨h0,h1,h2,hk⟩:=hs
     exact aNG t et x lo hi r re sz es tg l m ho hr hd he hsz hx hl hh h0 h1 h2 hk
    ·exact hs.elim
   ·exact hs.elim
  ·rename_i n sz i len hx
   split at hs
   ·rename_i re hre
    obtain⟨r,et,hr,hd,he⟩:=mA hre
    obtain⟨hsz,hs⟩:=hs
    split at hs
    ·rename_i l m hl hh
     obtain⟨h0,h1,h2,hk⟩:=hs
     exact aDA t et x lo hi r re n sz i len l m ho hr hd he hsz hx hl hh h0 h1 h2 hk
    ·exact hs.elim
   ·exact hs.elim
  ·exact hs.elim
 case h_16 t i ho =>
  split at hs
  ·rename_i cs ht
   split at hs
   ·rename_i x hx;exact aQL t i cs x ho ht hx hs
   ·exact hs.elim
  ·exact hs.elim
 case h_17 x ho =>
  split at hs
  ·rename_i n sz i k hx;exact aC4 x ho (.inl ⟨n,sz,i,k,hx⟩) (hx▸hs)
  ·rename_i sz es i k hx;exact aC4 x ho (.inr ⟨sz,es,i,k,hx⟩) (hx▸hs)
  ·exact hs.elim
 case h_18 fn fs cs ho=>exact aNF fn fs cs ho hs
 case h_19 c ho =>
  unfold zP at hs
  split at hs
  ·rename_i f as ats
   split at hs
   ·rename_i g first cap hf;exact a3C f as ats g first cap ho hf hs
   ·exact hs.elim
  ·rename_i as ats
   split at hs
   ·rename_i x hax
    have hax':as=#[x]:=by cases as;simp_all
    subst hax'
    unfold aNJ at hs
    split at hs
    ·rename_i t hat
     split at hs
     ·rename_i et sz es tg hd hx
      obtain⟨r,hr,hd⟩:=jZ hd
      exact aGY t x r es.length ats ho hat hr (.inl ⟨_,sz,es,tg,hd,hx,rfl⟩) hs
     ·rename_i et m sz i n hd hx
      obtain⟨r,hr,hd⟩:=jZ hd
      exact aGY t x r n ats ho hat hr (.inr (.inl ⟨_,m,sz,i,hd,hx⟩)) hs
     ·rename_i et hd hx
      obtain⟨r,hr,hd⟩:=jZ hd
      exact aGY t x r 0 ats ho hat hr (.inr (.inr (.inl ⟨_,hd,hx,rfl⟩))) λ_=>hs
     ·rename_i s hd hx
      obtain⟨r,hr,hd⟩:=jZ hd
      exact aGY t x r s.length ats ho hat hr (.inr (.inr (.inr ⟨s,hd,hx,rfl⟩))) hs
     ·exact hs.elim
    ·exact hs.elim
   ·exact hs.elim
  ·rename_i as ats
   split at hs
   ·rename_i x y hax
    have hax':as=#[x,y]:=by cases as;simp_all
    subst hax'
    split at hs
    ·rename_i k a k' b hx hy
     obtain⟨h1,hk⟩:=hs
     rw[hy]at h1
     simp only at h1
     subst h1
     exact a72 x y ats _ a b ho hx hy hk
    ·exact hs.elim
   ·exact hs.elim
  ·rename_i as ats
   split at hs
   ·rename_i x y hax
    have hax':as=#[x,y]:=by cases as;simp_all
    subst hax'
    exact aK6 x y ats ho hs
   ·exact hs.elim
  ·exact hs.elim
 case h_20 t ps ho =>
  unfold tN at hs
  split at hs
  ·rename_i r hr
   obtain⟨h1,h2,h3,hk⟩:=hs
   exact a0I t ps r ho hr h1 h2 h3 hk
  ·exact hs.elim
 case h_21 t len ps ho =>
  unfold uE at hs
  split at hs
  ·rename_i re hre
   obtain⟨r,et,hr,hd,he⟩:=mA hre
   obtain⟨h1,h2,h3,h4,h5,hk⟩:=hs
   exact aIA t et len ps r re ho hr hd he h1 h2 h3 h4 h5 hk
  ·exact hs.elim
 case h_22 t x lo hi mx ho =>
  unfold pH at hs
  split at hs
  ·rename_i sz es tg hx
   split at hs
   ·rename_i re hre
    obtain⟨r,et,hr,hd,he⟩:=mA hre
    obtain⟨hsz,hs⟩:=hs
    split at hs
    ·rename_i l m M hl hh hM
     obtain⟨h0,h1,h2,h3,hk⟩:=hs
     exact aK3 t et x lo (some hi) mx r re sz es tg l m M ho hr hd he hsz hx rfl hl hh hM h0 h1 h2 h3 hk
    ·exact hs.elim
   ·exact hs.elim
  ·exact hs.elim
 case h_23=>exact hs.elim
def aIK (x:aE) (K:aE->Prop):Prop:=x.cells.all aE.flat=true/\K (.ip x.cells.length [x.cells] 0 0)
def bES (r':aE) (h':aB) (r:aE) (h:aB):Prop :=
 ∀ E w v,Rel E h' w->fC E h' w r' v->∃ E',Ev E h' w E' h w/\Rel E' h w/\fC E' h w r v
def aXB (K:aE->aB->Prop):aE->aB->Prop:=λv h'=>∃ r g,bES v h' r g/\K r g
theorem oV.seal {P:Program} {o:Oper} {ρ:Operand->aE} {h:aB} {K:aE->aB->Prop} (a:oV P o ρ h (aXB K)):oV P o ρ h K:=λE w ρc R hρ =>
 (a E w ρc R hρ).mono λv w' ⟨r',h',E',⟨r,g,s,k⟩,ev,R',x⟩ =>
  let ⟨E'',ev',R'',x'⟩:=s E' w' v R' x
  ⟨r,g,E'',k,ev.trans ev',R'',x'⟩
def uF (P:Program) (ib:List Nat) (o:Oper) (ρ:Operand->aE) (h:aB) (K:aE->aB->Prop):Prop :=
 match o.dst with
 |some d=>if ib.contains d then(match o.op with
   | .box _ x=>aIK (ρ x) λv=>K v h
   | .buildSlice t len ps=>uE (lP P t) len (ps.toList.map λp=>(p.1,ρ p.2)) λsz es=>K (.sl sz es true) h
   | .call ⟨.builtin .append,_,_⟩=>step P o ρ h (aXB K)
   | _=>step P o ρ h K)else step P o ρ h K
 |none=>step P o ρ h K
theorem zR {ib:List Nat} (hs:uF P ib o ρ h K):oV P o ρ h K:=by
 unfold uF at hs
 split at hs
 ·split at hs
  ·split at hs
   ·rename_i t x ho;exact aQN t x ho hs.1 hs.2
   ·rename_i t len ps ho
    unfold uE at hs
    split at hs
    ·rename_i re hre
     obtain⟨r,et,hr,hd,he⟩:=mA hre
     obtain⟨h1,h2,h3,h4,h5,hk⟩:=hs
     exact aBY t et len ps r re ho hr hd he h1 h2 h3 h4 h5 hk
    ·exact hs.elim
   ·exact(lK hs).seal
   ·exact lK hs
  ·exact lK hs
 ·exact lK hs
end
variable {ds:List Deferred}
def want (ops:Array Oper) (τ:bP) (o:Oper):Option Bool :=
 match o.guard with
 |none=>some true
 |some (g,b)=>match (ops[g]?).bind (·.dst)with
  |some d=>match b6 τ d with
   | .bool b'=>some (b' == b)
   | .gU []=>some false
   | _=>none
  |none=>none
theorem aB2 {E:Env} {h:aB} {w:World} {N:Nat} {τ:bP} {a:Act} {ops:Array Oper} {o:Oper} {c:Bool} (r:wD ds E h w N τ a) (hw:want ops τ o=some c) (hd:∀ (g:Nat) (og:Oper) d,ops[g]?=some og->og.dst=some d->d<N) :
  Region.wanted o (yielded ops a.tmps)=c:=by
 unfold want at hw
 unfold Region.wanted
 split at hw
 ·rename_i hg;rw[hg];exact gH hw
 ·rename_i g b hg
  rw[hg]
  split at hw
  ·rename_i d hdd
   obtain⟨og,hog,hod⟩:=Option.bind_eq_some_iff.1 hdd
   have hlt:d<a.tmps.size:=by rw[r.size];exact hd g og d hog hod
   have hr:=r.get d
   have hge:a.tmps[d]?=some a.tmps[d]:=aHY hlt
   have hgd:a.tmps.getD d undef=a.tmps[d]:=by simp[Array.getD,hlt]
   split at hw
   ·rename_i b' hb'
    rw[hb',hgd]at hr
    have:=wT hr
    obtain rfl:=gH hw
    simp only[yielded,hog,aZ5,hod,hge,this]
    cases b <;> cases b' <;> rfl
   ·rename_i hb'
    rw[hb',hgd]at hr
    obtain rfl:=gH hw
    have:a.tmps[d]=.tuple #[]:=by
     cases hv:a.tmps[d] <;> rw[hv]at hr <;> try(cases hr;done)
     cases hr with
     |gU _ vs hl hrr =>
      have:vs=[]:=by cases vs <;> simp_all
      simp[this]
    simp only[yielded,hog,aZ5,hod,hge,this]
    cases b <;> rfl
   ·simp at hw
  ·simp at hw
def aDE (P:Program) (ib:List Nat) (ops:Array Oper):List Oper->bP->aB->(bP->aB->Prop)->Prop
 | [],τ,h,K=>K τ h
 |o::rest,τ,h,K=>match o.guard with
  |none=>uF P ib o (qF τ) h λv h'=>aDE P ib ops rest (gK τ o.dst v) h' K
  |some (g,b)=>match (ops[g]?).bind (·.dst)with
   |some d=>match b6 τ d with
    | .bool b'=>(b'=b->uF P ib o (qF ((d,.bool b)::τ)) h λv h'=>aDE P ib ops rest (gK ((d,.bool b)::τ) o.dst v) h' K) /\
      (b'=!b->aDE P ib ops rest (gK ((d,.bool !b)::τ) o.dst (.gU [])) h K)
    | .gU []=>aDE P ib ops rest (gK τ o.dst (.gU [])) h K
    | _=>False
   |none=>False
theorem xV {τ:bP} {d:Nat} {v:aE} (hv:b6 τ d=v) (k:Nat):b6 ((d,v)::τ) k=b6 τ k:=by
 simp only[b6];split
 ·rename_i e;rw[←e,hv]
 ·rfl
theorem aDE.cases {P:Program} {ib:List Nat} {ops:Array Oper} {o:Oper} {rest:List Oper} {τ:bP} {h:aB} {K:bP->aB->Prop} (r:aDE P ib ops (o::rest) τ h K) :
  ∃ σ,(∀ k,b6 σ k=b6 τ k)/\((want ops τ o=some true/\uF P ib o (qF σ) h λv h'=>aDE P ib ops rest (gK σ o.dst v) h' K) ∨
   (want ops τ o=some false/\aDE P ib ops rest (gK σ o.dst (.gU [])) h K)):=by
 unfold aDE at r
 unfold want
 split at r
 ·rename_i hg;exact⟨τ,λ_=>rfl,.inl ⟨by simp[hg],r⟩⟩
 ·rename_i g b hg
  try simp only[hg]
  split at r
  ·rename_i d hd
   try simp only[hd]
   split at r
   ·rename_i b' hb'
    by_cases e:b'=b
    ·subst e
     exact⟨(d,.bool b')::τ,xV hb',.inl ⟨by simp[hb'],r.1 rfl⟩⟩
    ·have e':b'=!b:=by cases b' <;> cases b <;> simp_all
     subst e'
     exact⟨(d,.bool !b)::τ,xV hb',.inr ⟨by first|(cases b <;> rfl)|(simp only[hb'];cases b <;> rfl),r.2 rfl⟩⟩
   ·rename_i hb';exact⟨τ,λ_=>rfl,.inr ⟨by simp[hb'],r⟩⟩
   ·exact r.elim
  ·exact r.elim
def aB3 (N:Nat) (ops:Array Oper):Bool:=ops.toList.all λo=>match o.dst with|some d=>decide (d<N)|none=>true
theorem xW {N:Nat} {ops:Array Oper} (h:aB3 N ops=true) (g:Nat) (og:Oper) (d:Nat) (hg:ops[g]?=some og) (hd:og.dst=some d):d<N:=by
 have:=uX.1 h og (by rw[←al6]at hg;exact rS hg)
 simpa[hd]using this
theorem aNK {P:Program} {ib:List Nat} {N:Nat} {ops:Array Oper} {Q:Exit->bP->aB->Prop} {K:bP->aB->Prop} (hN:aB3 N ops=true) (keep:List Nat) (hK:∀ τ h,K τ h->Q .normal (prune keep τ) h) {E₀:Env} {h₀:aB} {w₀:World} :
  ∀ (l:List Oper),(∀ o∈l,o∈ops.toList)->∀ (τ:bP) (h:aB),aDE P ib ops l τ h K->∀ E w a,Ev E₀ h₀ w₀ E h w->Rel E h w->wD ds E h w N τ a->wpList P ops (sE ds N Q E₀ h₀ w₀) l a w
 | [],_,τ,h,hr,E,w,a,ev,R,r=>⟨prune keep τ,h,E,hK _ _ hr,ev,R,r.prune keep⟩
 |o::rest,hl,τ,h,hr,E,w,a,ev,R,r=>by
  have hdst:∀ k,o.dst=some k->k<N:=λk hk=>by
   have:=uX.1 hN o (hl o dG)
   simpa[hk]using this
  obtain⟨σ,hσ,hr⟩:=hr.cases
  have rσ:wD ds E h w N σ a:=⟨r.size,r.defers,λk=>by rw[hσ];exact r.get k⟩
  rcases hr with⟨hw,hr⟩|⟨hw,hr⟩
  ·have hwant:=aB2 r hw (xW hN)
   unfold wpList
   rw[hwant,if_pos rfl]
   left
   refine wS.wp ((zR hr E w _ R λx=>rσ.qF x).mono ?_)
   rintro v w' ⟨x,h',E',k,ev',R',rx⟩
   exact aNK hN keep hK rest (λo ho=>hl o (by simp[ho])) _ h' k E' w' (a.put o.dst v) (ev.trans ev') R' ((rσ.ev ev').put o.dst hdst rx)
  ·have hwant:=aB2 r hw (xW hN)
   unfold wpList
   rw[hwant,if_neg dG]
   refine aNK hN keep hK rest (λo ho=>hl o (by simp[ho])) _ h hr E w _ ev R (rσ.put o.dst hdst ?_)
   exact fC.gU [] [] rfl dG
theorem pT.region {P:Program} {ib:List Nat} {N id:Nat} {ops:Array Oper} {Q:Exit->bP->aB->Prop} {τ:bP} {h:aB} (hN:aB3 N ops=true) (keep:List Nat) (hr:aDE P ib ops ops.toList τ h λτ' h'=>Q .normal (Hl.prune keep τ') h'):pT P N (.region id ops false) Q τ h :=
 λds E w a R r=>wp_region_list (aNK hN keep (λ_ _ x=>x) ops.toList (λ_ ho=>ho) τ h hr E w a (.refl _ _ _) R r)
def aT2 (P:Program) (τ:bP) (h:aB):ResultVar->(aE->Prop)->Prop
 | .tmp t,K=>K (b6 τ t)
 | .cell a t,K=>jW (iE P t) (b6 τ a) h K
def a3D (P:Program) (τ:bP) (h:aB):List ResultVar->(List aE->Prop)->Prop
 | [],K=>K []
 |x::l,K=>aT2 P τ h x λv=>a3D P τ h l λvs=>K (v::vs)
def a75 (P:Program) (rs:Array ResultVar) (τ:bP) (h:aB) (K:aE->aB->Prop):Prop :=
 a3D P τ h rs.toList λvs=>match vs with
  | [v]=>K v h
  |vs=>K (.gU vs) h
def aDF (P:Program) (rs:Array ResultVar) (K:aE->aB->Prop):Exit->bP->aB->Prop
 | .normal,τ,h=>a75 P rs τ h K
 | .ret,τ,h=>a75 P rs τ h K
 | _,_,_=>False
theorem aT3 {P:Program} {t:TypeId} {a:aE} {h:aB} {K:aE->Prop} (hs:jW (iE P t) a h K) {E:Env} {w:World} {v:Value} (R:Rel E h w) (hv:fC E h w a v) :
  ∃ (b o:Nat) (x:aE) (c:Value),v=.pointer (some ⟨b,o,none⟩)/\(loadVar t ⟨b,o,none⟩).run P w=.ok c w/\K x/\fC E h w x c:=by
 unfold jW at hs
 split at hs
 ·rename_i r hr
  split at hs
  ·rename_i sz es i off
   split at hs
   ·rename_i e he
    split at hs
    ·rename_i x hx
     obtain⟨b,k,c,h1,h2,h3⟩:=aFX (P:=P) t r sz i off es e x hr hv he hx
     exact⟨b,k,x,c,h1,h2,hs,h3⟩
    ·exact hs.elim
   ·exact hs.elim
  ·rename_i n sz i off
   split at hs
   ·rename_i sz' es hn
    obtain⟨rfl,hs⟩:=hs
    split at hs
    ·rename_i e he
     split at hs
     ·rename_i x hx
      obtain⟨b,k,c,h1,h2,h3⟩:=aFY (P:=P) R t r n sz' i off es e x hr hv hn he hx
      exact⟨b,k,x,c,h1,h2,hs,h3⟩
     ·exact hs.elim
    ·exact hs.elim
   ·exact hs.elim
  ·exact hs.elim
 ·exact hs.elim
def aIL (P:Program) (tmps:Array Value):ResultVar->Sem Value
 | .tmp t=>pure (tmps.getD t undef)
 | .cell a t=>do loadVar t (←asAddr (tmps.getD a undef))
theorem aIM {P:Program} {N:Nat} {τ:bP} {h:aB} {E:Env} {w:World} {a:Act} (R:Rel E h w) (r:wD ds E h w N τ a):∀ (l:List ResultVar) (K:List aE->Prop),a3D P τ h l K ->
  ∃ xs vs,(l.mapM (aIL P a.tmps)).run P w=.ok vs w/\K xs/\dV E h w xs vs
 | [],K,hk=>⟨[],[],by simp,hk,trivial⟩
 |x::l,K,hk=>by
  unfold a3D at hk
  cases x with
  |tmp t =>
   simp only[aT2]at hk
   obtain⟨xs,vs,h1,h2,h3⟩:=aIM R r l _ hk
   exact⟨_::xs,_::vs,by simp[aIL,h1],h2,r.get t,h3⟩
  |cell p t =>
   simp only[aT2]at hk
   obtain⟨b,o,x,c,h1,h2,h3,h4⟩:=aT3 hk R (r.get p)
   obtain⟨xs,vs,k1,k2,k3⟩:=aIM R r l _ h3
   exact⟨x::xs,c::vs,by simp[aIL,h1,asAddr,h2,k1],k2,h4,k3⟩
theorem a3E {P:Program} {N:Nat} {τ:bP} {h:aB} {E:Env} {w:World} {a:Act} {fn:Func} {K:aE->aB->Prop} (R:Rel E h w) (r:wD ds E h w N τ a) (hk:a75 P fn.results τ h K) :
  ∃ x v,(results fn a.tmps).run P w=.ok v w/\K x h/\fC E h w x v:=by
 unfold a75 at hk
 obtain⟨xs,vs,h1,h2,h3⟩:=aIM R r _ _ hk
 have hm:(fn.results.mapM (aIL P a.tmps)).run P w=.ok vs.toArray w:=by
  rw[←Array.toArray_toList (xs:=fn.results),List.mapM_toArray]
  simp[h1]
 have hres:(results fn a.tmps).run P w=.ok (if h:vs.toArray.size=1 then vs.toArray[0]else .tuple vs.toArray) w:=by
  have e:results fn a.tmps=(do let vs ←fn.results.mapM (aIL P a.tmps);pure (if h:vs.size=1 then vs[0]else .tuple vs)):=by
   unfold results
   congr 1
  rw[e,Sem.run_bind,hm]
  rfl
 split at h2
 ·rename_i x
  cases vs with
  |nil=>exact h3.elim
  |cons v vs =>
   cases vs with
   |nil=>exact⟨x,v,by rw[hres];simp,h2,h3.1⟩
   |cons _ _=>exact h3.2.elim
 ·rename_i hne
  refine⟨.gU xs,.tuple vs.toArray,?_,h2,.gU xs vs h3.length h3.get⟩
  rw[hres,dif_neg]
  intro e
  have hl:=h3.length
  simp at e
  rw[e]at hl
  cases xs with
  |nil=>simp at hl
  |cons y ys =>
   cases ys with
   |nil=>exact hne y rfl
   |cons _ _=>simp at hl
def o7:Nat->List aE->bP
 | _,[]=>[]
 |i,x::xs=>(i,x)::o7 (i+1) xs
theorem aIN:∀ (xs:List aE) (i k:Nat),b6 (o7 i xs) k=if i<=k then(xs[k-i]?).getD .any else .any
 | [],i,k=>by simp[o7,b6]
 |x::xs,i,k=>by
  simp only[o7,b6]
  by_cases e:i=k
  ·subst e;simp
  ·rw[if_neg e,aIN xs (i+1) k]
   by_cases h:i+1<=k
   ·rw[if_pos h,if_pos aA,show k-i=(k-(i+1))+1 by omega];simp
   ·rw[if_neg h,if_neg aA]
theorem a3F {P:Program} {f:FuncId} {fn:Func} {c:Code} {N:Nat} {args:List aE} {h:aB} {K:aE->aB->Prop} (hf:P.funcs[f]?=some fn) (hb:fn.body=some c) (hc:iY P f=true) (hN:fn.ntmps=N)
  (hl:args.length<=N) {K':aE->aB->Prop} (hw:pT P N c (aDF P fn.results K') (o7 0 args) h) (hk':∀ r h',K' r h'->∃ g:aB,g.le h'/\K r g):iV P f args h K:=by
 refine⟨hc,λE w vs R hL=>calls_of_wp hf hb ?_⟩
 have hlen:=hL.length
 refine Code.wp_mono ?_ (hw [] E w _ R ⟨?_,rfl,?_⟩)
 ·rintro e a' w' ⟨τ',h',E',q,ev,R',r'⟩
  cases e <;> simp only[aDF]at q <;> try exact q.elim
  all_goals
   obtain⟨x,v,h1,hk0,hx⟩:=a3E R' r' q
   obtain⟨g,hg,hk⟩:=hk' _ _ hk0
   exact⟨r'.defers,v,h1,x,g,E',hk,ev.forget hg,R'.forget hg,hx.pD λb=>nX.le hg⟩
 ·simp[hN];omega
 ·intro k
  rw[aIN]
  simp only[eF,if_true,a2F]
  by_cases hk:k<args.length
  ·have hx:args[k]?=some args[k]:=eY hk
   have hv:vs[k]?=some (vs[k]'aA):=eY aA
   rw[hx]
   have hg:(vs.toArray++Array.replicate (fn.ntmps-vs.toArray.size) undef).getD k undef=vs[k]'aA:=by
    have hk':k<vs.length:=by omega
    simp[Array.getD,Array.getElem_append,hk'];omega
   rw[hg]
   exact hL.get k _ _ hx hv
  ·rw[aNC aA]
   exact .any _
variable {ds:List Deferred}
def sG (ops:Array Oper) (o:Oper):List Tmp :=
 (o.op.operands.toList.filterMap fun | .tmp t=>some t|_=>none)++(match o.guard with|some (g,_)=>((ops[g]?).bind (·.dst)).toList|none=>[])
def sY (ops:Array Oper) (o:Oper) (τ:bP):Operand->aE
 | .tmp t=>if (sG ops o).contains t then b6 τ t else .any
 |x=>qF τ x
theorem pI {ops:Array Oper} {o:Oper} {τ τ':bP} (h:∀ t∈sG ops o,b6 τ t=b6 τ' t):sY ops o τ=sY ops o τ':=by
 funext x
 cases x with
 |tmp t =>
  simp only[sY]
  split
  ·rename_i hc;exact h t (by simpa using hc)
  ·rfl
 | _=>rfl
def uG (P:Program) (o:Oper) (ρ:Operand->aE) (v:aE):Prop:=∀ h,oV P o ρ h λv' h'=>v'=v/\h'=h
def y3:List (Nat×Nat)->Nat->Nat->Bool
 | [],_,_=>false
 |(a,b)::r,x,i=>(a == x && b == i) || y3 r x i
def a3G:List (Nat×Nat)->Nat->Bool
 | [],_=>false
 |(a,_)::r,x=>a == x || a3G r x
theorem aQW {x i:Nat}:∀ {cr:List (Nat×Nat)},a3G cr x=false->y3 cr x i=false
 | [],_=>rfl
 |(a,b)::r,h=>by
  simp only[a3G,Bool.or_eq_false_iff]at h
  simp only[y3,h.1,a7P,aKX]
  exact aQW h.2
def aT4 (o:Oper):Bool:=match o.op with | .load _ _=>true|_=>false
def aNL (P:Program) (o:Oper) (ρ:Operand->aE) (h:aB) (n:Nat) (v:aE):Prop:=∀ h',h' n=h n->oV P o ρ h' λv' h''=>v'=v/\h''=h'
def aIO (cr:List (Nat×Nat)) (i:Nat) (pr:List (Nat×Nat)) (h h':aB):Prop:=∀ p∈pr,y3 cr p.1 i=true->h' p.2=h p.2
inductive sH where
 |nil
 |op (i:Nat) (p:sH)
 |alt (i:Nat) (p:sH) (j:Nat) (q:sH)
def OpL (P:Program) (ops:Array Oper) (ms:List Nat) (i:Nat) (cr:List (Nat×Nat)) (pr:List (Nat×Nat)) (τ:bP) (h:aB) (C:List (Nat×Nat)->bP->aB->Prop):Prop :=
 match ops[i]? with
  |none=>False
  |some o=>match want ops τ o with
   |none=>False
   |some true=>if ms.contains i then(if aT4 o then(∃ n v,aNL P o (sY ops o τ) h n v/\C ((i,n)::pr) (gK τ o.dst v) h)∨∃ v,uG P o (sY ops o τ) v/\C pr (gK τ o.dst v) h
      else oV P o (sY ops o τ) h λv h'=>aIO cr i pr h h'/\C pr (gK τ o.dst v) h')
     else ∃ v,uG P o (sY ops o τ) v/\C pr (gK τ o.dst v) h
   |some false=>C pr (gK τ o.dst (.gU [])) h
def jX (P:Program) (ops:Array Oper) (ms:List Nat) (cr:List (Nat×Nat)):sH->List (Nat×Nat)->bP->aB->(bP->aB->Prop)->Prop
 | .nil,_,τ,h,K=>K τ h
 | .op i p,pr,τ,h,K=>OpL P ops ms i cr pr τ h λpr τ h=>jX P ops ms cr p pr τ h K
 | .alt i p j q,pr,τ,h,K=>(OpL P ops ms i cr pr τ h λpr τ h=>jX P ops ms cr p pr τ h K)/\OpL P ops ms j cr pr τ h λpr τ h=>jX P ops ms cr q pr τ h K
def TEq (τ τ':bP):Prop:=∀ k,b6 τ k=b6 τ' k
theorem wZ (τ:bP) (d:Option Tmp) (v:aE) (k:Nat):b6 (gK τ d v) k=if d=some k then v else b6 τ k:=by
 cases d with
 |none=>simp[gK]
 |some d=>simp only[gK,b6,aZ6]
theorem TEq.put {τ τ':bP} (h:TEq τ τ') (d:Option Tmp) (v:aE):TEq (gK τ d v) (gK τ' d v):=λk=>by
 rw[wZ,wZ,h k]
theorem TEq.put_comm (τ:bP) {d e:Option Tmp} (u v:aE) (hne:∀ k,d=some k->e≠some k):TEq (gK (gK τ d u) e v) (gK (gK τ e v) d u):=λk=>by
 simp only[wZ]
 by_cases h1:e=some k <;> by_cases h2:d=some k
 ·exact absurd h1 (hne k h2)
 ·simp[h1,h2]
 ·simp[h1,h2]
 ·simp[h1,h2]
theorem xX {ops:Array Oper} {o:Oper} {τ τ':bP} (h:∀ t∈sG ops o,b6 τ t=b6 τ' t):want ops τ o=want ops τ' o:=by
 unfold want
 split
 ·rfl
 ·rename_i g b hg
  split
  ·rename_i d hd
   rw[h d (by simp[sG,hg,hd])]
  ·rfl
theorem aIO.sub {cr:List (Nat×Nat)} {i:Nat} {pr pr':List (Nat×Nat)} {h h':aB} (hs:∀ p∈pr',p∈pr∨∀ j,y3 cr p.1 j=false) (x:aIO cr i pr h h'):aIO cr i pr' h h':=λp hp hc=>by
 rcases hs p hp with h1|h1
 ·exact x p h1 hc
 ·rw[h1 i]at hc;cases hc
theorem a3H {cr pr pr':List (Nat×Nat)} (hs:∀ p∈pr',p∈pr∨∀ j,y3 cr p.1 j=false) (q:Nat×Nat):∀ p∈q::pr',p∈q::pr∨∀ j,y3 cr p.1 j=false:=λp hp=>by
 rcases mW.1 hp with rfl|hp
 ·exact .inl zD
 ·exact(hs p hp).imp (v9 _) id
theorem OpL.congr {P:Program} {ops:Array Oper} {ms:List Nat} {cr:List (Nat×Nat)} {i:Nat} {C C':List (Nat×Nat)->bP->aB->Prop} {pr pr':List (Nat×Nat)} {τ τ':bP} {h:aB}
  (hC:∀ (pr pr':List (Nat×Nat)) (τ τ':bP) (h:aB),(∀ p∈pr',p∈pr∨∀ j,y3 cr p.1 j=false)->TEq τ τ'->C pr τ h->C' pr' τ' h) (hs:∀ p∈pr',p∈pr∨∀ j,y3 cr p.1 j=false) (e:TEq τ τ') (r:OpL P ops ms i cr pr τ h C):OpL P ops ms i cr pr' τ' h C':=by
 unfold OpL at r ⊢
 cases ho:ops[i]? with
 |none=>simp[ho]at r
 |some o =>
  simp only[ho]at r ⊢
  rw[←xX (ops:=ops) (o:=o) (τ:=τ) (τ':=τ') λt _=>e t]
  cases hw:want ops τ o with
  |none=>simp[hw]at r
  |some c =>
   simp only[hw]at r ⊢
   rw[←pI (ops:=ops) (o:=o) (τ:=τ) (τ':=τ') λt _=>e t]
   cases c with
   |false=>exact hC _ _ _ _ h hs (e.put _ _) r
   |true =>
    simp only at r ⊢
    split at r
    ·rename_i hm;rw[if_pos hm]
     split at r
     ·rename_i hl;rw[if_pos hl]
      rcases r with⟨n,v,hr,x⟩|⟨v,hr,x⟩
      ·exact .inl ⟨n,v,hr,hC _ _ _ _ h (a3H hs _) (e.put _ _) x⟩
      ·exact .inr ⟨v,hr,hC _ _ _ _ h hs (e.put _ _) x⟩
     ·rename_i hl;rw[if_neg hl]
      exact r.mono λv h' x=>⟨x.1.sub hs,hC _ _ _ _ h' hs (e.put _ _) x.2⟩
    ·rename_i hm;rw[if_neg hm]
     obtain⟨v,hs',x⟩:=r
     exact⟨v,hs',hC _ _ _ _ h hs (e.put _ _) x⟩
theorem jX.congr {P:Program} {ops:Array Oper} {ms:List Nat} {cr:List (Nat×Nat)} {K:bP->aB->Prop} (hK:∀ τ τ' h,TEq τ τ'->K τ h->K τ' h):∀ (l:sH) (pr pr':List (Nat×Nat)) (τ τ':bP) (h:aB),(∀ p∈pr',p∈pr∨∀ j,y3 cr p.1 j=false)->TEq τ τ'->jX P ops ms cr l pr τ h K->jX P ops ms cr l pr' τ' h K
 | .nil,pr,pr',τ,τ',h,hs,e,r=>hK _ _ _ e r
 | .op i l,pr,pr',τ,τ',h,hs,e,r=>OpL.congr (λpr pr' τ τ' h hs e r=>jX.congr hK l pr pr' τ τ' h hs e r) hs e r
 | .alt i l j q,pr,pr',τ,τ',h,hs,e,r=>⟨OpL.congr (λpr pr' τ τ' h hs e r=>jX.congr hK l pr pr' τ τ' h hs e r) hs e r.1,OpL.congr (λpr pr' τ τ' h hs e r=>jX.congr hK q pr pr' τ τ' h hs e r) hs e r.2⟩
def aIQ (ops:Array Oper) (x y:Oper):Bool :=
 (match x.dst with|some d=>!(sG ops y).contains d && !(y.dst == some d)|none=>true) && (match y.dst with|some d=>!(sG ops x).contains d|none=>true)
theorem aQX {ops:Array Oper} {x y:Oper} (h:aIQ ops x y=true):(∀ d,x.dst=some d->d∉sG ops y)/\(∀ d,x.dst=some d->y.dst≠some d)/\(∀ d,y.dst=some d->d∉sG ops x):=by
 unfold aIQ at h
 refine⟨λd hd=>?_,λd hd=>?_,λd hd=>?_⟩ <;> simp[hd]at h
 ·exact h.1.1
 ·exact h.1.2
 ·exact h.2
def a3I (ms:List Nat) (cr:List (Nat×Nat)) (x i:Nat) (ox oi:Oper):Bool:=!ms.contains x || (aT4 ox && (y3 cr x i || aT4 oi || !ms.contains i))
theorem jX.swap {P:Program} {ops:Array Oper} {ms:List Nat} {cr:List (Nat×Nat)} {K:bP->aB->Prop} (hK:∀ τ τ' h,TEq τ τ'->K τ h->K τ' h) {x i:Nat} {ox oi:Oper} {l:sH} {pr:List (Nat×Nat)} {τ:bP} {h:aB}
  (hx:ops[x]?=some ox) (hi:ops[i]?=some oi) (hm:a3I ms cr x i ox oi=true) (hap:aIQ ops ox oi=true) (r:jX P ops ms cr (.op x (.op i l)) pr τ h K):jX P ops ms cr (.op i (.op x l)) pr τ h K:=by
 obtain⟨a1,a2,a3⟩:=aQX hap
 have ei:∀ v,(∀ t∈sG ops oi,b6 (gK τ ox.dst v) t=b6 τ t):=λv t ht=>by
  rw[wZ,if_neg];intro e;exact a1 t e ht
 have ex:∀ v,(∀ t∈sG ops ox,b6 (gK τ oi.dst v) t=b6 τ t):=λv t ht=>by
  rw[wZ,if_neg];intro e;exact a3 t e ht
 have hc:∀ u v,TEq (gK (gK τ ox.dst u) oi.dst v) (gK (gK τ oi.dst v) ox.dst u):=λu v=>TEq.put_comm τ u v a2
 have ids:∀ pr:List (Nat×Nat),∀ p∈pr,p∈pr∨∀ j,y3 cr p.1 j=false:=λ_ _ h=>.inl h
 have sw:∀ (a b:Nat×Nat),∀ p∈b::a::pr,p∈a::b::pr∨∀ j,y3 cr p.1 j=false:=λa b p hp=>by
  left
  simp only[mW]at hp ⊢
  rcases hp with h1|h1|h1
  ·exact .inr (.inl h1)
  ·exact .inl h1
  ·exact .inr (.inr h1)
 unfold jX OpL at r
 simp only[hx]at r
 cases hwx:want ops τ ox with
 |none=>simp[hwx]at r
 |some cx =>
  simp only[hwx]at r
  have hwx':∀ v,want ops (gK τ oi.dst v) ox=some cx:=λv=>by rw[xX (ex v)];exact hwx

  have key:∀ u,jX P ops ms cr (.op i l) pr (gK τ ox.dst u) h K ->
    (∀ τ' h' pr',jX P ops ms cr l pr' (gK (gK τ oi.dst τ') ox.dst u) h' K->jX P ops ms cr (.op x l) pr' (gK τ oi.dst τ') h' K) ->
    jX P ops ms cr (.op i (.op x l)) pr τ h K:=by
   intro u r hback
   unfold jX OpL at r
   rw[jX];unfold OpL
   simp only[hi]at r ⊢
   rw[xX (ei u),pI (ei u)]at r
   cases hwi:want ops τ oi with
   |none=>simp[hwi]at r
   |some ci =>
    simp only[hwi]at r ⊢
    cases ci with
    |false=>exact hback _ _ _ (jX.congr hK l _ _ _ _ h (ids _) (hc _ _) r)
    |true =>
     simp only at r ⊢
     split at r
     ·rename_i hmi;rw[if_pos hmi]
      split at r
      ·rename_i hl;rw[if_pos hl]
       rcases r with⟨n,v,hr,y⟩|⟨v,hr,y⟩
       ·exact .inl ⟨n,v,hr,hback _ _ _ (jX.congr hK l _ _ _ _ h (ids _) (hc _ _) y)⟩
       ·exact .inr ⟨v,hr,hback _ _ _ (jX.congr hK l _ _ _ _ h (ids _) (hc _ _) y)⟩
      ·rename_i hl;rw[if_neg hl]
       exact r.mono λv h' y=>⟨y.1,hback _ _ _ (jX.congr hK l _ _ _ _ h' (ids _) (hc _ _) y.2)⟩
     ·rename_i hmi;rw[if_neg hmi]
      obtain⟨v,hs,y⟩:=r
      exact⟨v,hs,hback _ _ _ (jX.congr hK l _ _ _ _ h (ids _) (hc _ _) y)⟩
  cases cx with
  |false =>
   refine key _ r λu h' pr' y=>?_
   rw[jX];unfold OpL;simp only[hx,hwx' u];exact y
  |true =>
   simp only at r
   by_cases hmx:ms.contains x=true
   ·rw[if_pos hmx]at r
    simp only[a3I,hmx,a2H,aKX,l7,Bool.or_eq_true,a0B]at hm
    obtain⟨hlx,hm⟩:=hm
    rw[if_pos hlx]at r
    rcases r with⟨n,v,hr,r⟩|⟨v,hs,r⟩
    case inr =>
     refine key v r λu h' pr' y=>?_
     rw[jX];unfold OpL;simp only[hx,hwx' u,hmx,hlx,if_true]
     exact .inr ⟨v,by rw[pI (ex u)];exact hs,y⟩

    have back:∀ (u:aE) (h':aB) (pr':List (Nat×Nat)),h' n=h n->jX P ops ms cr l ((x,n)::pr') (gK (gK τ oi.dst u) ox.dst v) h' K->jX P ops ms cr (.op x l) pr' (gK τ oi.dst u) h' K:=by
     intro u h' pr' e y
     rw[jX];unfold OpL;simp only[hx,hwx' u,hmx,hlx,if_true]
     exact .inl ⟨n,v,λh'' e'=>by rw[pI (ex u)];exact hr h'' (e'.trans e),y⟩
    unfold jX OpL at r
    rw[jX];unfold OpL
    simp only[hi]at r ⊢
    rw[xX (ei v),pI (ei v)]at r
    cases hwi:want ops τ oi with
    |none=>simp[hwi]at r
    |some ci =>
     simp only[hwi]at r ⊢
     cases ci with
     |false=>exact back _ _ _ rfl (jX.congr hK l _ _ _ _ h (ids _) (hc _ _) r)
     |true =>
      simp only at r ⊢
      split at r
      ·rename_i hmi;rw[if_pos hmi]
       split at r
       ·rename_i hl;rw[if_pos hl]
        rcases r with⟨m,u,hri,y⟩|⟨u,hri,y⟩
        ·exact .inl ⟨m,u,hri,back _ _ _ rfl (jX.congr hK l _ _ _ _ h (sw _ _) (hc _ _) y)⟩
        ·exact .inr ⟨u,hri,back _ _ _ rfl (jX.congr hK l _ _ _ _ h (ids _) (hc _ _) y)⟩
       ·rename_i hl;rw[if_neg hl]
        refine r.mono λu h' y=>⟨y.1.sub λp hp=>.inl (v9 _ hp),?_⟩
        have hcx:y3 cr x i=true:=by
         rcases hm with(h1|h1)|h1
         ·exact h1
         ·exact absurd h1 hl
         ·rw[hmi]at h1;cases h1
        exact back _ _ _ (y.1 (x,n) zD hcx) (jX.congr hK l _ _ _ _ h' (ids _) (hc _ _) y.2)
      ·rename_i hmi;rw[if_neg hmi]
       obtain⟨u,hs,y⟩:=r
       exact⟨u,hs,back _ _ _ rfl (jX.congr hK l _ _ _ _ h (ids _) (hc _ _) y)⟩
   ·rw[if_neg hmx]at r
    obtain⟨v,hs,r⟩:=r
    refine key v r λu h' pr' y=>?_
    rw[jX];unfold OpL;simp only[hx,hwx' u]
    rw[if_neg hmx]
    exact⟨v,by rw[pI (ex u)];exact hs,y⟩
def blk:List Oper->Nat->List Nat->List Nat
 | [],_,B=>B
 |o::l,j,B=>blk l (j+1) (if o.after.toList.any (λe=>Region.binds .any e && B.contains e.on)then j::B else B)
theorem aXC:∀ (l:List Oper) (j:Nat) (B:List Nat) (b:Nat),b∈B->b∈blk l j B
 | [],_,_,_,h=>h
 |o::l,j,B,b,h=>by
  unfold blk
  refine aXC l (j+1) _ b ?_
  split
  ·exact v9 _ h
  ·exact h
theorem aXD:∀ (l:List Oper) (j:Nat) (B:List Nat) (b:Nat),b∈blk l j B->b∈B∨∃ o e,j<=b/\l[b-j]?=some o/\e∈o.after.toList/\Region.binds .any e=true/\e.on∈blk l j B
 | [],_,_,_,h=>.inl h
 |o::l,j,B,b,h=>by
  unfold blk at h
  rcases aXD l (j+1) _ b h with h1|⟨o',e,h1,h2,h3,h4,h5⟩
  ·split at h1
   ·rename_i hany
    rcases mW.1 h1 with rfl|h1
    ·right
     obtain⟨e,he,hb⟩:=a2I.1 hany
     simp only[l7,a7Q]at hb
     exact⟨o,e,bX _,by simp,he,hb.1,aXC _ _ _ _ hb.2⟩
    ·exact .inl h1
   ·exact .inl h1
  ·refine .inr ⟨o',e,by omega,?_,h3,h4,?_⟩
   ·rw[show b-j=(b-(j+1))+1 by omega];simpa using h2
   ·unfold blk;exact h5
def sI (ops:Array Oper) (ms:List Nat) (cr:List (Nat×Nat)):sH->List Nat->Bool
 | .nil,U=>U.isEmpty
 | .op x p,U=>U.contains x && (let B:=blk ops.toList 0 [x]
   (U.erase x).all λi=>B.contains i || (match ops[x]?,ops[i]? with|some ox,some oi=>a3I ms cr x i ox oi && aIQ ops ox oi|_,_=>false)) && sI ops ms cr p (U.erase x)
 | .alt x p y q,U=>U.contains x && U.contains y && (let B:=blk ops.toList 0 [x]
   let C:=blk ops.toList 0 [y]
   U.all λi=>i == x || i == y || B.contains i || C.contains i) && sI ops ms cr p (U.erase x) && sI ops ms cr q (U.erase y)
def bET (ops:Array Oper) (ms:List Nat) (p:sH) (cr:List (Nat×Nat)):Bool :=
 sI ops ms cr p (List.range ops.size) &&
 (List.range ops.size).all λi=>match ops[i]? with|some o=>o.after.toList.all λe=>!Region.binds .any e || decide (e.on<i)|none=>true
def aNM (ops:Array Oper) (L:Nat->Prop):Prop:=∀ (j:Nat) (o:Oper),ops[j]?=some o->L j->∀ e∈o.after.toList,Region.binds .any e=true->L e.on
theorem aIR {ops:Array Oper} {L:Nat->Prop} (hc:aNM ops L) {x:Nat} (hx:¬L x):∀ (l:List Oper) (j:Nat) (B:List Nat),(∀ k o,l[k]?=some o->ops[j+k]?=some o)->(∀ b∈B,¬L b)->∀ b∈blk l j B,¬L b
 | [],_,_,_,hB,b,h=>hB b h
 |o::l,j,B,hl,hB,b,h=>by
  unfold blk at h
  refine aIR hc hx l (j+1) _ (λk o hk=>by have:=hl (k+1) o (by simpa using hk);rwa [show j+1+k=j+(k+1)by omega]) ?_ b h
  intro b' hb'
  split at hb'
  ·rename_i hany
   rcases mW.1 hb' with rfl|hb'
   ·intro hL
    obtain⟨e,he,hb⟩:=a2I.1 hany
    simp only[l7,a7Q]at hb
    exact hB _ hb.2 (hc b' o (by simpa using hl 0 o rfl) hL e he hb.1)
   ·exact hB b' hb'
  ·exact hB b' hb'
theorem a0J {ops:Array Oper} {L:Nat->Prop} (hc:aNM ops L) {x i:Nat} (hx:¬L x) (hne:i≠x) {oi:Oper} (hi:ops[i]?=some oi) (hr:∀ e∈oi.after.toList,Region.binds .any e=true->L e.on):(blk ops.toList 0 [x]).contains i=false:=by
 cases hb:(blk ops.toList 0 [x]).contains i with
 |false=>rfl
 |true =>
  exfalso
  rw[a7Q]at hb
  have hlist:=aIR hc hx ops.toList 0 [x] (λk o hk=>by simpa using hk) aQF
  rcases aXD _ _ _ _ hb with h1|⟨o,e,_,h2,h3,h4,h5⟩
  ·exact hne (by simpa using h1)
  ·have:o=oi:=by
    simp only[a2F,al6]at h2
    rw[hi]at h2;exact(gH h2).symm
   subst this
   exact hlist _ h5 (hr e h3 h4)
inductive aIS (ops:Array Oper) (ms:List Nat) (cr:List (Nat×Nat)) (i:Nat) (oi:Oper):sH->sH->Prop where
 |here (p:sH):aIS ops ms cr i oi (.op i p) p
 |skip {x:Nat} {ox:Oper} {p p':sH} (hox:ops[x]?=some ox) (hm:a3I ms cr x i ox oi=true) (hap:aIQ ops ox oi=true) (f:aIS ops ms cr i oi p p'):aIS ops ms cr i oi (.op x p) (.op x p')
 |left (p:sH) (j:Nat) (q:sH):aIS ops ms cr i oi (.alt i p j q) p
 |right (j:Nat) (p q:sH):aIS ops ms cr i oi (.alt j p i q) q
theorem jX.front {P:Program} {ops:Array Oper} {ms:List Nat} {cr:List (Nat×Nat)} {K:bP->aB->Prop} (hK:∀ τ τ' h,TEq τ τ'->K τ h->K τ' h) {i:Nat} {oi:Oper} (hi:ops[i]?=some oi) {p p':sH} (f:aIS ops ms cr i oi p p') :
  ∀ (pr:List (Nat×Nat)) (τ:bP) (h:aB),jX P ops ms cr p pr τ h K->jX P ops ms cr (.op i p') pr τ h K:=by
 induction f with
 |here p=>intro pr τ h r;exact r
 |left p j q=>intro pr τ h r;exact r.1
 |right j p q=>intro pr τ h r;exact r.2
 | @skip x ox p p' hox hm hap f ih =>
  intro pr τ h r
  refine jX.swap hK hox hi hm hap ?_
  rw[jX]at r ⊢
  unfold OpL at r ⊢
  simp only[hox]at r ⊢
  cases hw:want ops τ ox with
  |none=>simp[hw]at r
  |some c =>
   simp only[hw]at r ⊢
   cases c with
   |false=>exact ih _ _ h r
   |true =>
    simp only at r ⊢
    by_cases hmx:ms.contains x=true
    ·rw[if_pos hmx]at r ⊢
     have hlx:aT4 ox=true:=by
      simp only[a3I,hmx,a2H,aKX,l7]at hm
      exact hm.1
     rw[if_pos hlx]at r ⊢
     rcases r with⟨n,v,hs,r⟩|⟨v,hs,r⟩
     ·exact .inl ⟨n,v,hs,ih _ _ h r⟩
     ·exact .inr ⟨v,hs,ih _ _ h r⟩
    ·rw[if_neg hmx]at r ⊢
     obtain⟨v,hs,r⟩:=r;exact⟨v,hs,ih _ _ h r⟩
theorem aQY {ops:Array Oper} {ms:List Nat} {cr:List (Nat×Nat)} {i:Nat} {oi:Oper} (hoi:ops[i]?=some oi):∀ (p:sH) (U:List Nat),sI ops ms cr p U=true->U.Nodup->i∈U ->
  (∀ x∈U,x≠i->(blk ops.toList 0 [x]).contains i=false)->∃ p',aIS ops ms cr i oi p p'/\sI ops ms cr p' (U.erase i)=true
 | .nil,U,hv,_,hi,_=>by
  simp only[sI,List.isEmpty_iff]at hv
  subst hv;cases hi
 | .op x p,U,hv,hnd,hi,hb=>by
  simp only[sI,l7,uX]at hv
  obtain⟨⟨hx,hall⟩,hp⟩:=hv
  by_cases e:x=i
  ·subst e;exact⟨p,.here p,hp⟩
  ·have hie:i∈U.erase x:=(List.mem_erase_of_ne (iK e)).2 hi
   have h1:=hall i hie
   have hxU:x∈U:=by simpa using hx
   rw[hb x hxU e,aKX]at h1
   cases hox:ops[x]? with
   |none=>simp[hox]at h1
   |some ox =>
    simp only[hox,hoi,l7]at h1
    obtain⟨p',f,hp'⟩:=aQY hoi p (U.erase x) hp (hnd.erase x) hie λy hy hne=>hb y (List.mem_of_mem_erase hy) hne
    refine⟨.op x p',.skip hox h1.1 h1.2 f,?_⟩
    simp only[sI,l7,uX]
    refine⟨⟨by simpa using(List.mem_erase_of_ne e).2 hxU,λj hj=>hall j ?_⟩,?_⟩
    ·rw[List.erase_comm]at hj;exact List.mem_of_mem_erase hj
    ·rw[List.erase_comm];exact hp'
 | .alt x p y q,U,hv,hnd,hi,hb=>by
  simp only[sI,l7,uX,Bool.or_eq_true,beq_iff_eq]at hv
  obtain⟨⟨⟨⟨hx,hy⟩,hall⟩,hp⟩,hq⟩:=hv
  by_cases e:x=i
  ·subst e;exact⟨p,.left p y q,hp⟩
  ·by_cases e2:y=i
   ·subst e2;exact⟨q,.right x p q,hq⟩
   ·exfalso
    rcases hall i hi with((h1|h1)|h1)|h1
    ·exact e h1.symm
    ·exact e2 h1.symm
    ·rw[hb x aQF e]at h1;cases h1
    ·rw[hb y (by simpa using hy) e2]at h1;cases h1
theorem aQZ {P:Program} {N:Nat} {ops:Array Oper} {ms:List Nat} {cr:List (Nat×Nat)} {Q:Exit->bP->aB->Prop} (hN:aB3 N ops=true) (keep:List Nat) {E₀:Env} {h₀:aB} {w₀:World}
  (hback:∀ (i:Nat) (o:Oper),ops[i]?=some o->∀ e∈o.after.toList,Region.binds .any e=true->e.on<i) :
  ∀ (fuel:Nat) (listed:Array Bool) (p:sH) (l:List Nat),listed.size=ops.size->l.Nodup->(∀ i,i∈l↔listed[i]?=some false)->fuel=l.length ->
   sI ops ms cr p l=true ->
   aNM ops (λi=>listed[i]?=some true) ->
   ∀ (pr:List (Nat×Nat)) (τ:bP) (h:aB),jX P ops ms cr p pr τ h (λτ' h'=>Q .normal (Hl.prune keep τ') h')->∀ E w a,Ev E₀ h₀ w₀ E h w->Rel E h w->wD ds E h w N τ a ->
   wpAny P .any ops (sE ds N Q E₀ h₀ w₀) fuel listed a w
 |0,listed,p,l,hsz,hnd,hl,hf,hp,hcl,pr,τ,h,r,E,w,a,ev,R,rt=>by
  have:l=[]:=aGJ.1 hf.symm
  subst this
  have:p=.nil:=by cases p <;> simp[sI]at hp ⊢
  subst this
  refine⟨?_,⟨Hl.prune keep τ,h,E,r,ev,R,rt.prune keep⟩⟩
  unfold Region.ready
  rw[List.filter_eq_nil_iff]
  intro i hi hc
  simp only[aGK]at hi
  simp only[l7,a0B]at hc
  have hlt:i<listed.size:=by omega
  have:listed[i]?=some false:=by
   rw[aHY hlt]
   have:=hc.1
   simp only[Array.getD,hlt,dif_pos]at this
   rw[←this];rfl
  exact absurd ((hl i).2 this) dG
 |fuel+1,listed,p,l,hsz,hnd,hl,hf,hp,hcl,pr,τ,h,r,E,w,a,ev,R,rt=>by
  have hK:∀ τ τ' h,TEq τ τ'->Q .normal (Hl.prune keep τ) h->Q .normal (Hl.prune keep τ') h:=λτ τ' h e q=>by
   have:Hl.prune keep τ=Hl.prune keep τ':=by unfold Hl.prune;exact zE λk _=>by rw[e k]
   rwa [←this]
  have hready:∀ i,i∈Region.ready .any ops listed->i∈l/\∃ o,ops[i]?=some o/\∀ e∈o.after.toList,Region.binds .any e=true->listed[e.on]?=some true:=by
   intro i hi
   unfold Region.ready at hi
   rw[List.mem_filter]at hi
   obtain⟨hi,hc⟩:=hi
   simp only[aGK]at hi
   simp only[l7,a0B]at hc
   have hlt:i<listed.size:=by omega
   have hlf:listed[i]?=some false:=by
    rw[aHY hlt]
    have:=hc.1
    simp only[Array.getD,hlt,dif_pos]at this
    rw[←this];rfl
   refine⟨(hl i).2 hlf,ops[i],aHY hi,λe he hb=>?_⟩
   have h2:=hc.2
   simp only[aHY hi,aBT,aEO]at h2
   rw[a2J]at h2
   have:=h2 e (by simpa using he)
   simp only[hb,a2H,aKX]at this
   by_cases hel:e.on<listed.size
   ·simp only[Array.getD,hel,dif_pos]at this
    rw[aHY hel,←this];rfl
   ·simp[Array.getD,hel]at this
  refine⟨λhnil=>?_,λi hi=>?_⟩
  ·
   exfalso
   have hne:l≠[]:=by intro e;simp[e]at hf

   have:∃ m∈l,∀ j∈l,m<=j:=by
    obtain⟨x,hx⟩:=List.exists_mem_of_ne_nil l hne
    have key:∀ n,∀ x∈l,x<=n->∃ m∈l,∀ j∈l,m<=j:=by
     intro n
     induction n with
     |zero=>intro x hx hn;exact⟨x,hx,λj _=>by omega⟩
     |succ n ih =>
      intro x hx hn
      by_cases hall:∀ j∈l,x<=j
      ·exact⟨x,hx,hall⟩
      ·have:∃ j∈l,j<x:=by
        apply a0C
        intro hcon
        exact hall λj hj=>by
         apply a0C
         intro hlt
         exact hcon ⟨j,hj,by omega⟩
       obtain⟨j,hj,hlt⟩:=this
       exact ih j hj aA
    exact key x x hx (bX _)
   obtain⟨m,hm,hmin⟩:=this
   have hmf:=(hl m).1 hm
   have hmlt:m<listed.size:=(aPZ.1 hmf).1
   have hmo:m<ops.size:=by omega
   have hmem:m∈Region.ready .any ops listed:=by
    unfold Region.ready
    rw[List.mem_filter]
    refine⟨by simpa using hmo,?_⟩
    simp only[l7,a0B]
    refine⟨?_,?_⟩
    ·simp only[Array.getD,hmlt,dif_pos]
     have:=(aPZ.1 hmf).2
     exact this
    ·simp only[aHY hmo,aBT,aEO]
     rw[a2J]
     intro e he
     cases hb:Region.binds .any e with
     |false=>rfl
     |true =>
      simp only[a2H,aKX]
      have hlt:=hback m _ (aHY hmo) e (by simpa using he) hb
      have hel:e.on<listed.size:=by omega
      simp only[Array.getD,hel,dif_pos]
      cases hv:listed[e.on]with
      |true=>exact hv
      |false =>
       have:=hmin e.on ((hl e.on).2 (by rw[aHY hel,hv]))
       omega
   rw[hnil]at hmem
   simp at hmem
  ·obtain⟨hil,o,ho,hedges⟩:=hready i hi
   obtain⟨p',hfr,hp'⟩:=aQY ho p l hp hnd hil λx hx hne=>a0J hcl (x:=x) (i:=i) (by simp[(hl x).1 hx]) (iK hne) ho hedges
   have hfront:=jX.front hK ho hfr pr τ h r
   unfold wpOp
   simp only[ho]
   have hdst:∀ k,o.dst=some k->k<N:=λk hk=>xW hN i o k ho hk
   have hil':listed[i]?=some false:=(hl i).1 hil
   have hilt:i<listed.size:=(aPZ.1 hil').1
   have hrest:∀ (pr':List (Nat×Nat)) (τ':bP) (h':aB),jX P ops ms cr p' pr' τ' h' (λτ' h'=>Q .normal (Hl.prune keep τ') h')->∀ E' w' a',Ev E₀ h₀ w₀ E' h' w'->Rel E' h' w'->wD ds E' h' w' N τ' a' ->
     wpAny P .any ops (sE ds N Q E₀ h₀ w₀) fuel (listed.setIfInBounds i true) a' w':=by
    intro pr' τ' h' r' E' w' a' ev' R' rt'
    refine aQZ hN keep hback fuel _ p' (l.erase i) (by simpa using hsz) (hnd.erase i) ?_ (by rw[List.length_erase_of_mem hil];omega) hp' ?_ pr' τ' h' r' E' w' a' ev' R' rt'
    ·intro j
     rw[hnd.mem_erase_iff]
     by_cases e:j=i
     ·subst e
      simp[hilt]
     ·rw[aTS (iK e),←hl j]
      simp[e]
    ·intro j oj hoj hL e he hb
     by_cases ej:j=i
     ·subst ej
      rw[ho]at hoj
      obtain rfl:=gH hoj
      have:=hedges e he hb
      by_cases e2:e.on=j
      ·rw[e2]at this;rw[this]at hil';simp at hil'
      ·rw[aTS (iK e2)];exact this
     ·rw[aTS (iK ej)]at hL
      have:=hcl j oj hoj hL e he hb
      by_cases e2:e.on=i
      ·rw[e2]at this;rw[this]at hil';simp at hil'
      ·rw[aTS (iK e2)];exact this
   rw[jX]at hfront
   unfold OpL at hfront
   simp only[ho]at hfront
   have hmask:∀ x,fC E h w (sY ops o τ x) (a.eval x):=λx=>by
    cases x with
    |tmp t =>
     simp only[sY]
     split
     ·exact rt.get t
     ·exact .any _
    |const v=>exact rt.qF (.const v)
    |global g=>exact rt.qF (.global g)
    |func f=>exact rt.qF (.func f)
   cases hw:want ops τ o with
   |none=>simp[hw]at hfront
   |some c =>
    simp only[hw]at hfront
    have hwant:=aB2 rt hw (xW hN)
    rw[hwant]
    cases c with
    |false =>
     rw[if_neg dG]
     exact hrest _ _ h hfront E w _ ev R (rt.put o.dst hdst (fC.gU [] [] rfl dG))
    |true =>
     rw[if_pos rfl]
     left
     simp only at hfront
     split at hfront
     ·split at hfront
      ·rcases hfront with⟨n,v,hs,hfront⟩|⟨v,hs,hfront⟩
       ·refine wS.wp ((hs h rfl E w _ R hmask).mono ?_)
        rintro c w' ⟨x,h',E',⟨rfl,rfl⟩,ev',R',rx⟩
        exact hrest _ _ _ hfront E' w' _ (ev.trans ev') R' ((rt.ev ev').put o.dst hdst rx)
       ·refine wS.wp ((hs h E w _ R hmask).mono ?_)
        rintro c w' ⟨x,h',E',⟨rfl,rfl⟩,ev',R',rx⟩
        exact hrest _ _ _ hfront E' w' _ (ev.trans ev') R' ((rt.ev ev').put o.dst hdst rx)
      ·refine wS.wp ((hfront E w _ R hmask).mono ?_)
       rintro v w' ⟨x,h',E',k,ev',R',rx⟩
       exact hrest _ _ h' k.2 E' w' _ (ev.trans ev') R' ((rt.ev ev').put o.dst hdst rx)
     ·obtain⟨v,hs,hfront⟩:=hfront
      refine wS.wp ((hs h E w _ R hmask).mono ?_)
      rintro c w' ⟨x,h',E',⟨rfl,rfl⟩,ev',R',rx⟩
      exact hrest _ _ _ hfront E' w' _ (ev.trans ev') R' ((rt.ev ev').put o.dst hdst rx)
theorem pT.aQ0 {P:Program} {N id:Nat} {ops:Array Oper} {ms:List Nat} {ord:sH} {cr:List (Nat×Nat)} {Q:Exit->bP->aB->Prop} {τ:bP} {h:aB} (hmix:P.follows .mixedOrders=true) (hN:aB3 N ops=true) (hord:bET ops ms ord cr=true) (keep:List Nat)
  (hr:jX P ops ms cr ord [] τ h λτ' h'=>Q .normal (Hl.prune keep τ') h'):pT P N (.region id ops true) Q τ h:=by
 intro ds E w a R r
 simp only[bET,l7]at hord
 obtain⟨h1,h5⟩:=hord
 rw[uX]at h5
 refine wp_region_any hmix ?_
 have ev:Ev E h w E h { w with drawn:=w.drawn+1 }:=⟨bX _,λ_ hb=>⟨rfl,hb⟩,λ_ _=>rfl,λ_ hn=>⟨rfl,hn⟩,rfl,rfl⟩
 have R':Rel E h { w with drawn:=w.drawn+1 }:=⟨R.fin,R.dom,R.lt,R.apart,λn o hn=>(R.obj n o hn).ev ev rfl rfl λ_ _ _=>rfl,R.laid.ev ev⟩
 refine aQZ hN keep ?_ ops.size _ ord (List.range ops.size) dG List.nodup_range ?_ dG h1 ?_ [] τ h hr E _ a ev R' (r.ev ev)
 ·intro i o ho e he hb
  have:=h5 i (by simp;exact(aPZ.1 ho).1)
  simp only[ho,uX]at this
  have:=this e he
  simpa[hb]using this
 ·intro i
  rw[aGK]
  constructor
  ·intro hi;simp[hi]
  ·intro hi;have:=(aPZ.1 hi).1;simpa using this
 ·intro j o ho hL
  rw[Array.getElem?_replicate]at hL
  split at hL <;> simp at hL
def Det (F:(aE->Prop)->Prop):Prop:=∀ K,F K->∃ v,K v/\∀ K':aE->Prop,K' v->F K'
theorem pU (v:aE):Det λK=>K v:=λK hk=>⟨v,hk,λ_ h=>h⟩
theorem a76 {c:Prop} {F:(aE->Prop)->Prop} (h:c->Det F):Det λK=>c/\F K:=λK ⟨hc,hk⟩=>let ⟨v,h1,h2⟩:=h hc K hk;⟨v,h1,λK' h'=>⟨hc,h2 K' h'⟩⟩
theorem a77 (P:Program) (op:BinOp) (t:TypeId) (x y:aE):Det (gL P op t x y):=by
 intro K hk
 unfold gL at hk ⊢
 split at hk
 ·obtain⟨hd,hk⟩:=hk
  split at hk
  ·exact⟨_,hk,λK' h=>⟨hd,h⟩⟩
  ·exact⟨_,hk,λK' h=>⟨hd,h⟩⟩
  ·exact hk.elim
 ·split at hk
  ·exact⟨_,hk.2.2,λK' h=>⟨hk.1,hk.2.1,h⟩⟩
  ·exact⟨_,hk.2.2,λK' h=>⟨hk.1,hk.2.1,h⟩⟩
  ·exact⟨_,hk.2,λK' h=>⟨hk.1,h⟩⟩
  ·exact⟨_,hk.2,λK' h=>⟨hk.1,h⟩⟩
  ·split at hk
   ·rename_i v hv;exact⟨v,hk,λK' h=>by first|exact h|(simp only[hv];exact h)⟩
   ·exact hk.elim
 ·split at hk
  ·exact⟨_,hk.2,λK' h=>⟨hk.1,h⟩⟩
  ·exact⟨_,hk,λK' h=>h⟩
  ·exact⟨_,hk,λK' h=>h⟩
  ·split at hk
   ·rename_i v hv;exact⟨_,hk,λK' h=>by first|exact h|(simp only[hv];exact h)⟩
   ·exact hk.elim
 ·split at hk
  ·rename_i v hv;exact⟨v,hk,λK' h=>by first|exact h|(simp only[hv];exact h)⟩
  ·exact hk.elim
theorem a0K {P:Program} {op:BinOp} {t:TypeId} {x y:aE} {K:aE->Prop} (h:gL P op t x y K):wX P op t x y K:=by
 unfold wX
 split
 ·simp[gL,mY]at h
 ·simp[gL,mY]at h
 ·simp[gL,mY]at h
 ·exact h
theorem a0L {P:Program} {op:BinOp} {t:TypeId} {c:Bool} {x y:aE} {K:aE->Prop} (h:gL P op t x y K):wY P op t c x y K:=by
 unfold wY
 split
 ·simp[gL,mY]at h
 ·simp[gL,mY]at h
 ·exact a0K h
theorem bEU (op:UnOp) (x:aE):Det (aEV op x):=by
 intro K hk
 unfold aEV at hk ⊢
 split at hk
 ·exact⟨_,hk,λK' h=>h⟩
 ·exact⟨_,hk,λK' h=>h⟩
 ·exact hk.elim
theorem a3J (P:Program) (s d:TypeId) (x:aE):Det (zQ P s d x):=by
 intro K hk
 unfold zQ at hk ⊢
 split at hk
 ·rename_i hd;exact⟨_,hk.2,λK' h=>by first|exact⟨hk.1,h⟩|(simp only[hd];exact⟨hk.1,h⟩)⟩
 ·rename_i hd
  split at hk
  ·rename_i h1
   obtain⟨h2,hk⟩:=hk
   split at hk
   ·rename_i h3
    exact⟨_,hk,λK' h=>by exact⟨h2,h⟩⟩
   ·exact hk.elim
  ·exact hk.elim
 ·exact hk.elim
theorem bEV (d:Option TyD) (f:Nat) (x:aE):Det (aEW d f x):=by
 intro K hk
 unfold aEW at hk ⊢
 split at hk
 ·split at hk
  ·rename_i hf
   obtain⟨h1,hk⟩:=hk
   split at hk
   ·exact⟨_,hk,λK' h=>by first|exact⟨h1,h⟩|(simp only[hf];exact⟨h1,h⟩)⟩
   ·exact⟨_,hk,λK' h=>by first|exact⟨h1,h⟩|(simp only[hf];exact⟨h1,h⟩)⟩
   ·exact hk.elim
  ·exact hk.elim
 ·exact hk.elim
theorem bEW (re:Option lJ) (x i:aE):Det (aEX re x i):=by
 intro K hk
 unfold aEX at hk ⊢
 split at hk
 ·split at hk
  ·exact⟨_,hk.2.2.2,λK' h=>⟨hk.1,hk.2.1,hk.2.2.1,h⟩⟩
  ·exact⟨_,hk.2.2.2,λK' h=>⟨hk.1,hk.2.1,hk.2.2.1,h⟩⟩
  ·exact hk.elim
 ·exact hk.elim
theorem bEX (d:Option TyD) (x i:aE):Det (aB1 d x i):=by
 intro K hk
 unfold aB1 at hk ⊢
 split at hk
 ·obtain⟨h1,hk⟩:=hk
  split at hk
  ·rename_i c hc;exact⟨_,hk,λK' h=>by first|exact⟨h1,h⟩|(simp only[hc];exact⟨h1,h⟩)⟩
  ·exact hk.elim
 ·exact hk.elim
theorem a3K (r:Option lJ) (sz i off:Nat) (es:List (List aE)) (h:aB):Det (jW r (.ip sz es i off) h):=by
 intro K hk
 unfold jW at hk ⊢
 split at hk
 ·simp only at hk ⊢
  split at hk
  ·rename_i he
   split at hk
   ·rename_i x hx;exact⟨x,hk,λK' h=>by first|exact h|(simp only[he,hx];exact h)⟩
   ·exact hk.elim
  ·exact hk.elim
 ·exact hk.elim
theorem aXE (r:Option lJ) (sz i off:Nat) (es:List (List aE)) (h h':aB) (K:aE->Prop):jW r (.ip sz es i off) h K=jW r (.ip sz es i off) h' K:=by
 unfold jW;rfl
theorem aQ2 {P:Program} {t:TypeId} {x:aE} {lo hi:Option aE} {K:aE->Prop} (h:mP P t x lo hi K):rD P t x lo hi K:=by
 unfold rD
 split
 ·simp only[mP]at h
  split at h
  ·rename_i re hre
   obtain⟨h1,h⟩:=h
   split at h
   ·rename_i l m hl hm
    obtain rfl:_=m:=gH hm
    obtain⟨a,b,c,d⟩:=h
    try rw[hre]
    simp only[hl]
    exact⟨h1,a,Int.le_of_lt b,λ_=>by simpa using d,λq=>absurd b aA⟩
   ·exact h.elim
  ·exact h.elim
 ·exact h
theorem a0M (P:Program) (t:TypeId) (x:aE) (lo hi:Option aE):Det (mP P t x lo hi):=by
 intro K hk
 unfold mP at hk ⊢
 split at hk
 ·obtain⟨h1,hk⟩:=hk
  split at hk
  ·rename_i e1 e2;exact⟨_,hk.2.2.2,λK' h=>by first|exact⟨h1,hk.1,hk.2.1,hk.2.2.1,h⟩|(simp only[e1,e2];exact⟨h1,hk.1,hk.2.1,hk.2.2.1,h⟩)⟩
  ·exact hk.elim
 ·split at hk
  ·rename_i e0
   obtain⟨h1,hk⟩:=hk
   split at hk
   ·rename_i e1 e2;exact⟨_,hk.2.2.2,λK' h=>by first|exact⟨h1,hk.1,hk.2.1,hk.2.2.1,h⟩|(simp only[e0,e1,e2];exact⟨h1,hk.1,hk.2.1,hk.2.2.1,h⟩)⟩
   ·exact hk.elim
  ·exact hk.elim
 ·split at hk
  ·rename_i e0
   obtain⟨h1,hk⟩:=hk
   split at hk
   ·rename_i e1 e2;exact⟨_,hk.2.2.2,λK' h=>by first|exact⟨h1,hk.1,hk.2.1,hk.2.2.1,h⟩|(simp only[e0,e1,e2];exact⟨h1,hk.1,hk.2.1,hk.2.2.1,h⟩)⟩
   ·exact hk.elim
  ·exact hk.elim
 ·exact hk.elim
theorem aT5 (P:Program) (t:TypeId) (x:aE) (lo:Option aE) (hi mx:aE):Det (pH P t x lo hi mx):=by
 intro K hk
 unfold pH at hk ⊢
 split at hk
 ·split at hk
  ·rename_i e0
   obtain⟨h1,hk⟩:=hk
   split at hk
   ·rename_i e1 e2 e3
    obtain⟨a,b,c,d,hk⟩:=hk
    exact⟨_,hk,λK' h=>by exact⟨h1,a,b,c,d,h⟩⟩
   ·exact hk.elim
  ·exact hk.elim
 ·exact hk.elim
theorem a0N (P:Program) (r:Option lJ) (ps:List (Nat×aE)):Det (tN P r ps):=by
 intro K hk
 unfold tN at hk ⊢
 split at hk
 ·exact⟨_,hk.2.2.2,λK' h=>⟨hk.1,hk.2.1,hk.2.2.1,h⟩⟩
 ·exact hk.elim
theorem bEY (re:Option lJ) (len:Nat) (ps:List (Nat×aE)):Det λK=>uE re len ps λsz es=>K (.sl sz es true):=by
 intro K hk
 unfold uE at hk
 split at hk
 ·exact⟨_,hk.2.2.2.2.2,λK' h=>by unfold uE;exact⟨hk.1,hk.2.1,hk.2.2.1,hk.2.2.2.1,hk.2.2.2.2.1,h⟩⟩
 ·exact hk.elim
def aQ3 (P:Program) (t:Option TypeId) (x:aE) (K:aE->Prop):Prop :=
 match t with
 |some t=>match yU P t,x with
  |some (.slice _),.sl _ es _=>K (.int .i64 es.length)
  |some (.slice _),.os _ _ _ n=>K (.int .i64 n)
  |some (.slice _),.bS=>K (.int .i64 0)
  |some .str,.str s=>K (.int .i64 s.length)
  | _,_=>False
 |none=>False
def a3L (P:Program) (g:FuncId) (args:List aE) (K:aE->Prop):Prop:=∃ r,fE P g args r/\K r
def aF3 (P:Program) (o:Oper) (ρ:Operand->aE) (K:aE->Prop):Prop :=
 match o.op with
 | .move x=>K (ρ x)
 | .assign x=>K (ρ x)
 | .pick c a b=>match ρ c with
  | .bool t=>(t=true->K (ρ a))/\(t=false->K (ρ b))
  | _=>False
 | .binOp op t x y _=>gL P op t (ρ x) (ρ y) K
 | .unOp op _ x=>aEV op (ρ x) K
 | .convert s d x=>zQ P s d (ρ x) K
 | .fieldAddr t x f=>aEW (yU P t) f (ρ x) K
 | .indexAddr t x i=>aEX (lP P t) (ρ x) (ρ i) K
 | .index t x i=>aB1 (yU P t) (ρ x) (ρ i) K
 | .load t a=>match ρ a with
  | .ip sz es i off=>jW (iE P t) (.ip sz es i off) (λ_=>none) K
  | _=>False
 | .slice t x lo hi none=>mP P t (ρ x) (lo.map ρ) (hi.map ρ) K
 | .extract t i=>match ρ t with
  | .gU cs=>match cs[i]? with|some x=>K x|none=>False
  | _=>False
 | .nilCheck x=>match ρ x with
  | .op n sz i k=>K (.op n sz i k)
  | .ip sz es i k=>K (.ip sz es i k)
  | _=>False
 | .makeFunc fn fs cs=>K (.fn fn (fs.toList.map ρ) (cs.toList.map ρ))
 | .build t ps=>tN P (iE P t) (ps.toList.map λp=>(p.1,ρ p.2)) K
 | .call { callee:=.value f,args:=as,argTypes:=_ }=>match ρ f with
  | .fn (.func g) first cap=>a3L P g (first++as.toList.map ρ++cap) K
  | _=>False
 | .call { callee:=.builtin .len,args:=as,argTypes:=ats }=>match as.toList with
  | [x]=>aQ3 P ats[0]? (ρ x) K
  | _=>False
 | .call { callee:=.builtin .max,args:=as,argTypes:=_ }=>match as.toList with
  | [x,y]=>match ρ x,ρ y with
   | .int k a,.int _ b=>(match ρ y with | .int k' _=>k'=k|_=>False)/\K (.int k (max a b))
   | _,_=>False
  | _=>False
 | .slice t x lo (some hi) (some mx)=>pH P t (ρ x) (lo.map ρ) (ρ hi) (ρ mx) K
 | _=>False
theorem lE {P:Program} {o:Oper} {ρ:Operand->aE} {F:(aE->Prop)->Prop} {K:aE->Prop} (hd:Det F) (hk:F K) (hs:∀ h K',F (λv=>K' v h)->step P o ρ h K'):∃ v,uG P o ρ v/\K v:=by
 obtain⟨v,h1,h2⟩:=hd K hk
 exact⟨v,λh=>lK (hs h _ (h2 (λv'=>v'=v/\h=h) ⟨rfl,rfl⟩)),h1⟩
theorem zS {P:Program} {o:Oper} {ρ:Operand->aE} {K:aE->Prop} (hs:aF3 P o ρ K):∃ v,uG P o ρ v/\K v:=by
 unfold aF3 at hs
 split at hs
 case h_1 x ho=>exact lE (pU _) hs λh K' f=>by unfold step;rw[ho];exact f
 case h_2 x ho=>exact lE (pU _) hs λh K' f=>by unfold step;rw[ho];exact f
 case h_3 c a b ho =>
  split at hs
  ·rename_i t ht
   refine⟨if t then ρ a else ρ b,λh=>lK ?_,?_⟩
   ·unfold step;rw[ho];simp only[ht]
    cases t <;> simp
   ·cases t
    ·exact hs.2 rfl
    ·exact hs.1 rfl
  ·exact hs.elim
 case h_4 op t x y ty ho=>exact lE (a77 P op t _ _) hs λh K' f=>by unfold step;rw[ho];exact a0L f
 case h_5 op t x ho=>exact lE (bEU op _) hs λh K' f=>by unfold step;rw[ho];exact f
 case h_6 s d x ho=>exact lE (a3J P s d _) hs λh K' f=>by unfold step;rw[ho];exact f
 case h_7 t x f ho=>exact lE (bEV _ f _) hs λh K' f=>by unfold step;rw[ho];exact f
 case h_8 t x i ho=>exact lE (bEW _ _ _) hs λh K' f=>by unfold step;rw[ho];exact f
 case h_9 t x i ho=>exact lE (bEX _ _ _) hs λh K' f=>by unfold step;rw[ho];exact f
 case h_10 t a ho =>
  split at hs
  ·rename_i sz es i off ha
   refine lE (a3K _ sz i off es _) hs λh K' f=>?_
   unfold step;rw[ho];simp only[ha];rw[aXE _ _ _ _ _ h (λ_=>none)];exact f
  ·exact hs.elim
 case h_11 t x lo hi ho=>exact lE (a0M P t _ _ _) hs λh K' f=>by unfold step;rw[ho];exact aQ2 f
 case h_12 t i ho =>
  split at hs
  ·rename_i cs ht
   split at hs
   ·rename_i x hx
    exact lE (pU _) hs λh K' f=>by unfold step;rw[ho];simp only[ht,hx];exact f
   ·exact hs.elim
  ·exact hs.elim
 case h_13 x ho =>
  split at hs
  ·rename_i n sz i k hx;exact lE (pU _) hs λh K' f=>by unfold step;rw[ho];simp only[hx];exact f
  ·rename_i sz es i k hx;exact lE (pU _) hs λh K' f=>by unfold step;rw[ho];simp only[hx];exact f
  ·exact hs.elim
 case h_14 fn fs cs ho=>exact lE (pU _) hs λh K' f=>by unfold step;rw[ho];exact f
 case h_15 t ps ho=>exact lE (a0N P _ _) hs λh K' f=>by unfold step;rw[ho];exact f
 case h_16 f as ats ho =>
  split at hs
  ·rename_i g first cap hf
   obtain⟨r,hr,hk⟩:=hs
   refine⟨r,λh=>lK ?_,hk⟩
   unfold step;rw[ho];simp only[zP,hf]
   exact hr h
  ·exact hs.elim
 case h_17 as ats ho =>
  split at hs
  ·rename_i x hax
   unfold aQ3 at hs
   split at hs
   ·rename_i t hat
    split at hs
    all_goals first
     |exact hs.elim
     |(rename_i e1 e2;refine lE (pU _) hs λh K' f=>?_;unfold step;rw[ho];simp only[zP,hax,aNJ,hat,e1,e2];first|exact λ_=>f|exact f)
   ·exact hs.elim
  ·exact hs.elim
 case h_18 as ats ho =>
  split at hs
  ·rename_i x y hax
   split at hs
   ·rename_i k a k' b hx hy
    refine⟨_,λh=>lK ?_,hs.2⟩
    unfold step;rw[ho];simp only[zP,hax,hx,hy]
    have:=hs.1;simp only[hy]at this;simp[this]
   ·exact hs.elim
  ·exact hs.elim
 case h_19 t x lo hi mx ho=>exact lE (aT5 P t _ _ _ _) hs λh K' f=>by unfold step;rw[ho];exact f
 case h_20=>exact hs.elim
def aEZ (P:Program) (ib:List Nat) (o:Oper) (ρ:Operand->aE) (K:aE->Prop):Prop :=
 match o.dst with
 |some d=>if ib.contains d then(match o.op with
   | .box _ x=>aIK (ρ x) K
   | .buildSlice t len ps=>uE (lP P t) len (ps.toList.map λp=>(p.1,ρ p.2)) λsz es=>K (.sl sz es true)
   | _=>aF3 P o ρ K)else aF3 P o ρ K
 |none=>aF3 P o ρ K
theorem aQ4 {P:Program} {ib:List Nat} {o:Oper} {ρ:Operand->aE} {F:(aE->Prop)->Prop} {K:aE->Prop} (hd:Det F) (hk:F K) (hs:∀ h K',F (λv=>K' v h)->uF P ib o ρ h K'):∃ v,uG P o ρ v/\K v:=by
 obtain⟨v,h1,h2⟩:=hd K hk
 exact⟨v,λh=>zR (hs h _ (h2 (λv'=>v'=v/\h=h) ⟨rfl,rfl⟩)),h1⟩
theorem aNN {P:Program} {ib:List Nat} {o:Oper} {ρ:Operand->aE} {K:aE->Prop} (hs:aEZ P ib o ρ K):∃ v,uG P o ρ v/\K v:=by
 unfold aEZ at hs
 split at hs
 ·rename_i d hd
  split at hs
  ·rename_i hib
   split at hs
   ·rename_i t x ho
    exact aQ4 (ib:=ib) (a76 λ_=>pU _) hs λh K' f=>by unfold uF;rw[hd];simp only[hib,if_true,ho];exact f
   ·rename_i t len ps ho
    exact aQ4 (ib:=ib) (bEY _ _ _) hs λh K' f=>by unfold uF;rw[hd];simp only[hib,if_true,ho];exact f
   ·exact zS hs
  ·exact zS hs
 ·exact zS hs
def aQ5 (P:Program) (o:Oper) (ρ:Operand->aE) (h:aB) (K:Option Nat->aE->Prop):Prop :=
 match o.op with
 | .load t a=>match ρ a with
  | .op n sz i off=>jW (iE P t) (.op n sz i off) h λv=>K (some n) v
  | .ip sz es i off=>jW (iE P t) (.ip sz es i off) h λv=>K none v
  | _=>False
 | _=>False
theorem a78 (r:Option lJ) (n sz i off:Nat) (h:aB):Det (jW r (.op n sz i off) h):=by
 intro K hk
 unfold jW at hk ⊢
 split at hk
 ·simp only at hk
  split at hk
  ·rename_i sz' es e0
   obtain⟨h1,hk⟩:=hk
   split at hk
   ·rename_i e e1
    split at hk
    ·rename_i x e2
     exact⟨x,hk,λK' q=>by simp only[e0,e1,e2];exact⟨h1,q⟩⟩
    ·exact hk.elim
   ·exact hk.elim
  ·exact hk.elim
 ·exact hk.elim
theorem a3M (r:Option lJ) (n sz i off:Nat) (h h':aB) (e:h' n=h n) (K:aE->Prop):jW r (.op n sz i off) h' K=jW r (.op n sz i off) h K:=by
 unfold jW;simp only[e]
theorem aQ6 {P:Program} {o:Oper} {ρ:Operand->aE} {h:aB} {K:Option Nat->aE->Prop} (hs:aQ5 P o ρ h K):(∃ n v,aNL P o ρ h n v/\K (some n) v)∨∃ v,uG P o ρ v/\K none v:=by
 unfold aQ5 at hs
 split at hs
 ·rename_i t a ho
  split at hs
  ·rename_i n sz i off ha
   obtain⟨v,h1,h2⟩:=a78 _ n sz i off h _ hs
   refine .inl ⟨n,v,λh' e=>lK ?_,h1⟩
   unfold step;rw[ho];simp only[ha]
   rw[a3M _ _ _ _ _ h h' e]
   have:=h2 (λv'=>v'=v/\h'=h') ⟨rfl,rfl⟩
   simpa using this
  ·rename_i sz es i off ha
   obtain⟨v,h1,h2⟩:=a3K _ sz i off es h _ hs
   refine .inr ⟨v,λh'=>lK ?_,h1⟩
   unfold step;rw[ho];simp only[ha]
   rw[aXE _ _ _ _ _ h' h]
   have:=h2 (λv'=>v'=v/\h'=h') ⟨rfl,rfl⟩
   simpa using this
  ·exact hs.elim
 ·exact hs.elim
def aQ7 (cr:List (Nat×Nat)) (i:Nat):Option Nat->List (Nat×Nat)->List (Nat×Nat)
 |some n,pr=>if a3G cr i then(i,n)::pr else pr
 |none,pr=>pr
def aIT (cr:List (Nat×Nat)) (i:Nat):List (Nat×Nat)->aB->aB->Prop
 | [],_,_=>True
 |(x,n)::pr,h,h'=>(if y3 cr x i then h' n=h n else True)/\aIT cr i pr h h'
theorem aXF {cr:List (Nat×Nat)} {i:Nat} {h h':aB}:∀ {pr:List (Nat×Nat)},aIT cr i pr h h'->aIO cr i pr h h'
 | [],_=>λp hp=>by simp at hp
 |(x,n)::pr,q=>λp hp hc=>by
  simp only[aIT]at q
  rcases mW.1 hp with rfl|hp
  ·have:=q.1;rw[if_pos hc]at this;exact this
  ·exact aXF q.2 p hp hc
def aF4 (P:Program) (ib:List Nat) (cr:List (Nat×Nat)) (i:Nat) (m:Bool) (o:Oper) (ρ:Operand->aE) (pr:List (Nat×Nat)) (h:aB) (K:List (Nat×Nat)->aE->aB->Prop):Prop :=
 if m then(if aT4 o then aQ5 P o ρ h (λn v=>K (aQ7 cr i n pr) v h)else uF P ib o ρ h (λv h'=>aIT cr i pr h h'/\K pr v h'))
 else aEZ P ib o ρ (λv=>K pr v h)
def OpD (P:Program) (ib:List Nat) (ops:Array Oper) (ms:List Nat) (cr:List (Nat×Nat)) (i:Nat) (pr:List (Nat×Nat)) (τ:bP) (h:aB) (C:List (Nat×Nat)->bP->aB->Prop):Prop :=
 match ops[i]? with
  |none=>False
  |some o=>match o.guard with
   |none=>aF4 P ib cr i (ms.contains i) o (sY ops o τ) pr h (λpr' v h'=>C pr' (gK τ o.dst v) h')
   |some (g,b)=>match (ops[g]?).bind (·.dst)with
    |some d=>match b6 τ d with
     | .bool b'=>(b'=b->aF4 P ib cr i (ms.contains i) o (sY ops o ((d,.bool b)::τ)) pr h (λpr' v h'=>C pr' (gK ((d,.bool b)::τ) o.dst v) h')) /\
       (b'=!b->C pr (gK ((d,.bool !b)::τ) o.dst (.gU [])) h)
     | .gU []=>C pr (gK τ o.dst (.gU [])) h
     | _=>False
    |none=>False
def aE0 (P:Program) (ib:List Nat) (ops:Array Oper) (ms:List Nat) (cr:List (Nat×Nat)):sH->List (Nat×Nat)->bP->aB->(bP->aB->Prop)->Prop
 | .nil,_,τ,h,K=>K τ h
 | .op i l,pr,τ,h,K=>OpD P ib ops ms cr i pr τ h λpr τ h=>aE0 P ib ops ms cr l pr τ h K
 | .alt i l j q,pr,τ,h,K=>(OpD P ib ops ms cr i pr τ h λpr τ h=>aE0 P ib ops ms cr l pr τ h K)/\OpD P ib ops ms cr j pr τ h λpr τ h=>aE0 P ib ops ms cr q pr τ h K
theorem OpD.sound {P:Program} {ib:List Nat} {ops:Array Oper} {ms:List Nat} {cr:List (Nat×Nat)} {i:Nat} {C C':List (Nat×Nat)->bP->aB->Prop}
  (hC:∀ (pr pr':List (Nat×Nat)) (τ τ':bP) (h:aB),(∀ p∈pr',p∈pr∨∀ j,y3 cr p.1 j=false)->TEq τ τ'->C pr τ h->C' pr' τ' h) (pr:List (Nat×Nat)) (τ:bP) (h:aB) (r:OpD P ib ops ms cr i pr τ h C):OpL P ops ms i cr pr τ h C':=by
  have ids:∀ pr:List (Nat×Nat),∀ p∈pr,p∈pr∨∀ j,y3 cr p.1 j=false:=λ_ _ h=>.inl h
  unfold OpD at r
  unfold OpL
  cases ho:ops[i]? with
  |none=>simp[ho]at r
  |some o =>
   simp only[ho]at r ⊢
   have go:∀ σ:bP,(∀ k,b6 σ k=b6 τ k)->want ops τ o=some true->aF4 P ib cr i (ms.contains i) o (sY ops o σ) pr h (λpr' v h'=>C pr' (gK σ o.dst v) h')->(match want ops τ o with
      |none=>False
      |some true=>if ms.contains i then(if aT4 o then(∃ n v,aNL P o (sY ops o τ) h n v/\C' ((i,n)::pr) (gK τ o.dst v) h)∨∃ v,uG P o (sY ops o τ) v/\C' pr (gK τ o.dst v) h
         else oV P o (sY ops o τ) h λv h'=>aIO cr i pr h h'/\C' pr (gK τ o.dst v) h')
        else ∃ v,uG P o (sY ops o τ) v/\C' pr (gK τ o.dst v) h
      |some false=>C' pr (gK τ o.dst (.gU [])) h):=by
    intro σ hσ hw r
    rw[hw]
    simp only
    rw[pI (ops:=ops) (o:=o) (τ:=σ) (τ':=τ) λt _=>hσ t]at r
    unfold aF4 at r
    split at r
    ·rename_i hm;rw[if_pos hm]
     split at r
     ·rename_i hl;rw[if_pos hl]
      rcases aQ6 r with⟨n,v,h1,h2⟩|⟨v,h1,h2⟩
      ·refine .inl ⟨n,v,h1,hC _ _ _ _ h ?_ (TEq.put hσ _ _) h2⟩
       intro p hp
       simp only[aQ7]
       split
       ·exact .inl hp
       ·rename_i hn
        rcases mW.1 hp with rfl|hp
        ·exact .inr λj=>aQW (by simpa using hn)
        ·exact .inl hp
      ·exact .inr ⟨v,h1,hC _ _ _ _ h (ids _) (TEq.put hσ _ _) h2⟩
     ·rename_i hl;rw[if_neg hl]
      exact(zR r).mono λv h' x=>⟨aXF x.1,hC _ _ _ _ h' (ids _) (TEq.put hσ _ _) x.2⟩
    ·rename_i hm;rw[if_neg hm]
     obtain⟨v,h1,h2⟩:=aNN r
     exact⟨v,h1,hC _ _ _ _ h (ids _) (TEq.put hσ _ _) h2⟩
   have skip:∀ σ:bP,(∀ k,b6 σ k=b6 τ k)->want ops τ o=some false->C pr (gK σ o.dst (.gU [])) h->(match want ops τ o with
      |none=>False
      |some true=>if ms.contains i then(if aT4 o then(∃ n v,aNL P o (sY ops o τ) h n v/\C' ((i,n)::pr) (gK τ o.dst v) h)∨∃ v,uG P o (sY ops o τ) v/\C' pr (gK τ o.dst v) h
         else oV P o (sY ops o τ) h λv h'=>aIO cr i pr h h'/\C' pr (gK τ o.dst v) h')
        else ∃ v,uG P o (sY ops o τ) v/\C' pr (gK τ o.dst v) h
      |some false=>C' pr (gK τ o.dst (.gU [])) h):=by
    intro σ hσ hw r
    rw[hw]
    exact hC _ _ _ _ h (ids _) (TEq.put hσ _ _) r
   cases hg:o.guard with
   |none=>simp only[hg]at r;exact go τ (λ_=>rfl) (by simp[want,hg]) r
   |some gb =>
    obtain⟨g,b⟩:=gb
    simp only[hg]at r
    split at r
    ·rename_i d hd
     split at r
     ·rename_i b' hb'
      by_cases e:b'=b
      ·subst e
       exact go _ (xV hb') (by simp[want,hg,hd,hb']) (r.1 rfl)
      ·have e':b'=!b:=by cases b' <;> cases b <;> simp_all
       subst e'
       exact skip _ (xV hb') (by simp only[want,hg,hd,hb'];cases b <;> rfl) (r.2 rfl)
     ·rename_i hb';exact skip τ (λ_=>rfl) (by simp[want,hg,hd,hb']) r
     ·exact r.elim
    ·exact r.elim
theorem aE0.sound {P:Program} {ib:List Nat} {ops:Array Oper} {ms:List Nat} {cr:List (Nat×Nat)} {K:bP->aB->Prop} (hK:∀ τ τ' h,TEq τ τ'->K τ h->K τ' h):∀ (l:sH) (pr:List (Nat×Nat)) (τ:bP) (h:aB),aE0 P ib ops ms cr l pr τ h K->jX P ops ms cr l pr τ h K
 | .nil,_,_,_,r=>r
 | .op i l,pr,τ,h,r=>OpD.sound (λpr pr' τ τ' h hs e r=>jX.congr hK l _ _ _ _ h hs e (aE0.sound hK l pr τ h r)) pr τ h r
 | .alt i l j q,pr,τ,h,r=>⟨OpD.sound (λpr pr' τ τ' h hs e r=>jX.congr hK l _ _ _ _ h hs e (aE0.sound hK l pr τ h r)) pr τ h r.1,OpD.sound (λpr pr' τ τ' h hs e r=>jX.congr hK q _ _ _ _ h hs e (aE0.sound hK q pr τ h r)) pr τ h r.2⟩
abbrev Marks:=Nat->List Nat×sH×List (Nat×Nat)
def aIU (id:Nat) (K:bP->aB->Prop) (Q:Exit->bP->aB->Prop):Exit->bP->aB->Prop
 | .exit i,τ,h=>if i=id then K τ h else Q (.exit i) τ h
 |e,τ,h=>Q e τ h
def hwp (P:Program) (N:Nat) (keep ib:List Nat) (mk:Marks):Code->(bP->aB->Prop)->(Exit->bP->aB->Prop)->bP->aB->Prop
 | .skip,K,Q,τ,h=>K τ h
 | .region id ops false,K,Q,τ,h=>aDE P ib ops ops.toList τ h λτ' h'=>K (Hl.prune keep τ') h'
 | .region id ops true,K,Q,τ,h=>aE0 P ib ops (mk id).1 (mk id).2.2 (mk id).2.1 [] τ h λτ' h'=>K (Hl.prune keep τ') h'
 | .seq a b,K,Q,τ,h=>hwp P N keep ib mk a (λτ h=>hwp P N keep ib mk b K Q τ h) Q τ h
 | .cond c a b,K,Q,τ,h=>match qF τ c with
  | .bool t=>(t=true->hwp P N keep ib mk a K Q τ h)/\(t=false->hwp P N keep ib mk b K Q τ h)
  | _=>False
 | .block id c,K,Q,τ,h=>hwp P N keep ib mk c K (aIU id K Q) τ h
 | .loop c,K,Q,τ,h=>pT P N (.loop c) (wW K Q) τ h
 | .exit id,K,Q,τ,h=>Q (.exit id) τ h
 | .ret,K,Q,τ,h=>Q .ret τ h
 | _,_,_,_,_=>False
def gM (N:Nat) (mk:Marks):Code->Bool
 | .region _ ops false=>aB3 N ops
 | .region id ops true=>aB3 N ops && bET ops (mk id).1 (mk id).2.1 (mk id).2.2
 | .seq a b=>gM N mk a && gM N mk b
 | .cond _ a b=>gM N mk a && gM N mk b
 | .block _ c=>gM N mk c
 | .loop c=>gM N mk c
 | _=>true
theorem rE {P:Program} {N:Nat} {keep ib:List Nat} {mk:Marks} (hmix:P.follows .mixedOrders=true):∀ (c:Code) (K:bP->aB->Prop) (Q:Exit->bP->aB->Prop) (τ:bP) (h:aB),gM N mk c=true->hwp P N keep ib mk c K Q τ h->pT P N c (wW K Q) τ h
 | .skip,K,Q,τ,h,_,hw=>.skip hw
 | .region id ops false,K,Q,τ,h,hc,hw=>.region hc keep hw
 | .region id ops true,K,Q,τ,h,hc,hw=>by
  simp only[gM,l7]at hc
  exact .aQ0 hmix hc.1 hc.2 keep (aE0.sound (λτ τ' h e q=>by
   have:Hl.prune keep τ=Hl.prune keep τ':=by unfold Hl.prune;exact zE λk _=>by rw[e k]
   rwa [←this]) _ _ _ _ hw)
 | .seq a b,K,Q,τ,h,hc,hw=>by
  simp only[gM,l7]at hc
  refine .seq ((rE hmix a _ _ τ h hc.1 hw).mono ?_)
  intro e τ' h' q
  cases e <;> simp only[wW]at q ⊢ <;> first|exact q|exact rE hmix b _ _ _ _ hc.2 q
 | .cond c a b,K,Q,τ,h,hc,hw=>by
  simp only[gM,l7]at hc
  unfold hwp at hw
  split at hw
  ·rename_i t ht
   exact .cond ht (λe=>rE hmix a _ _ _ _ hc.1 (hw.1 e)) (λe=>rE hmix b _ _ _ _ hc.2 (hw.2 e))
  ·exact hw.elim
 | .block id c,K,Q,τ,h,hc,hw=>.block ((rE hmix c _ _ τ h hc hw).mono λe τ' h' q=>by
   cases e <;> simp only[wW,aIU,aNH]at q ⊢ <;> first|exact q|(split at q <;> rename_i hi <;> simp_all [wW,aNH]))
 | .loop c,K,Q,τ,h,hc,hw=>hw
 | .exit id,K,Q,τ,h,hc,hw=>.exit hw
 | .ret,K,Q,τ,h,hc,hw=>.ret hw
 | .rangeFunc _ _ _ _,_,_,_,_,_,hw=>hw.elim
 | .scope _,_,_,_,_,_,hw=>hw.elim
 | .label _,_,_,_,_,_,hw=>hw.elim
 | .goto _,_,_,_,_,_,hw=>hw.elim
 | .refuse _,_,_,_,_,_,hw=>hw.elim
theorem aIV {P:Program} {f:FuncId} {fn:Func} {c:Code} (N:Nat) (keep ib:List Nat) (mk:Marks) {args:List aE} {h:aB} {K:aE->aB->Prop} (hmix:P.follows .mixedOrders=true) (hf:P.funcs[f]?=some fn) (hb:fn.body=some c)
  (hck:(iY P f && decide (fn.ntmps=N) && gM N mk c)=true) (hl:args.length<=N) {K':aE->aB->Prop}
  (hw:hwp P N keep ib mk c (aDF P fn.results K' .normal) (aDF P fn.results K') (o7 0 args) h) (hk:∀ r h',K' r h'->∃ g:aB,g.le h'/\K r g):iV P f args h K:=by
 simp only[l7,decide_eq_true_eq]at hck
 refine a3F hf hb hck.1.1 hck.1.2 hl ((rE hmix c _ _ _ _ hck.2 hw).mono ?_) hk
 intro e τ h q
 cases e <;> exact q
theorem a79 {P:Program} {f:FuncId} {fn:Func} {c:Code} (N:Nat) (keep ib:List Nat) (mk:Marks) {args:List aE} {r:aE} (hmix:P.follows .mixedOrders=true) (hf:P.funcs[f]?=some fn) (hb:fn.body=some c)
  (hck:(iY P f && decide (fn.ntmps=N) && gM N mk c)=true) (hl:args.length<=N)
  (hw:∀ h,hwp P N keep ib mk c (aDF P fn.results (λr' h'=>r'=r/\h.le h') .normal) (aDF P fn.results λr' h'=>r'=r/\h.le h') (o7 0 args) h):fE P f args r :=
 λh=>aIV N keep ib mk hmix hf hb hck hl (hw h) λ_ _ hx=>⟨h,hx.2,hx.1,rfl⟩
theorem bM {h h':aB} {n:Nat} {o:bV} (hn:h n=none):h.le (aU h' n o)↔h.le h':=by
 constructor
 ·intro hl m
  by_cases e:m=n
  ·subst e;exact .inl hn
  ·have:=hl m;rwa [aC _ _ _ _ e]at this
 ·exact aB.bM hn
theorem aP9 {h:aB} {n m:Nat} {o:bV}:aU h n o m=none↔m≠n/\h m=none:=by
 simp only[aU];split <;> simp_all
def cR:bP->bP->Prop
 | [],_=>True
 |(k,v)::r,τ=>b6 τ k=v/\cR r τ
theorem cR.get:∀ {l τ:bP},cR l τ->∀ k,b6 l k=.any∨b6 l k=b6 τ k
 | [],τ,_,k=>.inl rfl
 |(j,v)::r,τ,h,k=>by
  simp only[b6]
  by_cases e:j=k
  ·subst e;right;rw[if_pos rfl];exact h.1.symm
  ·rw[if_neg e];exact cR.get h.2 k
theorem pT.weaken {P:Program} {N:Nat} {c:Code} {Q:Exit->bP->aB->Prop} {σ τ:bP} {g h:aB} (hs:cR σ τ) (hl:g.le h) (x:pT P N c Q σ g):pT P N c Q τ h :=
 pT.forget hl λds E w a R r=>x ds E w a R ⟨r.size,r.defers,λk=>by
  rcases hs.get k with e|e
  ·rw[e];exact .any _
  ·rw[e];exact r.get k⟩
theorem pT.aQ8 {P:Program} {N:Nat} {c:Code} {Q:Exit->bP->aB->Prop} {τ:bP} {h:aB} {α:Type} (S:α->bP) (H:α->aB) (side:α->Prop) (μ:α->Nat) (x₀:α)
  (h₀:cR (S x₀) τ/\(H x₀).le h/\side x₀)
  (round:∀ x,side x->pT P N c (wW (λτ' h'=>∃ x',cR (S x') τ'/\(H x').le h'/\side x'/\μ x'<μ x) Q) (S x) (H x)):pT P N (.loop c) Q τ h :=
 pT.loop (λx τ h=>cR (S x) τ/\(H x).le h/\side x) μ x₀ h₀ λx τ h ⟨h1,h2,h3⟩ =>
  pT.weaken h1 h2 ((round x h3).mono λe τ h q=>by
   cases e <;> simp only[wW]at q ⊢ <;> first|exact q|(obtain⟨x',a,b,c,d⟩:=q;exact⟨x',⟨a,b,c⟩,d⟩))
end Go.Hl
