/-
  Contracts of functions and laws of the layer over the walk.
-/
import Derived.Test.YtoomflalicffnaaGreatHlA
import Derived.Orders
namespace Go.Hl
set_option linter.unusedVariables false
set_option linter.unusedSimpArgs false
def aR5:List aE->Nat->List aE->List aE
 |es,_,[]=>es
 |es,off,v::vs=>aR5 (es.set off v) (off+1) vs
theorem aAV:∀ (vs es:List aE) (off:Nat),(aR5 es off vs).length=es.length
 | [],_,_=>rfl
 |v::vs,es,off=>by simp[aR5,aAV vs]
theorem aR6:∀ (vs es:List aE) (off k:Nat),off+vs.length<=es.length->(aR5 es off vs)[k]?=if off<=k/\k<off+vs.length then vs[k-off]? else es[k]?
 | [],es,off,k,_=>by
  rw[if_neg]
  ·rfl
  ·simp only[rU];omega
 |v::vs,es,off,k,h=>by
  simp only[aB9]at h
  rw[aR5,aR6 vs _ _ _ vL]
  by_cases e:k=off
  ·subst e
   rw[if_neg aA,if_pos eC,nH aA]
   try simp
  ·rw[mG (iK e)]
   by_cases h1:off+1<=k/\k<off+1+vs.length
   ·rw[if_pos h1,if_pos vL,show k-off=(k-(off+1))+1 by omega];simp
   ·rw[if_neg h1,if_neg vL]
def aJZ (place:Nat->Option (Nat×Nat)) (es:List aE):List (Nat×aE)->List aE
 | []=>es
 |(i,v)::r=>match place i with
  |some (off,_)=>aJZ place (aR5 es off v.cells) r
  |none=>es
def yK (place:Nat->Option (Nat×Nat)) (n:Nat):List (Nat×aE)->Bool
 | []=>true
 |(i,v)::r=>(match place i with
  |some (off,sz)=>decide (v.cells.length=sz) && decide (off+sz<=n)
  |none=>false) && v.cells.all aE.flat && yK place n r
theorem bUI (a:Array Value):a.toList.length=a.size:=rfl
theorem aNB {E:Env} {h:aB} {w:World} {ρ:Operand->aE} {place:Nat->Option (Nat×Nat)} {ρc:Operand->Value} (hρ:∀ x,fG E h w (ρ x) (ρc x)):∀ (ps:List (Nat×Operand)) (es:List aE) (cs:Array Value),yK place es.length (ps.map λp=>(p.1,ρ p.2))=true ->
  eF E h w es cs.toList->∃ cs',Instr.fill place cs (ps.map λp=>(p.1,ρc p.2))=some cs'/\eF E h w (aJZ place es (ps.map λp=>(p.1,ρ p.2))) cs'.toList
 | [],es,cs,_,hL=>⟨cs,rfl,hL⟩
 |(i,x)::ps,es,cs,hf,hL=>by
  simp only[qR,yK,mK]at hf
  obtain⟨⟨hp,hfl⟩,hf⟩:=hf
  cases hpl:place i with
  |none=>simp[hpl]at hp
  |some os =>
   obtain⟨off,sz⟩:=os
   simp only[hpl,mK,decide_eq_true_eq]at hp
   obtain⟨hsz,hfit⟩:=hp
   obtain⟨hcL,hc1⟩:=(hρ x).aFU hfl
   have hvs:(ρc x).cells.size=sz:=by have:=hcL.length;simp at this;omega
   have hcsz:cs.size=es.length:=by have:=hL.length;simpa using this.symm
   have hget:=λk=>z5 (ρc x).cells off cs k aA
   have hsize:=xG (ρc x).cells off cs
   obtain⟨cs',r1,r2⟩:=aNB hρ ps (aR5 es off (ρ x).cells) ((ρc x).cells.zipIdx.foldl (λcs (cj:Value×Nat)=>cs.setIfInBounds (off+cj.2) cj.1) cs) (by rw[aAV];exact hf) (by
    refine eF.mk (by rw[aAV,bUI,hsize,hcsz]) ?_
    intro k y v hy hv
    rw[aR6 _ _ _ _ aA]at hy
    rw[al5,hget k]at hv
    by_cases hr:off<=k/\k<off+(ρ x).cells.length
    ·rw[if_pos hr]at hy
     rw[if_pos aA]at hv
     exact hcL.get _ _ _ hy aD7
    ·rw[if_neg hr]at hy
     rw[if_neg aA]at hv
     exact hL.get _ _ _ hy aD7)
   refine⟨cs',?_,?_⟩
   ·simp only[qR,Instr.fill,hpl,hvs]
    rw[if_neg vL]
    exact r1
   ·simpa only[qR,aJZ,hpl]using r2
def s8 (P:Program):TyD->Nat->Option (Nat×Nat)
 | .st fs,i=>(fs[i]?).map λf=>(f.1,f.2.2)
 | .arr _ e,i=>match iP P e with|some re=>some (i*re.sz,re.sz)|none=>none
 | _,_=>none
def aAW (P:Program):TyD->Bool
 | .st _=>true
 | .arr _ e=>(iP P e).isSome
 | _=>false
theorem a2D {P:Program} {o:Oper} {ρ:Operand->aE} {h:aB} {K:aE->aB->Prop} (t:TypeId) (ps:Array (Nat×Operand)) (r:lU) (ho:o.op=.build t ps) (ht:iP P t=some r) (hd:aAW P r.d=true) (hz:r.zero≠[])
  (hf:yK (s8 P r.d) r.zero.length (ps.toList.map λp=>(p.1,ρ p.2))=true) (hk:K (.agg (aJZ (s8 P r.d) r.zero (ps.toList.map λp=>(p.1,ρ p.2)))) h):pI P o ρ h K :=
 cI hk λE w ρc R hρ=>by
  obtain⟨u,hu,hud,hrun⟩:=cD (w:=w) ht
  obtain⟨z,hzr,hzz⟩:=qF (w:=w) ht hz
  have hL:eF E h w r.zero z.cells.toList:=by rw[←hzz];exact qY E h w _
  obtain⟨cs,h1,h2⟩:=aNB hρ ps.toList r.zero z.cells hf hL
  refine⟨.agg cs,?_,by have:=fG.agg (E:=E) (h:=h) (w:=w) _ cs.toList h2.length h2.get;simpa using this⟩
  have hmap:(ps.map λ(i,x)=>(i,ρc x)).toList=ps.toList.map λp=>(p.1,ρc p.2):=by simp
  cases hdd:r.d with
  |st fs =>
   obtain⟨gs,rfl,hall,hgs⟩:=a42 (hud.trans hdd)
   have hpl:∀ i:Nat,((gs.toList.map λf=>(f.offset,P.cellsOf f.type)).toArray)[i]?=s8 P r.d i:=by
    intro i
    rw[hdd]
    simp only[s8,←hgs,aU8,sO,Option.map_map]
    rfl
   have hm:(gs.mapM λf=>(do pure (f.offset,←sizeOf f.type):Sem (Nat×Nat))).run P w=.ok (gs.toList.map λf=>(f.offset,P.cellsOf f.type)).toArray w:=by
    rw[←Array.toArray_toList (xs:=gs),List.mapM_toArray]
    have key:∀ l:List Field,l.all (λf=>(P.info? f.type).isSome)=true->(l.mapM λf=>(do pure (f.offset,←sizeOf f.type):Sem (Nat×Nat))).run P w=.ok (l.map λf=>(f.offset,P.cellsOf f.type)) w:=by
     intro l
     induction l with
     |nil=>intro _;simp
     |cons f l ih =>
      intro hl
      simp only[List.all_cons,mK]at hl
      simp only[List.mapM_cons,Sem.run_bind,aAP hl.1,Result.andThen_ok,Sem.run_pure,ih hl.2,qR]
    have hk':=key _ hall
    simp only[bind_pure_comp]at hk' ⊢
    simp[hk']
   simp only[execOp,ho,Instr.build,Sem.run_bind,hzr,Result.andThen_ok,hrun,hm,hmap]
   have:(λx=>(gs.toList.map λf=>(f.offset,P.cellsOf f.type)).toArray[x]?)=s8 P r.d:=funext hpl
   rw[this,h1]
   simp
  |arr n e =>
   obtain rfl:=a95 (hud.trans hdd)
   rw[hdd]at hd
   obtain⟨re,hre⟩:=Option.isSome_iff_exists.1 hd
   have hsize:=gV (w:=w) hre
   simp only[execOp,ho,Instr.build,Sem.run_bind,hzr,Result.andThen_ok,hrun,hsize,hmap]
   have:(λi=>some (i*re.sz,re.sz))=s8 P r.d:=by funext i;rw[hdd];simp[s8,hre]
   rw[this,h1]
   simp
  | _=>rw[hdd]at hd;simp[aAW]at hd
section
variable {P:Program} {o:Oper} {ρ:Operand->aE} {h:aB} {K:aE->aB->Prop}
theorem aMH (t et:TypeId) (x:Operand) (lo hi:Option Operand) (mx:Operand) (r re:lU) (sz:Nat) (es:List (List aE)) (tg:Bool) (l m M:Int) (ho:o.op=.slice t x lo hi (some mx)) (ht:iP P t=some r) (hd:r.d=.slice et)
  (he:iP P et=some re) (hsz:re.sz=sz) (hx:ρ x=.sl sz es tg) (hhi:hi.isSome=true)
  (hl:j9 0 (lo.map ρ)=some l) (hh:j9 es.length (hi.map ρ)=some m) (hM:j9 0 (some (ρ mx))=some M) (h0:0<=l) (h1:l<=m) (h2:m<=M) (h3:M<=es.length)
  (hk:K (.sl sz ((es.take m.toNat).drop l.toNat) (decide (M=m))) h):pI P o ρ h K :=
 cI hk λE w ρc R hρ=>by
  have hr:=hρ x
  rw[hx]at hr
  obtain⟨u,hu,hud,hrun⟩:=cD (w:=w) ht
  obtain rfl:=iF (hud.trans hd)
  have hsize:=gV (w:=w) he
  have hml:maxLen=9223372036854775807:=rfl
  have key:∀ (a:Option Addr) (cap:Nat),ρc x=.slice a es.length cap->es.length<=cap ->
    (execOp ρc o).run P w=.ok (.value (.slice (if M.toNat=l.toNat then a else a.map (·.add (l.toNat*sz))) (m.toNat-l.toNat) (M.toNat-l.toNat))) w:=by
   intro a cap hv hc
   have hM':j9 cap (some (ρ mx))=some M:=by
    generalize ρ mx=z at hM
    cases z <;> simp[j9]at hM ⊢
    exact hM
   have hb:=uU (P:=P) R hρ true es.length cap lo hi (some mx) l m M hl hh hM' (λ_=>hhi) h0 h1 h2 aA
   simp only[aDX]at hb
   simp[execOp,ho,Instr.sliceAt,Instr.slice,hrun,hv,hb,hsize,hsz]
  have htk:∀ i j y,iU ((es.take m.toNat).drop l.toNat) i j=some y->iU es (l.toNat+i) j=some y:=by
   intro i j y hy
   obtain⟨e,h1,h2⟩:=lC hy
   rw[aRH]at h1
   have hlt:l.toNat+i<m.toNat:=by have:=(iY.1 h1).1;simp at this;omega
   rw[aJA hlt]at h1
   simp[iU,h1,h2]
  cases hv:ρc x <;> rw[hv]at hr <;> try(cases hr;done)
  cases hr with
  |sl0 _ _ _ _ htt hmax ha =>
   have hl0:l=0:=by simp at h3;omega
   have hm0:m=0:=by simp at h3;omega
   have hM0:M=0:=by simp at h3;omega
   subst hl0 hm0 hM0
   refine⟨_,key _ _ aD7 eC,?_⟩
   simp only[aMA,List.take_zero,List.drop_nil,a4B,a37,sP,rU]
   exact .sl0 sz _ _ _ (λ_=>rfl) aA trivial
  |sl _ _ _ b o' cap cv hI hcap hmax htt hs hc h1' hrr =>
   rename_i cap
   refine⟨_,key _ cap hv hcap,?_⟩
   have hlen:((es.take m.toNat).drop l.toNat).length=m.toNat-l.toNat:=by simp;omega
   by_cases hemp:m.toNat=l.toNat
   ·have e1:(es.take m.toNat).drop l.toNat=[]:=a4C vL
    rw[e1,hemp,sP]
    refine .sl0 sz _ _ _ (λe=>?_) aA trivial
    simp at e;omega
   ·have hne:¬M.toNat=l.toNat:=by omega
    rw[if_neg hne,←hlen]
    simp only[aDX,l8]
    refine .sl sz _ _ b (o'+l.toNat*sz) (M.toNat-l.toNat) (λi j=>cv (l.toNat+i) j) hI aA aA (λe=>?_) ?_ ?_ ?_ ?_
    ·simp at e;omega
    ·intro e he
     exact hs e (aU7 (a4D he))
    ·intro i j y hy
     rw[←hc _ _ _ (htk i j y hy)];congr 2;rw[uQ];omega
    ·intro i j y hy;exact h1' _ _ _ (htk i j y hy)
    ·intro i j y hy;exact hrr _ _ _ (htk i j y hy)
theorem aEH (t et:TypeId) (x:Operand) (lo hi:Option Operand) (r re:lU) (n sz i len:Nat) (l m:Int) (ho:o.op=.slice t x lo hi none) (ht:iP P t=some r) (hd:r.d=.slice et)
  (he:iP P et=some re) (hsz:re.sz=sz) (hx:ρ x=.os n sz i len)
  (hl:j9 0 (lo.map ρ)=some l) (hh:j9 len (hi.map ρ)=some m) (h0:0<=l) (h1:l<m) (h2:m<=len)
  (hk:K (.os n sz (i+l.toNat) (m.toNat-l.toNat)) h):pI P o ρ h K :=
 cI hk λE w ρc R hρ=>by
  have hr:=hρ x
  rw[hx]at hr
  obtain⟨u,hu,hud,hrun⟩:=cD (w:=w) ht
  obtain rfl:=iF (hud.trans hd)
  have hsize:=gV (w:=w) he
  have hml:maxLen=9223372036854775807:=rfl
  have key:∀ (a:Option Addr) (cap:Nat),ρc x=.slice a len cap->len<=cap ->
    (execOp ρc o).run P w=.ok (.value (.slice (if cap=l.toNat then a else a.map (·.add (l.toNat*sz))) (m.toNat-l.toNat) (cap-l.toNat))) w:=by
   intro a cap hv hc
   have hb:=uU (P:=P) R hρ true len cap lo hi none l m cap hl hh rfl eC h0 aA aA aA
   simp only[a4A]at hb
   have e:((cap:Int)).toNat=cap:=by omega
   simp[execOp,ho,Instr.sliceAt,Instr.slice,hrun,hv,hb,hsize,hsz,e]
  cases hv:ρc x <;> rw[hv]at hr <;> try(cases hr;done)
  cases hr with
  |os0 _ _ hd' hl'=>simp at h2;omega
  |os _ _ _ _ b o' cap t' mm hd' hl' hlc hmax hsh hm =>
   refine⟨_,key _ _ hv hlc,?_⟩
   rename_i cap
   rw[if_neg aA]
   simp only[aDX,l8]
   have e:o'+i*sz+l.toNat*sz=o'+(i+l.toNat)*sz:=by rw[uQ];omega
   rw[e]
   refine .os n sz (i+l.toNat) (m.toNat-l.toNat) b o' (cap-l.toNat) t' mm hd' hl' aA aA hsh ?_
   rw[show i+l.toNat+(cap-l.toNat)=i+cap by omega]
   exact hm
theorem aMI (t et:TypeId) (x:Operand) (lo hi:Option Operand) (r re:lU) (n sz i len:Nat) (l m:Int) (ho:o.op=.slice t x lo hi none) (ht:iP P t=some r) (hd:r.d=.slice et)
  (he:iP P et=some re) (hsz:re.sz=sz) (hx:ρ x=.os n sz i len)
  (hl:j9 0 (lo.map ρ)=some l) (hh:j9 len (hi.map ρ)=some m) (h0:0<=l) (h1:l=m) (bAB:m=len)
  (hk:K (.os n sz (i+len) 0) h) (hk2:K (.sl sz [] true) h):pI P o ρ h K :=
 by
  intro E w ρc R hρ
  have hr:=hρ x
  rw[hx]at hr
  obtain⟨u,hu,hud,hrun⟩:=cD (w:=w) ht
  obtain rfl:=iF (hud.trans hd)
  have hsize:=gV (w:=w) he
  have hml:maxLen=9223372036854775807:=rfl
  have key:∀ (a:Option Addr) (cap:Nat),ρc x=.slice a len cap->len<=cap ->
    (execOp ρc o).run P w=.ok (.value (.slice (if cap=l.toNat then a else a.map (·.add (l.toNat*sz))) (m.toNat-l.toNat) (cap-l.toNat))) w:=by
   intro a cap hv hc
   have hb:=uU (P:=P) R hρ true len cap lo hi none l m cap hl hh rfl eC h0 aA aA aA
   simp only[a4A]at hb
   have e:((cap:Int)).toNat=cap:=by omega
   simp[execOp,ho,Instr.sliceAt,Instr.slice,hrun,hv,hb,hsize,hsz,e]
  cases hv:ρc x <;> rw[hv]at hr <;> try(cases hr;done)
  have e0:m.toNat-l.toNat=0:=by omega
  cases hr with
  |os0 _ _ hd' hl' =>
   have hk':=key _ _ hv (bY _)
   refine .jR hk' (.same hk2 R ?_)
   rw[e0]
   have e1:l.toNat=0:=by have h2:=bAB;simp at h2;omega
   rw[e1]
   exact .sl0 sz true _ _ (λ_=>rfl) (by simp[maxLen]) trivial
  |os _ _ _ _ b o' cap t' mm hd' hl' hlc hmax hsh hm =>
   have hk':=key _ _ hv hlc
   rename_i cap
   by_cases hcl:cap=l.toNat
   ·refine .jR hk' (.same hk2 R ?_)
    rw[e0,if_pos hcl]
    exact .sl0 sz true _ _ (λ_=>by omega) aA trivial
   ·refine .jR hk' (.same hk R ?_)
    rw[e0,if_neg hcl]
    simp only[aDX,l8]
    have hlm:m=len:=bAB
    have e:o'+i*sz+l.toNat*sz=o'+(i+len)*sz:=by
     have:l.toNat=len:=by omega
     rw[this,uQ];omega
    rw[e]
    refine .os n sz (i+len) 0 b o' (cap-l.toNat) t' mm hd' hl' aA aA hsh ?_
    rw[show i+len+(cap-l.toNat)=i+cap by omega]
    exact hm
def bytesOf:List (List aE)->Option (List UInt8)
 | []=>some []
 | [.int .u8 n]::r=>(bytesOf r).map (UInt8.ofNat n.toNat::·)
 | _=>none
theorem aEI:∀ {es:List (List aE)} {s:List UInt8},bytesOf es=some s->∃ ns:List Int,es=ns.map (λn=>[.int .u8 n])/\s=ns.map λn=>UInt8.ofNat n.toNat
 | [],s,h=>by simp[bytesOf]at h;subst h;exact⟨[],rfl,rfl⟩
 |e::r,s,h=>by
  unfold bytesOf at h
  split at h
  ·simp_all
  ·rename_i n r' heq
   obtain⟨rfl,rfl⟩:=List.cons.inj heq
   obtain⟨s',hs,rfl⟩:=r7.1 h
   obtain⟨ns,rfl,rfl⟩:=aEI hs
   exact⟨n::ns,rfl,rfl⟩
  ·simp at h
theorem foldl_push:∀ (ns:List Int) (r:ByteArray),ns.foldl (λr n=>r.push (UInt8.ofNat n.toNat)) r=⟨(r.data.toList++ns.map λn=>UInt8.ofNat n.toNat).toArray⟩
 | [],r=>by simp
 |n::ns,r=>by
  rw[List.foldl_cons,foldl_push ns]
  simp[ByteArray.push,aOJ]
theorem aJ0 (s d et:TypeId) (x:Operand) (rs rd re:lU) (es:List (List aE)) (tg:Bool) (bs:List UInt8) (ho:o.op=.convert s d x) (hs:iP P s=some rs) (hss:rs.d=.slice et) (het:iP P et=some re) (hee:re.d=.int .u8)
  (hd:iP P d=some rd) (hdd:rd.d=.str) (hx:ρ x=.sl 1 es tg) (hb:bytesOf es=some bs) (hk:K (.str bs) h):pI P o ρ h K :=
 cI hk λE w ρc R hρ=>by
  have hr:=hρ x
  rw[hx]at hr
  obtain⟨u,hu,hud,hrun⟩:=cD (w:=w) hs
  obtain rfl:=iF (hud.trans hss)
  obtain⟨u',hu',hud',hrun'⟩:=cD (w:=w) hd
  obtain rfl:=aEA (hud'.trans hdd)
  obtain⟨ue,hue,hude,hrune⟩:=cD (w:=w) het
  obtain rfl:=aYJ (hude.trans hee)
  obtain⟨ns,rfl,rfl⟩:=aEI hb
  generalize hes:(ns.map λn=>[aE.int .u8 n])=es at hr
  cases hv:ρc x <;> rw[hv]at hr <;> try(cases hr;done)
  cases hr with
  |sl0 _ _ a cap htt hmax ha =>
   have hns:ns=[]:=by simpa using hes
   subst hns
   rename_i a cap
   refine⟨.string ⟨#[]⟩,?_,.str [] eC⟩
   cases a with
   |none=>simp[execOp,ho,convert,hv,hrun,hrun',hrune,Conv.bytesToString];rfl
   |some a =>
    have:=run_bytesToString (P:=P) w a 0 cap [] (by simp[loadCells,loadCellsFrom])
    simp[execOp,ho,convert,hv,hrun,hrun',hrune,this];rfl
  |sl _ _ _ b o' cap cv hI hcap hmax htt hs' hc h1' hrr =>
   rename_i cap
   subst hes
   have hns:(ns.map λn=>UInt8.ofNat n.toNat).length<=maxLen:=by simp at hcap ⊢;omega
   refine⟨.string ⟨(ns.map λn=>UInt8.ofNat n.toNat).toArray⟩,?_,.str _ hns⟩
   have hl:(loadCells ⟨b,o',none⟩ ns.length).run P w=.ok (ns.map (Value.int .u8)).toArray w:=by
    have:=run_loadCells_list (P:=P) (w:=w) ⟨b,o',none⟩ (ns.map (Value.int .u8)) (λj v hj=>by
     rw[sO]at hj
     obtain⟨n,hn,rfl⟩:=r7.1 hj
     have hat:iU (ns.map λn=>[aE.int .u8 n]) j 0=some (.int .u8 n):=by simp[iU,hn]
     have h1:=hc j 0 _ hat
     have h2:=lO (hrr j 0 _ hat)
     rw[l8,←h2,←h1]
     simp)
    simpa using this
   have:=run_bytesToString (P:=P) w ⟨b,o',none⟩ ns.length cap ns hl
   simp only[gX]at hv
   simp[execOp,ho,convert,hv,hrun,hrun',hrune,this]
   rw[foldl_push];simp
theorem aR7 (t ty:TypeId) (x y:Operand) (a b:List UInt8) (ho:o.op=.binOp .add t x y ty) (hx:ρ x=.str a) (hy:ρ y=.str b) (hl:a.length+b.length<=9223372036854775807) (hk:K (.str (a++b)) h):pI P o ρ h K :=
 cI hk λE w ρc R hρ=>by
  obtain⟨e1,h1⟩:=vM (hx▸hρ x)
  obtain⟨e2,h2⟩:=vM (hy▸hρ y)
  have hg:(eqGuard .add t x y (ρc x) (ρc y)).run P w=.ok () w:=by rw[e1,e2];simp[eqGuard]
  refine⟨.string ⟨(a++b).toArray⟩,?_,.str _ (by simp[maxLen]at *;omega)⟩
  simp only[execOp,ho,Sem.run_bind,hg,Result.andThen_ok,e1,e2,binOp,Op.stringOp]
  have hs:¬((((⟨a.toArray⟩:ByteArray).size+(⟨b.toArray⟩:ByteArray).size:Nat):Int) > IntKind.i64.max):=by
   have:IntKind.i64.max=9223372036854775807:=by decide
   rw[this];simp[ByteArray.size];omega
  rw[if_neg hs]
  simp only[Sem.run_pure]
  congr 3
def aVE (op:BinOp) (a b:List UInt8):Option Bool :=
 match op with
 | .lss=>some (Op.bytesLess a b)
 | .leq=>some (Op.bytesLess a b || a == b)
 | .gtr=>some (!(Op.bytesLess a b || a == b))
 | .geq=>some (!(Op.bytesLess a b))
 | _=>none
theorem aR8 (op:BinOp) (t ty:TypeId) (x y:Operand) (a b:List UInt8) (c:Bool) (ho:o.op=.binOp op t x y ty) (hx:ρ x=.str a) (hy:ρ y=.str b) (hc:aVE op a b=some c) (hk:K (.bool c) h):pI P o ρ h K :=
 cI hk λE w ρc R hρ=>by
  obtain⟨e1,h1⟩:=vM (hx▸hρ x)
  obtain⟨e2,h2⟩:=vM (hy▸hρ y)
  refine⟨.bool c,?_,.bool c⟩
  have q1:(⟨a.toArray⟩:ByteArray).toList=a:=by rw[ByteArray.toList_eq]
  have q2:(⟨b.toArray⟩:ByteArray).toList=b:=by rw[ByteArray.toList_eq]
  have hg:(eqGuard op t x y (ρc x) (ρc y)).run P w=.ok () w:=by
   rw[e1,e2];cases op <;> simp[eqGuard]
  rw[e1,e2]at hg
  cases op <;> simp only[aVE,a14,reduceCtorEq]at hc <;> subst hc <;>
   simp only[execOp,ho,Sem.run_bind,hg,Result.andThen_ok,e1,e2,binOp,Op.stringOp,q1,q2,Sem.run_pure]
theorem yL (op:BinOp) (t ty:TypeId) (x y:Operand) (r:lU) (et:TypeId) (Z Z2:Prop) (ho:o.op=.binOp op t x y ty) (ht:iP P t=some r) (hd:r.d=.slice et)
  (hx:∀ E w v,fG E h w (ρ x) v->∃ a n c,v=.slice a n c/\(a=none->Z)/\(¬a=none->Z2)) (hy:ρ y=.bS)
  (hop:op=.eql∨op=.neq) (h1:Z->K (.bool (op == .eql)) h) (h2:Z2->K (.bool (op != .eql)) h):pI P o ρ h K:=by
 intro E w ρc R hρ
 have hyv:ρc y=.slice none 0 0:=by have:=hy▸hρ y;generalize ρc y=v at this;cases this;rfl
 obtain⟨u,hu,hud,hrun⟩:=cD (w:=w) ht
 obtain rfl:=iF (hud.trans hd)
 have hg:(eqGuard op t x y (ρc x) (ρc y)).run P w=.ok () w:=by
  rw[hyv];rcases hop with rfl|rfl <;> cases ρc x <;> simp[eqGuard]
 have a46:∀ (d:Nat) (a:Option Addr) (n c:Nat),(Op.equalIn (d+1) t (.slice a n c) (.slice none 0 0)).run P w=.ok a.isNone w:=by
  intro d a n c
  cases a <;> simp[Op.equalIn,hrun]
 have key:∀ (a:Option Addr) (n c:Nat),(Op.equal t (.slice a n c) (.slice none 0 0)).run P w=.ok a.isNone w:=λa n c=>a46 9999 a n c
 have fin:∀ (a:Option Addr) (n c:Nat),ρc x=.slice a n c->K (.bool (if op=.eql then a.isNone else !a.isNone)) h->∃ v,(execOp ρc o).run P w=.ok (.value v) w/\fG E h w (.bool (if op=.eql then a.isNone else !a.isNone)) v:=by
  intro a n c e hk
  rw[e,hyv]at hg
  refine⟨.bool (if op=.eql then a.isNone else !a.isNone),?_,.bool _⟩
  rcases hop with rfl|rfl
  ·simp only[execOp,ho,Sem.run_bind,e,hyv,hg,Result.andThen_ok,binOp,key,Sem.run_pure];simp
  ·simp only[execOp,ho,Sem.run_bind,e,hyv,hg,Result.andThen_ok,binOp,key,Sem.run_pure];simp
 obtain⟨a,n,c,hv,hz,hz2⟩:=hx E w _ (hρ x)
 have h1':Z->K (.bool (if op=.eql then true else false)) h:=λq=>by have:=h1 q;rcases hop with rfl|rfl <;> exact this
 have h2':Z2->K (.bool (if op=.eql then false else true)) h:=λq=>by have:=h2 q;rcases hop with rfl|rfl <;> exact this
 cases a with
 |none =>
  have he:=hz rfl
  obtain⟨v,hv1,hv2⟩:=fin none n c hv (by simpa using h1' he)
  exact .jR hv1 (.same (by simpa using h1' he) R (by simpa using hv2))
 |some a =>
  have he:=hz2 eC
  obtain⟨v,hv1,hv2⟩:=fin (some a) n c hv (by simpa using h2' he)
  exact .jR hv1 (.same (by simpa using h2' he) R (by simpa using hv2))
theorem aHA (op:BinOp) (t ty:TypeId) (x y:Operand) (r:lU) (et:TypeId) (sz:Nat) (es:List (List aE)) (tt:Bool) (ho:o.op=.binOp op t x y ty) (ht:iP P t=some r) (hd:r.d=.slice et) (hx:ρ x=.sl sz es tt) (hy:ρ y=.bS)
  (hop:op=.eql∨op=.neq) (h1:es=[]->K (.bool (op == .eql)) h) (h2:K (.bool (op != .eql)) h):pI P o ρ h K :=
 yL op t ty x y r et (es=[]) True ho ht hd (λE w v hr=>by
  rw[hx]at hr
  cases v <;> try(cases hr;done)
  exact⟨_,_,_,rfl,λq=>by subst q;cases hr <;> rfl,λ_=>trivial⟩) hy hop h1 λ_=>h2
theorem aEJ (op:BinOp) (t ty:TypeId) (x y:Operand) (r:lU) (et:TypeId) (m sz i len:Nat) (ho:o.op=.binOp op t x y ty) (ht:iP P t=some r) (hd:r.d=.slice et) (hx:ρ x=.os m sz i len) (hy:ρ y=.bS)
  (hop:op=.eql∨op=.neq) (h1:len=0->K (.bool (op == .eql)) h) (h2:K (.bool (op != .eql)) h):pI P o ρ h K :=
 yL op t ty x y r et (len=0) True ho ht hd (λE w v hr=>by
  rw[hx]at hr
  cases v <;> try(cases hr;done)
  exact⟨_,_,_,rfl,λq=>by subst q;cases hr;rfl,λ_=>trivial⟩) hy hop h1 λ_=>h2
theorem aEK (op:BinOp) (t ty:TypeId) (x y:Operand) (r:lU) (et:TypeId) (ho:o.op=.binOp op t x y ty) (ht:iP P t=some r) (hd:r.d=.slice et) (hx:ρ x=.bS) (hy:ρ y=.bS)
  (hop:op=.eql∨op=.neq) (h1:K (.bool (op == .eql)) h):pI P o ρ h K :=
 yL op t ty x y r et True False ho ht hd (λE w v hr=>by
  rw[hx]at hr
  cases v <;> try(cases hr;done)
  exact⟨_,_,_,rfl,λ_=>trivial,λq=>by cases hr;exact q rfl⟩) hy hop (λ_=>h1) λq=>q.elim
def aHB (P:Program) (t:TypeId):Bool:=match P.underlying t with|some (.interface _)=>true|_=>false
def tQ:Operand->Bool | .const _=>true|_=>false
theorem vR (op:BinOp) (t ty:TypeId) (x y:Operand) (b:Bool) (ho:o.op=.binOp op t x y ty) (hi:aHB P t=true) (hc:tQ y=true) (hx:(ρ x=.l7/\b=true)∨(∃ ti xi,ρ x=.iface ti xi)/\b=false) (hy:ρ y=.l7)
  (hop:op=.eql∨op=.neq) (h1:K (.bool (if op=.eql then b else !b)) h):pI P o ρ h K:=by
 intro E w ρc R hρ
 have hyv:ρc y=.nilIface:=by have:=hy▸hρ y;generalize ρc y=v at this;cases this;rfl
 obtain⟨ms,hu⟩:∃ ms,P.underlying t=some (.interface ms):=by
  unfold aHB at hi
  split at hi
  ·exact⟨_,by assumption⟩
  ·cases hi
 have hrun:(underlying t).run P w=.ok (.interface ms) w:=by simp[underlying,hu]
 have hyc:∃ v,y=.const v:=by cases y <;> first|exact⟨_,rfl⟩|(simp[tQ]at hc)
 obtain⟨yv,rfl⟩:=hyc
 refine .jR (v:=.bool (if op=.eql then b else !b)) ?_ (.same h1 R (.bool _))
 rcases hx with⟨hx,rfl⟩|⟨⟨ti,xi,hx⟩,rfl⟩
 ·have hxv:ρc x=.nilIface:=by have:=hx▸hρ x;generalize ρc x=v at this;cases this;rfl
  have hg:(eqGuard op t x (.const yv) (ρc x) (ρc (.const yv))).run P w=.ok () w:=by
   rw[hxv,hyv];rcases hop with rfl|rfl <;> simp[eqGuard]
  have a46:∀ d:Nat,(Op.equalIn (d+1) t .nilIface .nilIface).run P w=.ok true w:=by
   intro d
   simp[Op.equalIn,hrun]
  have key:(Op.equal t .nilIface .nilIface).run P w=.ok true w:=a46 9999
  rw[hxv,hyv]at hg
  rcases hop with rfl|rfl
  ·simp only[execOp,ho,Sem.run_bind,hxv,hyv,hg,Result.andThen_ok,binOp,key,Sem.run_pure];simp
  ·simp only[execOp,ho,Sem.run_bind,hxv,hyv,hg,Result.andThen_ok,binOp,key,Sem.run_pure];simp
 ·obtain⟨xv,hxv⟩:∃ xv,ρc x=.iface ti xv:=by have:=hx▸hρ x;generalize ρc x=v at this;cases this;exact⟨_,rfl⟩
  have hg:(eqGuard op t x (.const yv) (ρc x) (ρc (.const yv))).run P w=.ok () w:=by
   rw[hxv,hyv];rcases hop with rfl|rfl <;> simp[eqGuard]
  have a46:∀ d:Nat,(Op.equalIn (d+1) t (.iface ti xv) .nilIface).run P w=.ok false w:=by
   intro d
   simp[Op.equalIn,hrun]
  have key:(Op.equal t (.iface ti xv) .nilIface).run P w=.ok false w:=a46 9999
  rw[hxv,hyv]at hg
  rcases hop with rfl|rfl
  ·simp only[execOp,ho,Sem.run_bind,hxv,hyv,hg,Result.andThen_ok,binOp,key,Sem.run_pure];simp
  ·simp only[execOp,ho,Sem.run_bind,hxv,hyv,hg,Result.andThen_ok,binOp,key,Sem.run_pure];simp
end
variable {ds:List Deferred}
def jF (P:Program) (f:FuncId):Bool :=
 match P.funcs[f]? with
 |some fn=>fn.body.isSome && !(fn.name == "runtime.NumGoroutine")
 |none=>false
def iD (P:Program) (f:FuncId) (args:List aE) (h:aB) (K:aE->aB->Prop):Prop:=jF P f=true/\aOK P f args h K
theorem iD.mono {P:Program} {f:FuncId} {args:List aE} {h:aB} {K K':aE->aB->Prop} (a:iD P f args h K) (hk:∀ r h',K r h'->K' r h'):iD P f args h K':=⟨a.1,a.2.mono hk⟩
def fR (P:Program) (f:FuncId) (args:List aE) (r:aE):Prop:=∀ h,iD P f args h λr' h'=>r'=r/\h'=h
theorem fR.call {P:Program} {f:FuncId} {args:List aE} {r:aE} (a:fR P f args r) {h:aB} {K:aE->aB->Prop} (hk:K r h):iD P f args h K :=
 (a h).mono λ_ _ ⟨e,e'⟩=>e▸e'▸hk
section
variable {P:Program} {o:Oper} {ρ:Operand->aE} {h:aB} {K:aE->aB->Prop}
theorem a47 (f:Operand) (as:Array Operand) (ats:Array TypeId) (g:FuncId) (first cap:List aE) (ho:o.op=.call { callee:=.value f,args:=as,argTypes:=ats }) (hf:ρ f=.fn (.func g) first cap)
  (hk:iD P g (first++as.toList.map ρ++cap) h K):pI P o ρ h K:=by
 intro E w ρc R hρ
 have hr:=hρ f
 rw[hf]at hr
 obtain⟨hc,hk⟩:=hk
 cases hv:ρc f <;> rw[hv]at hr <;> try(cases hr;done)
 cases hr with
 |fn _ _ _ vs us hl hrr hl' hrr' =>
  have hL:=(eF.append (eF.append (eF.mk hl hrr) (aED hρ as.toList)) (eF.mk hl' hrr'))
  unfold jF at hc
  cases hfn:P.funcs[g]? with
  |none=>simp[hfn]at hc
  |some fn =>
   simp only[hfn,mK,a17,beq_eq_false_iff_ne,ne_eq]at hc
   have hb:fn.body.isNone=false:=by cases hb:fn.body <;> simp_all
   have hrun:(execOp ρc o).run P w=.ok (.enter g (vs++as.toList.map ρc++us).toArray) w:=by
    have hb':¬fn.body=none:=by intro e;simp[e]at hb
    simp[execOp,ho,resolve,hv,Deferred.ofValue,invoke,callFunc,hfn,hc.2]
    rw[if_neg hb']
    congr 2
    apply Array.ext'
    simp
   unfold xE
   rw[hrun]
   exact Calls.mono (hk E w _ R hL) λe w' he=>by cases e <;> exact he
end
abbrev bK:=List (Nat×aE)
def bZ:bK->Nat->aE
 | [],_=>.any
 |(j,v)::r,k=>if j=k then v else bZ r k
def nX (τ:bK):Operand->aE
 | .tmp t=>bZ τ t
 | .const v=>.ofValue v
 | .global _=>.any
 | .func f=>.fn (.func f) [] []
def gP (τ:bK) (d:Option Tmp) (v:aE):bK :=
 match d with
 |some d=>(d,v)::τ
 |none=>τ
def prune (keep:List Nat) (τ:bK):bK:=keep.map λk=>(k,bZ τ k)
structure wT (ds:List Deferred) (E:Env) (h:aB) (w:World) (N:Nat) (τ:bK) (a:Act):Prop where
 size:a.tmps.size=N
 defers:a.defers=ds
 get:∀ k,fG E h w (bZ τ k) (a.tmps.getD k undef)
theorem wT.nX {E:Env} {h:aB} {w:World} {N:Nat} {τ:bK} {a:Act} (r:wT ds E h w N τ a) (x:Operand):fG E h w (nX τ x) (a.eval x):=by
 cases x with
 |tmp t=>exact r.get t
 |const v=>exact .ofValue _ _ _ _
 |global g=>exact .any _
 |func f =>
  have:=fG.fn (E:=E) (h:=h) (w:=w) (.func f) [] [] [] [] rfl eC rfl eC
  exact this
theorem wT.put {E:Env} {h:aB} {w:World} {N:Nat} {τ:bK} {a:Act} (r:wT ds E h w N τ a) (d:Option Tmp) (hd:∀ k,d=some k->k<N) {x:aE} {v:Value} (hx:fG E h w x v) :
  wT ds E h w N (gP τ d x) (a.put d v):=by
 cases d with
 |none=>exact r
 |some d =>
  have hlt:d<a.tmps.size:=by rw[r.size];exact hd d rfl
  refine⟨by simpa[Act.put]using r.size,r.defers,λk=>?_⟩
  simp only[gP,bZ,Act.put]
  by_cases e:d=k
  ·subst e
   simp[hlt];exact hx
  ·rw[if_neg e]
   have:=r.get k
   simpa[aU5 e]using this
theorem wT.ev {E E':Env} {h h':aB} {w w':World} {N:Nat} {τ:bK} {a:Act} (r:wT ds E h w N τ a) (ev:Ev E h w E' h' w'):wT ds E' h' w' N τ a :=
 ⟨r.size,r.defers,λk=>(r.get k).ev ev⟩
theorem aVF (keep:List Nat) (τ:bK) (k:Nat):bZ (prune keep τ) k=.any∨bZ (prune keep τ) k=bZ τ k:=by
 induction keep with
 |nil=>exact .inl rfl
 |cons j keep ih =>
  simp only[prune,qR,bZ]
  by_cases e:j=k
  ·subst e;simp
  ·rw[if_neg e];exact ih
theorem wT.prune {E:Env} {h:aB} {w:World} {N:Nat} {τ:bK} {a:Act} (keep:List Nat) (r:wT ds E h w N τ a):wT ds E h w N (prune keep τ) a :=
 ⟨r.size,r.defers,λk=>by
  rcases aVF keep τ k with e|e
  ·rw[e];exact .any _
  ·rw[e];exact r.get k⟩
def s9 (ds:List Deferred) (N:Nat) (Q:Exit->bK->aB->Prop) (E:Env) (h:aB) (w:World) (e:Exit) (a':Act) (w':World):Prop :=
 ∃ τ' h' E',Q e τ' h'/\Ev E h w E' h' w'/\Rel E' h' w'/\wT ds E' h' w' N τ' a'
def qI (P:Program) (N:Nat) (c:Code) (Q:Exit->bK->aB->Prop) (τ:bK) (h:aB):Prop :=
 ∀ (ds:List Deferred) E w a,Rel E h w->wT ds E h w N τ a->Code.wp P c (s9 ds N Q E h w) a w
theorem s9.trans {N:Nat} {Q:Exit->bK->aB->Prop} {E E':Env} {h h':aB} {w w':World} {e:Exit} {a:Act} {w'':World} (ev:Ev E h w E' h' w') (x:s9 ds N Q E' h' w' e a w''):s9 ds N Q E h w e a w'' :=
 let ⟨τ,g,F,q,ev',R,r⟩:=x;⟨τ,g,F,q,ev.trans ev',R,r⟩
theorem qI.mono {P:Program} {N:Nat} {c:Code} {Q Q':Exit->bK->aB->Prop} {τ:bK} {h:aB} (hq:∀ e τ h,Q e τ h->Q' e τ h) (x:qI P N c Q τ h):qI P N c Q' τ h :=
 λds E w a R r=>Code.wp_mono (λe a' w' ⟨τ',h',E',q,rest⟩=>⟨τ',h',E',hq _ _ _ q,rest⟩) (x ds E w a R r)
theorem qI.prune {P:Program} {N:Nat} {c:Code} {Q:Exit->bK->aB->Prop} {τ:bK} {h:aB} (keep:List Nat) (x:qI P N c Q (prune keep τ) h):qI P N c Q τ h :=
 λds E w a R r=>x ds E w a R (r.prune keep)
theorem qI.forget {P:Program} {N:Nat} {c:Code} {Q:Exit->bK->aB->Prop} {τ:bK} {h g:aB} (hl:g.le h) (x:qI P N c Q τ g):qI P N c Q τ h :=
 λds E w a R r=>Code.wp_mono (λe a' w' y=>s9.trans ((Ev.refl E h w).forget hl) y) (x ds E w a (R.forget hl) (r.ev ((Ev.refl E h w).forget hl)))
theorem qI.skip {P:Program} {N:Nat} {Q:Exit->bK->aB->Prop} {τ:bK} {h:aB} (hq:Q .normal τ h):qI P N .skip Q τ h :=
 λds E w a R r=>wp_skip ⟨τ,h,E,hq,.refl _ _ _,R,r⟩
theorem qI.exit {P:Program} {N id:Nat} {Q:Exit->bK->aB->Prop} {τ:bK} {h:aB} (hq:Q (.exit id) τ h):qI P N (.exit id) Q τ h :=
 λds E w a R r=>wp_exit ⟨τ,h,E,hq,.refl _ _ _,R,r⟩
theorem qI.ret {P:Program} {N:Nat} {Q:Exit->bK->aB->Prop} {τ:bK} {h:aB} (hq:Q .ret τ h):qI P N .ret Q τ h :=
 λds E w a R r=>wp_ret ⟨τ,h,E,hq,.refl _ _ _,R,r⟩
def xI (next:bK->aB->Prop) (Q:Exit->bK->aB->Prop):Exit->bK->aB->Prop
 | .normal,τ,h=>next τ h
 | .outgrown,_,_=>False
 |e,τ,h=>Q e τ h
theorem qI.seq {P:Program} {N:Nat} {x y:Code} {Q:Exit->bK->aB->Prop} {τ:bK} {h:aB} (hx:qI P N x (xI (qI P N y Q) Q) τ h):qI P N (.seq x y) Q τ h:=by
 intro ds E w a R r
 refine wp_seq (Code.wp_mono ?_ (hx ds E w a R r))
 rintro e a' w' ⟨τ',h',E',q,ev,R',r'⟩
 cases e <;> simp only[xI]at q
 ·simp only[Exit.then]
  exact Code.wp_mono (λe a w y=>s9.trans ev y) (q ds E' w' a' R' r')
 all_goals first|exact q.elim|exact⟨τ',h',E',q,ev,R',r'⟩
theorem qI.cond {P:Program} {N:Nat} {c:Operand} {x y:Code} {Q:Exit->bK->aB->Prop} {τ:bK} {h:aB} {b:Bool} (hc:nX τ c=.bool b)
  (ht:b=true->qI P N x Q τ h) (hf:b=false->qI P N y Q τ h):qI P N (.cond c x y) Q τ h:=by
 intro ds E w a R r
 have:=r.nX c
 rw[hc]at this
 exact wp_cond_split (xF this) (λe=>ht e ds E w a R r) (λe=>hf e ds E w a R r)
def aOO (id:Nat) (Q:Exit->bK->aB->Prop):Exit->bK->aB->Prop
 | .exit id',τ,h=>if id'=id then Q .normal τ h else Q (.exit id') τ h
 | .outgrown,_,_=>False
 |e,τ,h=>Q e τ h
theorem qI.block {P:Program} {N id:Nat} {c:Code} {Q:Exit->bK->aB->Prop} {τ:bK} {h:aB} (hx:qI P N c (aOO id Q) τ h):qI P N (.block id c) Q τ h:=by
 intro ds E w a R r
 refine wp_block (Code.wp_mono ?_ (hx ds E w a R r))
 rintro e a' w' ⟨τ',h',E',q,ev,R',r'⟩
 cases e <;> simp only[aOO]at q <;> simp only[Exit.inBlock]
 case exit id' =>
  split
  ·rename_i e;rw[if_pos e]at q;exact⟨τ',h',E',q,ev,R',r'⟩
  ·rename_i e;rw[if_neg e]at q;exact⟨τ',h',E',q,ev,R',r'⟩
 all_goals first|exact q.elim|exact⟨τ',h',E',q,ev,R',r'⟩
theorem qI.loop {P:Program} {N:Nat} {c:Code} {Q:Exit->bK->aB->Prop} {τ:bK} {h:aB} {α:Type} (I:α->bK->aB->Prop) (μ:α->Nat) (x₀:α) (h₀:I x₀ τ h)
  (round:∀ x τ h,I x τ h->qI P N c (xI (λτ' h'=>∃ x',I x' τ' h'/\μ x'<μ x) Q) τ h):qI P N (.loop c) Q τ h:=by
 intro ds E w a R r
 have key:∀ n x τ₁ h₁ E₁ a₁ w₁,μ x=n->I x τ₁ h₁->Ev E h w E₁ h₁ w₁->Rel E₁ h₁ w₁->wT ds E₁ h₁ w₁ N τ₁ a₁->∀ b k cs,
   ∃ e a' w',s9 ds N Q E h w e a' w'/\Arrives P (lone (b.at a₁ (.code c::.inLoop c::k)) cs w₁) b k cs e a' w':=by
  intro n
  induction n using Nat.strongRecOn with
  | _ n ih =>
   intro x τ₁ h₁ E₁ a₁ w₁ hn hI ev₁ R₁ r₁ b k cs
   obtain⟨e,a₂,w₂,⟨τ₂,h₂,E₂,q,ev₂,R₂,r₂⟩,harr⟩:=round x τ₁ h₁ hI ds E₁ w₁ a₁ R₁ r₁ b (.inLoop c::k) cs
   cases e with
   |normal =>
    obtain⟨x',hI',hlt⟩:=q
    obtain⟨e₃,a₃,w₃,q₃,harr₃⟩:=ih (μ x') (hn▸hlt) x' τ₂ h₂ E₂ a₂ w₂ rfl hI' (ev₁.trans ev₂) R₂ r₂ b k cs
    exact⟨e₃,a₃,w₃,q₃,.of_steps (Steps.trans harr (.one step_inLoop)) harr₃⟩
   |outgrown=>exact q.elim
   |exit id=>exact⟨_,a₂,w₂,⟨τ₂,h₂,E₂,q,ev₁.trans ev₂,R₂,r₂⟩,.pass (x:=.inLoop c) rfl (λ_ _=>.inl eC) harr⟩
   |goto l=>exact⟨_,a₂,w₂,⟨τ₂,h₂,E₂,q,ev₁.trans ev₂,R₂,r₂⟩,.pass (x:=.inLoop c) rfl (λ_ _=>.inl eC) harr⟩
   |ret=>exact⟨_,a₂,w₂,⟨τ₂,h₂,E₂,q,ev₁.trans ev₂,R₂,r₂⟩,.pass (x:=.inLoop c) rfl (λ_ _=>.inl eC) harr⟩
   |panic ch=>exact⟨_,a₂,w₂,⟨τ₂,h₂,E₂,q,ev₁.trans ev₂,R₂,r₂⟩,.pass (x:=.inLoop c) rfl (λ_ _=>.inl eC) harr⟩
 intro b k cs
 obtain⟨e,a',w',q,harr⟩:=key _ x₀ τ h E a w rfl h₀ (.refl _ _ _) R r b k cs
 exact⟨e,a',w',q,.of_steps (.one step_loop) harr⟩
def lY (P:Program) (t:TypeId):Option lU :=
 match iP P t with
 |some r=>match r.d with
  | .slice et=>iP P et
  | _=>none
 |none=>none
theorem mO {P:Program} {t:TypeId} {re:lU} (h:lY P t=some re):∃ r et,iP P t=some r/\r.d=.slice et/\iP P et=some re:=by
 unfold lY at h
 split at h
 ·rename_i r hr
  split at h
  ·rename_i et hd;exact⟨r,et,hr,hd,h⟩
  ·simp at h
 ·simp at h
def z7 (P:Program) (t:TypeId):Option TyD:=(iP P t).map (·.d)
theorem kE {P:Program} {t:TypeId} {d:TyD} (h:z7 P t=some d):∃ r,iP P t=some r/\r.d=d:=by
 unfold z7 at h
 obtain⟨r,hr,rfl⟩:=r7.1 h
 exact⟨r,hr,rfl⟩
def gQ (P:Program) (op:BinOp) (t:TypeId) (x y:aE) (K:aE->Prop):Prop :=
 match x,y with
 | .bool a,.bool b=>z7 P t=some .bool/\(match op with | .eql=>K (.bool (a == b)) | .neq=>K (.bool (a != b))|_=>False)
 | .int k a,.int k' b =>
  match op with
  | .quo=>k=k'/\b≠0/\K (.int k (k.wrap (a.tdiv b)))
  | .rem=>k=k'/\b≠0/\K (.int k (a.tmod b))
  | .shl=>0<=b/\K (.int k (k.wrap (a*2 ^ (min b.toNat k.bits))))
  | .shr=>0<=b/\K (.int k (a.fdiv (2 ^ (min b.toNat k.bits))))
  |op=>match nJ op (.int k a) (.int k' b)with|some v=>K v|none=>False
 | .str a,.str b =>
  match op with
  | .add=>a.length+b.length<=9223372036854775807/\K (.str (a++b))
  | .eql=>K (.bool (decide (a=b)))
  | .neq=>K (.bool (!decide (a=b)))
  |op=>match aVE op a b with|some c=>K (.bool c)|none=>False
 |x,y=>match nJ op x y with|some v=>K v|none=>False
def xJ (P:Program) (op:BinOp) (t:TypeId) (x y:aE) (K:aE->Prop):Prop :=
 match x,y with
 | .sl _ es _,.bS=>(match z7 P t with|some (.slice _)=>True|_=>False)/\(match op with | .eql=>(es=[]->K (.bool true))/\K (.bool false) | .neq=>(es=[]->K (.bool false))/\K (.bool true)|_=>False)
 | .os _ _ _ len,.bS=>(match z7 P t with|some (.slice _)=>True|_=>False)/\(match op with | .eql=>(len=0->K (.bool true))/\K (.bool false) | .neq=>(len=0->K (.bool false))/\K (.bool true)|_=>False)
 | .bS,.bS=>(match z7 P t with|some (.slice _)=>True|_=>False)/\(match op with | .eql=>K (.bool true) | .neq=>K (.bool false)|_=>False)
 |x,y=>gQ P op t x y K
def xK (P:Program) (op:BinOp) (t:TypeId) (c:Bool) (x y:aE) (K:aE->Prop):Prop :=
 match c,x,y with
 |true,.l7,.l7=>aHB P t=true/\(match op with | .eql=>K (.bool true) | .neq=>K (.bool false)|_=>False)
 |true,.iface _ _,.l7=>aHB P t=true/\(match op with | .eql=>K (.bool false) | .neq=>K (.bool true)|_=>False)
 | _,x,y=>xJ P op t x y K
def aFY (op:UnOp) (x:aE) (K:aE->Prop):Prop :=
 match op,x with
 | .not,.bool b=>K (.bool (!b))
 | .neg,.int k n=>K (.int k (k.wrap (0-n)))
 | _,_=>False
def aFZ (d:Option TyD) (f:Nat) (x:aE) (K:aE->Prop):Prop :=
 match d with
 |some (.st fs)=>match fs[f]? with
  |some (off,_,sz')=>sz'≠0/\(match x with
   | .op n sz i k=>K (.op n sz i (k+off))
   | .ip sz es i k=>K (.ip sz es i (k+off))
   | _=>False)
  |none=>False
 | _=>False
def aF0 (re:Option lU) (x i:aE) (K:aE->Prop):Prop :=
 match re with
 |some re=>match x,i with
  | .sl sz es _,.int _ n=>re.sz=sz/\0<=n/\n<es.length/\K (.ip sz es n.toNat 0)
  | .os m sz i0 len,.int _ n=>re.sz=sz/\0<=n/\n<len/\K (.op m sz (i0+n.toNat) 0)
  | _,_=>False
 |none=>False
def aC2 (d:Option TyD) (x i:aE) (K:aE->Prop):Prop :=
 match d,x,i with
 |some .str,.str s,.int _ n=>0<=n/\(match s[n.toNat]? with|some c=>K (.int .u8 c.toNat)|none=>False)
 | _,_,_=>False
def kA (r:Option lU) (a:aE) (h:aB) (K:aE->Prop):Prop :=
 match r with
 |some r=>match a with
  | .ip _ es i off=>match es[i]? with
   |some e=>match ld r e off with
    |some x=>K x
    |none=>False
   |none=>False
  | .op n sz i off=>match h n with
   |some (.row sz' es)=>sz'=sz/\(match es[i]? with
    |some e=>match aG3 r e off with
     |some x=>K x
     |none=>False
    |none=>False)
   | _=>False
  | _=>False
 |none=>False
def aOP (r:Option lU) (a v:aE) (h:aB) (K:aB->Prop):Prop :=
 match r with
 |some r=>match a with
  | .op n sz i off=>match h n with
   |some (.row sz' es)=>sz'=sz/\(match es[i]? with
    |some e=>v.cells.all aE.flat=true/\v.cells.length=r.sz/\off+r.sz<=e.length/\K (aT h n (.row sz (es.set i (pW e off v.cells))))
    |none=>False)
   | _=>False
  | _=>False
 |none=>False
def aF1 (r:Option lU) (h:aB) (K:aE->aB->Prop):Prop :=
 match r with
 |some r=>r.zero≠[]/\r.zero.all aE.flat=true/\∀ n,h n=none->K (.op n r.zero.length 0 0) (aT h n (.row r.zero.length [r.zero.map .v]))
 |none=>False
def aYO (x:aE) (h:aB) (K:aE->aB->Prop):Prop :=
 x.cells.all aE.flat=true/\∀ n,h n=none->K (.op n x.cells.length 0 0) (aT h n (.row x.cells.length [x.cells.map .v]))
def bGY (t:TypeId):Bool:=match a4Y with|none=>false|some r=>decide (t=r)
def aYP (t:TypeId) (x:aE) (h:aB) (K:aE->aB->Prop):Prop :=
 x.cells=[.j8,.bS]/\∀ n,h n=none->K (.op n 2 0 0) (aT h n (.raw t #[.pointer none,.slice none 0 0]))
def aJ1 (re:Option lU) (l c:aE) (h:aB) (K:aE->aB->Prop):Prop :=
 match re with
 |some re=>match l,c with
  | .int _ a,.int _ b=>re.zero.length=re.sz/\0<re.sz/\re.zero.all aE.flat=true/\0<=a/\a<=b/\b<=281474976710656/\re.bytes*b<=281474976710656 /\
    ∀ n,h n=none->K (.os n re.sz 0 a.toNat) (aT h n (.row re.sz ((List.replicate b.toNat re.zero).map (List.map .v))))
  | _,_=>False
 |none=>False
def nC (P:Program) (t:TypeId) (x:aE) (lo hi:Option aE) (K:aE->Prop):Prop :=
 match x with
 | .str s=>z7 P t=some .str/\(match j9 0 lo,j9 s.length hi with
  |some l,some m=>0<=l/\l<=m/\m<=s.length/\K (.str ((s.take m.toNat).drop l.toNat))
  | _,_=>False)
 | .sl sz es tg=>match lY P t with
  |some re=>re.sz=sz/\(match j9 0 lo,j9 es.length hi with
   |some l,some m=>0<=l/\l<=m/\m<=es.length/\K (.sl sz ((es.take m.toNat).drop l.toNat) (tg && decide (m=es.length)))
   | _,_=>False)
  |none=>False
 | .os n sz i len=>match lY P t with
  |some re=>re.sz=sz/\(match j9 0 lo,j9 len hi with
   |some l,some m=>0<=l/\l<m/\m<=len/\K (.os n sz (i+l.toNat) (m.toNat-l.toNat))
   | _,_=>False)
  |none=>False
 | _=>False
def sB (P:Program) (t:TypeId) (x:aE) (lo hi:Option aE) (K:aE->Prop):Prop :=
 match x,hi with
 | .os n sz i len,none=>(match lY P t with
  |some re=>re.sz=sz/\(match j9 0 lo with
   |some l=>0<=l/\l<=len/\(l<len->K (.os n sz (i+l.toNat) (len-l.toNat)))/\(l=len->K (.os n sz (i+len) 0)/\K (.sl sz [] true))
   |none=>False)
  |none=>False)
 |x,hi=>nC P t x lo hi K
def p8 (P:Program) (t:TypeId) (x:aE) (lo:Option aE) (hi mx:aE) (K:aE->Prop):Prop :=
 match x with
 | .sl sz es tg=>match lY P t with
  |some re=>re.sz=sz/\(match j9 0 lo,j9 es.length (some hi),j9 0 (some mx)with
   |some l,some m,some M=>0<=l/\l<=m/\m<=M/\M<=es.length/\K (.sl sz ((es.take m.toNat).drop l.toNat) (decide (M=m)))
   | _,_,_=>False)
  |none=>False
 | _=>False
def aOQ (P:Program) (t:Option TypeId) (x:aE) (K:aE->Prop):Prop :=
 match t with
 |some t=>match z7 P t,x with
  |some (.slice _),.sl _ es _=>es.length<=9223372036854775807->K (.int .i64 es.length)
  |some (.slice _),.os _ _ _ n=>n<=9223372036854775807->K (.int .i64 n)
  |some (.slice _),.bS=>K (.int .i64 0)
  |some .str,.str s=>s.length<=9223372036854775807->K (.int .i64 s.length)
  | _,_=>False
 |none=>False
def uK (P:Program) (r:Option lU) (ps:List (Nat×aE)) (K:aE->Prop):Prop :=
 match r with
 |some r=>aAW P r.d=true/\r.zero≠[]/\yK (s8 P r.d) r.zero.length ps=true/\K (.agg (aJZ (s8 P r.d) r.zero ps))
 |none=>False
def uW (re:Option lU) (len:Nat) (ps:List (Nat×aE)) (K:Nat->List (List aE)->Prop):Prop :=
 match re with
 |some re=>re.zero.length=re.sz/\0<re.sz/\re.zero.all aE.flat=true/\len*re.sz<=16777216/\sA len re.sz ps=true/\K re.sz (uV (List.replicate len re.zero) ps)
 |none=>False
def yM (P:Program) (re:Option lU) (t1:Option TypeId) (x y:aE) (h:aB) (K:aE->aB->Prop):Prop :=
 match re with
 |some re=>re.zero.length=re.sz/\0<re.sz/\aAT P t1=true/\(match x with
  | .os n sz i len=>re.sz=sz/\(match h n with
   |some (.row sz' es)=>sz'=sz/\i+len<=es.length/\(match vQ h sz y with
    |some ys=>(len+ys.length)*re.bytes<=140737488355328/\len+ys.length<=9223372036854775807 /\
      ∀ b,h b=none->K (.os b sz 0 (len+ys.length)) (aT (aT h n .gone) b (.row sz ((es.drop i).take len++ys.map (List.map .v))))
    |none=>False)
   | _=>False)
  |x=>match aEG re.sz x,vQ h re.sz y with
   |some olds,some ys=>(ys=[]->K x h)/\(ys≠[]->(olds.length+ys.length)*re.bytes<=140737488355328/\olds.length+ys.length<=9223372036854775807 /\
     ∀ n,h n=none->K (.os n re.sz 0 (olds.length+ys.length)) (aT h n (.row re.sz ((olds++ys).map (List.map .v)))))
   | _,_=>False)
 |none=>False
def bAC (P:Program) (t:Option TypeId):Option lU:=match t with|some t=>lY P t|none=>none
def aAX (P:Program) (c:Call) (ρ:Operand->aE) (h:aB) (K:aE->aB->Prop):Prop :=
 match c with
 | { callee:=.value f,args:=as,argTypes:=_ }=>match ρ f with
  | .fn (.func g) first cap=>iD P g (first++as.toList.map ρ++cap) h K
  | _=>False
 | { callee:=.builtin .len,args:=as,argTypes:=ats }=>match as.toList with
  | [x]=>aOQ P ats[0]? (ρ x) λv=>K v h
  | _=>False
 | { callee:=.builtin .max,args:=as,argTypes:=_ }=>match as.toList with
  | [x,y]=>match ρ x,ρ y with
   | .int k a,.int _ b=>(match ρ y with | .int k' _=>k'=k|_=>False)/\K (.int k (max a b)) h
   | _,_=>False
  | _=>False
 | { callee:=.builtin .append,args:=as,argTypes:=ats }=>match as.toList with
  | [x,y]=>yM P (bAC P ats[0]?) ats[1]? (ρ x) (ρ y) h K
  | _=>False
 | _=>False
def aAY (P:Program) (s d:TypeId) (x:aE) (K:aE->Prop):Prop :=
 match z7 P d,x with
 |some (.int k'),.int k n=>(z7 P s).isSome=true/\K (.int k' (k'.wrap n))
 |some .str,.sl 1 es _=>(match z7 P s with
  |some (.slice et)=>z7 P et=some (.int .u8)/\(match bytesOf es with|some bs=>K (.str bs)|none=>False)
  | _=>False)
 | _,_=>False
def step (P:Program) (o:Oper) (ρ:Operand->aE) (h:aB) (K:aE->aB->Prop):Prop :=
 match o.op with
 | .move x=>K (ρ x) h
 | .assign x=>K (ρ x) h
 | .pick c a b=>match ρ c with
  | .bool t=>(t=true->K (ρ a) h)/\(t=false->K (ρ b) h)
  | _=>False
 | .binOp op t x y _=>xK P op t (tQ y) (ρ x) (ρ y) λv=>K v h
 | .unOp op _ x=>aFY op (ρ x) λv=>K v h
 | .convert s d x=>aAY P s d (ρ x) λv=>K v h
 | .fieldAddr t x f=>aFZ (z7 P t) f (ρ x) λv=>K v h
 | .indexAddr t x i=>aF0 (lY P t) (ρ x) (ρ i) λv=>K v h
 | .index t x i=>aC2 (z7 P t) (ρ x) (ρ i) λv=>K v h
 | .load t a=>kA (iP P t) (ρ a) h λv=>K v h
 | .store t a v=>aOP (iP P t) (ρ a) (ρ v) h λh'=>K .any h'
 | .alloc t=>aF1 (iP P t) h K
 | .box t x=>if bGY t then aYP t (ρ x) h K else aYO (ρ x) h K
 | .makeSlice t l c=>aJ1 (lY P t) (ρ l) (ρ c) h K
 | .slice t x lo hi none=>sB P t (ρ x) (lo.map ρ) (hi.map ρ) λv=>K v h
 | .extract t i=>match ρ t with
  | .gK cs=>match cs[i]? with|some x=>K x h|none=>False
  | _=>False
 | .nilCheck x=>match ρ x with
  | .op n sz i k=>K (.op n sz i k) h
  | .ip sz es i k=>K (.ip sz es i k) h
  | _=>False
 | .makeFunc fn fs cs=>K (.fn fn (fs.toList.map ρ) (cs.toList.map ρ)) h
 | .call c=>aAX P c ρ h K
 | .build t ps=>uK P (iP P t) (ps.toList.map λp=>(p.1,ρ p.2)) λv=>K v h
 | .buildSlice t len ps=>uW (lY P t) len (ps.toList.map λp=>(p.1,ρ p.2)) λsz es=>∀ n,h n=none->K (.os n sz 0 len) (aT h n (.row sz (es.map (List.map .v))))
 | .slice t x lo (some hi) (some mx)=>p8 P t (ρ x) (lo.map ρ) (ρ hi) (ρ mx) λv=>K v h
 | _=>False
section
variable {P:Program} {o:Oper} {ρ:Operand->aE} {h:aB} {K:aE->aB->Prop}
theorem aMJ (op:BinOp) (t ty:TypeId) (x y:Operand) (ho:o.op=.binOp op t x y ty) (hs:gQ P op t (ρ x) (ρ y) λv=>K v h):pI P o ρ h K:=by
 have gen:∀ v,nJ op (ρ x) (ρ y)=some v->K v h->pI P o ρ h K:=λv hv hk=>a94 op t ty x y v ho hv hk
 unfold gQ at hs
 split at hs
 ·rename_i a b ex ey
  obtain⟨hd,hs⟩:=hs
  obtain⟨r,hr,hd⟩:=kE hd
  split at hs
  ·exact aEE .eql t ty x y r a b _ ho hr hd ex ey (.inl ⟨rfl,rfl⟩) hs
  ·exact aEE .neq t ty x y r a b _ ho hr hd ex ey (.inr ⟨rfl,rfl⟩) hs
  ·exact hs.elim
 ·rename_i k a k' b ex ey
  split at hs
  ·obtain⟨rfl,hb,hk⟩:=hs
   exact aYK .quo t ty x y k a b _ ho ex ey hb (.inl ⟨rfl,rfl⟩) hk
  ·obtain⟨rfl,hb,hk⟩:=hs
   exact aYK .rem t ty x y k a b _ ho ex ey hb (.inr ⟨rfl,rfl⟩) hk
  ·obtain⟨hb,hk⟩:=hs
   exact aM8 .shl t ty x y k k' a b _ ho ex ey hb (.inl ⟨rfl,rfl⟩) hk
  ·obtain⟨hb,hk⟩:=hs
   exact aM8 .shr t ty x y k k' a b _ ho ex ey hb (.inr ⟨rfl,rfl⟩) hk
  ·split at hs
   ·rename_i v hv;exact gen v (by rw[ex,ey];exact hv) hs
   ·exact hs.elim
 ·rename_i a b ex ey
  split at hs
  ·exact aR7 t ty x y a b ho ex ey hs.1 hs.2
  ·exact gen _ (by rw[ex,ey];rfl) hs
  ·exact gen _ (by rw[ex,ey];rfl) hs
  ·split at hs
   ·rename_i c hc;exact aR8 _ t ty x y a b c ho ex ey hc hs
   ·exact hs.elim
 ·split at hs
  ·rename_i v hv;exact gen v hv hs
  ·exact hs.elim
theorem aJ2 (op:BinOp) (t ty:TypeId) (x y:Operand) (ho:o.op=.binOp op t x y ty) (hs:xJ P op t (ρ x) (ρ y) λv=>K v h):pI P o ρ h K:=by
 unfold xJ at hs
 split at hs
 ·rename_i sz es tt ex ey
  obtain⟨hd0,hs⟩:=hs
  split at hd0
  ·rename_i et hd
   obtain⟨r,hr,hd⟩:=kE hd
   split at hs
   ·exact aHA .eql t ty x y r et sz es tt ho hr hd ex ey (.inl rfl) hs.1 hs.2
   ·exact aHA .neq t ty x y r et sz es tt ho hr hd ex ey (.inr rfl) hs.1 hs.2
   ·exact hs.elim
  ·exact hd0.elim
 ·rename_i m sz i len ex ey
  obtain⟨hd0,hs⟩:=hs
  split at hd0
  ·rename_i et hd
   obtain⟨r,hr,hd⟩:=kE hd
   split at hs
   ·exact aEJ .eql t ty x y r et m sz i len ho hr hd ex ey (.inl rfl) hs.1 hs.2
   ·exact aEJ .neq t ty x y r et m sz i len ho hr hd ex ey (.inr rfl) hs.1 hs.2
   ·exact hs.elim
  ·exact hd0.elim
 ·rename_i ex ey
  obtain⟨hd0,hs⟩:=hs
  split at hd0
  ·rename_i et hd
   obtain⟨r,hr,hd⟩:=kE hd
   split at hs
   ·exact aEK .eql t ty x y r et ho hr hd ex ey (.inl rfl) hs
   ·exact aEK .neq t ty x y r et ho hr hd ex ey (.inr rfl) hs
   ·exact hs.elim
  ·exact hd0.elim
 ·exact aMJ op t ty x y ho hs
theorem aJ3 (op:BinOp) (t ty:TypeId) (x y:Operand) (ho:o.op=.binOp op t x y ty) (hs:xK P op t (tQ y) (ρ x) (ρ y) λv=>K v h):pI P o ρ h K:=by
 unfold xK at hs
 split at hs
 ·rename_i ec ex ey
  obtain⟨hi,hs⟩:=hs
  split at hs
  ·exact vR .eql t ty x y true ho hi ec (.inl ⟨ex,rfl⟩) ey (.inl rfl) hs
  ·exact vR .neq t ty x y true ho hi ec (.inl ⟨ex,rfl⟩) ey (.inr rfl) hs
  ·exact hs.elim
 ·rename_i ti xi ec ex ey
  obtain⟨hi,hs⟩:=hs
  split at hs
  ·exact vR .eql t ty x y false ho hi ec (.inr ⟨⟨_,_,ex⟩,rfl⟩) ey (.inl rfl) hs
  ·exact vR .neq t ty x y false ho hi ec (.inr ⟨⟨_,_,ex⟩,rfl⟩) ey (.inr rfl) hs
  ·exact hs.elim
 ·exact aJ2 op t ty x y ho hs
theorem aMK (x y:Operand) (ats:Array TypeId) (ho:o.op=.call { callee:=.builtin .append,args:=#[x,y],argTypes:=ats }) (hs:yM P (bAC P ats[0]?) ats[1]? (ρ x) (ρ y) h K):pI P o ρ h K:=by
 unfold yM at hs
 split at hs
 ·rename_i re hre
  unfold bAC at hre
  split at hre
  ·rename_i t a0
   obtain⟨r,et,hr,hd,he⟩:=mO hre
   obtain⟨hz,hz0,h1,hs⟩:=hs
   split at hs
   ·rename_i n sz i len hx
    obtain⟨hsz,hs⟩:=hs
    split at hs
    ·rename_i sz' es hn
     obtain⟨rfl,hle,hs⟩:=hs
     split at hs
     ·rename_i ys hy
      exact aMG x y ats t et r re n sz' i len es ys ho a0 hr hd he hz hz0 h1 hx hsz hn hle hy hs.1 hs.2.1 hs.2.2
     ·exact hs.elim
    ·exact hs.elim
   ·split at hs
    ·rename_i olds ys hx hy
     rcases List.eq_nil_or_concat ys with e|⟨_,_,e⟩
     ·subst e
      exact aHT x y ats t et r re ho a0 hr hd he h1 (by rw[hx];rfl) hy (hs.1 rfl)
     ·have hne:ys≠[]:=by rw[e];simp
      have hs:=hs.2 hne
      exact aJX x y ats t et r re olds ys ho a0 hr hd he hz hz0 h1 hx hy hne hs.1 hs.2.1 hs.2.2
    ·exact hs.elim
  ·simp at hre
 ·exact hs.elim
theorem lV (hs:step P o ρ h K):pI P o ρ h K:=by
 unfold step at hs
 split at hs
 case h_1 x ho=>exact a4Z x ho hs
 case h_2 x ho=>exact aVB x ho hs
 case h_3 c a b ho =>
  split at hs
  ·rename_i t ht
   refine a40 c a b t ho ht ?_
   cases t
   ·exact hs.2 rfl
   ·exact hs.1 rfl
  ·exact hs.elim
 case h_4 op t x y ty ho=>exact aJ3 op t ty x y ho hs
 case h_5 op t x ho =>
  unfold aFY at hs
  split at hs
  ·rename_i b hb;exact a98 t x b ho hb hs
  ·rename_i k n hn;exact a99 t x k n ho hn hs
  ·exact hs.elim
 case h_6 s d x ho =>
  unfold aAY at hs
  split at hs
  ·rename_i k' k n hd hx
   obtain⟨vK,hk⟩:=hs
   obtain⟨rd,hrd,hdd⟩:=kE hd
   obtain⟨ds,hds⟩:=Option.isSome_iff_exists.1 vK
   obtain⟨rs,hrs,_⟩:=kE hds
   exact aHS s d x rs rd k k' n ho hrs hrd hdd hx hk
  ·rename_i es tg hd hx
   split at hs
   ·rename_i et hss
    obtain⟨hee,hs⟩:=hs
    split at hs
    ·rename_i bs hbs
     obtain⟨rd,hrd,hdd⟩:=kE hd
     obtain⟨rs,hrs,hsd⟩:=kE hss
     obtain⟨re,hre,hed⟩:=kE hee
     exact aJ0 s d et x rs rd re es tg bs ho hrs hsd hre hed hrd hdd hx hbs hs
    ·exact hs.elim
   ·exact hs.elim
  ·exact hs.elim
 case h_7 t x f ho =>
  unfold aFZ at hs
  split at hs
  ·rename_i fs hd
   obtain⟨r,hr,hd⟩:=kE hd
   split at hs
   ·rename_i off ft sz' hf
    obtain⟨hsz,hs⟩:=hs
    split at hs
    ·rename_i n sz i k hx;exact aCJ t x f r fs off sz' ft _ ho hr hd hf hsz (.inl ⟨n,sz,i,k,hx,rfl⟩) hs
    ·rename_i sz es i k hx;exact aCJ t x f r fs off sz' ft _ ho hr hd hf hsz (.inr ⟨sz,es,i,k,hx,rfl⟩) hs
    ·exact hs.elim
   ·exact hs.elim
  ·exact hs.elim
 case h_8 t x i ho =>
  unfold aF0 at hs
  split at hs
  ·rename_i re hre
   obtain⟨r,et,hr,hd,he⟩:=mO hre
   split at hs
   ·rename_i sz es tg k n hx hi
    obtain⟨hsz,h0,hn,hk⟩:=hs
    exact aFV t et x i r re sz es tg k n ho hr hd he hsz hx hi h0 hn hk
   ·rename_i m sz i0 len k n hx hi
    obtain⟨hsz,h0,hn,hk⟩:=hs
    exact aFW t et x i r re m sz i0 len k n ho hr hd he hsz hx hi h0 hn hk
   ·exact hs.elim
  ·exact hs.elim
 case h_9 t x i ho =>
  unfold aC2 at hs
  split at hs
  ·rename_i s k n hd hx hi
   obtain⟨r,hr,hd⟩:=kE hd
   obtain⟨h0,hs⟩:=hs
   split at hs
   ·rename_i c hc;exact aMD t x i r s k n c ho hr hd hx hi h0 hc hs
   ·exact hs.elim
  ·exact hs.elim
 case h_10 t a ho =>
  unfold kA at hs
  split at hs
  ·rename_i r hr
   split at hs
   ·rename_i sz es i off ha
    split at hs
    ·rename_i e he
     split at hs
     ·rename_i x hx;exact aRW t a r sz i off es e x ho hr ha he hx hs
     ·exact hs.elim
    ·exact hs.elim
   ·rename_i n sz i off ha
    split at hs
    ·rename_i sz' es hn
     obtain⟨rfl,hs⟩:=hs
     split at hs
     ·rename_i e he
      split at hs
      ·rename_i x hx;exact aRX t a r n sz' i off es e x ho hr ha hn he hx hs
      ·exact hs.elim
     ·exact hs.elim
    ·exact hs.elim
   ·exact hs.elim
  ·exact hs.elim
 case h_11 t a v ho =>
  unfold aOP at hs
  split at hs
  ·rename_i r hr
   split at hs
   ·rename_i n sz i off ha
    split at hs
    ·rename_i sz' es hn
     obtain⟨rfl,hs⟩:=hs
     split at hs
     ·rename_i e he
      obtain⟨hf,hsz,hoff,hk⟩:=hs
      exact a2A t a v r n sz' i off es e ho hr ha hn he hf hsz hoff hk
     ·exact hs.elim
    ·exact hs.elim
   ·exact hs.elim
  ·exact hs.elim
 case h_12 t ho =>
  unfold aF1 at hs
  split at hs
  ·rename_i r hr
   obtain⟨hz,hf,hk⟩:=hs
   exact a2B t r ho hr hz hf hk
  ·exact hs.elim
 case h_13 t x ho =>
  split at hs
  ·exact aRY t x ho hs.1 hs.2
  ·exact a97 t x ho hs.1 hs.2
 case h_14 t l c ho =>
  unfold aJ1 at hs
  split at hs
  ·rename_i re hre
   obtain⟨r,et,hr,hd,he⟩:=mO hre
   split at hs
   ·rename_i k a k' b hl hc
    obtain⟨hz,hz0,hf,h0,hab,hb,hbb,hk⟩:=hs
    exact aMF t et l c r re k k' a b ho hr hd he hz hz0 hf hl hc h0 hab hb hbb hk
   ·exact hs.elim
  ·exact hs.elim
 case h_15 t x lo hi ho =>
  unfold sB at hs
  split at hs
  ·rename_i n sz i len hx hhi
   split at hs
   ·rename_i re hre
    obtain⟨r,et,hr,hd,he⟩:=mO hre
    obtain⟨hsz,hs⟩:=hs
    split at hs
    ·rename_i l hl
     obtain⟨h0,h1,h2,h3⟩:=hs
     rcases Int.lt_or_eq_of_le h1 with q|q
     ·have:=h2 q
      exact aEH t et x lo hi r re n sz i len l len ho hr hd he hsz hx hl (by rw[hhi];rfl) h0 q (aFS _) (by simpa using this)
     ·exact aMI t et x lo hi r re n sz i len l len ho hr hd he hsz hx hl (by rw[hhi];rfl) h0 q rfl (h3 q).1 (h3 q).2
    ·exact hs.elim
   ·exact hs.elim
  unfold nC at hs
  split at hs
  ·rename_i s hx
   obtain⟨hd,hs⟩:=hs
   obtain⟨r,hr,hd⟩:=kE hd
   split at hs
   ·rename_i l m hl hh
    obtain⟨h0,h1,h2,hk⟩:=hs
    exact aME t x lo hi r s l m ho hr hd hx hl hh h0 h1 h2 hk
   ·exact hs.elim
  ·rename_i sz es tg hx
   split at hs
   ·rename_i re hre
    obtain⟨r,et,hr,hd,he⟩:=mO hre
    obtain⟨hsz,hs⟩:=hs
    split at hs
    ·rename_i l m hl hh
     obtain⟨h0,h1,h2,hk⟩:=hs
     exact aON t et x lo hi r re sz es tg l m ho hr hd he hsz hx hl hh h0 h1 h2 hk
    ·exact hs.elim
   ·exact hs.elim
  ·rename_i n sz i len hx
   split at hs
   ·rename_i re hre
    obtain⟨r,et,hr,hd,he⟩:=mO hre
    obtain⟨hsz,hs⟩:=hs
    split at hs
    ·rename_i l m hl hh
     obtain⟨h0,h1,h2,hk⟩:=hs
     exact aEH t et x lo hi r re n sz i len l m ho hr hd he hsz hx hl hh h0 h1 h2 hk
    ·exact hs.elim
   ·exact hs.elim
  ·exact hs.elim
 case h_16 t i ho =>
  split at hs
  ·rename_i cs ht
   split at hs
   ·rename_i x hx;exact aRZ t i cs x ho ht hx hs
   ·exact hs.elim
  ·exact hs.elim
 case h_17 x ho =>
  split at hs
  ·rename_i n sz i k hx;exact aEC x ho (.inl ⟨n,sz,i,k,hx⟩) (hx▸hs)
  ·rename_i sz es i k hx;exact aEC x ho (.inr ⟨sz,es,i,k,hx⟩) (hx▸hs)
  ·exact hs.elim
 case h_18 fn fs cs ho=>exact aOM fn fs cs ho hs
 case h_19 c ho =>
  unfold aAX at hs
  split at hs
  ·rename_i f as ats
   split at hs
   ·rename_i g first cap hf;exact a47 f as ats g first cap ho hf hs
   ·exact hs.elim
  ·rename_i as ats
   split at hs
   ·rename_i x hax
    have hax':as=#[x]:=by cases as;simp_all
    subst hax'
    unfold aOQ at hs
    split at hs
    ·rename_i t hat
     split at hs
     ·rename_i et sz es tg hd hx
      obtain⟨r,hr,hd⟩:=kE hd
      exact aIB t x r es.length ats ho hat hr (.inl ⟨_,sz,es,tg,hd,hx,rfl⟩) hs
     ·rename_i et m sz i n hd hx
      obtain⟨r,hr,hd⟩:=kE hd
      exact aIB t x r n ats ho hat hr (.inr (.inl ⟨_,m,sz,i,hd,hx⟩)) hs
     ·rename_i et hd hx
      obtain⟨r,hr,hd⟩:=kE hd
      exact aIB t x r 0 ats ho hat hr (.inr (.inr (.inl ⟨_,hd,hx,rfl⟩))) λ_=>hs
     ·rename_i s hd hx
      obtain⟨r,hr,hd⟩:=kE hd
      exact aIB t x r s.length ats ho hat hr (.inr (.inr (.inr ⟨s,hd,hx,rfl⟩))) hs
     ·exact hs.elim
    ·exact hs.elim
   ·exact hs.elim
  ·rename_i as ats
   split at hs
   ·rename_i x y hax
    have hax':as=#[x,y]:=by cases as;simp_all
    subst hax'
    split at hs
    ·rename_i k a k' b hx hy
     obtain⟨h1,hk⟩:=hs
     rw[hy]at h1
     simp only at h1
     subst h1
     exact bAA x y ats _ a b ho hx hy hk
    ·exact hs.elim
   ·exact hs.elim
  ·rename_i as ats
   split at hs
   ·rename_i x y hax
    have hax':as=#[x,y]:=by cases as;simp_all
    subst hax'
    exact aMK x y ats ho hs
   ·exact hs.elim
  ·exact hs.elim
 case h_20 t ps ho =>
  unfold uK at hs
  split at hs
  ·rename_i r hr
   obtain⟨h1,h2,h3,hk⟩:=hs
   exact a2D t ps r ho hr h1 h2 h3 hk
  ·exact hs.elim
 case h_21 t len ps ho =>
  unfold uW at hs
  split at hs
  ·rename_i re hre
   obtain⟨r,et,hr,hd,he⟩:=mO hre
   obtain⟨h1,h2,h3,h4,h5,hk⟩:=hs
   exact aJU t et len ps r re ho hr hd he h1 h2 h3 h4 h5 hk
  ·exact hs.elim
 case h_22 t x lo hi mx ho =>
  unfold p8 at hs
  split at hs
  ·rename_i sz es tg hx
   split at hs
   ·rename_i re hre
    obtain⟨r,et,hr,hd,he⟩:=mO hre
    obtain⟨hsz,hs⟩:=hs
    split at hs
    ·rename_i l m M hl hh hM
     obtain⟨h0,h1,h2,h3,hk⟩:=hs
     exact aMH t et x lo (some hi) mx r re sz es tg l m M ho hr hd he hsz hx rfl hl hh hM h0 h1 h2 h3 hk
    ·exact hs.elim
   ·exact hs.elim
  ·exact hs.elim
 case h_23=>exact hs.elim
def aJ4 (x:aE) (K:aE->Prop):Prop:=x.cells.all aE.flat=true/\K (.ip x.cells.length [x.cells] 0 0)
def bGZ (r':aE) (h':aB) (r:aE) (h:aB):Prop :=
 ∀ E w v,Rel E h' w->fG E h' w r' v->∃ E',Ev E h' w E' h w/\Rel E' h w/\fG E' h w r v
def aYQ (K:aE->aB->Prop):aE->aB->Prop:=λv h'=>∃ r g,bGZ v h' r g/\K r g
theorem pI.seal {P:Program} {o:Oper} {ρ:Operand->aE} {h:aB} {K:aE->aB->Prop} (a:pI P o ρ h (aYQ K)):pI P o ρ h K:=λE w ρc R hρ =>
 (a E w ρc R hρ).mono λv w' ⟨r',h',E',⟨r,g,s,k⟩,ev,R',x⟩ =>
  let ⟨E'',ev',R'',x'⟩:=s E' w' v R' x
  ⟨r,g,E'',k,ev.trans ev',R'',x'⟩
def uX (P:Program) (ib:List Nat) (o:Oper) (ρ:Operand->aE) (h:aB) (K:aE->aB->Prop):Prop :=
 match o.dst with
 |some d=>if ib.contains d then(match o.op with
   | .box _ x=>aJ4 (ρ x) λv=>K v h
   | .buildSlice t len ps=>uW (lY P t) len (ps.toList.map λp=>(p.1,ρ p.2)) λsz es=>K (.sl sz es true) h
   | .call ⟨.builtin .append,_,_⟩=>step P o ρ h (aYQ K)
   | _=>step P o ρ h K)else step P o ρ h K
 |none=>step P o ρ h K
theorem aAZ {ib:List Nat} (hs:uX P ib o ρ h K):pI P o ρ h K:=by
 unfold uX at hs
 split at hs
 ·split at hs
  ·split at hs
   ·rename_i t x ho;exact aR1 t x ho hs.1 hs.2
   ·rename_i t len ps ho
    unfold uW at hs
    split at hs
    ·rename_i re hre
     obtain⟨r,et,hr,hd,he⟩:=mO hre
     obtain⟨h1,h2,h3,h4,h5,hk⟩:=hs
     exact aCZ t et len ps r re ho hr hd he h1 h2 h3 h4 h5 hk
    ·exact hs.elim
   ·exact(lV hs).seal
   ·exact lV hs
  ·exact lV hs
 ·exact lV hs
end
variable {ds:List Deferred}
def want (ops:Array Oper) (τ:bK) (o:Oper):Option Bool :=
 match o.guard with
 |none=>some true
 |some (g,b)=>match (ops[g]?).bind (·.dst)with
  |some d=>match bZ τ d with
   | .bool b'=>some (b' == b)
   | .gK []=>some false
   | _=>none
  |none=>none
theorem aC3 {E:Env} {h:aB} {w:World} {N:Nat} {τ:bK} {a:Act} {ops:Array Oper} {o:Oper} {c:Bool} (r:wT ds E h w N τ a) (hw:want ops τ o=some c) (hd:∀ (g:Nat) (og:Oper) d,ops[g]?=some og->og.dst=some d->d<N) :
  Region.wanted o (yielded ops a.tmps)=c:=by
 unfold want at hw
 unfold Region.wanted
 split at hw
 ·rename_i hg;rw[hg];exact gO hw
 ·rename_i g b hg
  rw[hg]
  split at hw
  ·rename_i d hdd
   obtain⟨og,hog,hod⟩:=Option.bind_eq_some_iff.1 hdd
   have hlt:d<a.tmps.size:=by rw[r.size];exact hd g og d hog hod
   have hr:=r.get d
   have hge:a.tmps[d]?=some a.tmps[d]:=aJD hlt
   have hgd:a.tmps.getD d undef=a.tmps[d]:=by simp[Array.getD,hlt]
   split at hw
   ·rename_i b' hb'
    rw[hb',hgd]at hr
    have:=xF hr
    obtain rfl:=gO hw
    simp only[yielded,hog,a13,hod,hge,this]
    cases b <;> cases b' <;> rfl
   ·rename_i hb'
    rw[hb',hgd]at hr
    obtain rfl:=gO hw
    have:a.tmps[d]=.tuple #[]:=by
     cases hv:a.tmps[d] <;> rw[hv]at hr <;> try(cases hr;done)
     cases hr with
     |gK _ vs hl hrr =>
      have:vs=[]:=by cases vs <;> simp_all
      simp[this]
    simp only[yielded,hog,a13,hod,hge,this]
    cases b <;> rfl
   ·simp at hw
  ·simp at hw
def aEL (P:Program) (ib:List Nat) (ops:Array Oper):List Oper->bK->aB->(bK->aB->Prop)->Prop
 | [],τ,h,K=>K τ h
 |o::rest,τ,h,K=>match o.guard with
  |none=>uX P ib o (nX τ) h λv h'=>aEL P ib ops rest (gP τ o.dst v) h' K
  |some (g,b)=>match (ops[g]?).bind (·.dst)with
   |some d=>match bZ τ d with
    | .bool b'=>(b'=b->uX P ib o (nX ((d,.bool b)::τ)) h λv h'=>aEL P ib ops rest (gP ((d,.bool b)::τ) o.dst v) h' K) /\
      (b'=!b->aEL P ib ops rest (gP ((d,.bool !b)::τ) o.dst (.gK [])) h K)
    | .gK []=>aEL P ib ops rest (gP τ o.dst (.gK [])) h K
    | _=>False
   |none=>False
theorem yN {τ:bK} {d:Nat} {v:aE} (hv:bZ τ d=v) (k:Nat):bZ ((d,v)::τ) k=bZ τ k:=by
 simp only[bZ];split
 ·rename_i e;rw[←e,hv]
 ·rfl
theorem aEL.cases {P:Program} {ib:List Nat} {ops:Array Oper} {o:Oper} {rest:List Oper} {τ:bK} {h:aB} {K:bK->aB->Prop} (r:aEL P ib ops (o::rest) τ h K) :
  ∃ σ,(∀ k,bZ σ k=bZ τ k)/\((want ops τ o=some true/\uX P ib o (nX σ) h λv h'=>aEL P ib ops rest (gP σ o.dst v) h' K) ∨
   (want ops τ o=some false/\aEL P ib ops rest (gP σ o.dst (.gK [])) h K)):=by
 unfold aEL at r
 unfold want
 split at r
 ·rename_i hg;exact⟨τ,λ_=>rfl,.inl ⟨by simp[hg],r⟩⟩
 ·rename_i g b hg
  try simp only[hg]
  split at r
  ·rename_i d hd
   try simp only[hd]
   split at r
   ·rename_i b' hb'
    by_cases e:b'=b
    ·subst e
     exact⟨(d,.bool b')::τ,yN hb',.inl ⟨by simp[hb'],r.1 rfl⟩⟩
    ·have e':b'=!b:=by cases b' <;> cases b <;> simp_all
     subst e'
     exact⟨(d,.bool !b)::τ,yN hb',.inr ⟨by first|(cases b <;> rfl)|(simp only[hb'];cases b <;> rfl),r.2 rfl⟩⟩
   ·rename_i hb';exact⟨τ,λ_=>rfl,.inr ⟨by simp[hb'],r⟩⟩
   ·exact r.elim
  ·exact r.elim
def aC4 (N:Nat) (ops:Array Oper):Bool:=ops.toList.all λo=>match o.dst with|some d=>decide (d<N)|none=>true
theorem yO {N:Nat} {ops:Array Oper} (h:aC4 N ops=true) (g:Nat) (og:Oper) (d:Nat) (hg:ops[g]?=some og) (hd:og.dst=some d):d<N:=by
 have:=vF.1 h og (by rw[←al5]at hg;exact s5 hg)
 simpa[hd]using this
theorem aOR {P:Program} {ib:List Nat} {N:Nat} {ops:Array Oper} {Q:Exit->bK->aB->Prop} {K:bK->aB->Prop} (hN:aC4 N ops=true) (keep:List Nat) (hK:∀ τ h,K τ h->Q .normal (prune keep τ) h) {E₀:Env} {h₀:aB} {w₀:World} :
  ∀ (l:List Oper),(∀ o∈l,o∈ops.toList)->∀ (τ:bK) (h:aB),aEL P ib ops l τ h K->∀ E w a,Ev E₀ h₀ w₀ E h w->Rel E h w->wT ds E h w N τ a->wpList P ops (s9 ds N Q E₀ h₀ w₀) l a w
 | [],_,τ,h,hr,E,w,a,ev,R,r=>⟨prune keep τ,h,E,hK _ _ hr,ev,R,r.prune keep⟩
 |o::rest,hl,τ,h,hr,E,w,a,ev,R,r=>by
  have hdst:∀ k,o.dst=some k->k<N:=λk hk=>by
   have:=vF.1 hN o (hl o eC)
   simpa[hk]using this
  obtain⟨σ,hσ,hr⟩:=hr.cases
  have rσ:wT ds E h w N σ a:=⟨r.size,r.defers,λk=>by rw[hσ];exact r.get k⟩
  rcases hr with⟨hw,hr⟩|⟨hw,hr⟩
  ·have hwant:=aC3 r hw (yO hN)
   unfold wpList
   rw[hwant,if_pos rfl]
   left
   refine xE.wp ((aAZ hr E w _ R λx=>rσ.nX x).mono ?_)
   rintro v w' ⟨x,h',E',k,ev',R',rx⟩
   exact aOR hN keep hK rest (λo ho=>hl o (by simp[ho])) _ h' k E' w' (a.put o.dst v) (ev.trans ev') R' ((rσ.ev ev').put o.dst hdst rx)
  ·have hwant:=aC3 r hw (yO hN)
   unfold wpList
   rw[hwant,if_neg eC]
   refine aOR hN keep hK rest (λo ho=>hl o (by simp[ho])) _ h hr E w _ ev R (rσ.put o.dst hdst ?_)
   exact fG.gK [] [] rfl eC
theorem qI.region {P:Program} {ib:List Nat} {N id:Nat} {ops:Array Oper} {Q:Exit->bK->aB->Prop} {τ:bK} {h:aB} (hN:aC4 N ops=true) (keep:List Nat) (hr:aEL P ib ops ops.toList τ h λτ' h'=>Q .normal (Hl.prune keep τ') h'):qI P N (.region id ops false) Q τ h :=
 λds E w a R r=>wp_region_list (aOR hN keep (λ_ _ x=>x) ops.toList (λ_ ho=>ho) τ h hr E w a (.refl _ _ _) R r)
def aVG (P:Program) (τ:bK) (h:aB):ResultVar->(aE->Prop)->Prop
 | .tmp t,K=>K (bZ τ t)
 | .cell a t,K=>kA (iP P t) (bZ τ a) h K
def a48 (P:Program) (τ:bK) (h:aB):List ResultVar->(List aE->Prop)->Prop
 | [],K=>K []
 |x::l,K=>aVG P τ h x λv=>a48 P τ h l λvs=>K (v::vs)
def bAD (P:Program) (rs:Array ResultVar) (τ:bK) (h:aB) (K:aE->aB->Prop):Prop :=
 a48 P τ h rs.toList λvs=>match vs with
  | [v]=>K v h
  |vs=>K (.gK vs) h
def aEM (P:Program) (rs:Array ResultVar) (K:aE->aB->Prop):Exit->bK->aB->Prop
 | .normal,τ,h=>bAD P rs τ h K
 | .ret,τ,h=>bAD P rs τ h K
 | _,_,_=>False
theorem aVH {P:Program} {t:TypeId} {a:aE} {h:aB} {K:aE->Prop} (hs:kA (iP P t) a h K) {E:Env} {w:World} {v:Value} (R:Rel E h w) (hv:fG E h w a v) :
  ∃ (b o:Nat) (x:aE) (c:Value),v=.pointer (some ⟨b,o,none⟩)/\(loadVar t ⟨b,o,none⟩).run P w=.ok c w/\K x/\fG E h w x c:=by
 unfold kA at hs
 split at hs
 ·rename_i r hr
  split at hs
  ·rename_i sz es i off
   split at hs
   ·rename_i e he
    split at hs
    ·rename_i x hx
     obtain⟨b,k,c,h1,h2,h3⟩:=aG4 (P:=P) t r sz i off es e x hr hv he hx
     exact⟨b,k,x,c,h1,h2,hs,h3⟩
    ·exact hs.elim
   ·exact hs.elim
  ·rename_i n sz i off
   split at hs
   ·rename_i sz' es hn
    obtain⟨rfl,hs⟩:=hs
    split at hs
    ·rename_i e he
     split at hs
     ·rename_i x hx
      obtain⟨b,k,c,h1,h2,h3⟩:=aG5 (P:=P) R t r n sz' i off es e x hr hv hn he hx
      exact⟨b,k,x,c,h1,h2,hs,h3⟩
     ·exact hs.elim
    ·exact hs.elim
   ·exact hs.elim
  ·exact hs.elim
 ·exact hs.elim
def aJ5 (P:Program) (tmps:Array Value):ResultVar->Sem Value
 | .tmp t=>pure (tmps.getD t undef)
 | .cell a t=>do loadVar t (←asAddr (tmps.getD a undef))
theorem aJ6 {P:Program} {N:Nat} {τ:bK} {h:aB} {E:Env} {w:World} {a:Act} (R:Rel E h w) (r:wT ds E h w N τ a):∀ (l:List ResultVar) (K:List aE->Prop),a48 P τ h l K ->
  ∃ xs vs,(l.mapM (aJ5 P a.tmps)).run P w=.ok vs w/\K xs/\eF E h w xs vs
 | [],K,hk=>⟨[],[],by simp,hk,trivial⟩
 |x::l,K,hk=>by
  unfold a48 at hk
  cases x with
  |tmp t =>
   simp only[aVG]at hk
   obtain⟨xs,vs,h1,h2,h3⟩:=aJ6 R r l _ hk
   exact⟨_::xs,_::vs,by simp[aJ5,h1],h2,r.get t,h3⟩
  |cell p t =>
   simp only[aVG]at hk
   obtain⟨b,o,x,c,h1,h2,h3,h4⟩:=aVH hk R (r.get p)
   obtain⟨xs,vs,k1,k2,k3⟩:=aJ6 R r l _ h3
   exact⟨x::xs,c::vs,by simp[aJ5,h1,asAddr,h2,k1],k2,h4,k3⟩
theorem a49 {P:Program} {N:Nat} {τ:bK} {h:aB} {E:Env} {w:World} {a:Act} {fn:Func} {K:aE->aB->Prop} (R:Rel E h w) (r:wT ds E h w N τ a) (hk:bAD P fn.results τ h K) :
  ∃ x v,(results fn a.tmps).run P w=.ok v w/\K x h/\fG E h w x v:=by
 unfold bAD at hk
 obtain⟨xs,vs,h1,h2,h3⟩:=aJ6 R r _ _ hk
 have hm:(fn.results.mapM (aJ5 P a.tmps)).run P w=.ok vs.toArray w:=by
  rw[←Array.toArray_toList (xs:=fn.results),List.mapM_toArray]
  simp[h1]
 have hres:(results fn a.tmps).run P w=.ok (if h:vs.toArray.size=1 then vs.toArray[0]else .tuple vs.toArray) w:=by
  have e:results fn a.tmps=(do let vs ←fn.results.mapM (aJ5 P a.tmps);pure (if h:vs.size=1 then vs[0]else .tuple vs)):=by
   unfold results
   congr 1
  rw[e,Sem.run_bind,hm]
  rfl
 split at h2
 ·rename_i x
  cases vs with
  |nil=>exact h3.elim
  |cons v vs =>
   cases vs with
   |nil=>exact⟨x,v,by rw[hres];simp,h2,h3.1⟩
   |cons _ _=>exact h3.2.elim
 ·rename_i hne
  refine⟨.gK xs,.tuple vs.toArray,?_,h2,.gK xs vs h3.length h3.get⟩
  rw[hres,dif_neg]
  intro e
  have hl:=h3.length
  simp at e
  rw[e]at hl
  cases xs with
  |nil=>simp at hl
  |cons y ys =>
   cases ys with
   |nil=>exact hne y rfl
   |cons _ _=>simp at hl
def pQ:Nat->List aE->bK
 | _,[]=>[]
 |i,x::xs=>(i,x)::pQ (i+1) xs
theorem aJ7:∀ (xs:List aE) (i k:Nat),bZ (pQ i xs) k=if i<=k then(xs[k-i]?).getD .any else .any
 | [],i,k=>by simp[pQ,bZ]
 |x::xs,i,k=>by
  simp only[pQ,bZ]
  by_cases e:i=k
  ·subst e;simp
  ·rw[if_neg e,aJ7 xs (i+1) k]
   by_cases h:i+1<=k
   ·rw[if_pos h,if_pos aA,show k-i=(k-(i+1))+1 by omega];simp
   ·rw[if_neg h,if_neg aA]
theorem a5A {P:Program} {f:FuncId} {fn:Func} {c:Code} {N:Nat} {args:List aE} {h:aB} {K:aE->aB->Prop} (hf:P.funcs[f]?=some fn) (hb:fn.body=some c) (hc:jF P f=true) (hN:fn.ntmps=N)
  (hl:args.length<=N) {K':aE->aB->Prop} (hw:qI P N c (aEM P fn.results K') (pQ 0 args) h) (hk':∀ r h',K' r h'->∃ g:aB,g.le h'/\K r g):iD P f args h K:=by
 refine⟨hc,λE w vs R hL=>calls_of_wp hf hb ?_⟩
 have hlen:=hL.length
 refine Code.wp_mono ?_ (hw [] E w _ R ⟨?_,rfl,?_⟩)
 ·rintro e a' w' ⟨τ',h',E',q,ev,R',r'⟩
  cases e <;> simp only[aEM]at q <;> try exact q.elim
  all_goals
   obtain⟨x,v,h1,hk0,hx⟩:=a49 R' r' q
   obtain⟨g,hg,hk⟩:=hk' _ _ hk0
   exact⟨r'.defers,v,h1,x,g,E',hk,ev.forget hg,R'.forget hg,hx.pV λb=>oU.le hg⟩
 ·simp[hN];omega
 ·intro k
  rw[aJ7]
  simp only[eM,if_true,a4B]
  by_cases hk:k<args.length
  ·have hx:args[k]?=some args[k]:=fC hk
   have hv:vs[k]?=some (vs[k]'aA):=fC aA
   rw[hx]
   have hg:(vs.toArray++Array.replicate (fn.ntmps-vs.toArray.size) undef).getD k undef=vs[k]'aA:=by
    have hk':k<vs.length:=by omega
    simp[Array.getD,Array.getElem_append,hk'];omega
   rw[hg]
   exact hL.get k _ _ hx hv
  ·rw[aJE aA]
   exact .any _
variable {ds:List Deferred}
def tA (ops:Array Oper) (o:Oper):List Tmp :=
 (o.op.operands.toList.filterMap fun | .tmp t=>some t|_=>none)++(match o.guard with|some (g,_)=>((ops[g]?).bind (·.dst)).toList|none=>[])
def tR (ops:Array Oper) (o:Oper) (τ:bK):Operand->aE
 | .tmp t=>if (tA ops o).contains t then bZ τ t else .any
 |x=>nX τ x
theorem p9 {ops:Array Oper} {o:Oper} {τ τ':bK} (h:∀ t∈tA ops o,bZ τ t=bZ τ' t):tR ops o τ=tR ops o τ':=by
 funext x
 cases x with
 |tmp t =>
  simp only[tR]
  split
  ·rename_i hc;exact h t (by simpa using hc)
  ·rfl
 | _=>rfl
def uY (P:Program) (o:Oper) (ρ:Operand->aE) (v:aE):Prop:=∀ h,pI P o ρ h λv' h'=>v'=v/\h'=h
def aAF:List (Nat×Nat)->Nat->Nat->Bool
 | [],_,_=>false
 |(a,b)::r,x,i=>(a == x && b == i) || aAF r x i
def a5B:List (Nat×Nat)->Nat->Bool
 | [],_=>false
 |(a,_)::r,x=>a == x || a5B r x
theorem aR9 {x i:Nat}:∀ {cr:List (Nat×Nat)},a5B cr x=false->aAF cr x i=false
 | [],_=>rfl
 |(a,b)::r,h=>by
  simp only[a5B,Bool.or_eq_false_iff]at h
  simp only[aAF,h.1,a9X,aMB]
  exact aR9 h.2
def aVI (o:Oper):Bool:=match o.op with | .load _ _=>true|_=>false
def aOS (P:Program) (o:Oper) (ρ:Operand->aE) (h:aB) (n:Nat) (v:aE):Prop:=∀ h',h' n=h n->pI P o ρ h' λv' h''=>v'=v/\h''=h'
def aJ8 (cr:List (Nat×Nat)) (i:Nat) (pr:List (Nat×Nat)) (h h':aB):Prop:=∀ p∈pr,aAF cr p.1 i=true->h' p.2=h p.2
inductive tB where
 |nil
 |op (i:Nat) (p:tB)
 |alt (i:Nat) (p:tB) (j:Nat) (q:tB)
def OpL (P:Program) (ops:Array Oper) (ms:List Nat) (i:Nat) (cr:List (Nat×Nat)) (pr:List (Nat×Nat)) (τ:bK) (h:aB) (C:List (Nat×Nat)->bK->aB->Prop):Prop :=
 match ops[i]? with
  |none=>False
  |some o=>match want ops τ o with
   |none=>False
   |some true=>if ms.contains i then(if aVI o then(∃ n v,aOS P o (tR ops o τ) h n v/\C ((i,n)::pr) (gP τ o.dst v) h)∨∃ v,uY P o (tR ops o τ) v/\C pr (gP τ o.dst v) h
      else pI P o (tR ops o τ) h λv h'=>aJ8 cr i pr h h'/\C pr (gP τ o.dst v) h')
     else ∃ v,uY P o (tR ops o τ) v/\C pr (gP τ o.dst v) h
   |some false=>C pr (gP τ o.dst (.gK [])) h
def kB (P:Program) (ops:Array Oper) (ms:List Nat) (cr:List (Nat×Nat)):tB->List (Nat×Nat)->bK->aB->(bK->aB->Prop)->Prop
 | .nil,_,τ,h,K=>K τ h
 | .op i p,pr,τ,h,K=>OpL P ops ms i cr pr τ h λpr τ h=>kB P ops ms cr p pr τ h K
 | .alt i p j q,pr,τ,h,K=>(OpL P ops ms i cr pr τ h λpr τ h=>kB P ops ms cr p pr τ h K)/\OpL P ops ms j cr pr τ h λpr τ h=>kB P ops ms cr q pr τ h K
def TEq (τ τ':bK):Prop:=∀ k,bZ τ k=bZ τ' k
theorem xL (τ:bK) (d:Option Tmp) (v:aE) (k:Nat):bZ (gP τ d v) k=if d=some k then v else bZ τ k:=by
 cases d with
 |none=>simp[gP]
 |some d=>simp only[gP,bZ,a14]
theorem TEq.put {τ τ':bK} (h:TEq τ τ') (d:Option Tmp) (v:aE):TEq (gP τ d v) (gP τ' d v):=λk=>by
 rw[xL,xL,h k]
theorem TEq.put_comm (τ:bK) {d e:Option Tmp} (u v:aE) (hne:∀ k,d=some k->e≠some k):TEq (gP (gP τ d u) e v) (gP (gP τ e v) d u):=λk=>by
 simp only[xL]
 by_cases h1:e=some k <;> by_cases h2:d=some k
 ·exact absurd h1 (hne k h2)
 ·simp[h1,h2]
 ·simp[h1,h2]
 ·simp[h1,h2]
theorem yP {ops:Array Oper} {o:Oper} {τ τ':bK} (h:∀ t∈tA ops o,bZ τ t=bZ τ' t):want ops τ o=want ops τ' o:=by
 unfold want
 split
 ·rfl
 ·rename_i g b hg
  split
  ·rename_i d hd
   rw[h d (by simp[tA,hg,hd])]
  ·rfl
theorem aJ8.sub {cr:List (Nat×Nat)} {i:Nat} {pr pr':List (Nat×Nat)} {h h':aB} (hs:∀ p∈pr',p∈pr∨∀ j,aAF cr p.1 j=false) (x:aJ8 cr i pr h h'):aJ8 cr i pr' h h':=λp hp hc=>by
 rcases hs p hp with h1|h1
 ·exact x p h1 hc
 ·rw[h1 i]at hc;cases hc
theorem a5C {cr pr pr':List (Nat×Nat)} (hs:∀ p∈pr',p∈pr∨∀ j,aAF cr p.1 j=false) (q:Nat×Nat):∀ p∈q::pr',p∈q::pr∨∀ j,aAF cr p.1 j=false:=λp hp=>by
 rcases pP.1 hp with rfl|hp
 ·exact .inl aAL
 ·exact(hs p hp).imp (wN _) id
theorem OpL.congr {P:Program} {ops:Array Oper} {ms:List Nat} {cr:List (Nat×Nat)} {i:Nat} {C C':List (Nat×Nat)->bK->aB->Prop} {pr pr':List (Nat×Nat)} {τ τ':bK} {h:aB}
  (hC:∀ (pr pr':List (Nat×Nat)) (τ τ':bK) (h:aB),(∀ p∈pr',p∈pr∨∀ j,aAF cr p.1 j=false)->TEq τ τ'->C pr τ h->C' pr' τ' h) (hs:∀ p∈pr',p∈pr∨∀ j,aAF cr p.1 j=false) (e:TEq τ τ') (r:OpL P ops ms i cr pr τ h C):OpL P ops ms i cr pr' τ' h C':=by
 unfold OpL at r ⊢
 cases ho:ops[i]? with
 |none=>simp[ho]at r
 |some o =>
  simp only[ho]at r ⊢
  rw[←yP (ops:=ops) (o:=o) (τ:=τ) (τ':=τ') λt _=>e t]
  cases hw:want ops τ o with
  |none=>simp[hw]at r
  |some c =>
   simp only[hw]at r ⊢
   rw[←p9 (ops:=ops) (o:=o) (τ:=τ) (τ':=τ') λt _=>e t]
   cases c with
   |false=>exact hC _ _ _ _ h hs (e.put _ _) r
   |true =>
    simp only at r ⊢
    split at r
    ·rename_i hm;rw[if_pos hm]
     split at r
     ·rename_i hl;rw[if_pos hl]
      rcases r with⟨n,v,hr,x⟩|⟨v,hr,x⟩
      ·exact .inl ⟨n,v,hr,hC _ _ _ _ h (a5C hs _) (e.put _ _) x⟩
      ·exact .inr ⟨v,hr,hC _ _ _ _ h hs (e.put _ _) x⟩
     ·rename_i hl;rw[if_neg hl]
      exact r.mono λv h' x=>⟨x.1.sub hs,hC _ _ _ _ h' hs (e.put _ _) x.2⟩
    ·rename_i hm;rw[if_neg hm]
     obtain⟨v,hs',x⟩:=r
     exact⟨v,hs',hC _ _ _ _ h hs (e.put _ _) x⟩
theorem kB.congr {P:Program} {ops:Array Oper} {ms:List Nat} {cr:List (Nat×Nat)} {K:bK->aB->Prop} (hK:∀ τ τ' h,TEq τ τ'->K τ h->K τ' h):∀ (l:tB) (pr pr':List (Nat×Nat)) (τ τ':bK) (h:aB),(∀ p∈pr',p∈pr∨∀ j,aAF cr p.1 j=false)->TEq τ τ'->kB P ops ms cr l pr τ h K->kB P ops ms cr l pr' τ' h K
 | .nil,pr,pr',τ,τ',h,hs,e,r=>hK _ _ _ e r
 | .op i l,pr,pr',τ,τ',h,hs,e,r=>OpL.congr (λpr pr' τ τ' h hs e r=>kB.congr hK l pr pr' τ τ' h hs e r) hs e r
 | .alt i l j q,pr,pr',τ,τ',h,hs,e,r=>⟨OpL.congr (λpr pr' τ τ' h hs e r=>kB.congr hK l pr pr' τ τ' h hs e r) hs e r.1,OpL.congr (λpr pr' τ τ' h hs e r=>kB.congr hK q pr pr' τ τ' h hs e r) hs e r.2⟩
def aKA (ops:Array Oper) (x y:Oper):Bool :=
 (match x.dst with|some d=>!(tA ops y).contains d && !(y.dst == some d)|none=>true) && (match y.dst with|some d=>!(tA ops x).contains d|none=>true)
theorem aSA {ops:Array Oper} {x y:Oper} (h:aKA ops x y=true):(∀ d,x.dst=some d->d∉tA ops y)/\(∀ d,x.dst=some d->y.dst≠some d)/\(∀ d,y.dst=some d->d∉tA ops x):=by
 unfold aKA at h
 refine⟨λd hd=>?_,λd hd=>?_,λd hd=>?_⟩ <;> simp[hd]at h
 ·exact h.1.1
 ·exact h.1.2
 ·exact h.2
def a5D (ms:List Nat) (cr:List (Nat×Nat)) (x i:Nat) (ox oi:Oper):Bool:=!ms.contains x || (aVI ox && (aAF cr x i || aVI oi || !ms.contains i))
theorem kB.swap {P:Program} {ops:Array Oper} {ms:List Nat} {cr:List (Nat×Nat)} {K:bK->aB->Prop} (hK:∀ τ τ' h,TEq τ τ'->K τ h->K τ' h) {x i:Nat} {ox oi:Oper} {l:tB} {pr:List (Nat×Nat)} {τ:bK} {h:aB}
  (hx:ops[x]?=some ox) (hi:ops[i]?=some oi) (hm:a5D ms cr x i ox oi=true) (hap:aKA ops ox oi=true) (r:kB P ops ms cr (.op x (.op i l)) pr τ h K):kB P ops ms cr (.op i (.op x l)) pr τ h K:=by
 obtain⟨a1,a2,a3⟩:=aSA hap
 have ei:∀ v,(∀ t∈tA ops oi,bZ (gP τ ox.dst v) t=bZ τ t):=λv t ht=>by
  rw[xL,if_neg];intro e;exact a1 t e ht
 have ex:∀ v,(∀ t∈tA ops ox,bZ (gP τ oi.dst v) t=bZ τ t):=λv t ht=>by
  rw[xL,if_neg];intro e;exact a3 t e ht
 have hc:∀ u v,TEq (gP (gP τ ox.dst u) oi.dst v) (gP (gP τ oi.dst v) ox.dst u):=λu v=>TEq.put_comm τ u v a2
 have ids:∀ pr:List (Nat×Nat),∀ p∈pr,p∈pr∨∀ j,aAF cr p.1 j=false:=λ_ _ h=>.inl h
 have sw:∀ (a b:Nat×Nat),∀ p∈b::a::pr,p∈a::b::pr∨∀ j,aAF cr p.1 j=false:=λa b p hp=>by
  left
  simp only[pP]at hp ⊢
  rcases hp with h1|h1|h1
  ·exact .inr (.inl h1)
  ·exact .inl h1
  ·exact .inr (.inr h1)
 unfold kB OpL at r
 simp only[hx]at r
 cases hwx:want ops τ ox with
 |none=>simp[hwx]at r
 |some cx =>
  simp only[hwx]at r
  have hwx':∀ v,want ops (gP τ oi.dst v) ox=some cx:=λv=>by rw[yP (ex v)];exact hwx

  have key:∀ u,kB P ops ms cr (.op i l) pr (gP τ ox.dst u) h K ->
    (∀ τ' h' pr',kB P ops ms cr l pr' (gP (gP τ oi.dst τ') ox.dst u) h' K->kB P ops ms cr (.op x l) pr' (gP τ oi.dst τ') h' K) ->
    kB P ops ms cr (.op i (.op x l)) pr τ h K:=by
   intro u r hback
   unfold kB OpL at r
   rw[kB];unfold OpL
   simp only[hi]at r ⊢
   rw[yP (ei u),p9 (ei u)]at r
   cases hwi:want ops τ oi with
   |none=>simp[hwi]at r
   |some ci =>
    simp only[hwi]at r ⊢
    cases ci with
    |false=>exact hback _ _ _ (kB.congr hK l _ _ _ _ h (ids _) (hc _ _) r)
    |true =>
     simp only at r ⊢
     split at r
     ·rename_i hmi;rw[if_pos hmi]
      split at r
      ·rename_i hl;rw[if_pos hl]
       rcases r with⟨n,v,hr,y⟩|⟨v,hr,y⟩
       ·exact .inl ⟨n,v,hr,hback _ _ _ (kB.congr hK l _ _ _ _ h (ids _) (hc _ _) y)⟩
       ·exact .inr ⟨v,hr,hback _ _ _ (kB.congr hK l _ _ _ _ h (ids _) (hc _ _) y)⟩
      ·rename_i hl;rw[if_neg hl]
       exact r.mono λv h' y=>⟨y.1,hback _ _ _ (kB.congr hK l _ _ _ _ h' (ids _) (hc _ _) y.2)⟩
     ·rename_i hmi;rw[if_neg hmi]
      obtain⟨v,hs,y⟩:=r
      exact⟨v,hs,hback _ _ _ (kB.congr hK l _ _ _ _ h (ids _) (hc _ _) y)⟩
  cases cx with
  |false =>
   refine key _ r λu h' pr' y=>?_
   rw[kB];unfold OpL;simp only[hx,hwx' u];exact y
  |true =>
   simp only at r
   by_cases hmx:ms.contains x=true
   ·rw[if_pos hmx]at r
    simp only[a5D,hmx,a4E,aMB,mK,Bool.or_eq_true,a17]at hm
    obtain⟨hlx,hm⟩:=hm
    rw[if_pos hlx]at r
    rcases r with⟨n,v,hr,r⟩|⟨v,hs,r⟩
    case inr =>
     refine key v r λu h' pr' y=>?_
     rw[kB];unfold OpL;simp only[hx,hwx' u,hmx,hlx,if_true]
     exact .inr ⟨v,by rw[p9 (ex u)];exact hs,y⟩

    have back:∀ (u:aE) (h':aB) (pr':List (Nat×Nat)),h' n=h n->kB P ops ms cr l ((x,n)::pr') (gP (gP τ oi.dst u) ox.dst v) h' K->kB P ops ms cr (.op x l) pr' (gP τ oi.dst u) h' K:=by
     intro u h' pr' e y
     rw[kB];unfold OpL;simp only[hx,hwx' u,hmx,hlx,if_true]
     exact .inl ⟨n,v,λh'' e'=>by rw[p9 (ex u)];exact hr h'' (e'.trans e),y⟩
    unfold kB OpL at r
    rw[kB];unfold OpL
    simp only[hi]at r ⊢
    rw[yP (ei v),p9 (ei v)]at r
    cases hwi:want ops τ oi with
    |none=>simp[hwi]at r
    |some ci =>
     simp only[hwi]at r ⊢
     cases ci with
     |false=>exact back _ _ _ rfl (kB.congr hK l _ _ _ _ h (ids _) (hc _ _) r)
     |true =>
      simp only at r ⊢
      split at r
      ·rename_i hmi;rw[if_pos hmi]
       split at r
       ·rename_i hl;rw[if_pos hl]
        rcases r with⟨m,u,hri,y⟩|⟨u,hri,y⟩
        ·exact .inl ⟨m,u,hri,back _ _ _ rfl (kB.congr hK l _ _ _ _ h (sw _ _) (hc _ _) y)⟩
        ·exact .inr ⟨u,hri,back _ _ _ rfl (kB.congr hK l _ _ _ _ h (ids _) (hc _ _) y)⟩
       ·rename_i hl;rw[if_neg hl]
        refine r.mono λu h' y=>⟨y.1.sub λp hp=>.inl (wN _ hp),?_⟩
        have hcx:aAF cr x i=true:=by
         rcases hm with(h1|h1)|h1
         ·exact h1
         ·exact absurd h1 hl
         ·rw[hmi]at h1;cases h1
        exact back _ _ _ (y.1 (x,n) aAL hcx) (kB.congr hK l _ _ _ _ h' (ids _) (hc _ _) y.2)
      ·rename_i hmi;rw[if_neg hmi]
       obtain⟨u,hs,y⟩:=r
       exact⟨u,hs,back _ _ _ rfl (kB.congr hK l _ _ _ _ h (ids _) (hc _ _) y)⟩
   ·rw[if_neg hmx]at r
    obtain⟨v,hs,r⟩:=r
    refine key v r λu h' pr' y=>?_
    rw[kB];unfold OpL;simp only[hx,hwx' u]
    rw[if_neg hmx]
    exact⟨v,by rw[p9 (ex u)];exact hs,y⟩
def blk:List Oper->Nat->List Nat->List Nat
 | [],_,B=>B
 |o::l,j,B=>blk l (j+1) (if o.after.toList.any (λe=>Region.binds .any e && B.contains e.on)then j::B else B)
theorem aYR:∀ (l:List Oper) (j:Nat) (B:List Nat) (b:Nat),b∈B->b∈blk l j B
 | [],_,_,_,h=>h
 |o::l,j,B,b,h=>by
  unfold blk
  refine aYR l (j+1) _ b ?_
  split
  ·exact wN _ h
  ·exact h
theorem aYS:∀ (l:List Oper) (j:Nat) (B:List Nat) (b:Nat),b∈blk l j B->b∈B∨∃ o e,j<=b/\l[b-j]?=some o/\e∈o.after.toList/\Region.binds .any e=true/\e.on∈blk l j B
 | [],_,_,_,h=>.inl h
 |o::l,j,B,b,h=>by
  unfold blk at h
  rcases aYS l (j+1) _ b h with h1|⟨o',e,h1,h2,h3,h4,h5⟩
  ·split at h1
   ·rename_i hany
    rcases pP.1 h1 with rfl|h1
    ·right
     obtain⟨e,he,hb⟩:=a4F.1 hany
     simp only[mK,a9Y]at hb
     exact⟨o,e,bY _,by simp,he,hb.1,aYR _ _ _ _ hb.2⟩
    ·exact .inl h1
   ·exact .inl h1
  ·refine .inr ⟨o',e,by omega,?_,h3,h4,?_⟩
   ·rw[show b-j=(b-(j+1))+1 by omega];simpa using h2
   ·unfold blk;exact h5
def tC (ops:Array Oper) (ms:List Nat) (cr:List (Nat×Nat)):tB->List Nat->Bool
 | .nil,U=>U.isEmpty
 | .op x p,U=>U.contains x && (let B:=blk ops.toList 0 [x]
   (U.erase x).all λi=>B.contains i || (match ops[x]?,ops[i]? with|some ox,some oi=>a5D ms cr x i ox oi && aKA ops ox oi|_,_=>false)) && tC ops ms cr p (U.erase x)
 | .alt x p y q,U=>U.contains x && U.contains y && (let B:=blk ops.toList 0 [x]
   let C:=blk ops.toList 0 [y]
   U.all λi=>i == x || i == y || B.contains i || C.contains i) && tC ops ms cr p (U.erase x) && tC ops ms cr q (U.erase y)
def bG0 (ops:Array Oper) (ms:List Nat) (p:tB) (cr:List (Nat×Nat)):Bool :=
 tC ops ms cr p (List.range ops.size) &&
 (List.range ops.size).all λi=>match ops[i]? with|some o=>o.after.toList.all λe=>!Region.binds .any e || decide (e.on<i)|none=>true
def aOT (ops:Array Oper) (L:Nat->Prop):Prop:=∀ (j:Nat) (o:Oper),ops[j]?=some o->L j->∀ e∈o.after.toList,Region.binds .any e=true->L e.on
theorem aKB {ops:Array Oper} {L:Nat->Prop} (hc:aOT ops L) {x:Nat} (hx:¬L x):∀ (l:List Oper) (j:Nat) (B:List Nat),(∀ k o,l[k]?=some o->ops[j+k]?=some o)->(∀ b∈B,¬L b)->∀ b∈blk l j B,¬L b
 | [],_,_,_,hB,b,h=>hB b h
 |o::l,j,B,hl,hB,b,h=>by
  unfold blk at h
  refine aKB hc hx l (j+1) _ (λk o hk=>by have:=hl (k+1) o (by simpa using hk);rwa [show j+1+k=j+(k+1)by omega]) ?_ b h
  intro b' hb'
  split at hb'
  ·rename_i hany
   rcases pP.1 hb' with rfl|hb'
   ·intro hL
    obtain⟨e,he,hb⟩:=a4F.1 hany
    simp only[mK,a9Y]at hb
    exact hB _ hb.2 (hc b' o (by simpa using hl 0 o rfl) hL e he hb.1)
   ·exact hB b' hb'
  ·exact hB b' hb'
theorem a2E {ops:Array Oper} {L:Nat->Prop} (hc:aOT ops L) {x i:Nat} (hx:¬L x) (hne:i≠x) {oi:Oper} (hi:ops[i]?=some oi) (hr:∀ e∈oi.after.toList,Region.binds .any e=true->L e.on):(blk ops.toList 0 [x]).contains i=false:=by
 cases hb:(blk ops.toList 0 [x]).contains i with
 |false=>rfl
 |true =>
  exfalso
  rw[a9Y]at hb
  have hlist:=aKB hc hx ops.toList 0 [x] (λk o hk=>by simpa using hk) aRU
  rcases aYS _ _ _ _ hb with h1|⟨o,e,_,h2,h3,h4,h5⟩
  ·exact hne (by simpa using h1)
  ·have:o=oi:=by
    simp only[a4B,al5]at h2
    rw[hi]at h2;exact(gO h2).symm
   subst this
   exact hlist _ h5 (hr e h3 h4)
inductive aKC (ops:Array Oper) (ms:List Nat) (cr:List (Nat×Nat)) (i:Nat) (oi:Oper):tB->tB->Prop where
 |here (p:tB):aKC ops ms cr i oi (.op i p) p
 |skip {x:Nat} {ox:Oper} {p p':tB} (hox:ops[x]?=some ox) (hm:a5D ms cr x i ox oi=true) (hap:aKA ops ox oi=true) (f:aKC ops ms cr i oi p p'):aKC ops ms cr i oi (.op x p) (.op x p')
 |left (p:tB) (j:Nat) (q:tB):aKC ops ms cr i oi (.alt i p j q) p
 |right (j:Nat) (p q:tB):aKC ops ms cr i oi (.alt j p i q) q
theorem kB.front {P:Program} {ops:Array Oper} {ms:List Nat} {cr:List (Nat×Nat)} {K:bK->aB->Prop} (hK:∀ τ τ' h,TEq τ τ'->K τ h->K τ' h) {i:Nat} {oi:Oper} (hi:ops[i]?=some oi) {p p':tB} (f:aKC ops ms cr i oi p p') :
  ∀ (pr:List (Nat×Nat)) (τ:bK) (h:aB),kB P ops ms cr p pr τ h K->kB P ops ms cr (.op i p') pr τ h K:=by
 induction f with
 |here p=>intro pr τ h r;exact r
 |left p j q=>intro pr τ h r;exact r.1
 |right j p q=>intro pr τ h r;exact r.2
 | @skip x ox p p' hox hm hap f ih =>
  intro pr τ h r
  refine kB.swap hK hox hi hm hap ?_
  rw[kB]at r ⊢
  unfold OpL at r ⊢
  simp only[hox]at r ⊢
  cases hw:want ops τ ox with
  |none=>simp[hw]at r
  |some c =>
   simp only[hw]at r ⊢
   cases c with
   |false=>exact ih _ _ h r
   |true =>
    simp only at r ⊢
    by_cases hmx:ms.contains x=true
    ·rw[if_pos hmx]at r ⊢
     have hlx:aVI ox=true:=by
      simp only[a5D,hmx,a4E,aMB,mK]at hm
      exact hm.1
     rw[if_pos hlx]at r ⊢
     rcases r with⟨n,v,hs,r⟩|⟨v,hs,r⟩
     ·exact .inl ⟨n,v,hs,ih _ _ h r⟩
     ·exact .inr ⟨v,hs,ih _ _ h r⟩
    ·rw[if_neg hmx]at r ⊢
     obtain⟨v,hs,r⟩:=r;exact⟨v,hs,ih _ _ h r⟩
theorem aSB {ops:Array Oper} {ms:List Nat} {cr:List (Nat×Nat)} {i:Nat} {oi:Oper} (hoi:ops[i]?=some oi):∀ (p:tB) (U:List Nat),tC ops ms cr p U=true->U.Nodup->i∈U ->
  (∀ x∈U,x≠i->(blk ops.toList 0 [x]).contains i=false)->∃ p',aKC ops ms cr i oi p p'/\tC ops ms cr p' (U.erase i)=true
 | .nil,U,hv,_,hi,_=>by
  simp only[tC,List.isEmpty_iff]at hv
  subst hv;cases hi
 | .op x p,U,hv,hnd,hi,hb=>by
  simp only[tC,mK,vF]at hv
  obtain⟨⟨hx,hall⟩,hp⟩:=hv
  by_cases e:x=i
  ·subst e;exact⟨p,.here p,hp⟩
  ·have hie:i∈U.erase x:=(List.mem_erase_of_ne (iK e)).2 hi
   have h1:=hall i hie
   have hxU:x∈U:=by simpa using hx
   rw[hb x hxU e,aMB]at h1
   cases hox:ops[x]? with
   |none=>simp[hox]at h1
   |some ox =>
    simp only[hox,hoi,mK]at h1
    obtain⟨p',f,hp'⟩:=aSB hoi p (U.erase x) hp (hnd.erase x) hie λy hy hne=>hb y (List.mem_of_mem_erase hy) hne
    refine⟨.op x p',.skip hox h1.1 h1.2 f,?_⟩
    simp only[tC,mK,vF]
    refine⟨⟨by simpa using(List.mem_erase_of_ne e).2 hxU,λj hj=>hall j ?_⟩,?_⟩
    ·rw[List.erase_comm]at hj;exact List.mem_of_mem_erase hj
    ·rw[List.erase_comm];exact hp'
 | .alt x p y q,U,hv,hnd,hi,hb=>by
  simp only[tC,mK,vF,Bool.or_eq_true,beq_iff_eq]at hv
  obtain⟨⟨⟨⟨hx,hy⟩,hall⟩,hp⟩,hq⟩:=hv
  by_cases e:x=i
  ·subst e;exact⟨p,.left p y q,hp⟩
  ·by_cases e2:y=i
   ·subst e2;exact⟨q,.right x p q,hq⟩
   ·exfalso
    rcases hall i hi with((h1|h1)|h1)|h1
    ·exact e h1.symm
    ·exact e2 h1.symm
    ·rw[hb x aRU e]at h1;cases h1
    ·rw[hb y (by simpa using hy) e2]at h1;cases h1
theorem aSC {P:Program} {N:Nat} {ops:Array Oper} {ms:List Nat} {cr:List (Nat×Nat)} {Q:Exit->bK->aB->Prop} (hN:aC4 N ops=true) (keep:List Nat) {E₀:Env} {h₀:aB} {w₀:World}
  (hback:∀ (i:Nat) (o:Oper),ops[i]?=some o->∀ e∈o.after.toList,Region.binds .any e=true->e.on<i) :
  ∀ (fuel:Nat) (listed:Array Bool) (p:tB) (l:List Nat),listed.size=ops.size->l.Nodup->(∀ i,i∈l↔listed[i]?=some false)->fuel=l.length ->
   tC ops ms cr p l=true ->
   aOT ops (λi=>listed[i]?=some true) ->
   ∀ (pr:List (Nat×Nat)) (τ:bK) (h:aB),kB P ops ms cr p pr τ h (λτ' h'=>Q .normal (Hl.prune keep τ') h')->∀ E w a,Ev E₀ h₀ w₀ E h w->Rel E h w->wT ds E h w N τ a ->
   wpAny P .any ops (s9 ds N Q E₀ h₀ w₀) fuel listed a w
 |0,listed,p,l,hsz,hnd,hl,hf,hp,hcl,pr,τ,h,r,E,w,a,ev,R,rt=>by
  have:l=[]:=aHR.1 hf.symm
  subst this
  have:p=.nil:=by cases p <;> simp[tC]at hp ⊢
  subst this
  refine⟨?_,⟨Hl.prune keep τ,h,E,r,ev,R,rt.prune keep⟩⟩
  unfold Region.ready
  rw[List.filter_eq_nil_iff]
  intro i hi hc
  simp only[aDZ]at hi
  simp only[mK,a17]at hc
  have hlt:i<listed.size:=by omega
  have:listed[i]?=some false:=by
   rw[aJD hlt]
   have:=hc.1
   simp only[Array.getD,hlt,dif_pos]at this
   rw[←this];rfl
  exact absurd ((hl i).2 this) eC
 |fuel+1,listed,p,l,hsz,hnd,hl,hf,hp,hcl,pr,τ,h,r,E,w,a,ev,R,rt=>by
  have hK:∀ τ τ' h,TEq τ τ'->Q .normal (Hl.prune keep τ) h->Q .normal (Hl.prune keep τ') h:=λτ τ' h e q=>by
   have:Hl.prune keep τ=Hl.prune keep τ':=by unfold Hl.prune;exact aCA λk _=>by rw[e k]
   rwa [←this]
  have hready:∀ i,i∈Region.ready .any ops listed->i∈l/\∃ o,ops[i]?=some o/\∀ e∈o.after.toList,Region.binds .any e=true->listed[e.on]?=some true:=by
   intro i hi
   unfold Region.ready at hi
   rw[List.mem_filter]at hi
   obtain⟨hi,hc⟩:=hi
   simp only[aDZ]at hi
   simp only[mK,a17]at hc
   have hlt:i<listed.size:=by omega
   have hlf:listed[i]?=some false:=by
    rw[aJD hlt]
    have:=hc.1
    simp only[Array.getD,hlt,dif_pos]at this
    rw[←this];rfl
   refine⟨(hl i).2 hlf,ops[i],aJD hi,λe he hb=>?_⟩
   have h2:=hc.2
   simp only[aJD hi,aDX,aDY]at h2
   rw[a4G]at h2
   have:=h2 e (by simpa using he)
   simp only[hb,a4E,aMB]at this
   by_cases hel:e.on<listed.size
   ·simp only[Array.getD,hel,dif_pos]at this
    rw[aJD hel,←this];rfl
   ·simp[Array.getD,hel]at this
  refine⟨λhnil=>?_,λi hi=>?_⟩
  ·
   exfalso
   have hne:l≠[]:=by intro e;simp[e]at hf

   have:∃ m∈l,∀ j∈l,m<=j:=by
    obtain⟨x,hx⟩:=List.exists_mem_of_ne_nil l hne
    have key:∀ n,∀ x∈l,x<=n->∃ m∈l,∀ j∈l,m<=j:=by
     intro n
     induction n with
     |zero=>intro x hx hn;exact⟨x,hx,λj _=>by omega⟩
     |succ n ih =>
      intro x hx hn
      by_cases hall:∀ j∈l,x<=j
      ·exact⟨x,hx,hall⟩
      ·have:∃ j∈l,j<x:=by
        apply a4H
        intro hcon
        exact hall λj hj=>by
         apply a4H
         intro hlt
         exact hcon ⟨j,hj,by omega⟩
       obtain⟨j,hj,hlt⟩:=this
       exact ih j hj aA
    exact key x x hx (bY _)
   obtain⟨m,hm,hmin⟩:=this
   have hmf:=(hl m).1 hm
   have hmlt:m<listed.size:=(aRG.1 hmf).1
   have hmo:m<ops.size:=by omega
   have hmem:m∈Region.ready .any ops listed:=by
    unfold Region.ready
    rw[List.mem_filter]
    refine⟨by simpa using hmo,?_⟩
    simp only[mK,a17]
    refine⟨?_,?_⟩
    ·simp only[Array.getD,hmlt,dif_pos]
     have:=(aRG.1 hmf).2
     exact this
    ·simp only[aJD hmo,aDX,aDY]
     rw[a4G]
     intro e he
     cases hb:Region.binds .any e with
     |false=>rfl
     |true =>
      simp only[a4E,aMB]
      have hlt:=hback m _ (aJD hmo) e (by simpa using he) hb
      have hel:e.on<listed.size:=by omega
      simp only[Array.getD,hel,dif_pos]
      cases hv:listed[e.on]with
      |true=>exact hv
      |false =>
       have:=hmin e.on ((hl e.on).2 (by rw[aJD hel,hv]))
       omega
   rw[hnil]at hmem
   simp at hmem
  ·obtain⟨hil,o,ho,hedges⟩:=hready i hi
   obtain⟨p',hfr,hp'⟩:=aSB ho p l hp hnd hil λx hx hne=>a2E hcl (x:=x) (i:=i) (by simp[(hl x).1 hx]) (iK hne) ho hedges
   have hfront:=kB.front hK ho hfr pr τ h r
   unfold wpOp
   simp only[ho]
   have hdst:∀ k,o.dst=some k->k<N:=λk hk=>yO hN i o k ho hk
   have hil':listed[i]?=some false:=(hl i).1 hil
   have hilt:i<listed.size:=(aRG.1 hil').1
   have hrest:∀ (pr':List (Nat×Nat)) (τ':bK) (h':aB),kB P ops ms cr p' pr' τ' h' (λτ' h'=>Q .normal (Hl.prune keep τ') h')->∀ E' w' a',Ev E₀ h₀ w₀ E' h' w'->Rel E' h' w'->wT ds E' h' w' N τ' a' ->
     wpAny P .any ops (s9 ds N Q E₀ h₀ w₀) fuel (listed.setIfInBounds i true) a' w':=by
    intro pr' τ' h' r' E' w' a' ev' R' rt'
    refine aSC hN keep hback fuel _ p' (l.erase i) (by simpa using hsz) (hnd.erase i) ?_ (by rw[List.length_erase_of_mem hil];omega) hp' ?_ pr' τ' h' r' E' w' a' ev' R' rt'
    ·intro j
     rw[hnd.mem_erase_iff]
     by_cases e:j=i
     ·subst e
      simp[hilt]
     ·rw[aU5 (iK e),←hl j]
      simp[e]
    ·intro j oj hoj hL e he hb
     by_cases ej:j=i
     ·subst ej
      rw[ho]at hoj
      obtain rfl:=gO hoj
      have:=hedges e he hb
      by_cases e2:e.on=j
      ·rw[e2]at this;rw[this]at hil';simp at hil'
      ·rw[aU5 (iK e2)];exact this
     ·rw[aU5 (iK ej)]at hL
      have:=hcl j oj hoj hL e he hb
      by_cases e2:e.on=i
      ·rw[e2]at this;rw[this]at hil';simp at hil'
      ·rw[aU5 (iK e2)];exact this
   rw[kB]at hfront
   unfold OpL at hfront
   simp only[ho]at hfront
   have hmask:∀ x,fG E h w (tR ops o τ x) (a.eval x):=λx=>by
    cases x with
    |tmp t =>
     simp only[tR]
     split
     ·exact rt.get t
     ·exact .any _
    |const v=>exact rt.nX (.const v)
    |global g=>exact rt.nX (.global g)
    |func f=>exact rt.nX (.func f)
   cases hw:want ops τ o with
   |none=>simp[hw]at hfront
   |some c =>
    simp only[hw]at hfront
    have hwant:=aC3 rt hw (yO hN)
    rw[hwant]
    cases c with
    |false =>
     rw[if_neg eC]
     exact hrest _ _ h hfront E w _ ev R (rt.put o.dst hdst (fG.gK [] [] rfl eC))
    |true =>
     rw[if_pos rfl]
     left
     simp only at hfront
     split at hfront
     ·split at hfront
      ·rcases hfront with⟨n,v,hs,hfront⟩|⟨v,hs,hfront⟩
       ·refine xE.wp ((hs h rfl E w _ R hmask).mono ?_)
        rintro c w' ⟨x,h',E',⟨rfl,rfl⟩,ev',R',rx⟩
        exact hrest _ _ _ hfront E' w' _ (ev.trans ev') R' ((rt.ev ev').put o.dst hdst rx)
       ·refine xE.wp ((hs h E w _ R hmask).mono ?_)
        rintro c w' ⟨x,h',E',⟨rfl,rfl⟩,ev',R',rx⟩
        exact hrest _ _ _ hfront E' w' _ (ev.trans ev') R' ((rt.ev ev').put o.dst hdst rx)
      ·refine xE.wp ((hfront E w _ R hmask).mono ?_)
       rintro v w' ⟨x,h',E',k,ev',R',rx⟩
       exact hrest _ _ h' k.2 E' w' _ (ev.trans ev') R' ((rt.ev ev').put o.dst hdst rx)
     ·obtain⟨v,hs,hfront⟩:=hfront
      refine xE.wp ((hs h E w _ R hmask).mono ?_)
      rintro c w' ⟨x,h',E',⟨rfl,rfl⟩,ev',R',rx⟩
      exact hrest _ _ _ hfront E' w' _ (ev.trans ev') R' ((rt.ev ev').put o.dst hdst rx)
theorem qI.aSD {P:Program} {N id:Nat} {ops:Array Oper} {ms:List Nat} {ord:tB} {cr:List (Nat×Nat)} {Q:Exit->bK->aB->Prop} {τ:bK} {h:aB} (hmix:P.follows .mixedOrders=true) (hN:aC4 N ops=true) (hord:bG0 ops ms ord cr=true) (keep:List Nat)
  (hr:kB P ops ms cr ord [] τ h λτ' h'=>Q .normal (Hl.prune keep τ') h'):qI P N (.region id ops true) Q τ h:=by
 intro ds E w a R r
 simp only[bG0,mK]at hord
 obtain⟨h1,h5⟩:=hord
 rw[vF]at h5
 refine wp_region_any hmix ?_
 have ev:Ev E h w E h { w with drawn:=w.drawn+1 }:=⟨bY _,λ_ hb=>⟨rfl,hb⟩,λ_ _=>rfl,λ_ hn=>⟨rfl,hn⟩,rfl,rfl⟩
 have R':Rel E h { w with drawn:=w.drawn+1 }:=⟨R.fin,R.dom,R.lt,R.apart,λn o hn=>(R.obj n o hn).ev ev rfl rfl λ_ _ _=>rfl,R.laid.ev ev⟩
 refine aSC hN keep ?_ ops.size _ ord (List.range ops.size) eC List.nodup_range ?_ eC h1 ?_ [] τ h hr E _ a ev R' (r.ev ev)
 ·intro i o ho e he hb
  have:=h5 i (by simp;exact(aRG.1 ho).1)
  simp only[ho,vF]at this
  have:=this e he
  simpa[hb]using this
 ·intro i
  rw[aDZ]
  constructor
  ·intro hi;simp[hi]
  ·intro hi;have:=(aRG.1 hi).1;simpa using this
 ·intro j o ho hL
  rw[Array.getElem?_replicate]at hL
  split at hL <;> simp at hL
def Det (F:(aE->Prop)->Prop):Prop:=∀ K,F K->∃ v,K v/\∀ K':aE->Prop,K' v->F K'
theorem qJ (v:aE):Det λK=>K v:=λK hk=>⟨v,hk,λ_ h=>h⟩
theorem bAE {c:Prop} {F:(aE->Prop)->Prop} (h:c->Det F):Det λK=>c/\F K:=λK ⟨hc,hk⟩=>let ⟨v,h1,h2⟩:=h hc K hk;⟨v,h1,λK' h'=>⟨hc,h2 K' h'⟩⟩
theorem bAF (P:Program) (op:BinOp) (t:TypeId) (x y:aE):Det (gQ P op t x y):=by
 intro K hk
 unfold gQ at hk ⊢
 split at hk
 ·obtain⟨hd,hk⟩:=hk
  split at hk
  ·exact⟨_,hk,λK' h=>⟨hd,h⟩⟩
  ·exact⟨_,hk,λK' h=>⟨hd,h⟩⟩
  ·exact hk.elim
 ·split at hk
  ·exact⟨_,hk.2.2,λK' h=>⟨hk.1,hk.2.1,h⟩⟩
  ·exact⟨_,hk.2.2,λK' h=>⟨hk.1,hk.2.1,h⟩⟩
  ·exact⟨_,hk.2,λK' h=>⟨hk.1,h⟩⟩
  ·exact⟨_,hk.2,λK' h=>⟨hk.1,h⟩⟩
  ·split at hk
   ·rename_i v hv;exact⟨v,hk,λK' h=>by first|exact h|(simp only[hv];exact h)⟩
   ·exact hk.elim
 ·split at hk
  ·exact⟨_,hk.2,λK' h=>⟨hk.1,h⟩⟩
  ·exact⟨_,hk,λK' h=>h⟩
  ·exact⟨_,hk,λK' h=>h⟩
  ·split at hk
   ·rename_i v hv;exact⟨_,hk,λK' h=>by first|exact h|(simp only[hv];exact h)⟩
   ·exact hk.elim
 ·split at hk
  ·rename_i v hv;exact⟨v,hk,λK' h=>by first|exact h|(simp only[hv];exact h)⟩
  ·exact hk.elim
theorem a2F {P:Program} {op:BinOp} {t:TypeId} {x y:aE} {K:aE->Prop} (h:gQ P op t x y K):xJ P op t x y K:=by
 unfold xJ
 split
 ·simp[gQ,nJ]at h
 ·simp[gQ,nJ]at h
 ·simp[gQ,nJ]at h
 ·exact h
theorem a2G {P:Program} {op:BinOp} {t:TypeId} {c:Bool} {x y:aE} {K:aE->Prop} (h:gQ P op t x y K):xK P op t c x y K:=by
 unfold xK
 split
 ·simp[gQ,nJ]at h
 ·simp[gQ,nJ]at h
 ·exact a2F h
theorem bG1 (op:UnOp) (x:aE):Det (aFY op x):=by
 intro K hk
 unfold aFY at hk ⊢
 split at hk
 ·exact⟨_,hk,λK' h=>h⟩
 ·exact⟨_,hk,λK' h=>h⟩
 ·exact hk.elim
theorem a5E (P:Program) (s d:TypeId) (x:aE):Det (aAY P s d x):=by
 intro K hk
 unfold aAY at hk ⊢
 split at hk
 ·rename_i hd;exact⟨_,hk.2,λK' h=>by first|exact⟨hk.1,h⟩|(simp only[hd];exact⟨hk.1,h⟩)⟩
 ·rename_i hd
  split at hk
  ·rename_i h1
   obtain⟨h2,hk⟩:=hk
   split at hk
   ·rename_i h3
    exact⟨_,hk,λK' h=>by exact⟨h2,h⟩⟩
   ·exact hk.elim
  ·exact hk.elim
 ·exact hk.elim
theorem bG2 (d:Option TyD) (f:Nat) (x:aE):Det (aFZ d f x):=by
 intro K hk
 unfold aFZ at hk ⊢
 split at hk
 ·split at hk
  ·rename_i hf
   obtain⟨h1,hk⟩:=hk
   split at hk
   ·exact⟨_,hk,λK' h=>by first|exact⟨h1,h⟩|(simp only[hf];exact⟨h1,h⟩)⟩
   ·exact⟨_,hk,λK' h=>by first|exact⟨h1,h⟩|(simp only[hf];exact⟨h1,h⟩)⟩
   ·exact hk.elim
  ·exact hk.elim
 ·exact hk.elim
theorem bG3 (re:Option lU) (x i:aE):Det (aF0 re x i):=by
 intro K hk
 unfold aF0 at hk ⊢
 split at hk
 ·split at hk
  ·exact⟨_,hk.2.2.2,λK' h=>⟨hk.1,hk.2.1,hk.2.2.1,h⟩⟩
  ·exact⟨_,hk.2.2.2,λK' h=>⟨hk.1,hk.2.1,hk.2.2.1,h⟩⟩
  ·exact hk.elim
 ·exact hk.elim
theorem bG4 (d:Option TyD) (x i:aE):Det (aC2 d x i):=by
 intro K hk
 unfold aC2 at hk ⊢
 split at hk
 ·obtain⟨h1,hk⟩:=hk
  split at hk
  ·rename_i c hc;exact⟨_,hk,λK' h=>by first|exact⟨h1,h⟩|(simp only[hc];exact⟨h1,h⟩)⟩
  ·exact hk.elim
 ·exact hk.elim
theorem a5F (r:Option lU) (sz i off:Nat) (es:List (List aE)) (h:aB):Det (kA r (.ip sz es i off) h):=by
 intro K hk
 unfold kA at hk ⊢
 split at hk
 ·simp only at hk ⊢
  split at hk
  ·rename_i he
   split at hk
   ·rename_i x hx;exact⟨x,hk,λK' h=>by first|exact h|(simp only[he,hx];exact h)⟩
   ·exact hk.elim
  ·exact hk.elim
 ·exact hk.elim
theorem aYT (r:Option lU) (sz i off:Nat) (es:List (List aE)) (h h':aB) (K:aE->Prop):kA r (.ip sz es i off) h K=kA r (.ip sz es i off) h' K:=by
 unfold kA;rfl
theorem aSF {P:Program} {t:TypeId} {x:aE} {lo hi:Option aE} {K:aE->Prop} (h:nC P t x lo hi K):sB P t x lo hi K:=by
 unfold sB
 split
 ·simp only[nC]at h
  split at h
  ·rename_i re hre
   obtain⟨h1,h⟩:=h
   split at h
   ·rename_i l m hl hm
    obtain rfl:_=m:=gO hm
    obtain⟨a,b,c,d⟩:=h
    try rw[hre]
    simp only[hl]
    exact⟨h1,a,Int.le_of_lt b,λ_=>by simpa using d,λq=>absurd b aA⟩
   ·exact h.elim
  ·exact h.elim
 ·exact h
theorem a2H (P:Program) (t:TypeId) (x:aE) (lo hi:Option aE):Det (nC P t x lo hi):=by
 intro K hk
 unfold nC at hk ⊢
 split at hk
 ·obtain⟨h1,hk⟩:=hk
  split at hk
  ·rename_i e1 e2;exact⟨_,hk.2.2.2,λK' h=>by first|exact⟨h1,hk.1,hk.2.1,hk.2.2.1,h⟩|(simp only[e1,e2];exact⟨h1,hk.1,hk.2.1,hk.2.2.1,h⟩)⟩
  ·exact hk.elim
 ·split at hk
  ·rename_i e0
   obtain⟨h1,hk⟩:=hk
   split at hk
   ·rename_i e1 e2;exact⟨_,hk.2.2.2,λK' h=>by first|exact⟨h1,hk.1,hk.2.1,hk.2.2.1,h⟩|(simp only[e0,e1,e2];exact⟨h1,hk.1,hk.2.1,hk.2.2.1,h⟩)⟩
   ·exact hk.elim
  ·exact hk.elim
 ·split at hk
  ·rename_i e0
   obtain⟨h1,hk⟩:=hk
   split at hk
   ·rename_i e1 e2;exact⟨_,hk.2.2.2,λK' h=>by first|exact⟨h1,hk.1,hk.2.1,hk.2.2.1,h⟩|(simp only[e0,e1,e2];exact⟨h1,hk.1,hk.2.1,hk.2.2.1,h⟩)⟩
   ·exact hk.elim
  ·exact hk.elim
 ·exact hk.elim
theorem aVJ (P:Program) (t:TypeId) (x:aE) (lo:Option aE) (hi mx:aE):Det (p8 P t x lo hi mx):=by
 intro K hk
 unfold p8 at hk ⊢
 split at hk
 ·split at hk
  ·rename_i e0
   obtain⟨h1,hk⟩:=hk
   split at hk
   ·rename_i e1 e2 e3
    obtain⟨a,b,c,d,hk⟩:=hk
    exact⟨_,hk,λK' h=>by exact⟨h1,a,b,c,d,h⟩⟩
   ·exact hk.elim
  ·exact hk.elim
 ·exact hk.elim
theorem a2I (P:Program) (r:Option lU) (ps:List (Nat×aE)):Det (uK P r ps):=by
 intro K hk
 unfold uK at hk ⊢
 split at hk
 ·exact⟨_,hk.2.2.2,λK' h=>⟨hk.1,hk.2.1,hk.2.2.1,h⟩⟩
 ·exact hk.elim
theorem bG5 (re:Option lU) (len:Nat) (ps:List (Nat×aE)):Det λK=>uW re len ps λsz es=>K (.sl sz es true):=by
 intro K hk
 unfold uW at hk
 split at hk
 ·exact⟨_,hk.2.2.2.2.2,λK' h=>by unfold uW;exact⟨hk.1,hk.2.1,hk.2.2.1,hk.2.2.2.1,hk.2.2.2.2.1,h⟩⟩
 ·exact hk.elim
def aSG (P:Program) (t:Option TypeId) (x:aE) (K:aE->Prop):Prop :=
 match t with
 |some t=>match z7 P t,x with
  |some (.slice _),.sl _ es _=>K (.int .i64 es.length)
  |some (.slice _),.os _ _ _ n=>K (.int .i64 n)
  |some (.slice _),.bS=>K (.int .i64 0)
  |some .str,.str s=>K (.int .i64 s.length)
  | _,_=>False
 |none=>False
def a5G (P:Program) (g:FuncId) (args:List aE) (K:aE->Prop):Prop:=∃ r,fR P g args r/\K r
def aHC (P:Program) (o:Oper) (ρ:Operand->aE) (K:aE->Prop):Prop :=
 match o.op with
 | .move x=>K (ρ x)
 | .assign x=>K (ρ x)
 | .pick c a b=>match ρ c with
  | .bool t=>(t=true->K (ρ a))/\(t=false->K (ρ b))
  | _=>False
 | .binOp op t x y _=>gQ P op t (ρ x) (ρ y) K
 | .unOp op _ x=>aFY op (ρ x) K
 | .convert s d x=>aAY P s d (ρ x) K
 | .fieldAddr t x f=>aFZ (z7 P t) f (ρ x) K
 | .indexAddr t x i=>aF0 (lY P t) (ρ x) (ρ i) K
 | .index t x i=>aC2 (z7 P t) (ρ x) (ρ i) K
 | .load t a=>match ρ a with
  | .ip sz es i off=>kA (iP P t) (.ip sz es i off) (λ_=>none) K
  | _=>False
 | .slice t x lo hi none=>nC P t (ρ x) (lo.map ρ) (hi.map ρ) K
 | .extract t i=>match ρ t with
  | .gK cs=>match cs[i]? with|some x=>K x|none=>False
  | _=>False
 | .nilCheck x=>match ρ x with
  | .op n sz i k=>K (.op n sz i k)
  | .ip sz es i k=>K (.ip sz es i k)
  | _=>False
 | .makeFunc fn fs cs=>K (.fn fn (fs.toList.map ρ) (cs.toList.map ρ))
 | .build t ps=>uK P (iP P t) (ps.toList.map λp=>(p.1,ρ p.2)) K
 | .call { callee:=.value f,args:=as,argTypes:=_ }=>match ρ f with
  | .fn (.func g) first cap=>a5G P g (first++as.toList.map ρ++cap) K
  | _=>False
 | .call { callee:=.builtin .len,args:=as,argTypes:=ats }=>match as.toList with
  | [x]=>aSG P ats[0]? (ρ x) K
  | _=>False
 | .call { callee:=.builtin .max,args:=as,argTypes:=_ }=>match as.toList with
  | [x,y]=>match ρ x,ρ y with
   | .int k a,.int _ b=>(match ρ y with | .int k' _=>k'=k|_=>False)/\K (.int k (max a b))
   | _,_=>False
  | _=>False
 | .slice t x lo (some hi) (some mx)=>p8 P t (ρ x) (lo.map ρ) (ρ hi) (ρ mx) K
 | _=>False
theorem lP {P:Program} {o:Oper} {ρ:Operand->aE} {F:(aE->Prop)->Prop} {K:aE->Prop} (hd:Det F) (hk:F K) (hs:∀ h K',F (λv=>K' v h)->step P o ρ h K'):∃ v,uY P o ρ v/\K v:=by
 obtain⟨v,h1,h2⟩:=hd K hk
 exact⟨v,λh=>lV (hs h _ (h2 (λv'=>v'=v/\h=h) ⟨rfl,rfl⟩)),h1⟩
theorem aA0 {P:Program} {o:Oper} {ρ:Operand->aE} {K:aE->Prop} (hs:aHC P o ρ K):∃ v,uY P o ρ v/\K v:=by
 unfold aHC at hs
 split at hs
 case h_1 x ho=>exact lP (qJ _) hs λh K' f=>by unfold step;rw[ho];exact f
 case h_2 x ho=>exact lP (qJ _) hs λh K' f=>by unfold step;rw[ho];exact f
 case h_3 c a b ho =>
  split at hs
  ·rename_i t ht
   refine⟨if t then ρ a else ρ b,λh=>lV ?_,?_⟩
   ·unfold step;rw[ho];simp only[ht]
    cases t <;> simp
   ·cases t
    ·exact hs.2 rfl
    ·exact hs.1 rfl
  ·exact hs.elim
 case h_4 op t x y ty ho=>exact lP (bAF P op t _ _) hs λh K' f=>by unfold step;rw[ho];exact a2G f
 case h_5 op t x ho=>exact lP (bG1 op _) hs λh K' f=>by unfold step;rw[ho];exact f
 case h_6 s d x ho=>exact lP (a5E P s d _) hs λh K' f=>by unfold step;rw[ho];exact f
 case h_7 t x f ho=>exact lP (bG2 _ f _) hs λh K' f=>by unfold step;rw[ho];exact f
 case h_8 t x i ho=>exact lP (bG3 _ _ _) hs λh K' f=>by unfold step;rw[ho];exact f
 case h_9 t x i ho=>exact lP (bG4 _ _ _) hs λh K' f=>by unfold step;rw[ho];exact f
 case h_10 t a ho =>
  split at hs
  ·rename_i sz es i off ha
   refine lP (a5F _ sz i off es _) hs λh K' f=>?_
   unfold step;rw[ho];simp only[ha];rw[aYT _ _ _ _ _ h (λ_=>none)];exact f
  ·exact hs.elim
 case h_11 t x lo hi ho=>exact lP (a2H P t _ _ _) hs λh K' f=>by unfold step;rw[ho];exact aSF f
 case h_12 t i ho =>
  split at hs
  ·rename_i cs ht
   split at hs
   ·rename_i x hx
    exact lP (qJ _) hs λh K' f=>by unfold step;rw[ho];simp only[ht,hx];exact f
   ·exact hs.elim
  ·exact hs.elim
 case h_13 x ho =>
  split at hs
  ·rename_i n sz i k hx;exact lP (qJ _) hs λh K' f=>by unfold step;rw[ho];simp only[hx];exact f
  ·rename_i sz es i k hx;exact lP (qJ _) hs λh K' f=>by unfold step;rw[ho];simp only[hx];exact f
  ·exact hs.elim
 case h_14 fn fs cs ho=>exact lP (qJ _) hs λh K' f=>by unfold step;rw[ho];exact f
 case h_15 t ps ho=>exact lP (a2I P _ _) hs λh K' f=>by unfold step;rw[ho];exact f
 case h_16 f as ats ho =>
  split at hs
  ·rename_i g first cap hf
   obtain⟨r,hr,hk⟩:=hs
   refine⟨r,λh=>lV ?_,hk⟩
   unfold step;rw[ho];simp only[aAX,hf]
   exact hr h
  ·exact hs.elim
 case h_17 as ats ho =>
  split at hs
  ·rename_i x hax
   unfold aSG at hs
   split at hs
   ·rename_i t hat
    split at hs
    all_goals first
     |exact hs.elim
     |(rename_i e1 e2;refine lP (qJ _) hs λh K' f=>?_;unfold step;rw[ho];simp only[aAX,hax,aOQ,hat,e1,e2];first|exact λ_=>f|exact f)
   ·exact hs.elim
  ·exact hs.elim
 case h_18 as ats ho =>
  split at hs
  ·rename_i x y hax
   split at hs
   ·rename_i k a k' b hx hy
    refine⟨_,λh=>lV ?_,hs.2⟩
    unfold step;rw[ho];simp only[aAX,hax,hx,hy]
    have:=hs.1;simp only[hy]at this;simp[this]
   ·exact hs.elim
  ·exact hs.elim
 case h_19 t x lo hi mx ho=>exact lP (aVJ P t _ _ _ _) hs λh K' f=>by unfold step;rw[ho];exact f
 case h_20=>exact hs.elim
def aF2 (P:Program) (ib:List Nat) (o:Oper) (ρ:Operand->aE) (K:aE->Prop):Prop :=
 match o.dst with
 |some d=>if ib.contains d then(match o.op with
   | .box _ x=>aJ4 (ρ x) K
   | .buildSlice t len ps=>uW (lY P t) len (ps.toList.map λp=>(p.1,ρ p.2)) λsz es=>K (.sl sz es true)
   | _=>aHC P o ρ K)else aHC P o ρ K
 |none=>aHC P o ρ K
theorem aSH {P:Program} {ib:List Nat} {o:Oper} {ρ:Operand->aE} {F:(aE->Prop)->Prop} {K:aE->Prop} (hd:Det F) (hk:F K) (hs:∀ h K',F (λv=>K' v h)->uX P ib o ρ h K'):∃ v,uY P o ρ v/\K v:=by
 obtain⟨v,h1,h2⟩:=hd K hk
 exact⟨v,λh=>aAZ (hs h _ (h2 (λv'=>v'=v/\h=h) ⟨rfl,rfl⟩)),h1⟩
theorem aOU {P:Program} {ib:List Nat} {o:Oper} {ρ:Operand->aE} {K:aE->Prop} (hs:aF2 P ib o ρ K):∃ v,uY P o ρ v/\K v:=by
 unfold aF2 at hs
 split at hs
 ·rename_i d hd
  split at hs
  ·rename_i hib
   split at hs
   ·rename_i t x ho
    exact aSH (ib:=ib) (bAE λ_=>qJ _) hs λh K' f=>by unfold uX;rw[hd];simp only[hib,if_true,ho];exact f
   ·rename_i t len ps ho
    exact aSH (ib:=ib) (bG5 _ _ _) hs λh K' f=>by unfold uX;rw[hd];simp only[hib,if_true,ho];exact f
   ·exact aA0 hs
  ·exact aA0 hs
 ·exact aA0 hs
def aSI (P:Program) (o:Oper) (ρ:Operand->aE) (h:aB) (K:Option Nat->aE->Prop):Prop :=
 match o.op with
 | .load t a=>match ρ a with
  | .op n sz i off=>kA (iP P t) (.op n sz i off) h λv=>K (some n) v
  | .ip sz es i off=>kA (iP P t) (.ip sz es i off) h λv=>K none v
  | _=>False
 | _=>False
theorem bAG (r:Option lU) (n sz i off:Nat) (h:aB):Det (kA r (.op n sz i off) h):=by
 intro K hk
 unfold kA at hk ⊢
 split at hk
 ·simp only at hk
  split at hk
  ·rename_i sz' es e0
   obtain⟨h1,hk⟩:=hk
   split at hk
   ·rename_i e e1
    split at hk
    ·rename_i x e2
     exact⟨x,hk,λK' q=>by simp only[e0,e1,e2];exact⟨h1,q⟩⟩
    ·exact hk.elim
   ·exact hk.elim
  ·exact hk.elim
 ·exact hk.elim
theorem a5H (r:Option lU) (n sz i off:Nat) (h h':aB) (e:h' n=h n) (K:aE->Prop):kA r (.op n sz i off) h' K=kA r (.op n sz i off) h K:=by
 unfold kA;simp only[e]
theorem aSJ {P:Program} {o:Oper} {ρ:Operand->aE} {h:aB} {K:Option Nat->aE->Prop} (hs:aSI P o ρ h K):(∃ n v,aOS P o ρ h n v/\K (some n) v)∨∃ v,uY P o ρ v/\K none v:=by
 unfold aSI at hs
 split at hs
 ·rename_i t a ho
  split at hs
  ·rename_i n sz i off ha
   obtain⟨v,h1,h2⟩:=bAG _ n sz i off h _ hs
   refine .inl ⟨n,v,λh' e=>lV ?_,h1⟩
   unfold step;rw[ho];simp only[ha]
   rw[a5H _ _ _ _ _ h h' e]
   have:=h2 (λv'=>v'=v/\h'=h') ⟨rfl,rfl⟩
   simpa using this
  ·rename_i sz es i off ha
   obtain⟨v,h1,h2⟩:=a5F _ sz i off es h _ hs
   refine .inr ⟨v,λh'=>lV ?_,h1⟩
   unfold step;rw[ho];simp only[ha]
   rw[aYT _ _ _ _ _ h' h]
   have:=h2 (λv'=>v'=v/\h'=h') ⟨rfl,rfl⟩
   simpa using this
  ·exact hs.elim
 ·exact hs.elim
def aSK (cr:List (Nat×Nat)) (i:Nat):Option Nat->List (Nat×Nat)->List (Nat×Nat)
 |some n,pr=>if a5B cr i then(i,n)::pr else pr
 |none,pr=>pr
def aKD (cr:List (Nat×Nat)) (i:Nat):List (Nat×Nat)->aB->aB->Prop
 | [],_,_=>True
 |(x,n)::pr,h,h'=>(if aAF cr x i then h' n=h n else True)/\aKD cr i pr h h'
theorem aYU {cr:List (Nat×Nat)} {i:Nat} {h h':aB}:∀ {pr:List (Nat×Nat)},aKD cr i pr h h'->aJ8 cr i pr h h'
 | [],_=>λp hp=>by simp at hp
 |(x,n)::pr,q=>λp hp hc=>by
  simp only[aKD]at q
  rcases pP.1 hp with rfl|hp
  ·have:=q.1;rw[if_pos hc]at this;exact this
  ·exact aYU q.2 p hp hc
def aHD (P:Program) (ib:List Nat) (cr:List (Nat×Nat)) (i:Nat) (m:Bool) (o:Oper) (ρ:Operand->aE) (pr:List (Nat×Nat)) (h:aB) (K:List (Nat×Nat)->aE->aB->Prop):Prop :=
 if m then(if aVI o then aSI P o ρ h (λn v=>K (aSK cr i n pr) v h)else uX P ib o ρ h (λv h'=>aKD cr i pr h h'/\K pr v h'))
 else aF2 P ib o ρ (λv=>K pr v h)
def OpD (P:Program) (ib:List Nat) (ops:Array Oper) (ms:List Nat) (cr:List (Nat×Nat)) (i:Nat) (pr:List (Nat×Nat)) (τ:bK) (h:aB) (C:List (Nat×Nat)->bK->aB->Prop):Prop :=
 match ops[i]? with
  |none=>False
  |some o=>match o.guard with
   |none=>aHD P ib cr i (ms.contains i) o (tR ops o τ) pr h (λpr' v h'=>C pr' (gP τ o.dst v) h')
   |some (g,b)=>match (ops[g]?).bind (·.dst)with
    |some d=>match bZ τ d with
     | .bool b'=>(b'=b->aHD P ib cr i (ms.contains i) o (tR ops o ((d,.bool b)::τ)) pr h (λpr' v h'=>C pr' (gP ((d,.bool b)::τ) o.dst v) h')) /\
       (b'=!b->C pr (gP ((d,.bool !b)::τ) o.dst (.gK [])) h)
     | .gK []=>C pr (gP τ o.dst (.gK [])) h
     | _=>False
    |none=>False
def aF3 (P:Program) (ib:List Nat) (ops:Array Oper) (ms:List Nat) (cr:List (Nat×Nat)):tB->List (Nat×Nat)->bK->aB->(bK->aB->Prop)->Prop
 | .nil,_,τ,h,K=>K τ h
 | .op i l,pr,τ,h,K=>OpD P ib ops ms cr i pr τ h λpr τ h=>aF3 P ib ops ms cr l pr τ h K
 | .alt i l j q,pr,τ,h,K=>(OpD P ib ops ms cr i pr τ h λpr τ h=>aF3 P ib ops ms cr l pr τ h K)/\OpD P ib ops ms cr j pr τ h λpr τ h=>aF3 P ib ops ms cr q pr τ h K
theorem OpD.sound {P:Program} {ib:List Nat} {ops:Array Oper} {ms:List Nat} {cr:List (Nat×Nat)} {i:Nat} {C C':List (Nat×Nat)->bK->aB->Prop}
  (hC:∀ (pr pr':List (Nat×Nat)) (τ τ':bK) (h:aB),(∀ p∈pr',p∈pr∨∀ j,aAF cr p.1 j=false)->TEq τ τ'->C pr τ h->C' pr' τ' h) (pr:List (Nat×Nat)) (τ:bK) (h:aB) (r:OpD P ib ops ms cr i pr τ h C):OpL P ops ms i cr pr τ h C':=by
  have ids:∀ pr:List (Nat×Nat),∀ p∈pr,p∈pr∨∀ j,aAF cr p.1 j=false:=λ_ _ h=>.inl h
  unfold OpD at r
  unfold OpL
  cases ho:ops[i]? with
  |none=>simp[ho]at r
  |some o =>
   simp only[ho]at r ⊢
   have go:∀ σ:bK,(∀ k,bZ σ k=bZ τ k)->want ops τ o=some true->aHD P ib cr i (ms.contains i) o (tR ops o σ) pr h (λpr' v h'=>C pr' (gP σ o.dst v) h')->(match want ops τ o with
      |none=>False
      |some true=>if ms.contains i then(if aVI o then(∃ n v,aOS P o (tR ops o τ) h n v/\C' ((i,n)::pr) (gP τ o.dst v) h)∨∃ v,uY P o (tR ops o τ) v/\C' pr (gP τ o.dst v) h
         else pI P o (tR ops o τ) h λv h'=>aJ8 cr i pr h h'/\C' pr (gP τ o.dst v) h')
        else ∃ v,uY P o (tR ops o τ) v/\C' pr (gP τ o.dst v) h
      |some false=>C' pr (gP τ o.dst (.gK [])) h):=by
    intro σ hσ hw r
    rw[hw]
    simp only
    rw[p9 (ops:=ops) (o:=o) (τ:=σ) (τ':=τ) λt _=>hσ t]at r
    unfold aHD at r
    split at r
    ·rename_i hm;rw[if_pos hm]
     split at r
     ·rename_i hl;rw[if_pos hl]
      rcases aSJ r with⟨n,v,h1,h2⟩|⟨v,h1,h2⟩
      ·refine .inl ⟨n,v,h1,hC _ _ _ _ h ?_ (TEq.put hσ _ _) h2⟩
       intro p hp
       simp only[aSK]
       split
       ·exact .inl hp
       ·rename_i hn
        rcases pP.1 hp with rfl|hp
        ·exact .inr λj=>aR9 (by simpa using hn)
        ·exact .inl hp
      ·exact .inr ⟨v,h1,hC _ _ _ _ h (ids _) (TEq.put hσ _ _) h2⟩
     ·rename_i hl;rw[if_neg hl]
      exact(aAZ r).mono λv h' x=>⟨aYU x.1,hC _ _ _ _ h' (ids _) (TEq.put hσ _ _) x.2⟩
    ·rename_i hm;rw[if_neg hm]
     obtain⟨v,h1,h2⟩:=aOU r
     exact⟨v,h1,hC _ _ _ _ h (ids _) (TEq.put hσ _ _) h2⟩
   have skip:∀ σ:bK,(∀ k,bZ σ k=bZ τ k)->want ops τ o=some false->C pr (gP σ o.dst (.gK [])) h->(match want ops τ o with
      |none=>False
      |some true=>if ms.contains i then(if aVI o then(∃ n v,aOS P o (tR ops o τ) h n v/\C' ((i,n)::pr) (gP τ o.dst v) h)∨∃ v,uY P o (tR ops o τ) v/\C' pr (gP τ o.dst v) h
         else pI P o (tR ops o τ) h λv h'=>aJ8 cr i pr h h'/\C' pr (gP τ o.dst v) h')
        else ∃ v,uY P o (tR ops o τ) v/\C' pr (gP τ o.dst v) h
      |some false=>C' pr (gP τ o.dst (.gK [])) h):=by
    intro σ hσ hw r
    rw[hw]
    exact hC _ _ _ _ h (ids _) (TEq.put hσ _ _) r
   cases hg:o.guard with
   |none=>simp only[hg]at r;exact go τ (λ_=>rfl) (by simp[want,hg]) r
   |some gb =>
    obtain⟨g,b⟩:=gb
    simp only[hg]at r
    split at r
    ·rename_i d hd
     split at r
     ·rename_i b' hb'
      by_cases e:b'=b
      ·subst e
       exact go _ (yN hb') (by simp[want,hg,hd,hb']) (r.1 rfl)
      ·have e':b'=!b:=by cases b' <;> cases b <;> simp_all
       subst e'
       exact skip _ (yN hb') (by simp only[want,hg,hd,hb'];cases b <;> rfl) (r.2 rfl)
     ·rename_i hb';exact skip τ (λ_=>rfl) (by simp[want,hg,hd,hb']) r
     ·exact r.elim
    ·exact r.elim
theorem aF3.sound {P:Program} {ib:List Nat} {ops:Array Oper} {ms:List Nat} {cr:List (Nat×Nat)} {K:bK->aB->Prop} (hK:∀ τ τ' h,TEq τ τ'->K τ h->K τ' h):∀ (l:tB) (pr:List (Nat×Nat)) (τ:bK) (h:aB),aF3 P ib ops ms cr l pr τ h K->kB P ops ms cr l pr τ h K
 | .nil,_,_,_,r=>r
 | .op i l,pr,τ,h,r=>OpD.sound (λpr pr' τ τ' h hs e r=>kB.congr hK l _ _ _ _ h hs e (aF3.sound hK l pr τ h r)) pr τ h r
 | .alt i l j q,pr,τ,h,r=>⟨OpD.sound (λpr pr' τ τ' h hs e r=>kB.congr hK l _ _ _ _ h hs e (aF3.sound hK l pr τ h r)) pr τ h r.1,OpD.sound (λpr pr' τ τ' h hs e r=>kB.congr hK q _ _ _ _ h hs e (aF3.sound hK q pr τ h r)) pr τ h r.2⟩
abbrev Marks:=Nat->List Nat×tB×List (Nat×Nat)
def aKE (id:Nat) (K:bK->aB->Prop) (Q:Exit->bK->aB->Prop):Exit->bK->aB->Prop
 | .exit i,τ,h=>if i=id then K τ h else Q (.exit i) τ h
 |e,τ,h=>Q e τ h
def hwp (P:Program) (N:Nat) (keep ib:List Nat) (mk:Marks):Code->(bK->aB->Prop)->(Exit->bK->aB->Prop)->bK->aB->Prop
 | .skip,K,Q,τ,h=>K τ h
 | .region id ops false,K,Q,τ,h=>aEL P ib ops ops.toList τ h λτ' h'=>K (Hl.prune keep τ') h'
 | .region id ops true,K,Q,τ,h=>aF3 P ib ops (mk id).1 (mk id).2.2 (mk id).2.1 [] τ h λτ' h'=>K (Hl.prune keep τ') h'
 | .seq a b,K,Q,τ,h=>hwp P N keep ib mk a (λτ h=>hwp P N keep ib mk b K Q τ h) Q τ h
 | .cond c a b,K,Q,τ,h=>match nX τ c with
  | .bool t=>(t=true->hwp P N keep ib mk a K Q τ h)/\(t=false->hwp P N keep ib mk b K Q τ h)
  | _=>False
 | .block id c,K,Q,τ,h=>hwp P N keep ib mk c K (aKE id K Q) τ h
 | .loop c,K,Q,τ,h=>qI P N (.loop c) (xI K Q) τ h
 | .exit id,K,Q,τ,h=>Q (.exit id) τ h
 | .ret,K,Q,τ,h=>Q .ret τ h
 | _,_,_,_,_=>False
def gR (N:Nat) (mk:Marks):Code->Bool
 | .region _ ops false=>aC4 N ops
 | .region id ops true=>aC4 N ops && bG0 ops (mk id).1 (mk id).2.1 (mk id).2.2
 | .seq a b=>gR N mk a && gR N mk b
 | .cond _ a b=>gR N mk a && gR N mk b
 | .block _ c=>gR N mk c
 | .loop c=>gR N mk c
 | _=>true
theorem sC {P:Program} {N:Nat} {keep ib:List Nat} {mk:Marks} (hmix:P.follows .mixedOrders=true):∀ (c:Code) (K:bK->aB->Prop) (Q:Exit->bK->aB->Prop) (τ:bK) (h:aB),gR N mk c=true->hwp P N keep ib mk c K Q τ h->qI P N c (xI K Q) τ h
 | .skip,K,Q,τ,h,_,hw=>.skip hw
 | .region id ops false,K,Q,τ,h,hc,hw=>.region hc keep hw
 | .region id ops true,K,Q,τ,h,hc,hw=>by
  simp only[gR,mK]at hc
  exact .aSD hmix hc.1 hc.2 keep (aF3.sound (λτ τ' h e q=>by
   have:Hl.prune keep τ=Hl.prune keep τ':=by unfold Hl.prune;exact aCA λk _=>by rw[e k]
   rwa [←this]) _ _ _ _ hw)
 | .seq a b,K,Q,τ,h,hc,hw=>by
  simp only[gR,mK]at hc
  refine .seq ((sC hmix a _ _ τ h hc.1 hw).mono ?_)
  intro e τ' h' q
  cases e <;> simp only[xI]at q ⊢ <;> first|exact q|exact sC hmix b _ _ _ _ hc.2 q
 | .cond c a b,K,Q,τ,h,hc,hw=>by
  simp only[gR,mK]at hc
  unfold hwp at hw
  split at hw
  ·rename_i t ht
   exact .cond ht (λe=>sC hmix a _ _ _ _ hc.1 (hw.1 e)) (λe=>sC hmix b _ _ _ _ hc.2 (hw.2 e))
  ·exact hw.elim
 | .block id c,K,Q,τ,h,hc,hw=>.block ((sC hmix c _ _ τ h hc hw).mono λe τ' h' q=>by
   cases e <;> simp only[xI,aKE,aOO]at q ⊢ <;> first|exact q|(split at q <;> rename_i hi <;> simp_all [xI,aOO]))
 | .loop c,K,Q,τ,h,hc,hw=>hw
 | .exit id,K,Q,τ,h,hc,hw=>.exit hw
 | .ret,K,Q,τ,h,hc,hw=>.ret hw
 | .rangeFunc _ _ _ _,_,_,_,_,_,hw=>hw.elim
 | .scope _,_,_,_,_,_,hw=>hw.elim
 | .label _,_,_,_,_,_,hw=>hw.elim
 | .goto _,_,_,_,_,_,hw=>hw.elim
 | .refuse _,_,_,_,_,_,hw=>hw.elim
theorem aKF {P:Program} {f:FuncId} {fn:Func} {c:Code} (N:Nat) (keep ib:List Nat) (mk:Marks) {args:List aE} {h:aB} {K:aE->aB->Prop} (hmix:P.follows .mixedOrders=true) (hf:P.funcs[f]?=some fn) (hb:fn.body=some c)
  (hck:(jF P f && decide (fn.ntmps=N) && gR N mk c)=true) (hl:args.length<=N) {K':aE->aB->Prop}
  (hw:hwp P N keep ib mk c (aEM P fn.results K' .normal) (aEM P fn.results K') (pQ 0 args) h) (hk:∀ r h',K' r h'->∃ g:aB,g.le h'/\K r g):iD P f args h K:=by
 simp only[mK,decide_eq_true_eq]at hck
 refine a5A hf hb hck.1.1 hck.1.2 hl ((sC hmix c _ _ _ _ hck.2 hw).mono ?_) hk
 intro e τ h q
 cases e <;> exact q
theorem bAH {P:Program} {f:FuncId} {fn:Func} {c:Code} (N:Nat) (keep ib:List Nat) (mk:Marks) {args:List aE} {r:aE} (hmix:P.follows .mixedOrders=true) (hf:P.funcs[f]?=some fn) (hb:fn.body=some c)
  (hck:(jF P f && decide (fn.ntmps=N) && gR N mk c)=true) (hl:args.length<=N)
  (hw:∀ h,hwp P N keep ib mk c (aEM P fn.results (λr' h'=>r'=r/\h.le h') .normal) (aEM P fn.results λr' h'=>r'=r/\h.le h') (pQ 0 args) h):fR P f args r :=
 λh=>aKF N keep ib mk hmix hf hb hck hl (hw h) λ_ _ hx=>⟨h,hx.2,hx.1,rfl⟩
theorem bM {h h':aB} {n:Nat} {o:bU} (hn:h n=none):h.le (aT h' n o)↔h.le h':=by
 constructor
 ·intro hl m
  by_cases e:m=n
  ·subst e;exact .inl hn
  ·have:=hl m;rwa [aD _ _ _ _ e]at this
 ·exact aB.bM hn
theorem aRM {h:aB} {n m:Nat} {o:bU}:aT h n o m=none↔m≠n/\h m=none:=by
 simp only[aT];split <;> simp_all
def cR:bK->bK->Prop
 | [],_=>True
 |(k,v)::r,τ=>bZ τ k=v/\cR r τ
theorem cR.get:∀ {l τ:bK},cR l τ->∀ k,bZ l k=.any∨bZ l k=bZ τ k
 | [],τ,_,k=>.inl rfl
 |(j,v)::r,τ,h,k=>by
  simp only[bZ]
  by_cases e:j=k
  ·subst e;right;rw[if_pos rfl];exact h.1.symm
  ·rw[if_neg e];exact cR.get h.2 k
theorem qI.weaken {P:Program} {N:Nat} {c:Code} {Q:Exit->bK->aB->Prop} {σ τ:bK} {g h:aB} (hs:cR σ τ) (hl:g.le h) (x:qI P N c Q σ g):qI P N c Q τ h :=
 qI.forget hl λds E w a R r=>x ds E w a R ⟨r.size,r.defers,λk=>by
  rcases hs.get k with e|e
  ·rw[e];exact .any _
  ·rw[e];exact r.get k⟩
theorem qI.aSL {P:Program} {N:Nat} {c:Code} {Q:Exit->bK->aB->Prop} {τ:bK} {h:aB} {α:Type} (S:α->bK) (H:α->aB) (side:α->Prop) (μ:α->Nat) (x₀:α)
  (h₀:cR (S x₀) τ/\(H x₀).le h/\side x₀)
  (round:∀ x,side x->qI P N c (xI (λτ' h'=>∃ x',cR (S x') τ'/\(H x').le h'/\side x'/\μ x'<μ x) Q) (S x) (H x)):qI P N (.loop c) Q τ h :=
 qI.loop (λx τ h=>cR (S x) τ/\(H x).le h/\side x) μ x₀ h₀ λx τ h ⟨h1,h2,h3⟩ =>
  qI.weaken h1 h2 ((round x h3).mono λe τ h q=>by
   cases e <;> simp only[xI]at q ⊢ <;> first|exact q|(obtain⟨x',a,b,c,d⟩:=q;exact⟨x',⟨a,b,c⟩,d⟩))
end Go.Hl
