/-
  Contracts of functions and laws of the layer over the walk.
-/
import Derived.Test.YtajjlpophonkoaaGreatDoorHlA
import Derived.ChangeKeysEq
import Derived.Orders
namespace Go.Hl
set_option linter.unusedVariables false
set_option linter.unusedSimpArgs false
def aM0:List aC->Nat->List aC->List aC
 |es,_,[]=>es
 |es,off,v::vs=>aM0 (es.set off v) (off+1) vs
theorem xA:∀ (vs es:List aC) (off:Nat),(aM0 es off vs).length=es.length
 | [],_,_=>rfl
 |v::vs,es,off=>by simp[aM0,xA vs]
theorem aM1:∀ (vs es:List aC) (off k:Nat),off+vs.length<=es.length->(aM0 es off vs)[k]?=if off<=k/\k<off+vs.length then vs[k-off]? else es[k]?
 | [],es,off,k,_=>by
  rw[if_neg]
  ·rfl
  ·simp only[yZ];omega
 |v::vs,es,off,k,h=>by
  simp only[al3]at h
  rw[aM0,aM1 vs _ _ _ rN]
  by_cases e:k=off
  ·subst e
   rw[if_neg aA,if_pos cK,aUO aA]
   try simp
  ·rw[a1D (sJ e)]
   by_cases h1:off+1<=k/\k<off+1+vs.length
   ·rw[if_pos h1,if_pos rN,show k-off=(k-(off+1))+1 by omega];simp
   ·rw[if_neg h1,if_neg rN]
def aFO (place:Nat->Option (Nat×Nat)) (es:List aC):List (Nat×aC)->List aC
 | []=>es
 |(i,v)::r=>match place i with
  |some (off,_)=>aFO place (aM0 es off v.cells) r
  |none=>es
def vB (place:Nat->Option (Nat×Nat)) (n:Nat):List (Nat×aC)->Bool
 | []=>true
 |(i,v)::r=>(match place i with
  |some (off,sz)=>decide (v.cells.length=sz) && decide (off+sz<=n)
  |none=>false) && v.cells.all aC.flat && vB place n r
theorem bJU (a:Array Value):a.toList.length=a.size:=rfl
theorem aJA {E:Env} {h:Heap} {w:World} {ρ:Operand->aC} {place:Nat->Option (Nat×Nat)} {ρc:Operand->Value} (hρ:∀ x,dU E h w (ρ x) (ρc x)):∀ (ps:List (Nat×Operand)) (es:List aC) (cs:Array Value),vB place es.length (ps.map λp=>(p.1,ρ p.2))=true ->
  cU E h w es cs.toList->∃ cs',Instr.fill place cs (ps.map λp=>(p.1,ρc p.2))=some cs'/\cU E h w (aFO place es (ps.map λp=>(p.1,ρ p.2))) cs'.toList
 | [],es,cs,_,hL=>⟨cs,rfl,hL⟩
 |(i,x)::ps,es,cs,hf,hL=>by
  simp only[qH,vB,lH]at hf
  obtain⟨⟨hp,hfl⟩,hf⟩:=hf
  cases hpl:place i with
  |none=>simp[hpl]at hp
  |some os =>
   obtain⟨off,sz⟩:=os
   simp only[hpl,lH,decide_eq_true_eq]at hp
   obtain⟨hsz,hfit⟩:=hp
   obtain⟨hcL,hc1⟩:=(hρ x).aCE hfl
   have hvs:(ρc x).cells.size=sz:=by have:=hcL.length;simp at this;omega
   have hcsz:cs.size=es.length:=by have:=hL.length;simpa using this.symm
   have hget:=λk=>wI (ρc x).cells off cs k aA
   have hsize:=uC (ρc x).cells off cs
   obtain⟨cs',r1,r2⟩:=aJA hρ ps (aM0 es off (ρ x).cells) ((ρc x).cells.zipIdx.foldl (λcs (cj:Value×Nat)=>cs.setIfInBounds (off+cj.2) cj.1) cs) (by rw[xA];exact hf) (by
    refine cU.mk (by rw[xA,bJU,hsize,hcsz]) ?_
    intro k y v hy hv
    rw[aM1 _ _ _ _ aA]at hy
    rw[al5,hget k]at hv
    by_cases hr:off<=k/\k<off+(ρ x).cells.length
    ·rw[if_pos hr]at hy
     rw[if_pos aA]at hv
     exact hcL.get _ _ _ hy aAR
    ·rw[if_neg hr]at hy
     rw[if_neg aA]at hv
     exact hL.get _ _ _ hy aAR)
   refine⟨cs',?_,?_⟩
   ·simp only[qH,Instr.fill,hpl,hvs]
    rw[if_neg rN]
    exact r1
   ·simpa only[qH,aFO,hpl]using r2
def places (P:Program):TyD->Nat->Option (Nat×Nat)
 | .st fs,i=>(fs[i]?).map λf=>(f.1,f.2.2)
 | .arr _ e,i=>match fE P e with|some re=>some (i*re.sz,re.sz)|none=>none
 | _,_=>none
def xB (P:Program):TyD->Bool
 | .st _=>true
 | .arr _ e=>(fE P e).isSome
 | _=>false
theorem aU1 {P:Program} {o:Oper} {ρ:Operand->aC} {h:Heap} {K:aC->Heap->Prop} (t:TypeId) (ps:Array (Nat×Operand)) (r:j6) (ho:o.op=.build t ps) (ht:fE P t=some r) (hd:xB P r.d=true) (hz:r.zero≠[])
  (hf:vB (places P r.d) r.zero.length (ps.toList.map λp=>(p.1,ρ p.2))=true) (hk:K (.agg (aFO (places P r.d) r.zero (ps.toList.map λp=>(p.1,ρ p.2)))) h):l9 P o ρ h K :=
 bV hk λE w ρc R hρ=>by
  obtain⟨u,hu,hud,hrun⟩:=bS (w:=w) ht
  obtain⟨z,hzr,hzz⟩:=nS (w:=w) ht hz
  have hL:cU E h w r.zero z.cells.toList:=by rw[←hzz];exact oN E h w _
  obtain⟨cs,h1,h2⟩:=aJA hρ ps.toList r.zero z.cells hf hL
  refine⟨.agg cs,?_,by have:=dU.agg (E:=E) (h:=h) (w:=w) _ cs.toList h2.length h2.get;simpa using this⟩
  have hmap:(ps.map λ(i,x)=>(i,ρc x)).toList=ps.toList.map λp=>(p.1,ρc p.2):=by simp
  cases hdd:r.d with
  |st fs =>
   obtain⟨gs,rfl,hall,hgs⟩:=aXG (hud.trans hdd)
   have hpl:∀ i:Nat,((gs.toList.map λf=>(f.offset,P.cellsOf f.type)).toArray)[i]?=places P r.d i:=by
    intro i
    rw[hdd]
    simp only[places,←hgs,aPO,nI,Option.map_map]
    rfl
   have hm:(gs.mapM λf=>(do pure (f.offset,←sizeOf f.type):Sem (Nat×Nat))).run P w=.ok (gs.toList.map λf=>(f.offset,P.cellsOf f.type)).toArray w:=by
    rw[←Array.toArray_toList (xs:=gs),List.mapM_toArray]
    have key:∀ l:List Field,l.all (λf=>(P.info? f.type).isSome)=true->(l.mapM λf=>(do pure (f.offset,←sizeOf f.type):Sem (Nat×Nat))).run P w=.ok (l.map λf=>(f.offset,P.cellsOf f.type)) w:=by
     intro l
     induction l with
     |nil=>intro _;simp
     |cons f l ih =>
      intro hl
      simp only[List.all_cons,lH]at hl
      simp only[List.mapM_cons,Sem.run_bind,wW hl.1,Result.andThen_ok,Sem.run_pure,ih hl.2,qH]
    have hk':=key _ hall
    simp only[bind_pure_comp]at hk' ⊢
    simp[hk']
   simp only[execOp,ho,Instr.build,Sem.run_bind,hzr,Result.andThen_ok,hrun,hm,hmap]
   have:(λx=>(gs.toList.map λf=>(f.offset,P.cellsOf f.type)).toArray[x]?)=places P r.d:=funext hpl
   rw[this,h1]
   simp
  |arr n e =>
   obtain rfl:=a1U (hud.trans hdd)
   rw[hdd]at hd
   obtain⟨re,hre⟩:=Option.isSome_iff_exists.1 hd
   have hsize:=fG (w:=w) hre
   simp only[execOp,ho,Instr.build,Sem.run_bind,hzr,Result.andThen_ok,hrun,hsize,hmap]
   have:(λi=>some (i*re.sz,re.sz))=places P r.d:=by funext i;rw[hdd];simp[places,hre]
   rw[this,h1]
   simp
  | _=>rw[hdd]at hd;simp[xB]at hd
section
variable {P:Program} {o:Oper} {ρ:Operand->aC} {h:Heap} {K:aC->Heap->Prop}
theorem aH9 (t et:TypeId) (x:Operand) (lo hi:Option Operand) (mx:Operand) (r re:j6) (sz:Nat) (es:List (List aC)) (tg:Bool) (l m M:Int) (ho:o.op=.slice t x lo hi (some mx)) (ht:fE P t=some r) (hd:r.d=.slice et)
  (he:fE P et=some re) (hsz:re.sz=sz) (hx:ρ x=.sl sz es tg) (hhi:hi.isSome=true)
  (hl:iK 0 (lo.map ρ)=some l) (hh:iK es.length (hi.map ρ)=some m) (hM:iK 0 (some (ρ mx))=some M) (h0:0<=l) (h1:l<=m) (h2:m<=M) (h3:M<=es.length)
  (hk:K (.sl sz ((es.take m.toNat).drop l.toNat) (decide (M=m))) h):l9 P o ρ h K :=
 bV hk λE w ρc R hρ=>by
  have hr:=hρ x
  rw[hx]at hr
  obtain⟨u,hu,hud,hrun⟩:=bS (w:=w) ht
  obtain rfl:=fQ (hud.trans hd)
  have hsize:=fG (w:=w) he
  have hml:maxLen=9223372036854775807:=rfl
  have key:∀ (a:Option Addr) (cap:Nat),ρc x=.slice a es.length cap->es.length<=cap ->
    (execOp ρc o).run P w=.ok (.value (.slice (if M.toNat=l.toNat then a else a.map (·.add (l.toNat*sz))) (m.toNat-l.toNat) (M.toNat-l.toNat))) w:=by
   intro a cap hv hc
   have hM':iK cap (some (ρ mx))=some M:=by
    generalize ρ mx=z at hM
    cases z <;> simp[iK]at hM ⊢
    exact hM
   have hb:=rT (P:=P) R hρ true es.length cap lo hi (some mx) l m M hl hh hM' (λ_=>hhi) h0 h1 h2 aA
   simp only[aD4]at hb
   simp[execOp,ho,Instr.sliceAt,Instr.slice,hrun,hv,hb,hsize,hsz]
  have htk:∀ i j y,gT ((es.take m.toNat).drop l.toNat) i j=some y->gT es (l.toNat+i) j=some y:=by
   intro i j y hy
   obtain⟨e,h1,h2⟩:=kF hy
   rw[aME]at h1
   have hlt:l.toNat+i<m.toNat:=by have:=(jQ.1 h1).1;simp at this;omega
   rw[aJ1 hlt]at h1
   simp[gT,h1,h2]
  cases hv:ρc x <;> rw[hv]at hr <;> try(cases hr;done)
  cases hr with
  |y6 _ _ _ _ htt hmax ha =>
   have qN:l=0:=by simp at h3;omega
   have hm0:m=0:=by simp at h3;omega
   have hM0:M=0:=by simp at h3;omega
   subst qN hm0 hM0
   refine⟨_,key _ _ aAR cK,?_⟩
   simp only[a1H,List.take_zero,List.drop_nil,Nat.sub_zero,aWT,zF,yZ]
   exact .y6 sz _ _ _ (λ_=>rfl) aA trivial
  |sl _ _ _ b o' cap cv hI hcap hmax htt hs hc h1' hrr =>
   rename_i cap
   refine⟨_,key _ cap hv hcap,?_⟩
   have hlen:((es.take m.toNat).drop l.toNat).length=m.toNat-l.toNat:=by simp;omega
   by_cases hemp:m.toNat=l.toNat
   ·have e1:(es.take m.toNat).drop l.toNat=[]:=aWW rN
    rw[e1,hemp,zF]
    refine .y6 sz _ _ _ (λe=>?_) aA trivial
    simp at e;omega
   ·have hne:¬M.toNat=l.toNat:=by omega
    rw[if_neg hne,←hlen]
    simp only[aD4,addr_add]
    refine .sl sz _ _ b (o'+l.toNat*sz) (M.toNat-l.toNat) (λi j=>cv (l.toNat+i) j) hI aA aA (λe=>?_) ?_ ?_ ?_ ?_
    ·simp at e;omega
    ·intro e he
     exact hs e (aJ4 (aWX he))
    ·intro i j y hy
     rw[←hc _ _ _ (htk i j y hy)];congr 2;rw[sI];omega
    ·intro i j y hy;exact h1' _ _ _ (htk i j y hy)
    ·intro i j y hy;exact hrr _ _ _ (htk i j y hy)
theorem aA1 (t et:TypeId) (x:Operand) (lo hi:Option Operand) (r re:j6) (n sz i len:Nat) (l m:Int) (ho:o.op=.slice t x lo hi none) (ht:fE P t=some r) (hd:r.d=.slice et)
  (he:fE P et=some re) (hsz:re.sz=sz) (hx:ρ x=.os n sz i len)
  (hl:iK 0 (lo.map ρ)=some l) (hh:iK len (hi.map ρ)=some m) (h0:0<=l) (h1:l<m) (h2:m<=len)
  (hk:K (.os n sz (i+l.toNat) (m.toNat-l.toNat)) h):l9 P o ρ h K :=
 bV hk λE w ρc R hρ=>by
  have hr:=hρ x
  rw[hx]at hr
  obtain⟨u,hu,hud,hrun⟩:=bS (w:=w) ht
  obtain rfl:=fQ (hud.trans hd)
  have hsize:=fG (w:=w) he
  have hml:maxLen=9223372036854775807:=rfl
  have key:∀ (a:Option Addr) (cap:Nat),ρc x=.slice a len cap->len<=cap ->
    (execOp ρc o).run P w=.ok (.value (.slice (if cap=l.toNat then a else a.map (·.add (l.toNat*sz))) (m.toNat-l.toNat) (cap-l.toNat))) w:=by
   intro a cap hv hc
   have hb:=rT (P:=P) R hρ true len cap lo hi none l m cap hl hh rfl cK h0 aA aA aA
   simp only[aWV]at hb
   have e:((cap:Int)).toNat=cap:=by omega
   simp[execOp,ho,Instr.sliceAt,Instr.slice,hrun,hv,hb,hsize,hsz,e]
  cases hv:ρc x <;> rw[hv]at hr <;> try(cases hr;done)
  cases hr with
  |os0 _ _ hd' hl'=>simp at h2;omega
  |os _ _ _ _ b o' cap t' mm hd' hl' hlc hmax hsh hm =>
   refine⟨_,key _ _ hv hlc,?_⟩
   rename_i cap
   rw[if_neg aA]
   simp only[aD4,addr_add]
   have e:o'+i*sz+l.toNat*sz=o'+(i+l.toNat)*sz:=by rw[sI];omega
   rw[e]
   refine .os n sz (i+l.toNat) (m.toNat-l.toNat) b o' (cap-l.toNat) t' mm hd' hl' aA aA hsh ?_
   rw[show i+l.toNat+(cap-l.toNat)=i+cap by omega]
   exact hm
theorem aIA (t et:TypeId) (x:Operand) (lo hi:Option Operand) (r re:j6) (n sz i len:Nat) (l m:Int) (ho:o.op=.slice t x lo hi none) (ht:fE P t=some r) (hd:r.d=.slice et)
  (he:fE P et=some re) (hsz:re.sz=sz) (hx:ρ x=.os n sz i len)
  (hl:iK 0 (lo.map ρ)=some l) (hh:iK len (hi.map ρ)=some m) (h0:0<=l) (h1:l=m) (a11:m=len)
  (hk:K (.os n sz (i+len) 0) h) (hk2:K (.sl sz [] true) h):l9 P o ρ h K :=
 by
  intro E w ρc R hρ
  have hr:=hρ x
  rw[hx]at hr
  obtain⟨u,hu,hud,hrun⟩:=bS (w:=w) ht
  obtain rfl:=fQ (hud.trans hd)
  have hsize:=fG (w:=w) he
  have hml:maxLen=9223372036854775807:=rfl
  have key:∀ (a:Option Addr) (cap:Nat),ρc x=.slice a len cap->len<=cap ->
    (execOp ρc o).run P w=.ok (.value (.slice (if cap=l.toNat then a else a.map (·.add (l.toNat*sz))) (m.toNat-l.toNat) (cap-l.toNat))) w:=by
   intro a cap hv hc
   have hb:=rT (P:=P) R hρ true len cap lo hi none l m cap hl hh rfl cK h0 aA aA aA
   simp only[aWV]at hb
   have e:((cap:Int)).toNat=cap:=by omega
   simp[execOp,ho,Instr.sliceAt,Instr.slice,hrun,hv,hb,hsize,hsz,e]
  cases hv:ρc x <;> rw[hv]at hr <;> try(cases hr;done)
  have e0:m.toNat-l.toNat=0:=by omega
  cases hr with
  |os0 _ _ hd' hl' =>
   have hk':=key _ _ hv (j4 _)
   refine .iC hk' (.same hk2 R ?_)
   rw[e0]
   have e1:l.toNat=0:=by have h2:=a11;simp at h2;omega
   rw[e1]
   exact .y6 sz true _ _ (λ_=>rfl) (by simp[maxLen]) trivial
  |os _ _ _ _ b o' cap t' mm hd' hl' hlc hmax hsh hm =>
   have hk':=key _ _ hv hlc
   rename_i cap
   by_cases hcl:cap=l.toNat
   ·refine .iC hk' (.same hk2 R ?_)
    rw[e0,if_pos hcl]
    exact .y6 sz true _ _ (λ_=>by omega) aA trivial
   ·refine .iC hk' (.same hk R ?_)
    rw[e0,if_neg hcl]
    simp only[aD4,addr_add]
    have hlm:m=len:=a11
    have e:o'+i*sz+l.toNat*sz=o'+(i+len)*sz:=by
     have:l.toNat=len:=by omega
     rw[this,sI];omega
    rw[e]
    refine .os n sz (i+len) 0 b o' (cap-l.toNat) t' mm hd' hl' aA aA hsh ?_
    rw[show i+len+(cap-l.toNat)=i+cap by omega]
    exact hm
def bytesOf:List (List aC)->Option (List UInt8)
 | []=>some []
 | [.int .u8 n]::r=>(bytesOf r).map (UInt8.ofNat n.toNat::·)
 | _=>none
theorem aA2:∀ {es:List (List aC)} {s:List UInt8},bytesOf es=some s->∃ ns:List Int,es=ns.map (λn=>[.int .u8 n])/\s=ns.map λn=>UInt8.ofNat n.toNat
 | [],s,h=>by simp[bytesOf]at h;subst h;exact⟨[],rfl,rfl⟩
 |e::r,s,h=>by
  unfold bytesOf at h
  split at h
  ·simp_all
  ·rename_i n r' heq
   obtain⟨rfl,rfl⟩:=List.cons.inj heq
   obtain⟨s',hs,rfl⟩:=nJ.1 h
   obtain⟨ns,rfl,rfl⟩:=aA2 hs
   exact⟨n::ns,rfl,rfl⟩
  ·simp at h
theorem foldl_push:∀ (ns:List Int) (r:ByteArray),ns.foldl (λr n=>r.push (UInt8.ofNat n.toNat)) r=⟨(r.data.toList++ns.map λn=>UInt8.ofNat n.toNat).toArray⟩
 | [],r=>by simp
 |n::ns,r=>by
  rw[List.foldl_cons,foldl_push ns]
  simp[ByteArray.push,aH1]
theorem aFP (s d et:TypeId) (x:Operand) (rs rd re:j6) (es:List (List aC)) (tg:Bool) (bs:List UInt8) (ho:o.op=.convert s d x) (hs:fE P s=some rs) (hss:rs.d=.slice et) (het:fE P et=some re) (hee:re.d=.int .u8)
  (hd:fE P d=some rd) (hdd:rd.d=.str) (hx:ρ x=.sl 1 es tg) (hb:bytesOf es=some bs) (hk:K (.str bs) h):l9 P o ρ h K :=
 bV hk λE w ρc R hρ=>by
  have hr:=hρ x
  rw[hx]at hr
  obtain⟨u,hu,hud,hrun⟩:=bS (w:=w) hs
  obtain rfl:=fQ (hud.trans hss)
  obtain⟨u',hu',hud',hrun'⟩:=bS (w:=w) hd
  obtain rfl:=aAU (hud'.trans hdd)
  obtain⟨ue,hue,hude,hrune⟩:=bS (w:=w) het
  obtain rfl:=aSB (hude.trans hee)
  obtain⟨ns,rfl,rfl⟩:=aA2 hb
  generalize hes:(ns.map λn=>[aC.int .u8 n])=es at hr
  cases hv:ρc x <;> rw[hv]at hr <;> try(cases hr;done)
  cases hr with
  |y6 _ _ a cap htt hmax ha =>
   have hns:ns=[]:=by simpa using hes
   subst hns
   rename_i a cap
   refine⟨.string ⟨#[]⟩,?_,.str [] cK⟩
   cases a with
   |none=>simp[execOp,ho,convert,hv,hrun,hrun',hrune,Conv.bytesToString];rfl
   |some a =>
    have:=run_bytesToString (P:=P) w a 0 cap [] (by simp[loadCells,loadCellsFrom])
    simp[execOp,ho,convert,hv,hrun,hrun',hrune,this];rfl
  |sl _ _ _ b o' cap cv hI hcap hmax htt hs' hc h1' hrr =>
   rename_i cap
   subst hes
   have hns:(ns.map λn=>UInt8.ofNat n.toNat).length<=maxLen:=by simp at hcap ⊢;omega
   refine⟨.string ⟨(ns.map λn=>UInt8.ofNat n.toNat).toArray⟩,?_,.str _ hns⟩
   have hl:(loadCells ⟨b,o',none⟩ ns.length).run P w=.ok (ns.map (Value.int .u8)).toArray w:=by
    have:=run_loadCells_list (P:=P) (w:=w) ⟨b,o',none⟩ (ns.map (Value.int .u8)) (λj v hj=>by
     rw[nI]at hj
     obtain⟨n,hn,rfl⟩:=nJ.1 hj
     have hat:gT (ns.map λn=>[aC.int .u8 n]) j 0=some (.int .u8 n):=by simp[gT,hn]
     have h1:=hc j 0 _ hat
     have h2:=fS (hrr j 0 _ hat)
     rw[addr_add,←h2,←h1]
     simp)
    simpa using this
   have:=run_bytesToString (P:=P) w ⟨b,o',none⟩ ns.length cap ns hl
   simp only[iG]at hv
   simp[execOp,ho,convert,hv,hrun,hrun',hrune,this]
   rw[foldl_push];simp
theorem aM2 (t ty:TypeId) (x y:Operand) (a b:List UInt8) (ho:o.op=.binOp .add t x y ty) (hx:ρ x=.str a) (hy:ρ y=.str b) (hl:a.length+b.length<=9223372036854775807) (hk:K (.str (a++b)) h):l9 P o ρ h K :=
 bV hk λE w ρc R hρ=>by
  obtain⟨e1,h1⟩:=jO (hx▸hρ x)
  obtain⟨e2,h2⟩:=jO (hy▸hρ y)
  have hg:(eqGuard .add t x y (ρc x) (ρc y)).run P w=.ok () w:=by rw[e1,e2];simp[eqGuard]
  refine⟨.string ⟨(a++b).toArray⟩,?_,.str _ (by simp[maxLen]at *;omega)⟩
  simp only[execOp,ho,Sem.run_bind,hg,Result.andThen_ok,e1,e2,binOp,Op.stringOp]
  have hs:¬((((⟨a.toArray⟩:ByteArray).size+(⟨b.toArray⟩:ByteArray).size:Nat):Int) > IntKind.i64.max):=by
   have:IntKind.i64.max=9223372036854775807:=by decide
   rw[this];simp[ByteArray.size];omega
  rw[if_neg hs]
  simp only[Sem.run_pure]
  congr 3
def aPW (op:BinOp) (a b:List UInt8):Option Bool :=
 match op with
 | .lss=>some (Op.bytesLess a b)
 | .leq=>some (Op.bytesLess a b || a == b)
 | .gtr=>some (!(Op.bytesLess a b || a == b))
 | .geq=>some (!(Op.bytesLess a b))
 | _=>none
theorem aM3 (op:BinOp) (t ty:TypeId) (x y:Operand) (a b:List UInt8) (c:Bool) (ho:o.op=.binOp op t x y ty) (hx:ρ x=.str a) (hy:ρ y=.str b) (hc:aPW op a b=some c) (hk:K (.bool c) h):l9 P o ρ h K :=
 bV hk λE w ρc R hρ=>by
  obtain⟨e1,h1⟩:=jO (hx▸hρ x)
  obtain⟨e2,h2⟩:=jO (hy▸hρ y)
  refine⟨.bool c,?_,.bool c⟩
  have q1:(⟨a.toArray⟩:ByteArray).toList=a:=by rw[ByteArray.toList_eq]
  have q2:(⟨b.toArray⟩:ByteArray).toList=b:=by rw[ByteArray.toList_eq]
  have hg:(eqGuard op t x y (ρc x) (ρc y)).run P w=.ok () w:=by
   rw[e1,e2];cases op <;> simp[eqGuard]
  rw[e1,e2]at hg
  cases op <;> simp only[aPW,aPM,reduceCtorEq]at hc <;> subst hc <;>
   simp only[execOp,ho,Sem.run_bind,hg,Result.andThen_ok,e1,e2,binOp,Op.stringOp,q1,q2,Sem.run_pure]
theorem vC (op:BinOp) (t ty:TypeId) (x y:Operand) (r:j6) (et:TypeId) (Z Z2:Prop) (ho:o.op=.binOp op t x y ty) (ht:fE P t=some r) (hd:r.d=.slice et)
  (hx:∀ E w v,dU E h w (ρ x) v->∃ a n c,v=.slice a n c/\(a=none->Z)/\(¬a=none->Z2)) (hy:ρ y=.aW)
  (hop:op=.eql∨op=.neq) (h1:Z->K (.bool (op == .eql)) h) (h2:Z2->K (.bool (op != .eql)) h):l9 P o ρ h K:=by
 intro E w ρc R hρ
 have hyv:ρc y=.slice none 0 0:=by have:=hy▸hρ y;generalize ρc y=v at this;cases this;rfl
 obtain⟨u,hu,hud,hrun⟩:=bS (w:=w) ht
 obtain rfl:=fQ (hud.trans hd)
 have hg:(eqGuard op t x y (ρc x) (ρc y)).run P w=.ok () w:=by
  rw[hyv];rcases hop with rfl|rfl <;> cases ρc x <;> simp[eqGuard]
 have aXK:∀ (d:Nat) (a:Option Addr) (n c:Nat),(Op.equalIn (d+1) t (.slice a n c) (.slice none 0 0)).run P w=.ok a.isNone w:=by
  intro d a n c
  cases a <;> simp[Op.equalIn,hrun]
 have key:∀ (a:Option Addr) (n c:Nat),(Op.equal t (.slice a n c) (.slice none 0 0)).run P w=.ok a.isNone w:=λa n c=>aXK 9999 a n c
 have fin:∀ (a:Option Addr) (n c:Nat),ρc x=.slice a n c->K (.bool (if op=.eql then a.isNone else !a.isNone)) h->∃ v,(execOp ρc o).run P w=.ok (.value v) w/\dU E h w (.bool (if op=.eql then a.isNone else !a.isNone)) v:=by
  intro a n c e hk
  rw[e,hyv]at hg
  refine⟨.bool (if op=.eql then a.isNone else !a.isNone),?_,.bool _⟩
  rcases hop with rfl|rfl
  ·simp only[execOp,ho,Sem.run_bind,e,hyv,hg,Result.andThen_ok,binOp,key,Sem.run_pure];simp
  ·simp only[execOp,ho,Sem.run_bind,e,hyv,hg,Result.andThen_ok,binOp,key,Sem.run_pure];simp
 obtain⟨a,n,c,hv,hz,hz2⟩:=hx E w _ (hρ x)
 have h1':Z->K (.bool (if op=.eql then true else false)) h:=λq=>by have:=h1 q;rcases hop with rfl|rfl <;> exact this
 have h2':Z2->K (.bool (if op=.eql then false else true)) h:=λq=>by have:=h2 q;rcases hop with rfl|rfl <;> exact this
 cases a with
 |none =>
  have he:=hz rfl
  obtain⟨v,hv1,hv2⟩:=fin none n c hv (by simpa using h1' he)
  exact .iC hv1 (.same (by simpa using h1' he) R (by simpa using hv2))
 |some a =>
  have he:=hz2 cK
  obtain⟨v,hv1,hv2⟩:=fin (some a) n c hv (by simpa using h2' he)
  exact .iC hv1 (.same (by simpa using h2' he) R (by simpa using hv2))
theorem aDM (op:BinOp) (t ty:TypeId) (x y:Operand) (r:j6) (et:TypeId) (sz:Nat) (es:List (List aC)) (tt:Bool) (ho:o.op=.binOp op t x y ty) (ht:fE P t=some r) (hd:r.d=.slice et) (hx:ρ x=.sl sz es tt) (hy:ρ y=.aW)
  (hop:op=.eql∨op=.neq) (h1:es=[]->K (.bool (op == .eql)) h) (h2:K (.bool (op != .eql)) h):l9 P o ρ h K :=
 vC op t ty x y r et (es=[]) True ho ht hd (λE w v hr=>by
  rw[hx]at hr
  cases v <;> try(cases hr;done)
  exact⟨_,_,_,rfl,λq=>by subst q;cases hr <;> rfl,λ_=>trivial⟩) hy hop h1 λ_=>h2
theorem aA3 (op:BinOp) (t ty:TypeId) (x y:Operand) (r:j6) (et:TypeId) (m sz i len:Nat) (ho:o.op=.binOp op t x y ty) (ht:fE P t=some r) (hd:r.d=.slice et) (hx:ρ x=.os m sz i len) (hy:ρ y=.aW)
  (hop:op=.eql∨op=.neq) (h1:len=0->K (.bool (op == .eql)) h) (h2:K (.bool (op != .eql)) h):l9 P o ρ h K :=
 vC op t ty x y r et (len=0) True ho ht hd (λE w v hr=>by
  rw[hx]at hr
  cases v <;> try(cases hr;done)
  exact⟨_,_,_,rfl,λq=>by subst q;cases hr;rfl,λ_=>trivial⟩) hy hop h1 λ_=>h2
theorem aA4 (op:BinOp) (t ty:TypeId) (x y:Operand) (r:j6) (et:TypeId) (ho:o.op=.binOp op t x y ty) (ht:fE P t=some r) (hd:r.d=.slice et) (hx:ρ x=.aW) (hy:ρ y=.aW)
  (hop:op=.eql∨op=.neq) (h1:K (.bool (op == .eql)) h):l9 P o ρ h K :=
 vC op t ty x y r et True False ho ht hd (λE w v hr=>by
  rw[hx]at hr
  cases v <;> try(cases hr;done)
  exact⟨_,_,_,rfl,λ_=>trivial,λq=>by cases hr;exact q rfl⟩) hy hop (λ_=>h1) λq=>q.elim
def uE (P:Program) (t:TypeId):Bool:=match P.underlying t with|some (.interface _)=>true|_=>false
def rD:Operand->Bool | .const _=>true|_=>false
theorem sT (op:BinOp) (t ty:TypeId) (x y:Operand) (b:Bool) (ho:o.op=.binOp op t x y ty) (hi:uE P t=true) (hc:rD y=true) (hx:(ρ x=.gX/\b=true)∨(∃ ti xi,ρ x=.iface ti xi)/\b=false) (hy:ρ y=.gX)
  (hop:op=.eql∨op=.neq) (h1:K (.bool (if op=.eql then b else !b)) h):l9 P o ρ h K:=by
 intro E w ρc R hρ
 have hyv:ρc y=.nilIface:=by have:=hy▸hρ y;generalize ρc y=v at this;cases this;rfl
 obtain⟨ms,hu⟩:∃ ms,P.underlying t=some (.interface ms):=by
  unfold uE at hi
  split at hi
  ·exact⟨_,by assumption⟩
  ·cases hi
 have hrun:(underlying t).run P w=.ok (.interface ms) w:=by simp[underlying,hu]
 have hyc:∃ v,y=.const v:=by cases y <;> first|exact⟨_,rfl⟩|(simp[rD]at hc)
 obtain⟨yv,rfl⟩:=hyc
 refine .iC (v:=.bool (if op=.eql then b else !b)) ?_ (.same h1 R (.bool _))
 rcases hx with⟨hx,rfl⟩|⟨⟨ti,xi,hx⟩,rfl⟩
 ·have hxv:ρc x=.nilIface:=by have:=hx▸hρ x;generalize ρc x=v at this;cases this;rfl
  have hg:(eqGuard op t x (.const yv) (ρc x) (ρc (.const yv))).run P w=.ok () w:=by
   rw[hxv,hyv];rcases hop with rfl|rfl <;> simp[eqGuard]
  have aXK:∀ d:Nat,(Op.equalIn (d+1) t .nilIface .nilIface).run P w=.ok true w:=by
   intro d
   simp[Op.equalIn,hrun]
  have key:(Op.equal t .nilIface .nilIface).run P w=.ok true w:=aXK 9999
  rw[hxv,hyv]at hg
  rcases hop with rfl|rfl
  ·simp only[execOp,ho,Sem.run_bind,hxv,hyv,hg,Result.andThen_ok,binOp,key,Sem.run_pure];simp
  ·simp only[execOp,ho,Sem.run_bind,hxv,hyv,hg,Result.andThen_ok,binOp,key,Sem.run_pure];simp
 ·obtain⟨xv,hxv⟩:∃ xv,ρc x=.iface ti xv:=by have:=hx▸hρ x;generalize ρc x=v at this;cases this;exact⟨_,rfl⟩
  have hg:(eqGuard op t x (.const yv) (ρc x) (ρc (.const yv))).run P w=.ok () w:=by
   rw[hxv,hyv];rcases hop with rfl|rfl <;> simp[eqGuard]
  have aXK:∀ d:Nat,(Op.equalIn (d+1) t (.iface ti xv) .nilIface).run P w=.ok false w:=by
   intro d
   simp[Op.equalIn,hrun]
  have key:(Op.equal t (.iface ti xv) .nilIface).run P w=.ok false w:=aXK 9999
  rw[hxv,hyv]at hg
  rcases hop with rfl|rfl
  ·simp only[execOp,ho,Sem.run_bind,hxv,hyv,hg,Result.andThen_ok,binOp,key,Sem.run_pure];simp
  ·simp only[execOp,ho,Sem.run_bind,hxv,hyv,hg,Result.andThen_ok,binOp,key,Sem.run_pure];simp
end
variable {ds:List Deferred}
def eT (P:Program) (f:FuncId):Bool :=
 match P.funcs[f]? with
 |some fn=>fn.body.isSome && !(fn.name == "runtime.NumGoroutine")
 |none=>false
def fH (P:Program) (f:FuncId) (args:List aC) (h:Heap) (K:aC->Heap->Prop):Prop:=eT P f=true/\aJ7 P f args h K
theorem fH.mono {P:Program} {f:FuncId} {args:List aC} {h:Heap} {K K':aC->Heap->Prop} (a:fH P f args h K) (hk:∀ r h',K r h'->K' r h'):fH P f args h K':=⟨a.1,a.2.mono hk⟩
def eX (P:Program) (f:FuncId) (args:List aC) (r:aC):Prop:=∀ h,fH P f args h λr' h'=>r'=r/\h'=h
theorem eX.call {P:Program} {f:FuncId} {args:List aC} {r:aC} (a:eX P f args r) {h:Heap} {K:aC->Heap->Prop} (hk:K r h):fH P f args h K :=
 (a h).mono λ_ _ ⟨e,e'⟩=>e▸e'▸hk
section
variable {P:Program} {o:Oper} {ρ:Operand->aC} {h:Heap} {K:aC->Heap->Prop}
theorem aXL (f:Operand) (as:Array Operand) (ats:Array TypeId) (g:FuncId) (first cap:List aC) (ho:o.op=.call { callee:=.value f,args:=as,argTypes:=ats }) (hf:ρ f=.fn (.func g) first cap)
  (hk:fH P g (first++as.toList.map ρ++cap) h K):l9 P o ρ h K:=by
 intro E w ρc R hρ
 have hr:=hρ f
 rw[hf]at hr
 obtain⟨hc,hk⟩:=hk
 cases hv:ρc f <;> rw[hv]at hr <;> try(cases hr;done)
 cases hr with
 |fn _ _ _ vs us hl hrr hl' hrr' =>
  have hL:=(cU.append (cU.append (cU.mk hl hrr) (aAX hρ as.toList)) (cU.mk hl' hrr'))
  unfold eT at hc
  cases hfn:P.funcs[g]? with
  |none=>simp[hfn]at hc
  |some fn =>
   simp only[hfn,lH,aPP,beq_eq_false_iff_ne,ne_eq]at hc
   have hb:fn.body.isNone=false:=by cases hb:fn.body <;> simp_all
   have hrun:(execOp ρc o).run P w=.ok (.enter g (vs++as.toList.map ρc++us).toArray) w:=by
    have hb':¬fn.body=none:=by intro e;simp[e]at hb
    simp[execOp,ho,resolve,hv,Deferred.ofValue,invoke,callFunc,hfn,hc.2]
    rw[if_neg hb']
    congr 2
    apply Array.ext'
    simp
   unfold uB
   rw[hrun]
   exact Calls.mono (hk E w _ R hL) λe w' he=>by cases e <;> exact he
end
abbrev bE:=List (Nat×aC)
def cE:bE->Nat->aC
 | [],_=>.any
 |(j,v)::r,k=>if j=k then v else cE r k
def rV (τ:bE):Operand->aC
 | .tmp t=>cE τ t
 | .const v=>.ofValue v
 | .global _=>.any
 | .func f=>.fn (.func f) [] []
def eZ (τ:bE) (d:Option Tmp) (v:aC):bE :=
 match d with
 |some d=>(d,v)::τ
 |none=>τ
def prune (keep:List Nat) (τ:bE):bE:=keep.map λk=>(k,cE τ k)
structure tQ (ds:List Deferred) (E:Env) (h:Heap) (w:World) (N:Nat) (τ:bE) (a:Act):Prop where
 size:a.tmps.size=N
 defers:a.defers=ds
 get:∀ k,dU E h w (cE τ k) (a.tmps.getD k undef)
theorem tQ.rV {E:Env} {h:Heap} {w:World} {N:Nat} {τ:bE} {a:Act} (r:tQ ds E h w N τ a) (x:Operand):dU E h w (rV τ x) (a.eval x):=by
 cases x with
 |tmp t=>exact r.get t
 |const v=>exact .ofValue _ _ _ _
 |global g=>exact .any _
 |func f =>
  have:=dU.fn (E:=E) (h:=h) (w:=w) (.func f) [] [] [] [] rfl cK rfl cK
  exact this
theorem tQ.put {E:Env} {h:Heap} {w:World} {N:Nat} {τ:bE} {a:Act} (r:tQ ds E h w N τ a) (d:Option Tmp) (hd:∀ k,d=some k->k<N) {x:aC} {v:Value} (hx:dU E h w x v) :
  tQ ds E h w N (eZ τ d x) (a.put d v):=by
 cases d with
 |none=>exact r
 |some d =>
  have hlt:d<a.tmps.size:=by rw[r.size];exact hd d rfl
  refine⟨by simpa[Act.put]using r.size,r.defers,λk=>?_⟩
  simp only[eZ,cE,Act.put]
  by_cases e:d=k
  ·subst e
   simp[hlt];exact hx
  ·rw[if_neg e]
   have:=r.get k
   simpa[aPN e]using this
theorem tQ.ev {E E':Env} {h h':Heap} {w w':World} {N:Nat} {τ:bE} {a:Act} (r:tQ ds E h w N τ a) (ev:Ev E h w E' h' w'):tQ ds E' h' w' N τ a :=
 ⟨r.size,r.defers,λk=>(r.get k).ev ev⟩
theorem aPX (keep:List Nat) (τ:bE) (k:Nat):cE (prune keep τ) k=.any∨cE (prune keep τ) k=cE τ k:=by
 induction keep with
 |nil=>exact .inl rfl
 |cons j keep ih =>
  simp only[prune,qH,cE]
  by_cases e:j=k
  ·subst e;simp
  ·rw[if_neg e];exact ih
theorem tQ.prune {E:Env} {h:Heap} {w:World} {N:Nat} {τ:bE} {a:Act} (keep:List Nat) (r:tQ ds E h w N τ a):tQ ds E h w N (prune keep τ) a :=
 ⟨r.size,r.defers,λk=>by
  rcases aPX keep τ k with e|e
  ·rw[e];exact .any _
  ·rw[e];exact r.get k⟩
def qO (ds:List Deferred) (N:Nat) (Q:Exit->bE->Heap->Prop) (E:Env) (h:Heap) (w:World) (e:Exit) (a':Act) (w':World):Prop :=
 ∃ τ' h' E',Q e τ' h'/\Ev E h w E' h' w'/\Rel E' h' w'/\tQ ds E' h' w' N τ' a'
def nV (P:Program) (N:Nat) (c:Code) (Q:Exit->bE->Heap->Prop) (τ:bE) (h:Heap):Prop :=
 ∀ (ds:List Deferred) E w a,Rel E h w->tQ ds E h w N τ a->Code.wp P c (qO ds N Q E h w) a w
theorem qO.trans {N:Nat} {Q:Exit->bE->Heap->Prop} {E E':Env} {h h':Heap} {w w':World} {e:Exit} {a:Act} {w'':World} (ev:Ev E h w E' h' w') (x:qO ds N Q E' h' w' e a w''):qO ds N Q E h w e a w'' :=
 let ⟨τ,g,F,q,ev',R,r⟩:=x;⟨τ,g,F,q,ev.trans ev',R,r⟩
theorem nV.mono {P:Program} {N:Nat} {c:Code} {Q Q':Exit->bE->Heap->Prop} {τ:bE} {h:Heap} (hq:∀ e τ h,Q e τ h->Q' e τ h) (x:nV P N c Q τ h):nV P N c Q' τ h :=
 λds E w a R r=>Code.wp_mono (λe a' w' ⟨τ',h',E',q,rest⟩=>⟨τ',h',E',hq _ _ _ q,rest⟩) (x ds E w a R r)
theorem nV.prune {P:Program} {N:Nat} {c:Code} {Q:Exit->bE->Heap->Prop} {τ:bE} {h:Heap} (keep:List Nat) (x:nV P N c Q (prune keep τ) h):nV P N c Q τ h :=
 λds E w a R r=>x ds E w a R (r.prune keep)
theorem nV.forget {P:Program} {N:Nat} {c:Code} {Q:Exit->bE->Heap->Prop} {τ:bE} {h g:Heap} (hl:g.le h) (x:nV P N c Q τ g):nV P N c Q τ h :=
 λds E w a R r=>Code.wp_mono (λe a' w' y=>qO.trans ((Ev.refl E h w).forget hl) y) (x ds E w a (R.forget hl) (r.ev ((Ev.refl E h w).forget hl)))
theorem nV.skip {P:Program} {N:Nat} {Q:Exit->bE->Heap->Prop} {τ:bE} {h:Heap} (hq:Q .normal τ h):nV P N .skip Q τ h :=
 λds E w a R r=>wp_skip ⟨τ,h,E,hq,.refl _ _ _,R,r⟩
theorem nV.exit {P:Program} {N id:Nat} {Q:Exit->bE->Heap->Prop} {τ:bE} {h:Heap} (hq:Q (.exit id) τ h):nV P N (.exit id) Q τ h :=
 λds E w a R r=>wp_exit ⟨τ,h,E,hq,.refl _ _ _,R,r⟩
theorem nV.ret {P:Program} {N:Nat} {Q:Exit->bE->Heap->Prop} {τ:bE} {h:Heap} (hq:Q .ret τ h):nV P N .ret Q τ h :=
 λds E w a R r=>wp_ret ⟨τ,h,E,hq,.refl _ _ _,R,r⟩
def uF (next:bE->Heap->Prop) (Q:Exit->bE->Heap->Prop):Exit->bE->Heap->Prop
 | .normal,τ,h=>next τ h
 | .outgrown,_,_=>False
 |e,τ,h=>Q e τ h
theorem nV.seq {P:Program} {N:Nat} {x y:Code} {Q:Exit->bE->Heap->Prop} {τ:bE} {h:Heap} (hx:nV P N x (uF (nV P N y Q) Q) τ h):nV P N (.seq x y) Q τ h:=by
 intro ds E w a R r
 refine wp_seq (Code.wp_mono ?_ (hx ds E w a R r))
 rintro e a' w' ⟨τ',h',E',q,ev,R',r'⟩
 cases e <;> simp only[uF]at q
 ·simp only[Exit.then]
  exact Code.wp_mono (λe a w y=>qO.trans ev y) (q ds E' w' a' R' r')
 all_goals first|exact q.elim|exact⟨τ',h',E',q,ev,R',r'⟩
theorem nV.cond {P:Program} {N:Nat} {c:Operand} {x y:Code} {Q:Exit->bE->Heap->Prop} {τ:bE} {h:Heap} {b:Bool} (hc:rV τ c=.bool b)
  (ht:b=true->nV P N x Q τ h) (hf:b=false->nV P N y Q τ h):nV P N (.cond c x y) Q τ h:=by
 intro ds E w a R r
 have:=r.rV c
 rw[hc]at this
 exact wp_cond_split (pY this) (λe=>ht e ds E w a R r) (λe=>hf e ds E w a R r)
def aKD (id:Nat) (Q:Exit->bE->Heap->Prop):Exit->bE->Heap->Prop
 | .exit id',τ,h=>if id'=id then Q .normal τ h else Q (.exit id') τ h
 | .outgrown,_,_=>False
 |e,τ,h=>Q e τ h
theorem nV.block {P:Program} {N id:Nat} {c:Code} {Q:Exit->bE->Heap->Prop} {τ:bE} {h:Heap} (hx:nV P N c (aKD id Q) τ h):nV P N (.block id c) Q τ h:=by
 intro ds E w a R r
 refine wp_block (Code.wp_mono ?_ (hx ds E w a R r))
 rintro e a' w' ⟨τ',h',E',q,ev,R',r'⟩
 cases e <;> simp only[aKD]at q <;> simp only[Exit.inBlock]
 case exit id' =>
  split
  ·rename_i e;rw[if_pos e]at q;exact⟨τ',h',E',q,ev,R',r'⟩
  ·rename_i e;rw[if_neg e]at q;exact⟨τ',h',E',q,ev,R',r'⟩
 all_goals first|exact q.elim|exact⟨τ',h',E',q,ev,R',r'⟩
theorem nV.loop {P:Program} {N:Nat} {c:Code} {Q:Exit->bE->Heap->Prop} {τ:bE} {h:Heap} {α:Type} (I:α->bE->Heap->Prop) (μ:α->Nat) (x₀:α) (h₀:I x₀ τ h)
  (round:∀ x τ h,I x τ h->nV P N c (uF (λτ' h'=>∃ x',I x' τ' h'/\μ x'<μ x) Q) τ h):nV P N (.loop c) Q τ h:=by
 intro ds E w a R r
 have key:∀ n x τ₁ h₁ E₁ a₁ w₁,μ x=n->I x τ₁ h₁->Ev E h w E₁ h₁ w₁->Rel E₁ h₁ w₁->tQ ds E₁ h₁ w₁ N τ₁ a₁->∀ b k cs,
   ∃ e a' w',qO ds N Q E h w e a' w'/\Arrives P (lone (b.at a₁ (.code c::.inLoop c::k)) cs w₁) b k cs e a' w':=by
  intro n
  induction n using Nat.strongRecOn with
  | _ n ih =>
   intro x τ₁ h₁ E₁ a₁ w₁ hn hI ev₁ R₁ r₁ b k cs
   obtain⟨e,a₂,w₂,⟨τ₂,h₂,E₂,q,ev₂,R₂,r₂⟩,harr⟩:=round x τ₁ h₁ hI ds E₁ w₁ a₁ R₁ r₁ b (.inLoop c::k) cs
   cases e with
   |normal =>
    obtain⟨x',hI',hlt⟩:=q
    obtain⟨e₃,a₃,w₃,q₃,harr₃⟩:=ih (μ x') (hn▸hlt) x' τ₂ h₂ E₂ a₂ w₂ rfl hI' (ev₁.trans ev₂) R₂ r₂ b k cs
    exact⟨e₃,a₃,w₃,q₃,.of_steps (Steps.trans harr (.one step_inLoop)) harr₃⟩
   |outgrown=>exact q.elim
   |exit id=>exact⟨_,a₂,w₂,⟨τ₂,h₂,E₂,q,ev₁.trans ev₂,R₂,r₂⟩,.pass (x:=.inLoop c) rfl (λ_ _=>.inl cK) harr⟩
   |goto l=>exact⟨_,a₂,w₂,⟨τ₂,h₂,E₂,q,ev₁.trans ev₂,R₂,r₂⟩,.pass (x:=.inLoop c) rfl (λ_ _=>.inl cK) harr⟩
   |ret=>exact⟨_,a₂,w₂,⟨τ₂,h₂,E₂,q,ev₁.trans ev₂,R₂,r₂⟩,.pass (x:=.inLoop c) rfl (λ_ _=>.inl cK) harr⟩
   |panic ch=>exact⟨_,a₂,w₂,⟨τ₂,h₂,E₂,q,ev₁.trans ev₂,R₂,r₂⟩,.pass (x:=.inLoop c) rfl (λ_ _=>.inl cK) harr⟩
 intro b k cs
 obtain⟨e,a',w',q,harr⟩:=key _ x₀ τ h E a w rfl h₀ (.refl _ _ _) R r b k cs
 exact⟨e,a',w',q,.of_steps (.one step_loop) harr⟩
def isB:aC->Bool
 | .bool _=>true
 | _=>false
def oO (P:Program):Nat->List Field->Option (List Bool)
 | _,[]=>some []
 |i,f::fs=>if f.name != "_" && f.offset == i then(match P.underlying f.type with|some (.int _)=>(oO P (i+1) fs).map (false::·)|some .bool=>(oO P (i+1) fs).map (true::·)|_=>none)else none
def aM4 (P:Program) (t:TypeId):Option (List Bool) :=
 if !P.stoodInHeld t && !P.eqGuardType P.depth t then(match P.underlying t with|some (.struct fs)=>oO P 0 fs.toList|_=>none)else none
def nW:List aC->List aC->Option Bool
 | [],[]=>some true
 | .int k a::xs,.int k' b::ys=>if k=k' then(nW xs ys).map (decide (a=b) && ·)else none
 | .bool a::xs,.bool b::ys=>(nW xs ys).map ((a == b) && ·)
 | _,_=>none
theorem aIB {P:Program} {i:Nat} {f:Field} {fs:List Field} {q:Bool} {l:List Bool} (h:oO P i (f::fs)=some (q::l)) :
  f.name≠"_"/\f.offset=i/\oO P (i+1) fs=some l/\P.plainKey f.type=true/\(q=false->∃ k,P.underlying f.type=some (.int k))/\(q=true->P.underlying f.type=some .bool):=by
 rw[oO]at h
 split at h
 ·rename_i hc
  rw[lH]at hc
  refine⟨by simpa using hc.1,by simpa using hc.2,?_⟩
  split at h
  ·rename_i k e
   obtain⟨r,hr,he⟩:=nJ.1 h
   cases he
   exact⟨hr,by simp[Program.plainKey,e],λ_=>⟨k,e⟩,λq=>by cases q⟩
  ·rename_i e
   obtain⟨r,hr,he⟩:=nJ.1 h
   cases he
   exact⟨hr,by simp[Program.plainKey,e],λq=>by(cases q),λ_=>e⟩
  ·cases h
 ·cases h
theorem sU {P:Program} {E:Env} {h:Heap} {w:World} (d:Nat) (X Y:List Value):∀ (fs:List Field) (i:Nat) (xs ys:List aC) (b:Bool),oO P i fs=some (xs.map isB)->nW xs ys=some b ->
  (∀ j x,xs[j]?=some x->∃ v,X[i+j]?=some v/\dU E h w x v)->(∀ j y,ys[j]?=some y->∃ v,Y[i+j]?=some v/\dU E h w y v)->(Op.eqFields (d+1) X.toArray Y.toArray fs).run P w=.ok b w
 | [],i,xs,ys,b,hf,he,hx,hy=>by
  rw[oO]at hf
  have hn:xs=[]:=by have:=eO hf;exact(List.map_eq_nil_iff.1 this.symm)
  subst hn
  cases ys with
  |cons y ys=>simp[nW]at he
  |nil =>
   obtain rfl:=eO he
   simp[Op.eqFields]
 |f::fs,i,xs,ys,b,hf,he,hx,hy=>by
  have step:∀ (x y:aC) (xs' ys':List aC) (r q:Bool),xs=x::xs'->ys=y::ys'->nW xs' ys'=some r->b=(q && r) ->
    (∀ v u,dU E h w x v->dU E h w y u->(∀ k,isB x=false->P.underlying f.type=some (.int k)->(Op.equalIn (d+1) f.type v u).run P w=.ok q w)/\(isB x=true->P.underlying f.type=some .bool->(Op.equalIn (d+1) f.type v u).run P w=.ok q w))->(Op.eqFields (d+1) X.toArray Y.toArray (f::fs)).run P w=.ok b w:=λx y xs' ys' r q ex ey hr hb hq=>by
   subst ex;subst ey;subst hb
   obtain⟨v,v1,v2⟩:=hx 0 _ rfl
   obtain⟨u,u1,u2⟩:=hy 0 _ rfl
   obtain⟨hn,ho,h4,hpk,k1,k2⟩:=aIB hf
   have ih:=sU (P:=P) d X Y fs (i+1) xs' ys' r h4 hr (λj x hj=>by rw[show i+1+j=i+(j+1)by omega];exact hx (j+1) x hj) (λj x hj=>by rw[show i+1+j=i+(j+1)by omega];exact hy (j+1) x hj)
   have p1:=run_part_plain (P:=P) w hpk (xs:=X.toArray) (off:=f.offset) (v:=v) (by rw[ho];simpa using v1)
   have p2:=run_part_plain (P:=P) w hpk (xs:=Y.toArray) (off:=f.offset) (v:=u) (by rw[ho];simpa using u1)
   have he':(Op.equalIn (d+1) f.type v u).run P w=.ok q w:=by
    cases hb:isB x with
    |false=>obtain⟨k,hk⟩:=k1 hb;exact(hq v u v2 u2).1 k hb hk
    |true=>exact(hq v u v2 u2).2 hb (k2 hb)
   simp only[Op.eqFields,hn,ne_eq,not_false_eq_true,if_true,Sem.run_bind,p1,p2,he',Result.andThen_ok]
   cases q
   ·simp
   ·simpa using ih
  match xs,ys,he,step with
  | .int k a::xs,.int k' c::ys,he,step =>
   rw[nW]at he
   split at he
   ·rename_i hk
    subst hk
    obtain⟨r,hr,rfl⟩:=nJ.1 he
    refine step _ _ xs ys r (decide (a=c)) rfl rfl hr rfl λv u hv hu=>⟨λk'' _ e=>?_,λq _=>by simp[isB]at q⟩
    rw[fS hv,fS hu,run_equalIn_int w d f.type k k'' a c e]
    rw[show(a == c)=decide (a=c)from Bool.eq_iff_iff.2 (by rw[beq_iff_eq,decide_eq_true_eq])]
   ·cases he
  | .bool a::xs,.bool c::ys,he,step =>
   rw[nW]at he
   obtain⟨r,hr,rfl⟩:=nJ.1 he
   refine step _ _ xs ys r (a == c) rfl rfl hr rfl λv u hv hu=>⟨λk'' q _=>by simp[isB]at q,λ_ e=>?_⟩
   rw[pY hv,pY hu,run_equalIn_bool' w d f.type a c e]
  | [],[],he,step =>
   exfalso
   rw[oO]at hf
   split at hf
   ·split at hf
    ·obtain⟨r,_,q⟩:=nJ.1 hf;cases q
    ·obtain⟨r,_,q⟩:=nJ.1 hf;cases q
    ·cases hf
   ·cases hf
section
variable {P:Program} {o:Oper} {ρ:Operand->aC} {h:Heap} {K:aC->Heap->Prop}
theorem aDN (op:BinOp) (t ty:TypeId) (x y:Operand) (xs ys:List aC) (b:Bool) (v:aC) (ho:o.op=.binOp op t x y ty) (ht:aM4 P t=some (xs.map isB)) (hb:nW xs ys=some b) (hx:ρ x=.agg xs) (hy:ρ y=.agg ys)
  (hop:(op=.eql/\v=.bool b)∨(op=.neq/\v=.bool !b)) (hk:K v h):l9 P o ρ h K :=
 bV hk λE w ρc R hρ=>by
  have rx:=hx▸hρ x
  have ry:=hy▸hρ y
  generalize ex:ρc x=vx at rx
  generalize ey:ρc y=vy at ry
  cases rx with
  |agg _ X hX rX =>
   cases ry with
   |agg _ Y hY rY =>
    unfold aM4 at ht
    split at ht
    ·rename_i hc
     rw[lH]at hc
     have hs:P.stoodInHeld t=false:=by simpa using hc.1
     have hm:P.eqGuardType P.depth t=false:=by simpa using hc.2
     split at ht
     ·rename_i fs hu
      have hfo:P.fieldsOf t=fs:=by simp[Program.fieldsOf,hu]
      have hg:=run_eqGuard_agg (P:=P) w op t x y X.toArray Y.toArray hm
      have he:(Op.equalIn 10000 t (.agg X.toArray) (.agg Y.toArray)).run P w=.ok b w:=by
       rw[run_equalIn_agg w 9999 t _ _ (by rw[hfo];exact hu) hs,hfo]
       exact sU 9998 X Y fs.toList 0 xs ys b ht hb (λj z hz=>by
        obtain⟨v,hv⟩:∃ v,X[j]?=some v:=⟨_,cP (by rw[←hX];exact(jQ.1 hz).1)⟩
        exact⟨v,by rw[aD3];exact hv,rX j z v hz hv⟩) (λj z hz=>by
        obtain⟨v,hv⟩:∃ v,Y[j]?=some v:=⟨_,cP (by rw[←hY];exact(jQ.1 hz).1)⟩
        exact⟨v,by rw[aD3];exact hv,rY j z v hz hv⟩)
      rcases hop with⟨rfl,rfl⟩|⟨rfl,rfl⟩
      ·exact⟨.bool b,by simp only[execOp,ho,Sem.run_bind,ex,ey,hg,Result.andThen_ok,run_eql_struct,he,Sem.run_pure],.bool _⟩
      ·exact⟨.bool !b,by simp only[execOp,ho,Sem.run_bind,ex,ey,hg,Result.andThen_ok,run_neq_struct,he,Sem.run_pure],.bool _⟩
     ·cases ht
    ·cases ht
end
def kA (P:Program) (t:TypeId):Option j6 :=
 match fE P t with
 |some r=>match r.d with
  | .slice et=>fE P et
  | _=>none
 |none=>none
theorem kS {P:Program} {t:TypeId} {re:j6} (h:kA P t=some re):∃ r et,fE P t=some r/\r.d=.slice et/\fE P et=some re:=by
 unfold kA at h
 split at h
 ·rename_i r hr
  split at h
  ·rename_i et hd;exact⟨r,et,hr,hd,h⟩
  ·simp at h
 ·simp at h
def wJ (P:Program) (t:TypeId):Option TyD:=(fE P t).map (·.d)
theorem iP {P:Program} {t:TypeId} {d:TyD} (h:wJ P t=some d):∃ r,fE P t=some r/\r.d=d:=by
 unfold wJ at h
 obtain⟨r,hr,rfl⟩:=nJ.1 h
 exact⟨r,hr,rfl⟩
def e7 (P:Program) (op:BinOp) (t:TypeId) (x y:aC) (K:aC->Prop):Prop :=
 match x,y with
 | .bool a,.bool b=>wJ P t=some .bool/\(match op with | .eql=>K (.bool (a == b)) | .neq=>K (.bool (a != b))|_=>False)
 | .int k a,.int k' b =>
  match op with
  | .quo=>k=k'/\b≠0/\K (.int k (k.wrap (a.tdiv b)))
  | .rem=>k=k'/\b≠0/\K (.int k (a.tmod b))
  | .shl=>0<=b/\K (.int k (k.wrap (a*2 ^ (min b.toNat k.bits))))
  | .shr=>0<=b/\K (.int k (a.fdiv (2 ^ (min b.toNat k.bits))))
  |op=>match lI op (.int k a) (.int k' b)with|some v=>K v|none=>False
 | .str a,.str b =>
  match op with
  | .add=>a.length+b.length<=9223372036854775807/\K (.str (a++b))
  | .eql=>K (.bool (decide (a=b)))
  | .neq=>K (.bool (!decide (a=b)))
  |op=>match aPW op a b with|some c=>K (.bool c)|none=>False
 | .agg xs,.agg ys=>aM4 P t=some (xs.map isB)/\(match op,nW xs ys with | .eql,some b=>K (.bool b) | .neq,some b=>K (.bool !b)|_,_=>False)
 |x,y=>match lI op x y with|some v=>K v|none=>False
def uG (P:Program) (op:BinOp) (t:TypeId) (x y:aC) (K:aC->Prop):Prop :=
 match x,y with
 | .sl _ es _,.aW=>(match wJ P t with|some (.slice _)=>True|_=>False)/\(match op with | .eql=>(es=[]->K (.bool true))/\K (.bool false) | .neq=>(es=[]->K (.bool false))/\K (.bool true)|_=>False)
 | .os _ _ _ len,.aW=>(match wJ P t with|some (.slice _)=>True|_=>False)/\(match op with | .eql=>(len=0->K (.bool true))/\K (.bool false) | .neq=>(len=0->K (.bool false))/\K (.bool true)|_=>False)
 | .aW,.aW=>(match wJ P t with|some (.slice _)=>True|_=>False)/\(match op with | .eql=>K (.bool true) | .neq=>K (.bool false)|_=>False)
 |x,y=>e7 P op t x y K
def uH (P:Program) (op:BinOp) (t:TypeId) (c:Bool) (x y:aC) (K:aC->Prop):Prop :=
 match c,x,y with
 |true,.gX,.gX=>uE P t=true/\(match op with | .eql=>K (.bool true) | .neq=>K (.bool false)|_=>False)
 |true,.iface _ _,.gX=>uE P t=true/\(match op with | .eql=>K (.bool false) | .neq=>K (.bool true)|_=>False)
 | _,x,y=>uG P op t x y K
def aCI (op:UnOp) (x:aC) (K:aC->Prop):Prop :=
 match op,x with
 | .not,.bool b=>K (.bool (!b))
 | .neg,.int k n=>K (.int k (k.wrap (0-n)))
 | _,_=>False
def aCJ (d:Option TyD) (f:Nat) (x:aC) (K:aC->Prop):Prop :=
 match d with
 |some (.st fs)=>match fs[f]? with
  |some (off,_,sz')=>sz'≠0/\(match x with
   | .op n sz i k=>K (.op n sz i (k+off))
   | .ip sz es i k=>K (.ip sz es i (k+off))
   | _=>False)
  |none=>False
 | _=>False
def aCK (re:Option j6) (x i:aC) (K:aC->Prop):Prop :=
 match re with
 |some re=>match x,i with
  | .sl sz es _,.int _ n=>re.sz=sz/\0<=n/\n<es.length/\K (.ip sz es n.toNat 0)
  | .os m sz i0 len,.int _ n=>re.sz=sz/\0<=n/\n<len/\K (.op m sz (i0+n.toNat) 0)
  | _,_=>False
 |none=>False
def zO (d:Option TyD) (x i:aC) (K:aC->Prop):Prop :=
 match d,x,i with
 |some .str,.str s,.int _ n=>0<=n/\(match s[n.toNat]? with|some c=>K (.int .u8 c.toNat)|none=>False)
 | _,_,_=>False
def iL (r:Option j6) (a:aC) (h:Heap) (K:aC->Prop):Prop :=
 match r with
 |some r=>match a with
  | .ip _ es i off=>match es[i]? with
   |some e=>match ld r e off with
    |some x=>K x
    |none=>False
   |none=>False
  | .op n sz i off=>match h n with
   |some (.row sz' es)=>sz'=sz/\(match es[i]? with
    |some e=>match aDH r e off with
     |some x=>K x
     |none=>False
    |none=>False)
   | _=>False
  | _=>False
 |none=>False
def aKE (r:Option j6) (a v:aC) (h:Heap) (K:Heap->Prop):Prop :=
 match r with
 |some r=>match a with
  | .op n sz i off=>match h n with
   |some (.row sz' es)=>sz'=sz/\(match es[i]? with
    |some e=>v.cells.all aC.flat=true/\v.cells.length=r.sz/\off+r.sz<=e.length/\K (aR h n (.row sz (es.set i (nF e off v.cells))))
    |none=>False)
   | _=>False
  | _=>False
 |none=>False
def aCL (r:Option j6) (h:Heap) (K:aC->Heap->Prop):Prop :=
 match r with
 |some r=>r.zero≠[]/\r.zero.all aC.flat=true/\∀ n,h n=none->K (.op n r.zero.length 0 0) (aR h n (.row r.zero.length [r.zero.map .v]))
 |none=>False
def aSH (x:aC) (h:Heap) (K:aC->Heap->Prop):Prop :=
 x.cells.all aC.flat=true/\∀ n,h n=none->K (.op n x.cells.length 0 0) (aR h n (.row x.cells.length [x.cells.map .v]))
def a7O (t:TypeId):Bool:=match aXC with|none=>false|some r=>decide (t=r)
def aSI (t:TypeId) (x:aC) (h:Heap) (K:aC->Heap->Prop):Prop :=
 x.cells=[.gV,.aW]/\∀ n,h n=none->K (.op n 2 0 0) (aR h n (.raw t #[.pointer none,.slice none 0 0]))
def aFQ (re:Option j6) (l c:aC) (h:Heap) (K:aC->Heap->Prop):Prop :=
 match re with
 |some re=>match l,c with
  | .int _ a,.int _ b=>re.zero.length=re.sz/\0<re.sz/\re.zero.all aC.flat=true/\0<=a/\a<=b/\b<=281474976710656/\re.bytes*b<=281474976710656 /\
    ∀ n,h n=none->K (.os n re.sz 0 a.toNat) (aR h n (.row re.sz ((List.replicate b.toNat re.zero).map (List.map .v))))
  | _,_=>False
 |none=>False
def lE (P:Program) (t:TypeId) (x:aC) (lo hi:Option aC) (K:aC->Prop):Prop :=
 match x with
 | .str s=>wJ P t=some .str/\(match iK 0 lo,iK s.length hi with
  |some l,some m=>0<=l/\l<=m/\m<=s.length/\K (.str ((s.take m.toNat).drop l.toNat))
  | _,_=>False)
 | .sl sz es tg=>match kA P t with
  |some re=>re.sz=sz/\(match iK 0 lo,iK es.length hi with
   |some l,some m=>0<=l/\l<=m/\m<=es.length/\K (.sl sz ((es.take m.toNat).drop l.toNat) (tg && decide (m=es.length)))
   | _,_=>False)
  |none=>False
 | .os n sz i len=>match kA P t with
  |some re=>re.sz=sz/\(match iK 0 lo,iK len hi with
   |some l,some m=>0<=l/\l<m/\m<=len/\K (.os n sz (i+l.toNat) (m.toNat-l.toNat))
   | _,_=>False)
  |none=>False
 | _=>False
def pK (P:Program) (t:TypeId) (x:aC) (lo hi:Option aC) (K:aC->Prop):Prop :=
 match x,hi with
 | .os n sz i len,none=>(match kA P t with
  |some re=>re.sz=sz/\(match iK 0 lo with
   |some l=>0<=l/\l<=len/\(l<len->K (.os n sz (i+l.toNat) (len-l.toNat)))/\(l=len->K (.os n sz (i+len) 0)/\K (.sl sz [] true))
   |none=>False)
  |none=>False)
 |x,hi=>lE P t x lo hi K
def nK (P:Program) (t:TypeId) (x:aC) (lo:Option aC) (hi mx:aC) (K:aC->Prop):Prop :=
 match x with
 | .sl sz es tg=>match kA P t with
  |some re=>re.sz=sz/\(match iK 0 lo,iK es.length (some hi),iK 0 (some mx)with
   |some l,some m,some M=>0<=l/\l<=m/\m<=M/\M<=es.length/\K (.sl sz ((es.take m.toNat).drop l.toNat) (decide (M=m)))
   | _,_,_=>False)
  |none=>False
 | _=>False
def aKF (P:Program) (t:Option TypeId) (x:aC) (K:aC->Prop):Prop :=
 match t with
 |some t=>match wJ P t,x with
  |some (.slice _),.sl _ es _=>es.length<=9223372036854775807->K (.int .i64 es.length)
  |some (.slice _),.os _ _ _ n=>n<=9223372036854775807->K (.int .i64 n)
  |some (.slice _),.aW=>K (.int .i64 0)
  |some .str,.str s=>s.length<=9223372036854775807->K (.int .i64 s.length)
  | _,_=>False
 |none=>False
def rK (P:Program) (r:Option j6) (ps:List (Nat×aC)) (K:aC->Prop):Prop :=
 match r with
 |some r=>xB P r.d=true/\r.zero≠[]/\vB (places P r.d) r.zero.length ps=true/\K (.agg (aFO (places P r.d) r.zero ps))
 |none=>False
def rW (re:Option j6) (len:Nat) (ps:List (Nat×aC)) (K:Nat->List (List aC)->Prop):Prop :=
 match re with
 |some re=>re.zero.length=re.sz/\0<re.sz/\re.zero.all aC.flat=true/\len*re.sz<=16777216/\pJ len re.sz ps=true/\K re.sz (rU (List.replicate len re.zero) ps)
 |none=>False
def vD (P:Program) (re:Option j6) (t1:Option TypeId) (x y:aC) (h:Heap) (K:aC->Heap->Prop):Prop :=
 match re with
 |some re=>re.zero.length=re.sz/\0<re.sz/\w6 P t1=true/\(match x with
  | .os n sz i len=>re.sz=sz/\(match h n with
   |some (.row sz' es)=>sz'=sz/\i+len<=es.length/\(match sS h sz y with
    |some ys=>(len+ys.length)*re.bytes<=140737488355328/\len+ys.length<=9223372036854775807 /\
      ∀ b,h b=none->K (.os b sz 0 (len+ys.length)) (aR (aR h n .gone) b (.row sz ((es.drop i).take len++ys.map (List.map .v))))
    |none=>False)
   | _=>False)
  |x=>match aA0 re.sz x,sS h re.sz y with
   |some olds,some ys=>(ys=[]->K x h)/\(ys≠[]->(olds.length+ys.length)*re.bytes<=140737488355328/\olds.length+ys.length<=9223372036854775807 /\
     ∀ n,h n=none->K (.os n re.sz 0 (olds.length+ys.length)) (aR h n (.row re.sz ((olds++ys).map (List.map .v)))))
   | _,_=>False)
 |none=>False
def a13 (P:Program) (t:Option TypeId):Option j6:=match t with|some t=>kA P t|none=>none
def xC (P:Program) (c:Call) (ρ:Operand->aC) (h:Heap) (K:aC->Heap->Prop):Prop :=
 match c with
 | { callee:=.value f,args:=as,argTypes:=_ }=>match ρ f with
  | .fn (.func g) first cap=>fH P g (first++as.toList.map ρ++cap) h K
  | _=>False
 | { callee:=.builtin .len,args:=as,argTypes:=ats }=>match as.toList with
  | [x]=>aKF P ats[0]? (ρ x) λv=>K v h
  | _=>False
 | { callee:=.builtin .max,args:=as,argTypes:=_ }=>match as.toList with
  | [x,y]=>match ρ x,ρ y with
   | .int k a,.int _ b=>(match ρ y with | .int k' _=>k'=k|_=>False)/\K (.int k (max a b)) h
   | _,_=>False
  | _=>False
 | { callee:=.builtin .append,args:=as,argTypes:=ats }=>match as.toList with
  | [x,y]=>vD P (a13 P ats[0]?) ats[1]? (ρ x) (ρ y) h K
  | _=>False
 | _=>False
def xD (P:Program) (s d:TypeId) (x:aC) (K:aC->Prop):Prop :=
 match wJ P d,x with
 |some (.int k'),.int k n=>(wJ P s).isSome=true/\K (.int k' (k'.wrap n))
 |some .str,.sl 1 es _=>(match wJ P s with
  |some (.slice et)=>wJ P et=some (.int .u8)/\(match bytesOf es with|some bs=>K (.str bs)|none=>False)
  | _=>False)
 | _,_=>False
def step (P:Program) (o:Oper) (ρ:Operand->aC) (h:Heap) (K:aC->Heap->Prop):Prop :=
 match o.op with
 | .move x=>K (ρ x) h
 | .assign x=>K (ρ x) h
 | .pick c a b=>match ρ c with
  | .bool t=>(t=true->K (ρ a) h)/\(t=false->K (ρ b) h)
  | _=>False
 | .binOp op t x y _=>uH P op t (rD y) (ρ x) (ρ y) λv=>K v h
 | .unOp op _ x=>aCI op (ρ x) λv=>K v h
 | .convert s d x=>xD P s d (ρ x) λv=>K v h
 | .fieldAddr t x f=>aCJ (wJ P t) f (ρ x) λv=>K v h
 | .indexAddr t x i=>aCK (kA P t) (ρ x) (ρ i) λv=>K v h
 | .index t x i=>zO (wJ P t) (ρ x) (ρ i) λv=>K v h
 | .load t a=>iL (fE P t) (ρ a) h λv=>K v h
 | .store t a v=>aKE (fE P t) (ρ a) (ρ v) h λh'=>K .any h'
 | .alloc t=>aCL (fE P t) h K
 | .box t x=>if a7O t then aSI t (ρ x) h K else aSH (ρ x) h K
 | .makeSlice t l c=>aFQ (kA P t) (ρ l) (ρ c) h K
 | .slice t x lo hi none=>pK P t (ρ x) (lo.map ρ) (hi.map ρ) λv=>K v h
 | .extract t i=>match ρ t with
  | .eW cs=>match cs[i]? with|some x=>K x h|none=>False
  | _=>False
 | .nilCheck x=>match ρ x with
  | .op n sz i k=>K (.op n sz i k) h
  | .ip sz es i k=>K (.ip sz es i k) h
  | _=>False
 | .makeFunc fn fs cs=>K (.fn fn (fs.toList.map ρ) (cs.toList.map ρ)) h
 | .call c=>xC P c ρ h K
 | .build t ps=>rK P (fE P t) (ps.toList.map λp=>(p.1,ρ p.2)) λv=>K v h
 | .buildSlice t len ps=>rW (kA P t) len (ps.toList.map λp=>(p.1,ρ p.2)) λsz es=>∀ n,h n=none->K (.os n sz 0 len) (aR h n (.row sz (es.map (List.map .v))))
 | .slice t x lo (some hi) (some mx)=>nK P t (ρ x) (lo.map ρ) (ρ hi) (ρ mx) λv=>K v h
 | _=>False
section
variable {P:Program} {o:Oper} {ρ:Operand->aC} {h:Heap} {K:aC->Heap->Prop}
theorem aIC (op:BinOp) (t ty:TypeId) (x y:Operand) (ho:o.op=.binOp op t x y ty) (hs:e7 P op t (ρ x) (ρ y) λv=>K v h):l9 P o ρ h K:=by
 have gen:∀ v,lI op (ρ x) (ρ y)=some v->K v h->l9 P o ρ h K:=λv hv hk=>a1T op t ty x y v ho hv hk
 unfold e7 at hs
 split at hs
 ·rename_i a b ex ey
  obtain⟨hd,hs⟩:=hs
  obtain⟨r,hr,hd⟩:=iP hd
  split at hs
  ·exact aAY .eql t ty x y r a b _ ho hr hd ex ey (.inl ⟨rfl,rfl⟩) hs
  ·exact aAY .neq t ty x y r a b _ ho hr hd ex ey (.inr ⟨rfl,rfl⟩) hs
  ·exact hs.elim
 ·rename_i k a k' b ex ey
  split at hs
  ·obtain⟨rfl,hb,hk⟩:=hs
   exact aSC .quo t ty x y k a b _ ho ex ey hb (.inl ⟨rfl,rfl⟩) hk
  ·obtain⟨rfl,hb,hk⟩:=hs
   exact aSC .rem t ty x y k a b _ ho ex ey hb (.inr ⟨rfl,rfl⟩) hk
  ·obtain⟨hb,hk⟩:=hs
   exact aI6 .shl t ty x y k k' a b _ ho ex ey hb (.inl ⟨rfl,rfl⟩) hk
  ·obtain⟨hb,hk⟩:=hs
   exact aI6 .shr t ty x y k k' a b _ ho ex ey hb (.inr ⟨rfl,rfl⟩) hk
  ·split at hs
   ·rename_i v hv;exact gen v (by rw[ex,ey];exact hv) hs
   ·exact hs.elim
 ·rename_i a b ex ey
  split at hs
  ·exact aM2 t ty x y a b ho ex ey hs.1 hs.2
  ·exact gen _ (by rw[ex,ey];rfl) hs
  ·exact gen _ (by rw[ex,ey];rfl) hs
  ·split at hs
   ·rename_i c hc;exact aM3 _ t ty x y a b c ho ex ey hc hs
   ·exact hs.elim
 ·rename_i xs ys ex ey
  obtain⟨ht,hs⟩:=hs
  split at hs
  ·rename_i b hb;exact aDN .eql t ty x y xs ys b _ ho ht hb ex ey (.inl ⟨rfl,rfl⟩) hs
  ·rename_i b hb;exact aDN .neq t ty x y xs ys b _ ho ht hb ex ey (.inr ⟨rfl,rfl⟩) hs
  ·exact hs.elim
 ·split at hs
  ·rename_i v hv;exact gen v hv hs
  ·exact hs.elim
theorem aFR (op:BinOp) (t ty:TypeId) (x y:Operand) (ho:o.op=.binOp op t x y ty) (hs:uG P op t (ρ x) (ρ y) λv=>K v h):l9 P o ρ h K:=by
 unfold uG at hs
 split at hs
 ·rename_i sz es tt ex ey
  obtain⟨hd0,hs⟩:=hs
  split at hd0
  ·rename_i et hd
   obtain⟨r,hr,hd⟩:=iP hd
   split at hs
   ·exact aDM .eql t ty x y r et sz es tt ho hr hd ex ey (.inl rfl) hs.1 hs.2
   ·exact aDM .neq t ty x y r et sz es tt ho hr hd ex ey (.inr rfl) hs.1 hs.2
   ·exact hs.elim
  ·exact hd0.elim
 ·rename_i m sz i len ex ey
  obtain⟨hd0,hs⟩:=hs
  split at hd0
  ·rename_i et hd
   obtain⟨r,hr,hd⟩:=iP hd
   split at hs
   ·exact aA3 .eql t ty x y r et m sz i len ho hr hd ex ey (.inl rfl) hs.1 hs.2
   ·exact aA3 .neq t ty x y r et m sz i len ho hr hd ex ey (.inr rfl) hs.1 hs.2
   ·exact hs.elim
  ·exact hd0.elim
 ·rename_i ex ey
  obtain⟨hd0,hs⟩:=hs
  split at hd0
  ·rename_i et hd
   obtain⟨r,hr,hd⟩:=iP hd
   split at hs
   ·exact aA4 .eql t ty x y r et ho hr hd ex ey (.inl rfl) hs
   ·exact aA4 .neq t ty x y r et ho hr hd ex ey (.inr rfl) hs
   ·exact hs.elim
  ·exact hd0.elim
 ·exact aIC op t ty x y ho hs
theorem aFS (op:BinOp) (t ty:TypeId) (x y:Operand) (ho:o.op=.binOp op t x y ty) (hs:uH P op t (rD y) (ρ x) (ρ y) λv=>K v h):l9 P o ρ h K:=by
 unfold uH at hs
 split at hs
 ·rename_i ec ex ey
  obtain⟨hi,hs⟩:=hs
  split at hs
  ·exact sT .eql t ty x y true ho hi ec (.inl ⟨ex,rfl⟩) ey (.inl rfl) hs
  ·exact sT .neq t ty x y true ho hi ec (.inl ⟨ex,rfl⟩) ey (.inr rfl) hs
  ·exact hs.elim
 ·rename_i ti xi ec ex ey
  obtain⟨hi,hs⟩:=hs
  split at hs
  ·exact sT .eql t ty x y false ho hi ec (.inr ⟨⟨_,_,ex⟩,rfl⟩) ey (.inl rfl) hs
  ·exact sT .neq t ty x y false ho hi ec (.inr ⟨⟨_,_,ex⟩,rfl⟩) ey (.inr rfl) hs
  ·exact hs.elim
 ·exact aFR op t ty x y ho hs
theorem aID (x y:Operand) (ats:Array TypeId) (ho:o.op=.call { callee:=.builtin .append,args:=#[x,y],argTypes:=ats }) (hs:vD P (a13 P ats[0]?) ats[1]? (ρ x) (ρ y) h K):l9 P o ρ h K:=by
 unfold vD at hs
 split at hs
 ·rename_i re hre
  unfold a13 at hre
  split at hre
  ·rename_i t a0
   obtain⟨r,et,hr,hd,he⟩:=kS hre
   obtain⟨hz,hz0,h1,hs⟩:=hs
   split at hs
   ·rename_i n sz i len hx
    obtain⟨hsz,hs⟩:=hs
    split at hs
    ·rename_i sz' es hn
     obtain⟨rfl,hle,hs⟩:=hs
     split at hs
     ·rename_i ys hy
      exact aH8 x y ats t et r re n sz' i len es ys ho a0 hr hd he hz hz0 h1 hx hsz hn hle hy hs.1 hs.2.1 hs.2.2
     ·exact hs.elim
    ·exact hs.elim
   ·split at hs
    ·rename_i olds ys hx hy
     rcases List.eq_nil_or_concat ys with e|⟨_,_,e⟩
     ·subst e
      exact aD7 x y ats t et r re ho a0 hr hd he h1 (by rw[hx];rfl) hy (hs.1 rfl)
     ·have hne:ys≠[]:=by rw[e];simp
      have hs:=hs.2 hne
      exact aFM x y ats t et r re olds ys ho a0 hr hd he hz hz0 h1 hx hy hne hs.1 hs.2.1 hs.2.2
    ·exact hs.elim
  ·simp at hre
 ·exact hs.elim
theorem j7 (hs:step P o ρ h K):l9 P o ρ h K:=by
 unfold step at hs
 split at hs
 case h_1 x ho=>exact aXD x ho hs
 case h_2 x ho=>exact aPT x ho hs
 case h_3 c a b ho =>
  split at hs
  ·rename_i t ht
   refine aXE c a b t ho ht ?_
   cases t
   ·exact hs.2 rfl
   ·exact hs.1 rfl
  ·exact hs.elim
 case h_4 op t x y ty ho=>exact aFS op t ty x y ho hs
 case h_5 op t x ho =>
  unfold aCI at hs
  split at hs
  ·rename_i b hb;exact a1X t x b ho hb hs
  ·rename_i k n hn;exact a1Y t x k n ho hn hs
  ·exact hs.elim
 case h_6 s d x ho =>
  unfold xD at hs
  split at hs
  ·rename_i k' k n hd hx
   obtain⟨sO,hk⟩:=hs
   obtain⟨rd,hrd,hdd⟩:=iP hd
   obtain⟨ds,hds⟩:=Option.isSome_iff_exists.1 sO
   obtain⟨rs,hrs,_⟩:=iP hds
   exact aD6 s d x rs rd k k' n ho hrs hrd hdd hx hk
  ·rename_i es tg hd hx
   split at hs
   ·rename_i et hss
    obtain⟨hee,hs⟩:=hs
    split at hs
    ·rename_i bs hbs
     obtain⟨rd,hrd,hdd⟩:=iP hd
     obtain⟨rs,hrs,hsd⟩:=iP hss
     obtain⟨re,hre,hed⟩:=iP hee
     exact aFP s d et x rs rd re es tg bs ho hrs hsd hre hed hrd hdd hx hbs hs
    ·exact hs.elim
   ·exact hs.elim
  ·exact hs.elim
 case h_7 t x f ho =>
  unfold aCJ at hs
  split at hs
  ·rename_i fs hd
   obtain⟨r,hr,hd⟩:=iP hd
   split at hs
   ·rename_i off ft sz' hf
    obtain⟨hsz,hs⟩:=hs
    split at hs
    ·rename_i n sz i k hx;exact y7 t x f r fs off sz' ft _ ho hr hd hf hsz (.inl ⟨n,sz,i,k,hx,rfl⟩) hs
    ·rename_i sz es i k hx;exact y7 t x f r fs off sz' ft _ ho hr hd hf hsz (.inr ⟨sz,es,i,k,hx,rfl⟩) hs
    ·exact hs.elim
   ·exact hs.elim
  ·exact hs.elim
 case h_8 t x i ho =>
  unfold aCK at hs
  split at hs
  ·rename_i re hre
   obtain⟨r,et,hr,hd,he⟩:=kS hre
   split at hs
   ·rename_i sz es tg k n hx hi
    obtain⟨hsz,h0,hn,hk⟩:=hs
    exact aCF t et x i r re sz es tg k n ho hr hd he hsz hx hi h0 hn hk
   ·rename_i m sz i0 len k n hx hi
    obtain⟨hsz,h0,hn,hk⟩:=hs
    exact aCG t et x i r re m sz i0 len k n ho hr hd he hsz hx hi h0 hn hk
   ·exact hs.elim
  ·exact hs.elim
 case h_9 t x i ho =>
  unfold zO at hs
  split at hs
  ·rename_i s k n hd hx hi
   obtain⟨r,hr,hd⟩:=iP hd
   obtain⟨h0,hs⟩:=hs
   split at hs
   ·rename_i c hc;exact aH5 t x i r s k n c ho hr hd hx hi h0 hc hs
   ·exact hs.elim
  ·exact hs.elim
 case h_10 t a ho =>
  unfold iL at hs
  split at hs
  ·rename_i r hr
   split at hs
   ·rename_i sz es i off ha
    split at hs
    ·rename_i e he
     split at hs
     ·rename_i x hx;exact aMT t a r sz i off es e x ho hr ha he hx hs
     ·exact hs.elim
    ·exact hs.elim
   ·rename_i n sz i off ha
    split at hs
    ·rename_i sz' es hn
     obtain⟨rfl,hs⟩:=hs
     split at hs
     ·rename_i e he
      split at hs
      ·rename_i x hx;exact aMU t a r n sz' i off es e x ho hr ha hn he hx hs
      ·exact hs.elim
     ·exact hs.elim
    ·exact hs.elim
   ·exact hs.elim
  ·exact hs.elim
 case h_11 t a v ho =>
  unfold aKE at hs
  split at hs
  ·rename_i r hr
   split at hs
   ·rename_i n sz i off ha
    split at hs
    ·rename_i sz' es hn
     obtain⟨rfl,hs⟩:=hs
     split at hs
     ·rename_i e he
      obtain⟨hf,hsz,hoff,hk⟩:=hs
      exact aUY t a v r n sz' i off es e ho hr ha hn he hf hsz hoff hk
     ·exact hs.elim
    ·exact hs.elim
   ·exact hs.elim
  ·exact hs.elim
 case h_12 t ho =>
  unfold aCL at hs
  split at hs
  ·rename_i r hr
   obtain⟨hz,hf,hk⟩:=hs
   exact aUZ t r ho hr hz hf hk
  ·exact hs.elim
 case h_13 t x ho =>
  split at hs
  ·exact aMV t x ho hs.1 hs.2
  ·exact a1W t x ho hs.1 hs.2
 case h_14 t l c ho =>
  unfold aFQ at hs
  split at hs
  ·rename_i re hre
   obtain⟨r,et,hr,hd,he⟩:=kS hre
   split at hs
   ·rename_i k a k' b hl hc
    obtain⟨hz,hz0,hf,h0,hab,hb,hbb,hk⟩:=hs
    exact aH7 t et l c r re k k' a b ho hr hd he hz hz0 hf hl hc h0 hab hb hbb hk
   ·exact hs.elim
  ·exact hs.elim
 case h_15 t x lo hi ho =>
  unfold pK at hs
  split at hs
  ·rename_i n sz i len hx hhi
   split at hs
   ·rename_i re hre
    obtain⟨r,et,hr,hd,he⟩:=kS hre
    obtain⟨hsz,hs⟩:=hs
    split at hs
    ·rename_i l hl
     obtain⟨h0,h1,h2,h3⟩:=hs
     rcases Int.lt_or_eq_of_le h1 with q|q
     ·have:=h2 q
      exact aA1 t et x lo hi r re n sz i len l len ho hr hd he hsz hx hl (by rw[hhi];rfl) h0 q (aCB _) (by simpa using this)
     ·exact aIA t et x lo hi r re n sz i len l len ho hr hd he hsz hx hl (by rw[hhi];rfl) h0 q rfl (h3 q).1 (h3 q).2
    ·exact hs.elim
   ·exact hs.elim
  unfold lE at hs
  split at hs
  ·rename_i s hx
   obtain⟨hd,hs⟩:=hs
   obtain⟨r,hr,hd⟩:=iP hd
   split at hs
   ·rename_i l m hl hh
    obtain⟨h0,h1,h2,hk⟩:=hs
    exact aH6 t x lo hi r s l m ho hr hd hx hl hh h0 h1 h2 hk
   ·exact hs.elim
  ·rename_i sz es tg hx
   split at hs
   ·rename_i re hre
    obtain⟨r,et,hr,hd,he⟩:=kS hre
    obtain⟨hsz,hs⟩:=hs
    split at hs
    ·rename_i l m hl hh
     obtain⟨h0,h1,h2,hk⟩:=hs
     exact aKA t et x lo hi r re sz es tg l m ho hr hd he hsz hx hl hh h0 h1 h2 hk
    ·exact hs.elim
   ·exact hs.elim
  ·rename_i n sz i len hx
   split at hs
   ·rename_i re hre
    obtain⟨r,et,hr,hd,he⟩:=kS hre
    obtain⟨hsz,hs⟩:=hs
    split at hs
    ·rename_i l m hl hh
     obtain⟨h0,h1,h2,hk⟩:=hs
     exact aA1 t et x lo hi r re n sz i len l m ho hr hd he hsz hx hl hh h0 h1 h2 hk
    ·exact hs.elim
   ·exact hs.elim
  ·exact hs.elim
 case h_16 t i ho =>
  split at hs
  ·rename_i cs ht
   split at hs
   ·rename_i x hx;exact aMW t i cs x ho ht hx hs
   ·exact hs.elim
  ·exact hs.elim
 case h_17 x ho =>
  split at hs
  ·rename_i n sz i k hx;exact aAW x ho (.inl ⟨n,sz,i,k,hx⟩) (hx▸hs)
  ·rename_i sz es i k hx;exact aAW x ho (.inr ⟨sz,es,i,k,hx⟩) (hx▸hs)
  ·exact hs.elim
 case h_18 fn fs cs ho=>exact aJ9 fn fs cs ho hs
 case h_19 c ho =>
  unfold xC at hs
  split at hs
  ·rename_i f as ats
   split at hs
   ·rename_i g first cap hf;exact aXL f as ats g first cap ho hf hs
   ·exact hs.elim
  ·rename_i as ats
   split at hs
   ·rename_i x hax
    have hax':as=#[x]:=by cases as;simp_all
    subst hax'
    unfold aKF at hs
    split at hs
    ·rename_i t hat
     split at hs
     ·rename_i et sz es tg hd hx
      obtain⟨r,hr,hd⟩:=iP hd
      exact aEJ t x r es.length ats ho hat hr (.inl ⟨_,sz,es,tg,hd,hx,rfl⟩) hs
     ·rename_i et m sz i n hd hx
      obtain⟨r,hr,hd⟩:=iP hd
      exact aEJ t x r n ats ho hat hr (.inr (.inl ⟨_,m,sz,i,hd,hx⟩)) hs
     ·rename_i et hd hx
      obtain⟨r,hr,hd⟩:=iP hd
      exact aEJ t x r 0 ats ho hat hr (.inr (.inr (.inl ⟨_,hd,hx,rfl⟩))) λ_=>hs
     ·rename_i s hd hx
      obtain⟨r,hr,hd⟩:=iP hd
      exact aEJ t x r s.length ats ho hat hr (.inr (.inr (.inr ⟨s,hd,hx,rfl⟩))) hs
     ·exact hs.elim
    ·exact hs.elim
   ·exact hs.elim
  ·rename_i as ats
   split at hs
   ·rename_i x y hax
    have hax':as=#[x,y]:=by cases as;simp_all
    subst hax'
    split at hs
    ·rename_i k a k' b hx hy
     obtain⟨h1,hk⟩:=hs
     rw[hy]at h1
     simp only at h1
     subst h1
     exact a1Z x y ats _ a b ho hx hy hk
    ·exact hs.elim
   ·exact hs.elim
  ·rename_i as ats
   split at hs
   ·rename_i x y hax
    have hax':as=#[x,y]:=by cases as;simp_all
    subst hax'
    exact aID x y ats ho hs
   ·exact hs.elim
  ·exact hs.elim
 case h_20 t ps ho =>
  unfold rK at hs
  split at hs
  ·rename_i r hr
   obtain⟨h1,h2,h3,hk⟩:=hs
   exact aU1 t ps r ho hr h1 h2 h3 hk
  ·exact hs.elim
 case h_21 t len ps ho =>
  unfold rW at hs
  split at hs
  ·rename_i re hre
   obtain⟨r,et,hr,hd,he⟩:=kS hre
   obtain⟨h1,h2,h3,h4,h5,hk⟩:=hs
   exact aFK t et len ps r re ho hr hd he h1 h2 h3 h4 h5 hk
  ·exact hs.elim
 case h_22 t x lo hi mx ho =>
  unfold nK at hs
  split at hs
  ·rename_i sz es tg hx
   split at hs
   ·rename_i re hre
    obtain⟨r,et,hr,hd,he⟩:=kS hre
    obtain⟨hsz,hs⟩:=hs
    split at hs
    ·rename_i l m M hl hh hM
     obtain⟨h0,h1,h2,h3,hk⟩:=hs
     exact aH9 t et x lo (some hi) mx r re sz es tg l m M ho hr hd he hsz hx rfl hl hh hM h0 h1 h2 h3 hk
    ·exact hs.elim
   ·exact hs.elim
  ·exact hs.elim
 case h_23=>exact hs.elim
def aFT (x:aC) (K:aC->Prop):Prop:=x.cells.all aC.flat=true/\K (.ip x.cells.length [x.cells] 0 0)
def a7P (r':aC) (h':Heap) (r:aC) (h:Heap):Prop :=
 ∀ E w v,Rel E h' w->dU E h' w r' v->∃ E',Ev E h' w E' h w/\Rel E' h w/\dU E' h w r v
def aSJ (K:aC->Heap->Prop):aC->Heap->Prop:=λv h'=>∃ r g,a7P v h' r g/\K r g
theorem l9.seal {P:Program} {o:Oper} {ρ:Operand->aC} {h:Heap} {K:aC->Heap->Prop} (a:l9 P o ρ h (aSJ K)):l9 P o ρ h K:=λE w ρc R hρ =>
 (a E w ρc R hρ).mono λv w' ⟨r',h',E',⟨r,g,s,k⟩,ev,R',x⟩ =>
  let ⟨E'',ev',R'',x'⟩:=s E' w' v R' x
  ⟨r,g,E'',k,ev.trans ev',R'',x'⟩
def rZ (P:Program) (ib:List Nat) (o:Oper) (ρ:Operand->aC) (h:Heap) (K:aC->Heap->Prop):Prop :=
 match o.dst with
 |some d=>if ib.contains d then(match o.op with
   | .box _ x=>aFT (ρ x) λv=>K v h
   | .buildSlice t len ps=>rW (kA P t) len (ps.toList.map λp=>(p.1,ρ p.2)) λsz es=>K (.sl sz es true) h
   | .call ⟨.builtin .append,_,_⟩=>step P o ρ h (aSJ K)
   | _=>step P o ρ h K)else step P o ρ h K
 |none=>step P o ρ h K
theorem xE {ib:List Nat} (hs:rZ P ib o ρ h K):l9 P o ρ h K:=by
 unfold rZ at hs
 split at hs
 ·split at hs
  ·split at hs
   ·rename_i t x ho;exact aMX t x ho hs.1 hs.2
   ·rename_i t len ps ho
    unfold rW at hs
    split at hs
    ·rename_i re hre
     obtain⟨r,et,hr,hd,he⟩:=kS hre
     obtain⟨h1,h2,h3,h4,h5,hk⟩:=hs
     exact zL t et len ps r re ho hr hd he h1 h2 h3 h4 h5 hk
    ·exact hs.elim
   ·exact(j7 hs).seal
   ·exact j7 hs
  ·exact j7 hs
 ·exact j7 hs
end
variable {ds:List Deferred}
def want (ops:Array Oper) (τ:bE) (o:Oper):Option Bool :=
 match o.guard with
 |none=>some true
 |some (g,b)=>match (ops[g]?).bind (·.dst)with
  |some d=>match cE τ d with
   | .bool b'=>some (b' == b)
   | .eW []=>some false
   | _=>none
  |none=>none
theorem zP {E:Env} {h:Heap} {w:World} {N:Nat} {τ:bE} {a:Act} {ops:Array Oper} {o:Oper} {c:Bool} (r:tQ ds E h w N τ a) (hw:want ops τ o=some c) (hd:∀ (g:Nat) (og:Oper) d,ops[g]?=some og->og.dst=some d->d<N) :
  Region.wanted o (yielded ops a.tmps)=c:=by
 unfold want at hw
 unfold Region.wanted
 split at hw
 ·rename_i hg;rw[hg];exact eO hw
 ·rename_i g b hg
  rw[hg]
  split at hw
  ·rename_i d hdd
   obtain⟨og,hog,hod⟩:=Option.bind_eq_some_iff.1 hdd
   have hlt:d<a.tmps.size:=by rw[r.size];exact hd g og d hog hod
   have hr:=r.get d
   have hge:a.tmps[d]?=some a.tmps[d]:=aE7 hlt
   have hgd:a.tmps.getD d undef=a.tmps[d]:=by simp[Array.getD,hlt]
   split at hw
   ·rename_i b' hb'
    rw[hb',hgd]at hr
    have:=pY hr
    obtain rfl:=eO hw
    simp only[yielded,hog,aPK,hod,hge,this]
    cases b <;> cases b' <;> rfl
   ·rename_i hb'
    rw[hb',hgd]at hr
    obtain rfl:=eO hw
    have:a.tmps[d]=.tuple #[]:=by
     cases hv:a.tmps[d] <;> rw[hv]at hr <;> try(cases hr;done)
     cases hr with
     |eW _ vs hl hrr =>
      have:vs=[]:=by cases vs <;> simp_all
      simp[this]
    simp only[yielded,hog,aPK,hod,hge,this]
    cases b <;> rfl
   ·simp at hw
  ·simp at hw
def aA5 (P:Program) (ib:List Nat) (ops:Array Oper):List Oper->bE->Heap->(bE->Heap->Prop)->Prop
 | [],τ,h,K=>K τ h
 |o::rest,τ,h,K=>match o.guard with
  |none=>rZ P ib o (rV τ) h λv h'=>aA5 P ib ops rest (eZ τ o.dst v) h' K
  |some (g,b)=>match (ops[g]?).bind (·.dst)with
   |some d=>match cE τ d with
    | .bool b'=>(b'=b->rZ P ib o (rV ((d,.bool b)::τ)) h λv h'=>aA5 P ib ops rest (eZ ((d,.bool b)::τ) o.dst v) h' K) /\
      (b'=!b->aA5 P ib ops rest (eZ ((d,.bool !b)::τ) o.dst (.eW [])) h K)
    | .eW []=>aA5 P ib ops rest (eZ τ o.dst (.eW [])) h K
    | _=>False
   |none=>False
theorem vE {τ:bE} {d:Nat} {v:aC} (hv:cE τ d=v) (k:Nat):cE ((d,v)::τ) k=cE τ k:=by
 simp only[cE];split
 ·rename_i e;rw[←e,hv]
 ·rfl
theorem aA5.cases {P:Program} {ib:List Nat} {ops:Array Oper} {o:Oper} {rest:List Oper} {τ:bE} {h:Heap} {K:bE->Heap->Prop} (r:aA5 P ib ops (o::rest) τ h K) :
  ∃ σ,(∀ k,cE σ k=cE τ k)/\((want ops τ o=some true/\rZ P ib o (rV σ) h λv h'=>aA5 P ib ops rest (eZ σ o.dst v) h' K) ∨
   (want ops τ o=some false/\aA5 P ib ops rest (eZ σ o.dst (.eW [])) h K)):=by
 unfold aA5 at r
 unfold want
 split at r
 ·rename_i hg;exact⟨τ,λ_=>rfl,.inl ⟨by simp[hg],r⟩⟩
 ·rename_i g b hg
  try simp only[hg]
  split at r
  ·rename_i d hd
   try simp only[hd]
   split at r
   ·rename_i b' hb'
    by_cases e:b'=b
    ·subst e
     exact⟨(d,.bool b')::τ,vE hb',.inl ⟨by simp[hb'],r.1 rfl⟩⟩
    ·have e':b'=!b:=by cases b' <;> cases b <;> simp_all
     subst e'
     exact⟨(d,.bool !b)::τ,vE hb',.inr ⟨by first|(cases b <;> rfl)|(simp only[hb'];cases b <;> rfl),r.2 rfl⟩⟩
   ·rename_i hb';exact⟨τ,λ_=>rfl,.inr ⟨by simp[hb'],r⟩⟩
   ·exact r.elim
  ·exact r.elim
def zQ (N:Nat) (ops:Array Oper):Bool:=ops.toList.all λo=>match o.dst with|some d=>decide (d<N)|none=>true
theorem vF {N:Nat} {ops:Array Oper} (h:zQ N ops=true) (g:Nat) (og:Oper) (d:Nat) (hg:ops[g]?=some og) (hd:og.dst=some d):d<N:=by
 have:=tK.1 h og (by rw[←al5]at hg;exact al6 hg)
 simpa[hd]using this
theorem aKG {P:Program} {ib:List Nat} {N:Nat} {ops:Array Oper} {Q:Exit->bE->Heap->Prop} {K:bE->Heap->Prop} (hN:zQ N ops=true) (keep:List Nat) (hK:∀ τ h,K τ h->Q .normal (prune keep τ) h) {E₀:Env} {h₀:Heap} {w₀:World} :
  ∀ (l:List Oper),(∀ o∈l,o∈ops.toList)->∀ (τ:bE) (h:Heap),aA5 P ib ops l τ h K->∀ E w a,Ev E₀ h₀ w₀ E h w->Rel E h w->tQ ds E h w N τ a->wpList P ops (qO ds N Q E₀ h₀ w₀) l a w
 | [],_,τ,h,hr,E,w,a,ev,R,r=>⟨prune keep τ,h,E,hK _ _ hr,ev,R,r.prune keep⟩
 |o::rest,hl,τ,h,hr,E,w,a,ev,R,r=>by
  have hdst:∀ k,o.dst=some k->k<N:=λk hk=>by
   have:=tK.1 hN o (hl o cK)
   simpa[hk]using this
  obtain⟨σ,hσ,hr⟩:=hr.cases
  have rσ:tQ ds E h w N σ a:=⟨r.size,r.defers,λk=>by rw[hσ];exact r.get k⟩
  rcases hr with⟨hw,hr⟩|⟨hw,hr⟩
  ·have hwant:=zP r hw (vF hN)
   unfold wpList
   rw[hwant,if_pos rfl]
   left
   refine uB.wp ((xE hr E w _ R λx=>rσ.rV x).mono ?_)
   rintro v w' ⟨x,h',E',k,ev',R',rx⟩
   exact aKG hN keep hK rest (λo ho=>hl o (by simp[ho])) _ h' k E' w' (a.put o.dst v) (ev.trans ev') R' ((rσ.ev ev').put o.dst hdst rx)
  ·have hwant:=zP r hw (vF hN)
   unfold wpList
   rw[hwant,if_neg cK]
   refine aKG hN keep hK rest (λo ho=>hl o (by simp[ho])) _ h hr E w _ ev R (rσ.put o.dst hdst ?_)
   exact dU.eW [] [] rfl cK
theorem nV.region {P:Program} {ib:List Nat} {N id:Nat} {ops:Array Oper} {Q:Exit->bE->Heap->Prop} {τ:bE} {h:Heap} (hN:zQ N ops=true) (keep:List Nat) (hr:aA5 P ib ops ops.toList τ h λτ' h'=>Q .normal (Hl.prune keep τ') h'):nV P N (.region id ops false) Q τ h :=
 λds E w a R r=>wp_region_list (aKG hN keep (λ_ _ x=>x) ops.toList (λ_ ho=>ho) τ h hr E w a (.refl _ _ _) R r)
def aPY (P:Program) (τ:bE) (h:Heap):ResultVar->(aC->Prop)->Prop
 | .tmp t,K=>K (cE τ t)
 | .cell a t,K=>iL (fE P t) (cE τ a) h K
def aXN (P:Program) (τ:bE) (h:Heap):List ResultVar->(List aC->Prop)->Prop
 | [],K=>K []
 |x::l,K=>aPY P τ h x λv=>aXN P τ h l λvs=>K (v::vs)
def a14 (P:Program) (rs:Array ResultVar) (τ:bE) (h:Heap) (K:aC->Heap->Prop):Prop :=
 aXN P τ h rs.toList λvs=>match vs with
  | [v]=>K v h
  |vs=>K (.eW vs) h
def aA6 (P:Program) (rs:Array ResultVar) (K:aC->Heap->Prop):Exit->bE->Heap->Prop
 | .normal,τ,h=>a14 P rs τ h K
 | .ret,τ,h=>a14 P rs τ h K
 | _,_,_=>False
theorem aPZ {P:Program} {t:TypeId} {a:aC} {h:Heap} {K:aC->Prop} (hs:iL (fE P t) a h K) {E:Env} {w:World} {v:Value} (R:Rel E h w) (hv:dU E h w a v) :
  ∃ (b o:Nat) (x:aC) (c:Value),v=.pointer (some ⟨b,o,none⟩)/\(loadVar t ⟨b,o,none⟩).run P w=.ok c w/\K x/\dU E h w x c:=by
 unfold iL at hs
 split at hs
 ·rename_i r hr
  split at hs
  ·rename_i sz es i off
   split at hs
   ·rename_i e he
    split at hs
    ·rename_i x hx
     obtain⟨b,k,c,h1,h2,h3⟩:=aDI (P:=P) t r sz i off es e x hr hv he hx
     exact⟨b,k,x,c,h1,h2,hs,h3⟩
    ·exact hs.elim
   ·exact hs.elim
  ·rename_i n sz i off
   split at hs
   ·rename_i sz' es hn
    obtain⟨rfl,hs⟩:=hs
    split at hs
    ·rename_i e he
     split at hs
     ·rename_i x hx
      obtain⟨b,k,c,h1,h2,h3⟩:=aDJ (P:=P) R t r n sz' i off es e x hr hv hn he hx
      exact⟨b,k,x,c,h1,h2,hs,h3⟩
     ·exact hs.elim
    ·exact hs.elim
   ·exact hs.elim
  ·exact hs.elim
 ·exact hs.elim
def aFU (P:Program) (tmps:Array Value):ResultVar->Sem Value
 | .tmp t=>pure (tmps.getD t undef)
 | .cell a t=>do loadVar t (←asAddr (tmps.getD a undef))
theorem aFV {P:Program} {N:Nat} {τ:bE} {h:Heap} {E:Env} {w:World} {a:Act} (R:Rel E h w) (r:tQ ds E h w N τ a):∀ (l:List ResultVar) (K:List aC->Prop),aXN P τ h l K ->
  ∃ xs vs,(l.mapM (aFU P a.tmps)).run P w=.ok vs w/\K xs/\cU E h w xs vs
 | [],K,hk=>⟨[],[],by simp,hk,trivial⟩
 |x::l,K,hk=>by
  unfold aXN at hk
  cases x with
  |tmp t =>
   simp only[aPY]at hk
   obtain⟨xs,vs,h1,h2,h3⟩:=aFV R r l _ hk
   exact⟨_::xs,_::vs,by simp[aFU,h1],h2,r.get t,h3⟩
  |cell p t =>
   simp only[aPY]at hk
   obtain⟨b,o,x,c,h1,h2,h3,h4⟩:=aPZ hk R (r.get p)
   obtain⟨xs,vs,k1,k2,k3⟩:=aFV R r l _ h3
   exact⟨x::xs,c::vs,by simp[aFU,h1,asAddr,h2,k1],k2,h4,k3⟩
theorem aXO {P:Program} {N:Nat} {τ:bE} {h:Heap} {E:Env} {w:World} {a:Act} {fn:Func} {K:aC->Heap->Prop} (R:Rel E h w) (r:tQ ds E h w N τ a) (hk:a14 P fn.results τ h K) :
  ∃ x v,(results fn a.tmps).run P w=.ok v w/\K x h/\dU E h w x v:=by
 unfold a14 at hk
 obtain⟨xs,vs,h1,h2,h3⟩:=aFV R r _ _ hk
 have hm:(fn.results.mapM (aFU P a.tmps)).run P w=.ok vs.toArray w:=by
  rw[←Array.toArray_toList (xs:=fn.results),List.mapM_toArray]
  simp[h1]
 have hres:(results fn a.tmps).run P w=.ok (if h:vs.toArray.size=1 then vs.toArray[0]else .tuple vs.toArray) w:=by
  have e:results fn a.tmps=(do let vs ←fn.results.mapM (aFU P a.tmps);pure (if h:vs.size=1 then vs[0]else .tuple vs)):=by
   unfold results
   congr 1
  rw[e,Sem.run_bind,hm]
  rfl
 split at h2
 ·rename_i x
  cases vs with
  |nil=>exact h3.elim
  |cons v vs =>
   cases vs with
   |nil=>exact⟨x,v,by rw[hres];simp,h2,h3.1⟩
   |cons _ _=>exact h3.2.elim
 ·rename_i hne
  refine⟨.eW xs,.tuple vs.toArray,?_,h2,.eW xs vs h3.length h3.get⟩
  rw[hres,dif_neg]
  intro e
  have hl:=h3.length
  simp at e
  rw[e]at hl
  cases xs with
  |nil=>simp at hl
  |cons y ys =>
   cases ys with
   |nil=>exact hne y rfl
   |cons _ _=>simp at hl
def nA:Nat->List aC->bE
 | _,[]=>[]
 |i,x::xs=>(i,x)::nA (i+1) xs
theorem aFW:∀ (xs:List aC) (i k:Nat),cE (nA i xs) k=if i<=k then(xs[k-i]?).getD .any else .any
 | [],i,k=>by simp[nA,cE]
 |x::xs,i,k=>by
  simp only[nA,cE]
  by_cases e:i=k
  ·subst e;simp
  ·rw[if_neg e,aFW xs (i+1) k]
   by_cases h:i+1<=k
   ·rw[if_pos h,if_pos aA,show k-i=(k-(i+1))+1 by omega];simp
   ·rw[if_neg h,if_neg aA]
theorem aXP {P:Program} {f:FuncId} {fn:Func} {c:Code} {N:Nat} {args:List aC} {h:Heap} {K:aC->Heap->Prop} (hf:P.funcs[f]?=some fn) (hb:fn.body=some c) (hc:eT P f=true) (hN:fn.ntmps=N)
  (hl:args.length<=N) {K':aC->Heap->Prop} (hw:nV P N c (aA6 P fn.results K') (nA 0 args) h) (hk':∀ r h',K' r h'->∃ g:Heap,g.le h'/\K r g):fH P f args h K:=by
 refine⟨hc,λE w vs R hL=>calls_of_wp hf hb ?_⟩
 have hlen:=hL.length
 refine Code.wp_mono ?_ (hw [] E w _ R ⟨?_,rfl,?_⟩)
 ·rintro e a' w' ⟨τ',h',E',q,ev,R',r'⟩
  cases e <;> simp only[aA6]at q <;> try exact q.elim
  all_goals
   obtain⟨x,v,h1,hk0,hx⟩:=aXO R' r' q
   obtain⟨g,hg,hk⟩:=hk' _ _ hk0
   exact⟨r'.defers,v,h1,x,g,E',hk,ev.forget hg,R'.forget hg,hx.rP λb=>oE.le hg⟩
 ·simp[hN];omega
 ·intro k
  rw[aFW]
  simp only[gM,if_true,Nat.sub_zero]
  by_cases hk:k<args.length
  ·have hx:args[k]?=some args[k]:=cP hk
   have hv:vs[k]?=some (vs[k]'aA):=cP aA
   rw[hx]
   have hg:(vs.toArray++Array.replicate (fn.ntmps-vs.toArray.size) undef).getD k undef=vs[k]'aA:=by
    have hk':k<vs.length:=by omega
    simp[Array.getD,Array.getElem_append,hk'];omega
   rw[hg]
   exact hL.get k _ _ hx hv
  ·rw[aUR aA]
   exact .any _
variable {ds:List Deferred}
def qP (ops:Array Oper) (o:Oper):List Tmp :=
 (o.op.operands.toList.filterMap fun | .tmp t=>some t|_=>none)++(match o.guard with|some (g,_)=>((ops[g]?).bind (·.dst)).toList|none=>[])
def rE (ops:Array Oper) (o:Oper) (τ:bE):Operand->aC
 | .tmp t=>if (qP ops o).contains t then cE τ t else .any
 |x=>rV τ x
theorem nL {ops:Array Oper} {o:Oper} {τ τ':bE} (h:∀ t∈qP ops o,cE τ t=cE τ' t):rE ops o τ=rE ops o τ':=by
 funext x
 cases x with
 |tmp t =>
  simp only[rE]
  split
  ·rename_i hc;exact h t (by simpa using hc)
  ·rfl
 | _=>rfl
def r5 (P:Program) (o:Oper) (ρ:Operand->aC) (v:aC):Prop:=∀ h,l9 P o ρ h λv' h'=>v'=v/\h'=h
def wS:List (Nat×Nat)->Nat->Nat->Bool
 | [],_,_=>false
 |(a,b)::r,x,i=>(a == x && b == i) || wS r x i
def aXQ:List (Nat×Nat)->Nat->Bool
 | [],_=>false
 |(a,_)::r,x=>a == x || aXQ r x
theorem aM5 {x i:Nat}:∀ {cr:List (Nat×Nat)},aXQ cr x=false->wS cr x i=false
 | [],_=>rfl
 |(a,b)::r,h=>by
  simp only[aXQ,Bool.or_eq_false_iff]at h
  simp only[wS,h.1,Bool.false_and,aJ6]
  exact aM5 h.2
def aP0 (o:Oper):Bool:=match o.op with | .load _ _=>true|_=>false
def aKH (P:Program) (o:Oper) (ρ:Operand->aC) (h:Heap) (n:Nat) (v:aC):Prop:=∀ h',h' n=h n->l9 P o ρ h' λv' h''=>v'=v/\h''=h'
def aFX (cr:List (Nat×Nat)) (i:Nat) (pr:List (Nat×Nat)) (h h':Heap):Prop:=∀ p∈pr,wS cr p.1 i=true->h' p.2=h p.2
inductive qQ where
 |nil
 |op (i:Nat) (p:qQ)
 |alt (i:Nat) (p:qQ) (j:Nat) (q:qQ)
def OpL (P:Program) (ops:Array Oper) (ms:List Nat) (i:Nat) (cr:List (Nat×Nat)) (pr:List (Nat×Nat)) (τ:bE) (h:Heap) (C:List (Nat×Nat)->bE->Heap->Prop):Prop :=
 match ops[i]? with
  |none=>False
  |some o=>match want ops τ o with
   |none=>False
   |some true=>if ms.contains i then(if aP0 o then(∃ n v,aKH P o (rE ops o τ) h n v/\C ((i,n)::pr) (eZ τ o.dst v) h)∨∃ v,r5 P o (rE ops o τ) v/\C pr (eZ τ o.dst v) h
      else l9 P o (rE ops o τ) h λv h'=>aFX cr i pr h h'/\C pr (eZ τ o.dst v) h')
     else ∃ v,r5 P o (rE ops o τ) v/\C pr (eZ τ o.dst v) h
   |some false=>C pr (eZ τ o.dst (.eW [])) h
def iM (P:Program) (ops:Array Oper) (ms:List Nat) (cr:List (Nat×Nat)):qQ->List (Nat×Nat)->bE->Heap->(bE->Heap->Prop)->Prop
 | .nil,_,τ,h,K=>K τ h
 | .op i p,pr,τ,h,K=>OpL P ops ms i cr pr τ h λpr τ h=>iM P ops ms cr p pr τ h K
 | .alt i p j q,pr,τ,h,K=>(OpL P ops ms i cr pr τ h λpr τ h=>iM P ops ms cr p pr τ h K)/\OpL P ops ms j cr pr τ h λpr τ h=>iM P ops ms cr q pr τ h K
def TEq (τ τ':bE):Prop:=∀ k,cE τ k=cE τ' k
theorem uI (τ:bE) (d:Option Tmp) (v:aC) (k:Nat):cE (eZ τ d v) k=if d=some k then v else cE τ k:=by
 cases d with
 |none=>simp[eZ]
 |some d=>simp only[eZ,cE,aPM]
theorem TEq.put {τ τ':bE} (h:TEq τ τ') (d:Option Tmp) (v:aC):TEq (eZ τ d v) (eZ τ' d v):=λk=>by
 rw[uI,uI,h k]
theorem TEq.put_comm (τ:bE) {d e:Option Tmp} (u v:aC) (hne:∀ k,d=some k->e≠some k):TEq (eZ (eZ τ d u) e v) (eZ (eZ τ e v) d u):=λk=>by
 simp only[uI]
 by_cases h1:e=some k <;> by_cases h2:d=some k
 ·exact absurd h1 (hne k h2)
 ·simp[h1,h2]
 ·simp[h1,h2]
 ·simp[h1,h2]
theorem vG {ops:Array Oper} {o:Oper} {τ τ':bE} (h:∀ t∈qP ops o,cE τ t=cE τ' t):want ops τ o=want ops τ' o:=by
 unfold want
 split
 ·rfl
 ·rename_i g b hg
  split
  ·rename_i d hd
   rw[h d (by simp[qP,hg,hd])]
  ·rfl
theorem aFX.sub {cr:List (Nat×Nat)} {i:Nat} {pr pr':List (Nat×Nat)} {h h':Heap} (hs:∀ p∈pr',p∈pr∨∀ j,wS cr p.1 j=false) (x:aFX cr i pr h h'):aFX cr i pr' h h':=λp hp hc=>by
 rcases hs p hp with h1|h1
 ·exact x p h1 hc
 ·rw[h1 i]at hc;cases hc
theorem aXR {cr pr pr':List (Nat×Nat)} (hs:∀ p∈pr',p∈pr∨∀ j,wS cr p.1 j=false) (q:Nat×Nat):∀ p∈q::pr',p∈q::pr∨∀ j,wS cr p.1 j=false:=λp hp=>by
 rcases oH.1 hp with rfl|hp
 ·exact .inl u4
 ·exact(hs p hp).imp (rM _) id
theorem OpL.congr {P:Program} {ops:Array Oper} {ms:List Nat} {cr:List (Nat×Nat)} {i:Nat} {C C':List (Nat×Nat)->bE->Heap->Prop} {pr pr':List (Nat×Nat)} {τ τ':bE} {h:Heap}
  (hC:∀ (pr pr':List (Nat×Nat)) (τ τ':bE) (h:Heap),(∀ p∈pr',p∈pr∨∀ j,wS cr p.1 j=false)->TEq τ τ'->C pr τ h->C' pr' τ' h) (hs:∀ p∈pr',p∈pr∨∀ j,wS cr p.1 j=false) (e:TEq τ τ') (r:OpL P ops ms i cr pr τ h C):OpL P ops ms i cr pr' τ' h C':=by
 unfold OpL at r ⊢
 cases ho:ops[i]? with
 |none=>simp[ho]at r
 |some o =>
  simp only[ho]at r ⊢
  rw[←vG (ops:=ops) (o:=o) (τ:=τ) (τ':=τ') λt _=>e t]
  cases hw:want ops τ o with
  |none=>simp[hw]at r
  |some c =>
   simp only[hw]at r ⊢
   rw[←nL (ops:=ops) (o:=o) (τ:=τ) (τ':=τ') λt _=>e t]
   cases c with
   |false=>exact hC _ _ _ _ h hs (e.put _ _) r
   |true =>
    simp only at r ⊢
    split at r
    ·rename_i hm;rw[if_pos hm]
     split at r
     ·rename_i hl;rw[if_pos hl]
      rcases r with⟨n,v,hr,x⟩|⟨v,hr,x⟩
      ·exact .inl ⟨n,v,hr,hC _ _ _ _ h (aXR hs _) (e.put _ _) x⟩
      ·exact .inr ⟨v,hr,hC _ _ _ _ h hs (e.put _ _) x⟩
     ·rename_i hl;rw[if_neg hl]
      exact r.mono λv h' x=>⟨x.1.sub hs,hC _ _ _ _ h' hs (e.put _ _) x.2⟩
    ·rename_i hm;rw[if_neg hm]
     obtain⟨v,hs',x⟩:=r
     exact⟨v,hs',hC _ _ _ _ h hs (e.put _ _) x⟩
theorem iM.congr {P:Program} {ops:Array Oper} {ms:List Nat} {cr:List (Nat×Nat)} {K:bE->Heap->Prop} (hK:∀ τ τ' h,TEq τ τ'->K τ h->K τ' h):∀ (l:qQ) (pr pr':List (Nat×Nat)) (τ τ':bE) (h:Heap),(∀ p∈pr',p∈pr∨∀ j,wS cr p.1 j=false)->TEq τ τ'->iM P ops ms cr l pr τ h K->iM P ops ms cr l pr' τ' h K
 | .nil,pr,pr',τ,τ',h,hs,e,r=>hK _ _ _ e r
 | .op i l,pr,pr',τ,τ',h,hs,e,r=>OpL.congr (λpr pr' τ τ' h hs e r=>iM.congr hK l pr pr' τ τ' h hs e r) hs e r
 | .alt i l j q,pr,pr',τ,τ',h,hs,e,r=>⟨OpL.congr (λpr pr' τ τ' h hs e r=>iM.congr hK l pr pr' τ τ' h hs e r) hs e r.1,OpL.congr (λpr pr' τ τ' h hs e r=>iM.congr hK q pr pr' τ τ' h hs e r) hs e r.2⟩
def aFZ (ops:Array Oper) (x y:Oper):Bool :=
 (match x.dst with|some d=>!(qP ops y).contains d && !(y.dst == some d)|none=>true) && (match y.dst with|some d=>!(qP ops x).contains d|none=>true)
theorem aM6 {ops:Array Oper} {x y:Oper} (h:aFZ ops x y=true):(∀ d,x.dst=some d->d∉qP ops y)/\(∀ d,x.dst=some d->y.dst≠some d)/\(∀ d,y.dst=some d->d∉qP ops x):=by
 unfold aFZ at h
 refine⟨λd hd=>?_,λd hd=>?_,λd hd=>?_⟩ <;> simp[hd]at h
 ·exact h.1.1
 ·exact h.1.2
 ·exact h.2
def aXS (ms:List Nat) (cr:List (Nat×Nat)) (x i:Nat) (ox oi:Oper):Bool:=!ms.contains x || (aP0 ox && (wS cr x i || aP0 oi || !ms.contains i))
theorem iM.swap {P:Program} {ops:Array Oper} {ms:List Nat} {cr:List (Nat×Nat)} {K:bE->Heap->Prop} (hK:∀ τ τ' h,TEq τ τ'->K τ h->K τ' h) {x i:Nat} {ox oi:Oper} {l:qQ} {pr:List (Nat×Nat)} {τ:bE} {h:Heap}
  (hx:ops[x]?=some ox) (hi:ops[i]?=some oi) (hm:aXS ms cr x i ox oi=true) (hap:aFZ ops ox oi=true) (r:iM P ops ms cr (.op x (.op i l)) pr τ h K):iM P ops ms cr (.op i (.op x l)) pr τ h K:=by
 obtain⟨a1,a2,a3⟩:=aM6 hap
 have ei:∀ v,(∀ t∈qP ops oi,cE (eZ τ ox.dst v) t=cE τ t):=λv t ht=>by
  rw[uI,if_neg];intro e;exact a1 t e ht
 have ex:∀ v,(∀ t∈qP ops ox,cE (eZ τ oi.dst v) t=cE τ t):=λv t ht=>by
  rw[uI,if_neg];intro e;exact a3 t e ht
 have hc:∀ u v,TEq (eZ (eZ τ ox.dst u) oi.dst v) (eZ (eZ τ oi.dst v) ox.dst u):=λu v=>TEq.put_comm τ u v a2
 have ids:∀ pr:List (Nat×Nat),∀ p∈pr,p∈pr∨∀ j,wS cr p.1 j=false:=λ_ _ h=>.inl h
 have sw:∀ (a b:Nat×Nat),∀ p∈b::a::pr,p∈a::b::pr∨∀ j,wS cr p.1 j=false:=λa b p hp=>by
  left
  simp only[oH]at hp ⊢
  rcases hp with h1|h1|h1
  ·exact .inr (.inl h1)
  ·exact .inl h1
  ·exact .inr (.inr h1)
 unfold iM OpL at r
 simp only[hx]at r
 cases hwx:want ops τ ox with
 |none=>simp[hwx]at r
 |some cx =>
  simp only[hwx]at r
  have hwx':∀ v,want ops (eZ τ oi.dst v) ox=some cx:=λv=>by rw[vG (ex v)];exact hwx

  have key:∀ u,iM P ops ms cr (.op i l) pr (eZ τ ox.dst u) h K ->
    (∀ τ' h' pr',iM P ops ms cr l pr' (eZ (eZ τ oi.dst τ') ox.dst u) h' K->iM P ops ms cr (.op x l) pr' (eZ τ oi.dst τ') h' K) ->
    iM P ops ms cr (.op i (.op x l)) pr τ h K:=by
   intro u r hback
   unfold iM OpL at r
   rw[iM];unfold OpL
   simp only[hi]at r ⊢
   rw[vG (ei u),nL (ei u)]at r
   cases hwi:want ops τ oi with
   |none=>simp[hwi]at r
   |some ci =>
    simp only[hwi]at r ⊢
    cases ci with
    |false=>exact hback _ _ _ (iM.congr hK l _ _ _ _ h (ids _) (hc _ _) r)
    |true =>
     simp only at r ⊢
     split at r
     ·rename_i hmi;rw[if_pos hmi]
      split at r
      ·rename_i hl;rw[if_pos hl]
       rcases r with⟨n,v,hr,y⟩|⟨v,hr,y⟩
       ·exact .inl ⟨n,v,hr,hback _ _ _ (iM.congr hK l _ _ _ _ h (ids _) (hc _ _) y)⟩
       ·exact .inr ⟨v,hr,hback _ _ _ (iM.congr hK l _ _ _ _ h (ids _) (hc _ _) y)⟩
      ·rename_i hl;rw[if_neg hl]
       exact r.mono λv h' y=>⟨y.1,hback _ _ _ (iM.congr hK l _ _ _ _ h' (ids _) (hc _ _) y.2)⟩
     ·rename_i hmi;rw[if_neg hmi]
      obtain⟨v,hs,y⟩:=r
      exact⟨v,hs,hback _ _ _ (iM.congr hK l _ _ _ _ h (ids _) (hc _ _) y)⟩
  cases cx with
  |false =>
   refine key _ r λu h' pr' y=>?_
   rw[iM];unfold OpL;simp only[hx,hwx' u];exact y
  |true =>
   simp only at r
   by_cases hmx:ms.contains x=true
   ·rw[if_pos hmx]at r
    simp only[aXS,hmx,aWZ,aJ6,lH,Bool.or_eq_true,aPP]at hm
    obtain⟨hlx,hm⟩:=hm
    rw[if_pos hlx]at r
    rcases r with⟨n,v,hr,r⟩|⟨v,hs,r⟩
    case inr =>
     refine key v r λu h' pr' y=>?_
     rw[iM];unfold OpL;simp only[hx,hwx' u,hmx,hlx,if_true]
     exact .inr ⟨v,by rw[nL (ex u)];exact hs,y⟩

    have back:∀ (u:aC) (h':Heap) (pr':List (Nat×Nat)),h' n=h n->iM P ops ms cr l ((x,n)::pr') (eZ (eZ τ oi.dst u) ox.dst v) h' K->iM P ops ms cr (.op x l) pr' (eZ τ oi.dst u) h' K:=by
     intro u h' pr' e y
     rw[iM];unfold OpL;simp only[hx,hwx' u,hmx,hlx,if_true]
     exact .inl ⟨n,v,λh'' e'=>by rw[nL (ex u)];exact hr h'' (e'.trans e),y⟩
    unfold iM OpL at r
    rw[iM];unfold OpL
    simp only[hi]at r ⊢
    rw[vG (ei v),nL (ei v)]at r
    cases hwi:want ops τ oi with
    |none=>simp[hwi]at r
    |some ci =>
     simp only[hwi]at r ⊢
     cases ci with
     |false=>exact back _ _ _ rfl (iM.congr hK l _ _ _ _ h (ids _) (hc _ _) r)
     |true =>
      simp only at r ⊢
      split at r
      ·rename_i hmi;rw[if_pos hmi]
       split at r
       ·rename_i hl;rw[if_pos hl]
        rcases r with⟨m,u,hri,y⟩|⟨u,hri,y⟩
        ·exact .inl ⟨m,u,hri,back _ _ _ rfl (iM.congr hK l _ _ _ _ h (sw _ _) (hc _ _) y)⟩
        ·exact .inr ⟨u,hri,back _ _ _ rfl (iM.congr hK l _ _ _ _ h (ids _) (hc _ _) y)⟩
       ·rename_i hl;rw[if_neg hl]
        refine r.mono λu h' y=>⟨y.1.sub λp hp=>.inl (rM _ hp),?_⟩
        have hcx:wS cr x i=true:=by
         rcases hm with(h1|h1)|h1
         ·exact h1
         ·exact absurd h1 hl
         ·rw[hmi]at h1;cases h1
        exact back _ _ _ (y.1 (x,n) u4 hcx) (iM.congr hK l _ _ _ _ h' (ids _) (hc _ _) y.2)
      ·rename_i hmi;rw[if_neg hmi]
       obtain⟨u,hs,y⟩:=r
       exact⟨u,hs,back _ _ _ rfl (iM.congr hK l _ _ _ _ h (ids _) (hc _ _) y)⟩
   ·rw[if_neg hmx]at r
    obtain⟨v,hs,r⟩:=r
    refine key v r λu h' pr' y=>?_
    rw[iM];unfold OpL;simp only[hx,hwx' u]
    rw[if_neg hmx]
    exact⟨v,by rw[nL (ex u)];exact hs,y⟩
def blk:List Oper->Nat->List Nat->List Nat
 | [],_,B=>B
 |o::l,j,B=>blk l (j+1) (if o.after.toList.any (λe=>Region.binds .any e && B.contains e.on)then j::B else B)
theorem aSK:∀ (l:List Oper) (j:Nat) (B:List Nat) (b:Nat),b∈B->b∈blk l j B
 | [],_,_,_,h=>h
 |o::l,j,B,b,h=>by
  unfold blk
  refine aSK l (j+1) _ b ?_
  split
  ·exact rM _ h
  ·exact h
theorem aSL:∀ (l:List Oper) (j:Nat) (B:List Nat) (b:Nat),b∈blk l j B->b∈B∨∃ o e,j<=b/\l[b-j]?=some o/\e∈o.after.toList/\Region.binds .any e=true/\e.on∈blk l j B
 | [],_,_,_,h=>.inl h
 |o::l,j,B,b,h=>by
  unfold blk at h
  rcases aSL l (j+1) _ b h with h1|⟨o',e,h1,h2,h3,h4,h5⟩
  ·split at h1
   ·rename_i hany
    rcases oH.1 h1 with rfl|h1
    ·right
     obtain⟨e,he,hb⟩:=aW0.1 hany
     simp only[lH,a1M]at hb
     exact⟨o,e,j4 _,by simp,he,hb.1,aSK _ _ _ _ hb.2⟩
    ·exact .inl h1
   ·exact .inl h1
  ·refine .inr ⟨o',e,by omega,?_,h3,h4,?_⟩
   ·rw[show b-j=(b-(j+1))+1 by omega];simpa using h2
   ·unfold blk;exact h5
def qR (ops:Array Oper) (ms:List Nat) (cr:List (Nat×Nat)):qQ->List Nat->Bool
 | .nil,U=>U.isEmpty
 | .op x p,U=>U.contains x && (let B:=blk ops.toList 0 [x]
   (U.erase x).all λi=>B.contains i || (match ops[x]?,ops[i]? with|some ox,some oi=>aXS ms cr x i ox oi && aFZ ops ox oi|_,_=>false)) && qR ops ms cr p (U.erase x)
 | .alt x p y q,U=>U.contains x && U.contains y && (let B:=blk ops.toList 0 [x]
   let C:=blk ops.toList 0 [y]
   U.all λi=>i == x || i == y || B.contains i || C.contains i) && qR ops ms cr p (U.erase x) && qR ops ms cr q (U.erase y)
def a7Q (ops:Array Oper) (ms:List Nat) (p:qQ) (cr:List (Nat×Nat)):Bool :=
 qR ops ms cr p (List.range ops.size) &&
 (List.range ops.size).all λi=>match ops[i]? with|some o=>o.after.toList.all λe=>!Region.binds .any e || decide (e.on<i)|none=>true
def aKI (ops:Array Oper) (L:Nat->Prop):Prop:=∀ (j:Nat) (o:Oper),ops[j]?=some o->L j->∀ e∈o.after.toList,Region.binds .any e=true->L e.on
theorem aF0 {ops:Array Oper} {L:Nat->Prop} (hc:aKI ops L) {x:Nat} (hx:¬L x):∀ (l:List Oper) (j:Nat) (B:List Nat),(∀ k o,l[k]?=some o->ops[j+k]?=some o)->(∀ b∈B,¬L b)->∀ b∈blk l j B,¬L b
 | [],_,_,_,hB,b,h=>hB b h
 |o::l,j,B,hl,hB,b,h=>by
  unfold blk at h
  refine aF0 hc hx l (j+1) _ (λk o hk=>by have:=hl (k+1) o aMS;rwa [show j+1+k=j+(k+1)by omega]) ?_ b h
  intro b' hb'
  split at hb'
  ·rename_i hany
   rcases oH.1 hb' with rfl|hb'
   ·intro hL
    obtain⟨e,he,hb⟩:=aW0.1 hany
    simp only[lH,a1M]at hb
    exact hB _ hb.2 (hc b' o (by simpa using hl 0 o rfl) hL e he hb.1)
   ·exact hB b' hb'
  ·exact hB b' hb'
theorem aU3 {ops:Array Oper} {L:Nat->Prop} (hc:aKI ops L) {x i:Nat} (hx:¬L x) (hne:i≠x) {oi:Oper} (hi:ops[i]?=some oi) (hr:∀ e∈oi.after.toList,Region.binds .any e=true->L e.on):(blk ops.toList 0 [x]).contains i=false:=by
 cases hb:(blk ops.toList 0 [x]).contains i with
 |false=>rfl
 |true =>
  exfalso
  rw[a1M]at hb
  have hlist:=aF0 hc hx ops.toList 0 [x] (λk o hk=>by simpa using hk) aMR
  rcases aSL _ _ _ _ hb with h1|⟨o,e,_,h2,h3,h4,h5⟩
  ·exact hne (by simpa using h1)
  ·have:o=oi:=by
    simp only[Nat.sub_zero,al5]at h2
    rw[hi]at h2;exact(eO h2).symm
   subst this
   exact hlist _ h5 (hr e h3 h4)
inductive aF1 (ops:Array Oper) (ms:List Nat) (cr:List (Nat×Nat)) (i:Nat) (oi:Oper):qQ->qQ->Prop where
 |here (p:qQ):aF1 ops ms cr i oi (.op i p) p
 |skip {x:Nat} {ox:Oper} {p p':qQ} (hox:ops[x]?=some ox) (hm:aXS ms cr x i ox oi=true) (hap:aFZ ops ox oi=true) (f:aF1 ops ms cr i oi p p'):aF1 ops ms cr i oi (.op x p) (.op x p')
 |left (p:qQ) (j:Nat) (q:qQ):aF1 ops ms cr i oi (.alt i p j q) p
 |right (j:Nat) (p q:qQ):aF1 ops ms cr i oi (.alt j p i q) q
theorem iM.front {P:Program} {ops:Array Oper} {ms:List Nat} {cr:List (Nat×Nat)} {K:bE->Heap->Prop} (hK:∀ τ τ' h,TEq τ τ'->K τ h->K τ' h) {i:Nat} {oi:Oper} (hi:ops[i]?=some oi) {p p':qQ} (f:aF1 ops ms cr i oi p p') :
  ∀ (pr:List (Nat×Nat)) (τ:bE) (h:Heap),iM P ops ms cr p pr τ h K->iM P ops ms cr (.op i p') pr τ h K:=by
 induction f with
 |here p=>intro pr τ h r;exact r
 |left p j q=>intro pr τ h r;exact r.1
 |right j p q=>intro pr τ h r;exact r.2
 | @skip x ox p p' hox hm hap f ih =>
  intro pr τ h r
  refine iM.swap hK hox hi hm hap ?_
  rw[iM]at r ⊢
  unfold OpL at r ⊢
  simp only[hox]at r ⊢
  cases hw:want ops τ ox with
  |none=>simp[hw]at r
  |some c =>
   simp only[hw]at r ⊢
   cases c with
   |false=>exact ih _ _ h r
   |true =>
    simp only at r ⊢
    by_cases hmx:ms.contains x=true
    ·rw[if_pos hmx]at r ⊢
     have hlx:aP0 ox=true:=by
      simp only[aXS,hmx,aWZ,aJ6,lH]at hm
      exact hm.1
     rw[if_pos hlx]at r ⊢
     rcases r with⟨n,v,hs,r⟩|⟨v,hs,r⟩
     ·exact .inl ⟨n,v,hs,ih _ _ h r⟩
     ·exact .inr ⟨v,hs,ih _ _ h r⟩
    ·rw[if_neg hmx]at r ⊢
     obtain⟨v,hs,r⟩:=r;exact⟨v,hs,ih _ _ h r⟩
theorem aM7 {ops:Array Oper} {ms:List Nat} {cr:List (Nat×Nat)} {i:Nat} {oi:Oper} (hoi:ops[i]?=some oi):∀ (p:qQ) (U:List Nat),qR ops ms cr p U=true->U.Nodup->i∈U ->
  (∀ x∈U,x≠i->(blk ops.toList 0 [x]).contains i=false)->∃ p',aF1 ops ms cr i oi p p'/\qR ops ms cr p' (U.erase i)=true
 | .nil,U,hv,_,hi,_=>by
  simp only[qR,List.isEmpty_iff]at hv
  subst hv;cases hi
 | .op x p,U,hv,hnd,hi,hb=>by
  simp only[qR,lH,tK]at hv
  obtain⟨⟨hx,hall⟩,hp⟩:=hv
  by_cases e:x=i
  ·subst e;exact⟨p,.here p,hp⟩
  ·have hie:i∈U.erase x:=(List.mem_erase_of_ne (sJ e)).2 hi
   have h1:=hall i hie
   have hxU:x∈U:=by simpa using hx
   rw[hb x hxU e,aJ6]at h1
   cases hox:ops[x]? with
   |none=>simp[hox]at h1
   |some ox =>
    simp only[hox,hoi,lH]at h1
    obtain⟨p',f,hp'⟩:=aM7 hoi p (U.erase x) hp (hnd.erase x) hie λy hy hne=>hb y (List.mem_of_mem_erase hy) hne
    refine⟨.op x p',.skip hox h1.1 h1.2 f,?_⟩
    simp only[qR,lH,tK]
    refine⟨⟨by simpa using(List.mem_erase_of_ne e).2 hxU,λj hj=>hall j ?_⟩,?_⟩
    ·rw[List.erase_comm]at hj;exact List.mem_of_mem_erase hj
    ·rw[List.erase_comm];exact hp'
 | .alt x p y q,U,hv,hnd,hi,hb=>by
  simp only[qR,lH,tK,Bool.or_eq_true,beq_iff_eq]at hv
  obtain⟨⟨⟨⟨hx,hy⟩,hall⟩,hp⟩,hq⟩:=hv
  by_cases e:x=i
  ·subst e;exact⟨p,.left p y q,hp⟩
  ·by_cases e2:y=i
   ·subst e2;exact⟨q,.right x p q,hq⟩
   ·exfalso
    rcases hall i hi with((h1|h1)|h1)|h1
    ·exact e h1.symm
    ·exact e2 h1.symm
    ·rw[hb x aMR e]at h1;cases h1
    ·rw[hb y (by simpa using hy) e2]at h1;cases h1
theorem aM8 {P:Program} {N:Nat} {ops:Array Oper} {ms:List Nat} {cr:List (Nat×Nat)} {Q:Exit->bE->Heap->Prop} (hN:zQ N ops=true) (keep:List Nat) {E₀:Env} {h₀:Heap} {w₀:World}
  (hback:∀ (i:Nat) (o:Oper),ops[i]?=some o->∀ e∈o.after.toList,Region.binds .any e=true->e.on<i) :
  ∀ (fuel:Nat) (listed:Array Bool) (p:qQ) (l:List Nat),listed.size=ops.size->l.Nodup->(∀ i,i∈l↔listed[i]?=some false)->fuel=l.length ->
   qR ops ms cr p l=true ->
   aKI ops (λi=>listed[i]?=some true) ->
   ∀ (pr:List (Nat×Nat)) (τ:bE) (h:Heap),iM P ops ms cr p pr τ h (λτ' h'=>Q .normal (Hl.prune keep τ') h')->∀ E w a,Ev E₀ h₀ w₀ E h w->Rel E h w->tQ ds E h w N τ a ->
   wpAny P .any ops (qO ds N Q E₀ h₀ w₀) fuel listed a w
 |0,listed,p,l,hsz,hnd,hl,hf,hp,hcl,pr,τ,h,r,E,w,a,ev,R,rt=>by
  have:l=[]:=aE8.1 hf.symm
  subst this
  have:p=.nil:=by cases p <;> simp[qR]at hp ⊢
  subst this
  refine⟨?_,⟨Hl.prune keep τ,h,E,r,ev,R,rt.prune keep⟩⟩
  unfold Region.ready
  rw[List.filter_eq_nil_iff]
  intro i hi hc
  simp only[aUS]at hi
  simp only[lH,aPP]at hc
  have hlt:i<listed.size:=by omega
  have:listed[i]?=some false:=by
   rw[aE7 hlt]
   have:=hc.1
   simp only[Array.getD,hlt,dif_pos]at this
   rw[←this];rfl
  exact absurd ((hl i).2 this) cK
 |fuel+1,listed,p,l,hsz,hnd,hl,hf,hp,hcl,pr,τ,h,r,E,w,a,ev,R,rt=>by
  have hK:∀ τ τ' h,TEq τ τ'->Q .normal (Hl.prune keep τ) h->Q .normal (Hl.prune keep τ') h:=λτ τ' h e q=>by
   have:Hl.prune keep τ=Hl.prune keep τ':=by unfold Hl.prune;exact aUT λk _=>by rw[e k]
   rwa [←this]
  have hready:∀ i,i∈Region.ready .any ops listed->i∈l/\∃ o,ops[i]?=some o/\∀ e∈o.after.toList,Region.binds .any e=true->listed[e.on]?=some true:=by
   intro i hi
   unfold Region.ready at hi
   rw[List.mem_filter]at hi
   obtain⟨hi,hc⟩:=hi
   simp only[aUS]at hi
   simp only[lH,aPP]at hc
   have hlt:i<listed.size:=by omega
   have hlf:listed[i]?=some false:=by
    rw[aE7 hlt]
    have:=hc.1
    simp only[Array.getD,hlt,dif_pos]at this
    rw[←this];rfl
   refine⟨(hl i).2 hlf,ops[i],aE7 hi,λe he hb=>?_⟩
   have h2:=hc.2
   simp only[aE7 hi,aD4,aD5]at h2
   rw[aW1]at h2
   have:=h2 e (by simpa using he)
   simp only[hb,aWZ,aJ6]at this
   by_cases hel:e.on<listed.size
   ·simp only[Array.getD,hel,dif_pos]at this
    rw[aE7 hel,←this];rfl
   ·simp[Array.getD,hel]at this
  refine⟨λhnil=>?_,λi hi=>?_⟩
  ·
   exfalso
   have hne:l≠[]:=by intro e;simp[e]at hf

   have:∃ m∈l,∀ j∈l,m<=j:=by
    obtain⟨x,hx⟩:=List.exists_mem_of_ne_nil l hne
    have key:∀ n,∀ x∈l,x<=n->∃ m∈l,∀ j∈l,m<=j:=by
     intro n
     induction n with
     |zero=>intro x hx hn;exact⟨x,hx,λj _=>by omega⟩
     |succ n ih =>
      intro x hx hn
      by_cases hall:∀ j∈l,x<=j
      ·exact⟨x,hx,hall⟩
      ·have:∃ j∈l,j<x:=by
        apply aMF
        intro hcon
        exact hall λj hj=>by
         apply aMF
         intro hlt
         exact hcon ⟨j,hj,by omega⟩
       obtain⟨j,hj,hlt⟩:=this
       exact ih j hj aA
    exact key x x hx (j4 _)
   obtain⟨m,hm,hmin⟩:=this
   have hmf:=(hl m).1 hm
   have hmlt:m<listed.size:=(aH0.1 hmf).1
   have hmo:m<ops.size:=by omega
   have hmem:m∈Region.ready .any ops listed:=by
    unfold Region.ready
    rw[List.mem_filter]
    refine⟨by simpa using hmo,?_⟩
    simp only[lH,aPP]
    refine⟨?_,?_⟩
    ·simp only[Array.getD,hmlt,dif_pos]
     have:=(aH0.1 hmf).2
     exact this
    ·simp only[aE7 hmo,aD4,aD5]
     rw[aW1]
     intro e he
     cases hb:Region.binds .any e with
     |false=>rfl
     |true =>
      simp only[aWZ,aJ6]
      have hlt:=hback m _ (aE7 hmo) e (by simpa using he) hb
      have hel:e.on<listed.size:=by omega
      simp only[Array.getD,hel,dif_pos]
      cases hv:listed[e.on]with
      |true=>exact hv
      |false =>
       have:=hmin e.on ((hl e.on).2 (by rw[aE7 hel,hv]))
       omega
   rw[hnil]at hmem
   simp at hmem
  ·obtain⟨hil,o,ho,hedges⟩:=hready i hi
   obtain⟨p',hfr,hp'⟩:=aM7 ho p l hp hnd hil λx hx hne=>aU3 hcl (x:=x) (i:=i) (by simp[(hl x).1 hx]) (sJ hne) ho hedges
   have hfront:=iM.front hK ho hfr pr τ h r
   unfold wpOp
   simp only[ho]
   have hdst:∀ k,o.dst=some k->k<N:=λk hk=>vF hN i o k ho hk
   have hil':listed[i]?=some false:=(hl i).1 hil
   have hilt:i<listed.size:=(aH0.1 hil').1
   have hrest:∀ (pr':List (Nat×Nat)) (τ':bE) (h':Heap),iM P ops ms cr p' pr' τ' h' (λτ' h'=>Q .normal (Hl.prune keep τ') h')->∀ E' w' a',Ev E₀ h₀ w₀ E' h' w'->Rel E' h' w'->tQ ds E' h' w' N τ' a' ->
     wpAny P .any ops (qO ds N Q E₀ h₀ w₀) fuel (listed.setIfInBounds i true) a' w':=by
    intro pr' τ' h' r' E' w' a' ev' R' rt'
    refine aM8 hN keep hback fuel _ p' (l.erase i) (by simpa using hsz) (hnd.erase i) ?_ (by rw[List.length_erase_of_mem hil];omega) hp' ?_ pr' τ' h' r' E' w' a' ev' R' rt'
    ·intro j
     rw[hnd.mem_erase_iff]
     by_cases e:j=i
     ·subst e
      simp[hilt]
     ·rw[aPN (sJ e),←hl j]
      simp[e]
    ·intro j oj hoj hL e he hb
     by_cases ej:j=i
     ·subst ej
      rw[ho]at hoj
      obtain rfl:=eO hoj
      have:=hedges e he hb
      by_cases e2:e.on=j
      ·rw[e2]at this;rw[this]at hil';simp at hil'
      ·rw[aPN (sJ e2)];exact this
     ·rw[aPN (sJ ej)]at hL
      have:=hcl j oj hoj hL e he hb
      by_cases e2:e.on=i
      ·rw[e2]at this;rw[this]at hil';simp at hil'
      ·rw[aPN (sJ e2)];exact this
   rw[iM]at hfront
   unfold OpL at hfront
   simp only[ho]at hfront
   have hmask:∀ x,dU E h w (rE ops o τ x) (a.eval x):=λx=>by
    cases x with
    |tmp t =>
     simp only[rE]
     split
     ·exact rt.get t
     ·exact .any _
    |const v=>exact rt.rV (.const v)
    |global g=>exact rt.rV (.global g)
    |func f=>exact rt.rV (.func f)
   cases hw:want ops τ o with
   |none=>simp[hw]at hfront
   |some c =>
    simp only[hw]at hfront
    have hwant:=zP rt hw (vF hN)
    rw[hwant]
    cases c with
    |false =>
     rw[if_neg cK]
     exact hrest _ _ h hfront E w _ ev R (rt.put o.dst hdst (dU.eW [] [] rfl cK))
    |true =>
     rw[if_pos rfl]
     left
     simp only at hfront
     split at hfront
     ·split at hfront
      ·rcases hfront with⟨n,v,hs,hfront⟩|⟨v,hs,hfront⟩
       ·refine uB.wp ((hs h rfl E w _ R hmask).mono ?_)
        rintro c w' ⟨x,h',E',⟨rfl,rfl⟩,ev',R',rx⟩
        exact hrest _ _ _ hfront E' w' _ (ev.trans ev') R' ((rt.ev ev').put o.dst hdst rx)
       ·refine uB.wp ((hs h E w _ R hmask).mono ?_)
        rintro c w' ⟨x,h',E',⟨rfl,rfl⟩,ev',R',rx⟩
        exact hrest _ _ _ hfront E' w' _ (ev.trans ev') R' ((rt.ev ev').put o.dst hdst rx)
      ·refine uB.wp ((hfront E w _ R hmask).mono ?_)
       rintro v w' ⟨x,h',E',k,ev',R',rx⟩
       exact hrest _ _ h' k.2 E' w' _ (ev.trans ev') R' ((rt.ev ev').put o.dst hdst rx)
     ·obtain⟨v,hs,hfront⟩:=hfront
      refine uB.wp ((hs h E w _ R hmask).mono ?_)
      rintro c w' ⟨x,h',E',⟨rfl,rfl⟩,ev',R',rx⟩
      exact hrest _ _ _ hfront E' w' _ (ev.trans ev') R' ((rt.ev ev').put o.dst hdst rx)
theorem nV.aM9 {P:Program} {N id:Nat} {ops:Array Oper} {ms:List Nat} {ord:qQ} {cr:List (Nat×Nat)} {Q:Exit->bE->Heap->Prop} {τ:bE} {h:Heap} (hmix:P.follows .mixedOrders=true) (hN:zQ N ops=true) (hord:a7Q ops ms ord cr=true) (keep:List Nat)
  (hr:iM P ops ms cr ord [] τ h λτ' h'=>Q .normal (Hl.prune keep τ') h'):nV P N (.region id ops true) Q τ h:=by
 intro ds E w a R r
 simp only[a7Q,lH]at hord
 obtain⟨h1,h5⟩:=hord
 rw[tK]at h5
 refine wp_region_any hmix ?_
 have ev:Ev E h w E h { w with drawn:=w.drawn+1 }:=⟨j4 _,λ_ hb=>⟨rfl,hb⟩,λ_ _=>rfl,λ_ hn=>⟨rfl,hn⟩,rfl,rfl⟩
 have R':Rel E h { w with drawn:=w.drawn+1 }:=⟨R.fin,R.dom,R.lt,R.apart,λn o hn=>(R.obj n o hn).ev ev rfl rfl λ_ _ _=>rfl,R.laid.ev ev⟩
 refine aM8 hN keep ?_ ops.size _ ord (List.range ops.size) cK List.nodup_range ?_ cK h1 ?_ [] τ h hr E _ a ev R' (r.ev ev)
 ·intro i o ho e he hb
  have:=h5 i (by simp;exact(aH0.1 ho).1)
  simp only[ho,tK]at this
  have:=this e he
  simpa[hb]using this
 ·intro i
  rw[aUS]
  constructor
  ·intro hi;simp[hi]
  ·intro hi;have:=(aH0.1 hi).1;simpa using this
 ·intro j o ho hL
  rw[Array.getElem?_replicate]at hL
  split at hL <;> simp at hL
def Det (F:(aC->Prop)->Prop):Prop:=∀ K,F K->∃ v,K v/\∀ K':aC->Prop,K' v->F K'
theorem nX (v:aC):Det λK=>K v:=λK hk=>⟨v,hk,λ_ h=>h⟩
theorem a15 {c:Prop} {F:(aC->Prop)->Prop} (h:c->Det F):Det λK=>c/\F K:=λK ⟨hc,hk⟩=>let ⟨v,h1,h2⟩:=h hc K hk;⟨v,h1,λK' h'=>⟨hc,h2 K' h'⟩⟩
theorem a16 (P:Program) (op:BinOp) (t:TypeId) (x y:aC):Det (e7 P op t x y):=by
 intro K hk
 unfold e7 at hk ⊢
 split at hk
 ·obtain⟨hd,hk⟩:=hk
  split at hk
  ·exact⟨_,hk,λK' h=>⟨hd,h⟩⟩
  ·exact⟨_,hk,λK' h=>⟨hd,h⟩⟩
  ·exact hk.elim
 ·split at hk
  ·exact⟨_,hk.2.2,λK' h=>⟨hk.1,hk.2.1,h⟩⟩
  ·exact⟨_,hk.2.2,λK' h=>⟨hk.1,hk.2.1,h⟩⟩
  ·exact⟨_,hk.2,λK' h=>⟨hk.1,h⟩⟩
  ·exact⟨_,hk.2,λK' h=>⟨hk.1,h⟩⟩
  ·split at hk
   ·rename_i v hv;exact⟨v,hk,λK' h=>by first|exact h|(simp only[hv];exact h)⟩
   ·exact hk.elim
 ·split at hk
  ·exact⟨_,hk.2,λK' h=>⟨hk.1,h⟩⟩
  ·exact⟨_,hk,λK' h=>h⟩
  ·exact⟨_,hk,λK' h=>h⟩
  ·split at hk
   ·rename_i v hv;exact⟨_,hk,λK' h=>by first|exact h|(simp only[hv];exact h)⟩
   ·exact hk.elim
 ·obtain⟨hd,hk⟩:=hk
  split at hk
  ·rename_i v hv;exact⟨_,hk,λK' h=>⟨hd,by first|exact h|(simp only[hv];exact h)⟩⟩
  ·rename_i v hv;exact⟨_,hk,λK' h=>⟨hd,by first|exact h|(simp only[hv];exact h)⟩⟩
  ·exact hk.elim
 ·split at hk
  ·rename_i v hv;exact⟨v,hk,λK' h=>by first|exact h|(simp only[hv];exact h)⟩
  ·exact hk.elim
theorem aU4 {P:Program} {op:BinOp} {t:TypeId} {x y:aC} {K:aC->Prop} (h:e7 P op t x y K):uG P op t x y K:=by
 unfold uG
 split
 ·simp[e7,lI]at h
 ·simp[e7,lI]at h
 ·simp[e7,lI]at h
 ·exact h
theorem aU5 {P:Program} {op:BinOp} {t:TypeId} {c:Bool} {x y:aC} {K:aC->Prop} (h:e7 P op t x y K):uH P op t c x y K:=by
 unfold uH
 split
 ·simp[e7,lI]at h
 ·simp[e7,lI]at h
 ·exact aU4 h
theorem a7R (op:UnOp) (x:aC):Det (aCI op x):=by
 intro K hk
 unfold aCI at hk ⊢
 split at hk
 ·exact⟨_,hk,λK' h=>h⟩
 ·exact⟨_,hk,λK' h=>h⟩
 ·exact hk.elim
theorem aXT (P:Program) (s d:TypeId) (x:aC):Det (xD P s d x):=by
 intro K hk
 unfold xD at hk ⊢
 split at hk
 ·rename_i hd;exact⟨_,hk.2,λK' h=>by first|exact⟨hk.1,h⟩|(simp only[hd];exact⟨hk.1,h⟩)⟩
 ·rename_i hd
  split at hk
  ·rename_i h1
   obtain⟨h2,hk⟩:=hk
   split at hk
   ·rename_i h3
    exact⟨_,hk,λK' h=>by exact⟨h2,h⟩⟩
   ·exact hk.elim
  ·exact hk.elim
 ·exact hk.elim
theorem a7S (d:Option TyD) (f:Nat) (x:aC):Det (aCJ d f x):=by
 intro K hk
 unfold aCJ at hk ⊢
 split at hk
 ·split at hk
  ·rename_i hf
   obtain⟨h1,hk⟩:=hk
   split at hk
   ·exact⟨_,hk,λK' h=>by first|exact⟨h1,h⟩|(simp only[hf];exact⟨h1,h⟩)⟩
   ·exact⟨_,hk,λK' h=>by first|exact⟨h1,h⟩|(simp only[hf];exact⟨h1,h⟩)⟩
   ·exact hk.elim
  ·exact hk.elim
 ·exact hk.elim
theorem a7T (re:Option j6) (x i:aC):Det (aCK re x i):=by
 intro K hk
 unfold aCK at hk ⊢
 split at hk
 ·split at hk
  ·exact⟨_,hk.2.2.2,λK' h=>⟨hk.1,hk.2.1,hk.2.2.1,h⟩⟩
  ·exact⟨_,hk.2.2.2,λK' h=>⟨hk.1,hk.2.1,hk.2.2.1,h⟩⟩
  ·exact hk.elim
 ·exact hk.elim
theorem a7U (d:Option TyD) (x i:aC):Det (zO d x i):=by
 intro K hk
 unfold zO at hk ⊢
 split at hk
 ·obtain⟨h1,hk⟩:=hk
  split at hk
  ·rename_i c hc;exact⟨_,hk,λK' h=>by first|exact⟨h1,h⟩|(simp only[hc];exact⟨h1,h⟩)⟩
  ·exact hk.elim
 ·exact hk.elim
theorem aXU (r:Option j6) (sz i off:Nat) (es:List (List aC)) (h:Heap):Det (iL r (.ip sz es i off) h):=by
 intro K hk
 unfold iL at hk ⊢
 split at hk
 ·simp only at hk ⊢
  split at hk
  ·rename_i he
   split at hk
   ·rename_i x hx;exact⟨x,hk,λK' h=>by first|exact h|(simp only[he,hx];exact h)⟩
   ·exact hk.elim
  ·exact hk.elim
 ·exact hk.elim
theorem aSM (r:Option j6) (sz i off:Nat) (es:List (List aC)) (h h':Heap) (K:aC->Prop):iL r (.ip sz es i off) h K=iL r (.ip sz es i off) h' K:=by
 unfold iL;rfl
theorem aNB {P:Program} {t:TypeId} {x:aC} {lo hi:Option aC} {K:aC->Prop} (h:lE P t x lo hi K):pK P t x lo hi K:=by
 unfold pK
 split
 ·simp only[lE]at h
  split at h
  ·rename_i re hre
   obtain⟨h1,h⟩:=h
   split at h
   ·rename_i l m hl hm
    obtain rfl:_=m:=eO hm
    obtain⟨a,b,c,d⟩:=h
    try rw[hre]
    simp only[hl]
    exact⟨h1,a,Int.le_of_lt b,λ_=>by simpa using d,λq=>absurd b aA⟩
   ·exact h.elim
  ·exact h.elim
 ·exact h
theorem aU6 (P:Program) (t:TypeId) (x:aC) (lo hi:Option aC):Det (lE P t x lo hi):=by
 intro K hk
 unfold lE at hk ⊢
 split at hk
 ·obtain⟨h1,hk⟩:=hk
  split at hk
  ·rename_i e1 e2;exact⟨_,hk.2.2.2,λK' h=>by first|exact⟨h1,hk.1,hk.2.1,hk.2.2.1,h⟩|(simp only[e1,e2];exact⟨h1,hk.1,hk.2.1,hk.2.2.1,h⟩)⟩
  ·exact hk.elim
 ·split at hk
  ·rename_i e0
   obtain⟨h1,hk⟩:=hk
   split at hk
   ·rename_i e1 e2;exact⟨_,hk.2.2.2,λK' h=>by first|exact⟨h1,hk.1,hk.2.1,hk.2.2.1,h⟩|(simp only[e0,e1,e2];exact⟨h1,hk.1,hk.2.1,hk.2.2.1,h⟩)⟩
   ·exact hk.elim
  ·exact hk.elim
 ·split at hk
  ·rename_i e0
   obtain⟨h1,hk⟩:=hk
   split at hk
   ·rename_i e1 e2;exact⟨_,hk.2.2.2,λK' h=>by first|exact⟨h1,hk.1,hk.2.1,hk.2.2.1,h⟩|(simp only[e0,e1,e2];exact⟨h1,hk.1,hk.2.1,hk.2.2.1,h⟩)⟩
   ·exact hk.elim
  ·exact hk.elim
 ·exact hk.elim
theorem aP1 (P:Program) (t:TypeId) (x:aC) (lo:Option aC) (hi mx:aC):Det (nK P t x lo hi mx):=by
 intro K hk
 unfold nK at hk ⊢
 split at hk
 ·split at hk
  ·rename_i e0
   obtain⟨h1,hk⟩:=hk
   split at hk
   ·rename_i e1 e2 e3
    obtain⟨a,b,c,d,hk⟩:=hk
    exact⟨_,hk,λK' h=>by exact⟨h1,a,b,c,d,h⟩⟩
   ·exact hk.elim
  ·exact hk.elim
 ·exact hk.elim
theorem aU7 (P:Program) (r:Option j6) (ps:List (Nat×aC)):Det (rK P r ps):=by
 intro K hk
 unfold rK at hk ⊢
 split at hk
 ·exact⟨_,hk.2.2.2,λK' h=>⟨hk.1,hk.2.1,hk.2.2.1,h⟩⟩
 ·exact hk.elim
theorem a7V (re:Option j6) (len:Nat) (ps:List (Nat×aC)):Det λK=>rW re len ps λsz es=>K (.sl sz es true):=by
 intro K hk
 unfold rW at hk
 split at hk
 ·exact⟨_,hk.2.2.2.2.2,λK' h=>by unfold rW;exact⟨hk.1,hk.2.1,hk.2.2.1,hk.2.2.2.1,hk.2.2.2.2.1,h⟩⟩
 ·exact hk.elim
def aNC (P:Program) (t:Option TypeId) (x:aC) (K:aC->Prop):Prop :=
 match t with
 |some t=>match wJ P t,x with
  |some (.slice _),.sl _ es _=>K (.int .i64 es.length)
  |some (.slice _),.os _ _ _ n=>K (.int .i64 n)
  |some (.slice _),.aW=>K (.int .i64 0)
  |some .str,.str s=>K (.int .i64 s.length)
  | _,_=>False
 |none=>False
def aXV (P:Program) (g:FuncId) (args:List aC) (K:aC->Prop):Prop:=∃ r,eX P g args r/\K r
def aDO (P:Program) (o:Oper) (ρ:Operand->aC) (K:aC->Prop):Prop :=
 match o.op with
 | .move x=>K (ρ x)
 | .assign x=>K (ρ x)
 | .pick c a b=>match ρ c with
  | .bool t=>(t=true->K (ρ a))/\(t=false->K (ρ b))
  | _=>False
 | .binOp op t x y _=>e7 P op t (ρ x) (ρ y) K
 | .unOp op _ x=>aCI op (ρ x) K
 | .convert s d x=>xD P s d (ρ x) K
 | .fieldAddr t x f=>aCJ (wJ P t) f (ρ x) K
 | .indexAddr t x i=>aCK (kA P t) (ρ x) (ρ i) K
 | .index t x i=>zO (wJ P t) (ρ x) (ρ i) K
 | .load t a=>match ρ a with
  | .ip sz es i off=>iL (fE P t) (.ip sz es i off) (λ_=>none) K
  | _=>False
 | .slice t x lo hi none=>lE P t (ρ x) (lo.map ρ) (hi.map ρ) K
 | .extract t i=>match ρ t with
  | .eW cs=>match cs[i]? with|some x=>K x|none=>False
  | _=>False
 | .nilCheck x=>match ρ x with
  | .op n sz i k=>K (.op n sz i k)
  | .ip sz es i k=>K (.ip sz es i k)
  | _=>False
 | .makeFunc fn fs cs=>K (.fn fn (fs.toList.map ρ) (cs.toList.map ρ))
 | .build t ps=>rK P (fE P t) (ps.toList.map λp=>(p.1,ρ p.2)) K
 | .call { callee:=.value f,args:=as,argTypes:=_ }=>match ρ f with
  | .fn (.func g) first cap=>aXV P g (first++as.toList.map ρ++cap) K
  | _=>False
 | .call { callee:=.builtin .len,args:=as,argTypes:=ats }=>match as.toList with
  | [x]=>aNC P ats[0]? (ρ x) K
  | _=>False
 | .call { callee:=.builtin .max,args:=as,argTypes:=_ }=>match as.toList with
  | [x,y]=>match ρ x,ρ y with
   | .int k a,.int _ b=>(match ρ y with | .int k' _=>k'=k|_=>False)/\K (.int k (max a b))
   | _,_=>False
  | _=>False
 | .slice t x lo (some hi) (some mx)=>nK P t (ρ x) (lo.map ρ) (ρ hi) (ρ mx) K
 | _=>False
theorem jT {P:Program} {o:Oper} {ρ:Operand->aC} {F:(aC->Prop)->Prop} {K:aC->Prop} (hd:Det F) (hk:F K) (hs:∀ h K',F (λv=>K' v h)->step P o ρ h K'):∃ v,r5 P o ρ v/\K v:=by
 obtain⟨v,h1,h2⟩:=hd K hk
 exact⟨v,λh=>j7 (hs h _ (h2 (λv'=>v'=v/\h=h) ⟨rfl,rfl⟩)),h1⟩
theorem xF {P:Program} {o:Oper} {ρ:Operand->aC} {K:aC->Prop} (hs:aDO P o ρ K):∃ v,r5 P o ρ v/\K v:=by
 unfold aDO at hs
 split at hs
 case h_1 x ho=>exact jT (nX _) hs λh K' f=>by unfold step;rw[ho];exact f
 case h_2 x ho=>exact jT (nX _) hs λh K' f=>by unfold step;rw[ho];exact f
 case h_3 c a b ho =>
  split at hs
  ·rename_i t ht
   refine⟨if t then ρ a else ρ b,λh=>j7 ?_,?_⟩
   ·unfold step;rw[ho];simp only[ht]
    cases t <;> simp
   ·cases t
    ·exact hs.2 rfl
    ·exact hs.1 rfl
  ·exact hs.elim
 case h_4 op t x y ty ho=>exact jT (a16 P op t _ _) hs λh K' f=>by unfold step;rw[ho];exact aU5 f
 case h_5 op t x ho=>exact jT (a7R op _) hs λh K' f=>by unfold step;rw[ho];exact f
 case h_6 s d x ho=>exact jT (aXT P s d _) hs λh K' f=>by unfold step;rw[ho];exact f
 case h_7 t x f ho=>exact jT (a7S _ f _) hs λh K' f=>by unfold step;rw[ho];exact f
 case h_8 t x i ho=>exact jT (a7T _ _ _) hs λh K' f=>by unfold step;rw[ho];exact f
 case h_9 t x i ho=>exact jT (a7U _ _ _) hs λh K' f=>by unfold step;rw[ho];exact f
 case h_10 t a ho =>
  split at hs
  ·rename_i sz es i off ha
   refine jT (aXU _ sz i off es _) hs λh K' f=>?_
   unfold step;rw[ho];simp only[ha];rw[aSM _ _ _ _ _ h (λ_=>none)];exact f
  ·exact hs.elim
 case h_11 t x lo hi ho=>exact jT (aU6 P t _ _ _) hs λh K' f=>by unfold step;rw[ho];exact aNB f
 case h_12 t i ho =>
  split at hs
  ·rename_i cs ht
   split at hs
   ·rename_i x hx
    exact jT (nX _) hs λh K' f=>by unfold step;rw[ho];simp only[ht,hx];exact f
   ·exact hs.elim
  ·exact hs.elim
 case h_13 x ho =>
  split at hs
  ·rename_i n sz i k hx;exact jT (nX _) hs λh K' f=>by unfold step;rw[ho];simp only[hx];exact f
  ·rename_i sz es i k hx;exact jT (nX _) hs λh K' f=>by unfold step;rw[ho];simp only[hx];exact f
  ·exact hs.elim
 case h_14 fn fs cs ho=>exact jT (nX _) hs λh K' f=>by unfold step;rw[ho];exact f
 case h_15 t ps ho=>exact jT (aU7 P _ _) hs λh K' f=>by unfold step;rw[ho];exact f
 case h_16 f as ats ho =>
  split at hs
  ·rename_i g first cap hf
   obtain⟨r,hr,hk⟩:=hs
   refine⟨r,λh=>j7 ?_,hk⟩
   unfold step;rw[ho];simp only[xC,hf]
   exact hr h
  ·exact hs.elim
 case h_17 as ats ho =>
  split at hs
  ·rename_i x hax
   unfold aNC at hs
   split at hs
   ·rename_i t hat
    split at hs
    all_goals first
     |exact hs.elim
     |(rename_i e1 e2;refine jT (nX _) hs λh K' f=>?_;unfold step;rw[ho];simp only[xC,hax,aKF,hat,e1,e2];first|exact λ_=>f|exact f)
   ·exact hs.elim
  ·exact hs.elim
 case h_18 as ats ho =>
  split at hs
  ·rename_i x y hax
   split at hs
   ·rename_i k a k' b hx hy
    refine⟨_,λh=>j7 ?_,hs.2⟩
    unfold step;rw[ho];simp only[xC,hax,hx,hy]
    have:=hs.1;simp only[hy]at this;simp[this]
   ·exact hs.elim
  ·exact hs.elim
 case h_19 t x lo hi mx ho=>exact jT (aP1 P t _ _ _ _) hs λh K' f=>by unfold step;rw[ho];exact f
 case h_20=>exact hs.elim
def aCM (P:Program) (ib:List Nat) (o:Oper) (ρ:Operand->aC) (K:aC->Prop):Prop :=
 match o.dst with
 |some d=>if ib.contains d then(match o.op with
   | .box _ x=>aFT (ρ x) K
   | .buildSlice t len ps=>rW (kA P t) len (ps.toList.map λp=>(p.1,ρ p.2)) λsz es=>K (.sl sz es true)
   | _=>aDO P o ρ K)else aDO P o ρ K
 |none=>aDO P o ρ K
theorem aND {P:Program} {ib:List Nat} {o:Oper} {ρ:Operand->aC} {F:(aC->Prop)->Prop} {K:aC->Prop} (hd:Det F) (hk:F K) (hs:∀ h K',F (λv=>K' v h)->rZ P ib o ρ h K'):∃ v,r5 P o ρ v/\K v:=by
 obtain⟨v,h1,h2⟩:=hd K hk
 exact⟨v,λh=>xE (hs h _ (h2 (λv'=>v'=v/\h=h) ⟨rfl,rfl⟩)),h1⟩
theorem aKJ {P:Program} {ib:List Nat} {o:Oper} {ρ:Operand->aC} {K:aC->Prop} (hs:aCM P ib o ρ K):∃ v,r5 P o ρ v/\K v:=by
 unfold aCM at hs
 split at hs
 ·rename_i d hd
  split at hs
  ·rename_i hib
   split at hs
   ·rename_i t x ho
    exact aND (ib:=ib) (a15 λ_=>nX _) hs λh K' f=>by unfold rZ;rw[hd];simp only[hib,if_true,ho];exact f
   ·rename_i t len ps ho
    exact aND (ib:=ib) (a7V _ _ _) hs λh K' f=>by unfold rZ;rw[hd];simp only[hib,if_true,ho];exact f
   ·exact xF hs
  ·exact xF hs
 ·exact xF hs
def aNE (P:Program) (o:Oper) (ρ:Operand->aC) (h:Heap) (K:Option Nat->aC->Prop):Prop :=
 match o.op with
 | .load t a=>match ρ a with
  | .op n sz i off=>iL (fE P t) (.op n sz i off) h λv=>K (some n) v
  | .ip sz es i off=>iL (fE P t) (.ip sz es i off) h λv=>K none v
  | _=>False
 | _=>False
theorem a17 (r:Option j6) (n sz i off:Nat) (h:Heap):Det (iL r (.op n sz i off) h):=by
 intro K hk
 unfold iL at hk ⊢
 split at hk
 ·simp only at hk
  split at hk
  ·rename_i sz' es e0
   obtain⟨h1,hk⟩:=hk
   split at hk
   ·rename_i e e1
    split at hk
    ·rename_i x e2
     exact⟨x,hk,λK' q=>by simp only[e0,e1,e2];exact⟨h1,q⟩⟩
    ·exact hk.elim
   ·exact hk.elim
  ·exact hk.elim
 ·exact hk.elim
theorem aXW (r:Option j6) (n sz i off:Nat) (h h':Heap) (e:h' n=h n) (K:aC->Prop):iL r (.op n sz i off) h' K=iL r (.op n sz i off) h K:=by
 unfold iL;simp only[e]
theorem aNF {P:Program} {o:Oper} {ρ:Operand->aC} {h:Heap} {K:Option Nat->aC->Prop} (hs:aNE P o ρ h K):(∃ n v,aKH P o ρ h n v/\K (some n) v)∨∃ v,r5 P o ρ v/\K none v:=by
 unfold aNE at hs
 split at hs
 ·rename_i t a ho
  split at hs
  ·rename_i n sz i off ha
   obtain⟨v,h1,h2⟩:=a17 _ n sz i off h _ hs
   refine .inl ⟨n,v,λh' e=>j7 ?_,h1⟩
   unfold step;rw[ho];simp only[ha]
   rw[aXW _ _ _ _ _ h h' e]
   have:=h2 (λv'=>v'=v/\h'=h') ⟨rfl,rfl⟩
   simpa using this
  ·rename_i sz es i off ha
   obtain⟨v,h1,h2⟩:=aXU _ sz i off es h _ hs
   refine .inr ⟨v,λh'=>j7 ?_,h1⟩
   unfold step;rw[ho];simp only[ha]
   rw[aSM _ _ _ _ _ h' h]
   have:=h2 (λv'=>v'=v/\h'=h') ⟨rfl,rfl⟩
   simpa using this
  ·exact hs.elim
 ·exact hs.elim
def aNG (cr:List (Nat×Nat)) (i:Nat):Option Nat->List (Nat×Nat)->List (Nat×Nat)
 |some n,pr=>if aXQ cr i then(i,n)::pr else pr
 |none,pr=>pr
def aF2 (cr:List (Nat×Nat)) (i:Nat):List (Nat×Nat)->Heap->Heap->Prop
 | [],_,_=>True
 |(x,n)::pr,h,h'=>(if wS cr x i then h' n=h n else True)/\aF2 cr i pr h h'
theorem aSN {cr:List (Nat×Nat)} {i:Nat} {h h':Heap}:∀ {pr:List (Nat×Nat)},aF2 cr i pr h h'->aFX cr i pr h h'
 | [],_=>λp hp=>by simp at hp
 |(x,n)::pr,q=>λp hp hc=>by
  simp only[aF2]at q
  rcases oH.1 hp with rfl|hp
  ·have:=q.1;rw[if_pos hc]at this;exact this
  ·exact aSN q.2 p hp hc
def aDP (P:Program) (ib:List Nat) (cr:List (Nat×Nat)) (i:Nat) (m:Bool) (o:Oper) (ρ:Operand->aC) (pr:List (Nat×Nat)) (h:Heap) (K:List (Nat×Nat)->aC->Heap->Prop):Prop :=
 if m then(if aP0 o then aNE P o ρ h (λn v=>K (aNG cr i n pr) v h)else rZ P ib o ρ h (λv h'=>aF2 cr i pr h h'/\K pr v h'))
 else aCM P ib o ρ (λv=>K pr v h)
def OpD (P:Program) (ib:List Nat) (ops:Array Oper) (ms:List Nat) (cr:List (Nat×Nat)) (i:Nat) (pr:List (Nat×Nat)) (τ:bE) (h:Heap) (C:List (Nat×Nat)->bE->Heap->Prop):Prop :=
 match ops[i]? with
  |none=>False
  |some o=>match o.guard with
   |none=>aDP P ib cr i (ms.contains i) o (rE ops o τ) pr h (λpr' v h'=>C pr' (eZ τ o.dst v) h')
   |some (g,b)=>match (ops[g]?).bind (·.dst)with
    |some d=>match cE τ d with
     | .bool b'=>(b'=b->aDP P ib cr i (ms.contains i) o (rE ops o ((d,.bool b)::τ)) pr h (λpr' v h'=>C pr' (eZ ((d,.bool b)::τ) o.dst v) h')) /\
       (b'=!b->C pr (eZ ((d,.bool !b)::τ) o.dst (.eW [])) h)
     | .eW []=>C pr (eZ τ o.dst (.eW [])) h
     | _=>False
    |none=>False
def aCN (P:Program) (ib:List Nat) (ops:Array Oper) (ms:List Nat) (cr:List (Nat×Nat)):qQ->List (Nat×Nat)->bE->Heap->(bE->Heap->Prop)->Prop
 | .nil,_,τ,h,K=>K τ h
 | .op i l,pr,τ,h,K=>OpD P ib ops ms cr i pr τ h λpr τ h=>aCN P ib ops ms cr l pr τ h K
 | .alt i l j q,pr,τ,h,K=>(OpD P ib ops ms cr i pr τ h λpr τ h=>aCN P ib ops ms cr l pr τ h K)/\OpD P ib ops ms cr j pr τ h λpr τ h=>aCN P ib ops ms cr q pr τ h K
theorem OpD.sound {P:Program} {ib:List Nat} {ops:Array Oper} {ms:List Nat} {cr:List (Nat×Nat)} {i:Nat} {C C':List (Nat×Nat)->bE->Heap->Prop}
  (hC:∀ (pr pr':List (Nat×Nat)) (τ τ':bE) (h:Heap),(∀ p∈pr',p∈pr∨∀ j,wS cr p.1 j=false)->TEq τ τ'->C pr τ h->C' pr' τ' h) (pr:List (Nat×Nat)) (τ:bE) (h:Heap) (r:OpD P ib ops ms cr i pr τ h C):OpL P ops ms i cr pr τ h C':=by
  have ids:∀ pr:List (Nat×Nat),∀ p∈pr,p∈pr∨∀ j,wS cr p.1 j=false:=λ_ _ h=>.inl h
  unfold OpD at r
  unfold OpL
  cases ho:ops[i]? with
  |none=>simp[ho]at r
  |some o =>
   simp only[ho]at r ⊢
   have go:∀ σ:bE,(∀ k,cE σ k=cE τ k)->want ops τ o=some true->aDP P ib cr i (ms.contains i) o (rE ops o σ) pr h (λpr' v h'=>C pr' (eZ σ o.dst v) h')->(match want ops τ o with
      |none=>False
      |some true=>if ms.contains i then(if aP0 o then(∃ n v,aKH P o (rE ops o τ) h n v/\C' ((i,n)::pr) (eZ τ o.dst v) h)∨∃ v,r5 P o (rE ops o τ) v/\C' pr (eZ τ o.dst v) h
         else l9 P o (rE ops o τ) h λv h'=>aFX cr i pr h h'/\C' pr (eZ τ o.dst v) h')
        else ∃ v,r5 P o (rE ops o τ) v/\C' pr (eZ τ o.dst v) h
      |some false=>C' pr (eZ τ o.dst (.eW [])) h):=by
    intro σ hσ hw r
    rw[hw]
    simp only
    rw[nL (ops:=ops) (o:=o) (τ:=σ) (τ':=τ) λt _=>hσ t]at r
    unfold aDP at r
    split at r
    ·rename_i hm;rw[if_pos hm]
     split at r
     ·rename_i hl;rw[if_pos hl]
      rcases aNF r with⟨n,v,h1,h2⟩|⟨v,h1,h2⟩
      ·refine .inl ⟨n,v,h1,hC _ _ _ _ h ?_ (TEq.put hσ _ _) h2⟩
       intro p hp
       simp only[aNG]
       split
       ·exact .inl hp
       ·rename_i hn
        rcases oH.1 hp with rfl|hp
        ·exact .inr λj=>aM5 (by simpa using hn)
        ·exact .inl hp
      ·exact .inr ⟨v,h1,hC _ _ _ _ h (ids _) (TEq.put hσ _ _) h2⟩
     ·rename_i hl;rw[if_neg hl]
      exact(xE r).mono λv h' x=>⟨aSN x.1,hC _ _ _ _ h' (ids _) (TEq.put hσ _ _) x.2⟩
    ·rename_i hm;rw[if_neg hm]
     obtain⟨v,h1,h2⟩:=aKJ r
     exact⟨v,h1,hC _ _ _ _ h (ids _) (TEq.put hσ _ _) h2⟩
   have skip:∀ σ:bE,(∀ k,cE σ k=cE τ k)->want ops τ o=some false->C pr (eZ σ o.dst (.eW [])) h->(match want ops τ o with
      |none=>False
      |some true=>if ms.contains i then(if aP0 o then(∃ n v,aKH P o (rE ops o τ) h n v/\C' ((i,n)::pr) (eZ τ o.dst v) h)∨∃ v,r5 P o (rE ops o τ) v/\C' pr (eZ τ o.dst v) h
         else l9 P o (rE ops o τ) h λv h'=>aFX cr i pr h h'/\C' pr (eZ τ o.dst v) h')
        else ∃ v,r5 P o (rE ops o τ) v/\C' pr (eZ τ o.dst v) h
      |some false=>C' pr (eZ τ o.dst (.eW [])) h):=by
    intro σ hσ hw r
    rw[hw]
    exact hC _ _ _ _ h (ids _) (TEq.put hσ _ _) r
   cases hg:o.guard with
   |none=>simp only[hg]at r;exact go τ (λ_=>rfl) (by simp[want,hg]) r
   |some gb =>
    obtain⟨g,b⟩:=gb
    simp only[hg]at r
    split at r
    ·rename_i d hd
     split at r
     ·rename_i b' hb'
      by_cases e:b'=b
      ·subst e
       exact go _ (vE hb') (by simp[want,hg,hd,hb']) (r.1 rfl)
      ·have e':b'=!b:=by cases b' <;> cases b <;> simp_all
       subst e'
       exact skip _ (vE hb') (by simp only[want,hg,hd,hb'];cases b <;> rfl) (r.2 rfl)
     ·rename_i hb';exact skip τ (λ_=>rfl) (by simp[want,hg,hd,hb']) r
     ·exact r.elim
    ·exact r.elim
theorem aCN.sound {P:Program} {ib:List Nat} {ops:Array Oper} {ms:List Nat} {cr:List (Nat×Nat)} {K:bE->Heap->Prop} (hK:∀ τ τ' h,TEq τ τ'->K τ h->K τ' h):∀ (l:qQ) (pr:List (Nat×Nat)) (τ:bE) (h:Heap),aCN P ib ops ms cr l pr τ h K->iM P ops ms cr l pr τ h K
 | .nil,_,_,_,r=>r
 | .op i l,pr,τ,h,r=>OpD.sound (λpr pr' τ τ' h hs e r=>iM.congr hK l _ _ _ _ h hs e (aCN.sound hK l pr τ h r)) pr τ h r
 | .alt i l j q,pr,τ,h,r=>⟨OpD.sound (λpr pr' τ τ' h hs e r=>iM.congr hK l _ _ _ _ h hs e (aCN.sound hK l pr τ h r)) pr τ h r.1,OpD.sound (λpr pr' τ τ' h hs e r=>iM.congr hK q _ _ _ _ h hs e (aCN.sound hK q pr τ h r)) pr τ h r.2⟩
abbrev Marks:=Nat->List Nat×qQ×List (Nat×Nat)
def aF3 (id:Nat) (K:bE->Heap->Prop) (Q:Exit->bE->Heap->Prop):Exit->bE->Heap->Prop
 | .exit i,τ,h=>if i=id then K τ h else Q (.exit i) τ h
 |e,τ,h=>Q e τ h
def hwp (P:Program) (N:Nat) (keep ib:List Nat) (mk:Marks):Code->(bE->Heap->Prop)->(Exit->bE->Heap->Prop)->bE->Heap->Prop
 | .skip,K,Q,τ,h=>K τ h
 | .region id ops false,K,Q,τ,h=>aA5 P ib ops ops.toList τ h λτ' h'=>K (Hl.prune keep τ') h'
 | .region id ops true,K,Q,τ,h=>aCN P ib ops (mk id).1 (mk id).2.2 (mk id).2.1 [] τ h λτ' h'=>K (Hl.prune keep τ') h'
 | .seq a b,K,Q,τ,h=>hwp P N keep ib mk a (λτ h=>hwp P N keep ib mk b K Q τ h) Q τ h
 | .cond c a b,K,Q,τ,h=>match rV τ c with
  | .bool t=>(t=true->hwp P N keep ib mk a K Q τ h)/\(t=false->hwp P N keep ib mk b K Q τ h)
  | _=>False
 | .block id c,K,Q,τ,h=>hwp P N keep ib mk c K (aF3 id K Q) τ h
 | .loop c,K,Q,τ,h=>nV P N (.loop c) (uF K Q) τ h
 | .exit id,K,Q,τ,h=>Q (.exit id) τ h
 | .ret,K,Q,τ,h=>Q .ret τ h
 | _,_,_,_,_=>False
def e8 (N:Nat) (mk:Marks):Code->Bool
 | .region _ ops false=>zQ N ops
 | .region id ops true=>zQ N ops && a7Q ops (mk id).1 (mk id).2.1 (mk id).2.2
 | .seq a b=>e8 N mk a && e8 N mk b
 | .cond _ a b=>e8 N mk a && e8 N mk b
 | .block _ c=>e8 N mk c
 | .loop c=>e8 N mk c
 | _=>true
theorem pL {P:Program} {N:Nat} {keep ib:List Nat} {mk:Marks} (hmix:P.follows .mixedOrders=true):∀ (c:Code) (K:bE->Heap->Prop) (Q:Exit->bE->Heap->Prop) (τ:bE) (h:Heap),e8 N mk c=true->hwp P N keep ib mk c K Q τ h->nV P N c (uF K Q) τ h
 | .skip,K,Q,τ,h,_,hw=>.skip hw
 | .region id ops false,K,Q,τ,h,hc,hw=>.region hc keep hw
 | .region id ops true,K,Q,τ,h,hc,hw=>by
  simp only[e8,lH]at hc
  exact .aM9 hmix hc.1 hc.2 keep (aCN.sound (λτ τ' h e q=>by
   have:Hl.prune keep τ=Hl.prune keep τ':=by unfold Hl.prune;exact aUT λk _=>by rw[e k]
   rwa [←this]) _ _ _ _ hw)
 | .seq a b,K,Q,τ,h,hc,hw=>by
  simp only[e8,lH]at hc
  refine .seq ((pL hmix a _ _ τ h hc.1 hw).mono ?_)
  intro e τ' h' q
  cases e <;> simp only[uF]at q ⊢ <;> first|exact q|exact pL hmix b _ _ _ _ hc.2 q
 | .cond c a b,K,Q,τ,h,hc,hw=>by
  simp only[e8,lH]at hc
  unfold hwp at hw
  split at hw
  ·rename_i t ht
   exact .cond ht (λe=>pL hmix a _ _ _ _ hc.1 (hw.1 e)) (λe=>pL hmix b _ _ _ _ hc.2 (hw.2 e))
  ·exact hw.elim
 | .block id c,K,Q,τ,h,hc,hw=>.block ((pL hmix c _ _ τ h hc hw).mono λe τ' h' q=>by
   cases e <;> simp only[uF,aF3,aKD]at q ⊢ <;> first|exact q|(split at q <;> rename_i hi <;> simp_all [uF,aKD]))
 | .loop c,K,Q,τ,h,hc,hw=>hw
 | .exit id,K,Q,τ,h,hc,hw=>.exit hw
 | .ret,K,Q,τ,h,hc,hw=>.ret hw
 | .rangeFunc _ _ _ _,_,_,_,_,_,hw=>hw.elim
 | .scope _,_,_,_,_,_,hw=>hw.elim
 | .label _,_,_,_,_,_,hw=>hw.elim
 | .goto _,_,_,_,_,_,hw=>hw.elim
 | .refuse _,_,_,_,_,_,hw=>hw.elim
theorem aF4 {P:Program} {f:FuncId} {fn:Func} {c:Code} (N:Nat) (keep ib:List Nat) (mk:Marks) {args:List aC} {h:Heap} {K:aC->Heap->Prop} (hmix:P.follows .mixedOrders=true) (hf:P.funcs[f]?=some fn) (hb:fn.body=some c)
  (hck:(eT P f && decide (fn.ntmps=N) && e8 N mk c)=true) (hl:args.length<=N) {K':aC->Heap->Prop}
  (hw:hwp P N keep ib mk c (aA6 P fn.results K' .normal) (aA6 P fn.results K') (nA 0 args) h) (hk:∀ r h',K' r h'->∃ g:Heap,g.le h'/\K r g):fH P f args h K:=by
 simp only[lH,decide_eq_true_eq]at hck
 refine aXP hf hb hck.1.1 hck.1.2 hl ((pL hmix c _ _ _ _ hck.2 hw).mono ?_) hk
 intro e τ h q
 cases e <;> exact q
theorem a18 {P:Program} {f:FuncId} {fn:Func} {c:Code} (N:Nat) (keep ib:List Nat) (mk:Marks) {args:List aC} {r:aC} (hmix:P.follows .mixedOrders=true) (hf:P.funcs[f]?=some fn) (hb:fn.body=some c)
  (hck:(eT P f && decide (fn.ntmps=N) && e8 N mk c)=true) (hl:args.length<=N)
  (hw:∀ h,hwp P N keep ib mk c (aA6 P fn.results (λr' h'=>r'=r/\h.le h') .normal) (aA6 P fn.results λr' h'=>r'=r/\h.le h') (nA 0 args) h):eX P f args r :=
 λh=>aF4 N keep ib mk hmix hf hb hck hl (hw h) λ_ _ hx=>⟨h,hx.2,hx.1,rfl⟩
theorem bA {h h':Heap} {n:Nat} {o:bW} (hn:h n=none):h.le (aR h' n o)↔h.le h':=by
 constructor
 ·intro hl m
  by_cases e:m=n
  ·subst e;exact .inl hn
  ·have:=hl m;rwa [aE _ _ _ _ e]at this
 ·exact Heap.bA hn
theorem aMI {h:Heap} {n m:Nat} {o:bW}:aR h n o m=none↔m≠n/\h m=none:=by
 simp only[aR];split <;> simp_all
def dM:bE->bE->Prop
 | [],_=>True
 |(k,v)::r,τ=>cE τ k=v/\dM r τ
theorem dM.get:∀ {l τ:bE},dM l τ->∀ k,cE l k=.any∨cE l k=cE τ k
 | [],τ,_,k=>.inl rfl
 |(j,v)::r,τ,h,k=>by
  simp only[cE]
  by_cases e:j=k
  ·subst e;right;rw[if_pos rfl];exact h.1.symm
  ·rw[if_neg e];exact dM.get h.2 k
theorem nV.weaken {P:Program} {N:Nat} {c:Code} {Q:Exit->bE->Heap->Prop} {σ τ:bE} {g h:Heap} (hs:dM σ τ) (hl:g.le h) (x:nV P N c Q σ g):nV P N c Q τ h :=
 nV.forget hl λds E w a R r=>x ds E w a R ⟨r.size,r.defers,λk=>by
  rcases hs.get k with e|e
  ·rw[e];exact .any _
  ·rw[e];exact r.get k⟩
theorem nV.aNH {P:Program} {N:Nat} {c:Code} {Q:Exit->bE->Heap->Prop} {τ:bE} {h:Heap} {α:Type} (S:α->bE) (H:α->Heap) (side:α->Prop) (μ:α->Nat) (x₀:α)
  (h₀:dM (S x₀) τ/\(H x₀).le h/\side x₀)
  (round:∀ x,side x->nV P N c (uF (λτ' h'=>∃ x',dM (S x') τ'/\(H x').le h'/\side x'/\μ x'<μ x) Q) (S x) (H x)):nV P N (.loop c) Q τ h :=
 nV.loop (λx τ h=>dM (S x) τ/\(H x).le h/\side x) μ x₀ h₀ λx τ h ⟨h1,h2,h3⟩ =>
  nV.weaken h1 h2 ((round x h3).mono λe τ h q=>by
   cases e <;> simp only[uF]at q ⊢ <;> first|exact q|(obtain⟨x',a,b,c,d⟩:=q;exact⟨x',⟨a,b,c⟩,d⟩))
end Go.Hl
