/-
  Contracts of functions and laws of the layer over the walk.
-/
import Derived.Test.YtchbdakgjlnbgaaGreatDoorHlA
import Derived.Orders
namespace Go.Hl
set_option linter.unusedVariables false
set_option linter.unusedSimpArgs false
def a0T:List aC->Nat->List aC->List aC
 |es,_,[]=>es
 |es,off,v::vs=>a0T (es.set off v) (off+1) vs
theorem aEY:∀ (vs es:List aC) (off:Nat),(a0T es off vs).length=es.length
 | [],_,_=>rfl
 |v::vs,es,off=>by simp[a0T,aEY vs]
theorem a0U:∀ (vs es:List aC) (off k:Nat),off+vs.length<=es.length->(a0T es off vs)[k]?=if off<=k/\k<off+vs.length then vs[k-off]? else es[k]?
 | [],es,off,k,_=>by
  rw[if_neg]
  ·rfl
  ·simp only[al3];omega
 |v::vs,es,off,k,h=>by
  simp only[al2]at h
  rw[a0T,a0U vs _ _ _ pW]
  by_cases e:k=off
  ·subst e
   rw[if_neg aA,if_pos aS,a35 aA]
   try simp
  ·rw[aZL (iR e)]
   by_cases h1:off+1<=k/\k<off+1+vs.length
   ·rw[if_pos h1,if_pos pW,show k-off=(k-(off+1))+1 by omega];simp
   ·rw[if_neg h1,if_neg pW]
def aQF (place:Nat->Option (Nat×Nat)) (es:List aC):List (Nat×aC)->List aC
 | []=>es
 |(i,v)::r=>match place i with
  |some (off,_)=>aQF place (a0T es off v.cells) r
  |none=>es
def aCZ (place:Nat->Option (Nat×Nat)) (n:Nat):List (Nat×aC)->Bool
 | []=>true
 |(i,v)::r=>(match place i with
  |some (off,sz)=>decide (v.cells.length=sz) && decide (off+sz<=n)
  |none=>false) && v.cells.all aC.flat && aCZ place n r
theorem b4U (a:Array Value):a.toList.length=a.size:=rfl
theorem aUY {E:Env} {h:Heap} {w:World} {ρ:Operand->aC} {place:Nat->Option (Nat×Nat)} {ρc:Operand->Value} (hρ:∀ x,fY E h w (ρ x) (ρc x)):∀ (ps:List (Nat×Operand)) (es:List aC) (cs:Array Value),aCZ place es.length (ps.map λp=>(p.1,ρ p.2))=true ->
  eT E h w es cs.toList->∃ cs',Instr.fill place cs (ps.map λp=>(p.1,ρc p.2))=some cs'/\eT E h w (aQF place es (ps.map λp=>(p.1,ρ p.2))) cs'.toList
 | [],es,cs,_,hL=>⟨cs,rfl,hL⟩
 |(i,x)::ps,es,cs,hf,hL=>by
  simp only[lU,aCZ,oN]at hf
  obtain⟨⟨hp,hfl⟩,hf⟩:=hf
  cases hpl:place i with
  |none=>simp[hpl]at hp
  |some os =>
   obtain⟨off,sz⟩:=os
   simp only[hpl,oN,decide_eq_true_eq]at hp
   obtain⟨hsz,hfit⟩:=hp
   obtain⟨hcL,hc1⟩:=(hρ x).aLJ hfl
   have hvs:(ρc x).cells.size=sz:=by have:=hcL.length;simp at this;omega
   have hcsz:cs.size=es.length:=by have:=hL.length;simpa using this.symm
   have hget:=λk=>aDY (ρc x).cells off cs k aA
   have hsize:=aBO (ρc x).cells off cs
   obtain⟨cs',r1,r2⟩:=aUY hρ ps (a0T es off (ρ x).cells) ((ρc x).cells.zipIdx.foldl (λcs (cj:Value×Nat)=>cs.setIfInBounds (off+cj.2) cj.1) cs) (by rw[aEY];exact hf) (by
    refine eT.mk (by rw[aEY,b4U,hsize,hcsz]) ?_
    intro k y v hy hv
    rw[a0U _ _ _ _ aA]at hy
    rw[aOB,hget k]at hv
    by_cases hr:off<=k/\k<off+(ρ x).cells.length
    ·rw[if_pos hr]at hy
     rw[if_pos aA]at hv
     exact hcL.get _ _ _ hy aJH
    ·rw[if_neg hr]at hy
     rw[if_neg aA]at hv
     exact hL.get _ _ _ hy aJH)
   refine⟨cs',?_,?_⟩
   ·simp only[lU,Instr.fill,hpl,hvs]
    rw[if_neg pW]
    exact r1
   ·simpa only[lU,aQF,hpl]using r2
def places (P:Program):TyD->Nat->Option (Nat×Nat)
 | .st fs,i=>(fs[i]?).map λf=>(f.1,f.2.2)
 | .arr _ e,i=>match gZ P e with|some re=>some (i*re.sz,re.sz)|none=>none
 | _,_=>none
def aEZ (P:Program):TyD->Bool
 | .st _=>true
 | .arr _ e=>(gZ P e).isSome
 | _=>false
theorem bC5 {P:Program} {o:Oper} {ρ:Operand->aC} {h:Heap} {K:aC->Heap->Prop} (t:TypeId) (ps:Array (Nat×Operand)) (r:nK) (ho:o.op=.build t ps) (ht:gZ P t=some r) (hd:aEZ P r.d=true) (hz:r.zero≠[])
  (hf:aCZ (places P r.d) r.zero.length (ps.toList.map λp=>(p.1,ρ p.2))=true) (hk:K (.agg (aQF (places P r.d) r.zero (ps.toList.map λp=>(p.1,ρ p.2)))) h):rI P o ρ h K :=
 dJ hk λE w ρc R hρ=>by
  obtain⟨u,hu,hud,hrun⟩:=dA (w:=w) ht
  obtain⟨z,hzr,hzz⟩:=tB (w:=w) ht hz
  have hL:eT E h w r.zero z.cells.toList:=by rw[←hzz];exact u1 E h w _
  obtain⟨cs,h1,h2⟩:=aUY hρ ps.toList r.zero z.cells hf hL
  refine⟨.agg cs,?_,by have:=fY.agg (E:=E) (h:=h) (w:=w) _ cs.toList h2.length h2.get;simpa using this⟩
  have hmap:(ps.map λ(i,x)=>(i,ρc x)).toList=ps.toList.map λp=>(p.1,ρc p.2):=by simp
  cases hdd:r.d with
  |st fs =>
   obtain⟨gs,rfl,hall,hgs⟩:=bFX (hud.trans hdd)
   have hpl:∀ i:Nat,((gs.toList.map λf=>(f.offset,P.cellsOf f.type)).toArray)[i]?=places P r.d i:=by
    intro i
    rw[hdd]
    simp only[places,←hgs,a4A,rM,Option.map_map]
    rfl
   have hm:(gs.mapM λf=>(do pure (f.offset,←sizeOf f.type):Sem (Nat×Nat))).run P w=.ok (gs.toList.map λf=>(f.offset,P.cellsOf f.type)).toArray w:=by
    rw[←Array.toArray_toList (xs:=gs),List.mapM_toArray]
    have key:∀ l:List Field,l.all (λf=>(P.info? f.type).isSome)=true->(l.mapM λf=>(do pure (f.offset,←sizeOf f.type):Sem (Nat×Nat))).run P w=.ok (l.map λf=>(f.offset,P.cellsOf f.type)) w:=by
     intro l
     induction l with
     |nil=>intro _;simp
     |cons f l ih =>
      intro hl
      simp only[al7,oN]at hl
      simp only[List.mapM_cons,Sem.run_bind,aES hl.1,Result.andThen_ok,Sem.run_pure,ih hl.2,lU]
    have hk':=key _ hall
    simp only[bind_pure_comp]at hk' ⊢
    simp[hk']
   simp only[execOp,ho,Instr.build,Sem.run_bind,hzr,Result.andThen_ok,hrun,hm,hmap]
   have:(λx=>(gs.toList.map λf=>(f.offset,P.cellsOf f.type)).toArray[x]?)=places P r.d:=funext hpl
   rw[this,h1]
   simp
  |arr n e =>
   obtain rfl:=bKZ (hud.trans hdd)
   rw[hdd]at hd
   obtain⟨re,hre⟩:=Option.isSome_iff_exists.1 hd
   have hsize:=jE (w:=w) hre
   simp only[execOp,ho,Instr.build,Sem.run_bind,hzr,Result.andThen_ok,hrun,hsize,hmap]
   have:(λi=>some (i*re.sz,re.sz))=places P r.d:=by funext i;rw[hdd];simp[places,hre]
   rw[this,h1]
   simp
  | _=>rw[hdd]at hd;simp[aEZ]at hd
section
variable {P:Program} {o:Oper} {ρ:Operand->aC} {h:Heap} {K:aC->Heap->Prop}
theorem aTU (t et:TypeId) (x:Operand) (lo hi:Option Operand) (mx:Operand) (r re:nK) (sz:Nat) (es:List (List aC)) (tg:Bool) (l m M:Int) (ho:o.op=.slice t x lo hi (some mx)) (ht:gZ P t=some r) (hd:r.d=.slice et)
  (he:gZ P et=some re) (hsz:re.sz=sz) (hx:ρ x=.sl sz es tg) (hhi:hi.isSome=true)
  (hl:kL 0 (lo.map ρ)=some l) (hh:kL es.length (hi.map ρ)=some m) (hM:kL 0 (some (ρ mx))=some M) (h0:0<=l) (h1:l<=m) (h2:m<=M) (h3:M<=es.length)
  (hk:K (.sl sz ((es.take m.toNat).drop l.toNat) (decide (M=m))) h):rI P o ρ h K :=
 dJ hk λE w ρc R hρ=>by
  have hr:=hρ x
  rw[hx]at hr
  obtain⟨u,hu,hud,hrun⟩:=dA (w:=w) ht
  obtain rfl:=jW (hud.trans hd)
  have hsize:=jE (w:=w) he
  have hml:maxLen=9223372036854775807:=rfl
  have key:∀ (a:Option Addr) (cap:Nat),ρc x=.slice a es.length cap->es.length<=cap ->
    (execOp ρc o).run P w=.ok (.value (.slice (if M.toNat=l.toNat then a else a.map (·.add (l.toNat*sz))) (m.toNat-l.toNat) (M.toNat-l.toNat))) w:=by
   intro a cap hv hc
   have hM':kL cap (some (ρ mx))=some M:=by
    generalize ρ mx=z at hM
    cases z <;> simp[kL]at hM ⊢
    exact hM
   have hb:=yZ (P:=P) R hρ true es.length cap lo hi (some mx) l m M hl hh hM' (λ_=>hhi) h0 h1 h2 aA
   simp only[aOA]at hb
   simp[execOp,ho,Instr.sliceAt,Instr.slice,hrun,hv,hb,hsize,hsz]
  have htk:∀ i j y,kE ((es.take m.toNat).drop l.toNat) i j=some y->kE es (l.toNat+i) j=some y:=by
   intro i j y hy
   obtain⟨e,h1,h2⟩:=mY hy
   rw[aPR]at h1
   have hlt:l.toNat+i<m.toNat:=by have:=(mU.1 h1).1;simp at this;omega
   rw[aWH hlt]at h1
   simp[kE,h1,h2]
  cases hv:ρc x <;> rw[hv]at hr <;> try(cases hr;done)
  cases hr with
  |sl0 _ _ _ _ htt hmax ha =>
   have hl0:l=0:=by simp at h3;omega
   have hm0:m=0:=by simp at h3;omega
   have hM0:M=0:=by simp at h3;omega
   subst hl0 hm0 hM0
   refine⟨_,key _ _ aJH aS,?_⟩
   simp only[bKI,bKJ,List.drop_nil,Nat.sub_zero,bE0,aLH,al3]
   exact .sl0 sz _ _ _ (λ_=>rfl) aA trivial
  |sl _ _ _ b o' cap cv hI hcap hmax htt hs hc h1' hrr =>
   rename_i cap
   refine⟨_,key _ cap hv hcap,?_⟩
   have hlen:((es.take m.toNat).drop l.toNat).length=m.toNat-l.toNat:=by simp;omega
   by_cases hemp:m.toNat=l.toNat
   ·have e1:(es.take m.toNat).drop l.toNat=[]:=aI0 pW
    rw[e1,hemp,aLH]
    refine .sl0 sz _ _ _ (λe=>?_) aA trivial
    simp at e;omega
   ·have hne:¬M.toNat=l.toNat:=by omega
    rw[if_neg hne,←hlen]
    simp only[aOA,addr_add]
    refine .sl sz _ _ b (o'+l.toNat*sz) (M.toNat-l.toNat) (λi j=>cv (l.toNat+i) j) hI aA aA (λe=>?_) ?_ ?_ ?_ ?_
    ·simp at e;omega
    ·intro e he
     exact hs e (aWJ (bE6 he))
    ·intro i j y hy
     rw[←hc _ _ _ (htk i j y hy)];congr 2;rw[aAT];omega
    ·intro i j y hy;exact h1' _ _ _ (htk i j y hy)
    ·intro i j y hy;exact hrr _ _ _ (htk i j y hy)
theorem aJS (t et:TypeId) (x:Operand) (lo hi:Option Operand) (r re:nK) (n sz i len:Nat) (l m:Int) (ho:o.op=.slice t x lo hi none) (ht:gZ P t=some r) (hd:r.d=.slice et)
  (he:gZ P et=some re) (hsz:re.sz=sz) (hx:ρ x=.os n sz i len)
  (hl:kL 0 (lo.map ρ)=some l) (hh:kL len (hi.map ρ)=some m) (h0:0<=l) (h1:l<m) (h2:m<=len)
  (hk:K (.os n sz (i+l.toNat) (m.toNat-l.toNat)) h):rI P o ρ h K :=
 dJ hk λE w ρc R hρ=>by
  have hr:=hρ x
  rw[hx]at hr
  obtain⟨u,hu,hud,hrun⟩:=dA (w:=w) ht
  obtain rfl:=jW (hud.trans hd)
  have hsize:=jE (w:=w) he
  have hml:maxLen=9223372036854775807:=rfl
  have key:∀ (a:Option Addr) (cap:Nat),ρc x=.slice a len cap->len<=cap ->
    (execOp ρc o).run P w=.ok (.value (.slice (if cap=l.toNat then a else a.map (·.add (l.toNat*sz))) (m.toNat-l.toNat) (cap-l.toNat))) w:=by
   intro a cap hv hc
   have hb:=yZ (P:=P) R hρ true len cap lo hi none l m cap hl hh rfl aS h0 aA aA aA
   simp only[bE5]at hb
   have e:((cap:Int)).toNat=cap:=by omega
   simp[execOp,ho,Instr.sliceAt,Instr.slice,hrun,hv,hb,hsize,hsz,e]
  cases hv:ρc x <;> rw[hv]at hr <;> try(cases hr;done)
  cases hr with
  |os0 _ _ hd' hl'=>simp at h2;omega
  |os _ _ _ _ b o' cap t' mm hd' hl' hlc hmax hsh hm =>
   refine⟨_,key _ _ hv hlc,?_⟩
   rename_i cap
   rw[if_neg aA]
   simp only[aOA,addr_add]
   have e:o'+i*sz+l.toNat*sz=o'+(i+l.toNat)*sz:=by rw[aAT];omega
   rw[e]
   refine .os n sz (i+l.toNat) (m.toNat-l.toNat) b o' (cap-l.toNat) t' mm hd' hl' aA aA hsh ?_
   rw[show i+l.toNat+(cap-l.toNat)=i+cap by omega]
   exact hm
theorem aTV (t et:TypeId) (x:Operand) (lo hi:Option Operand) (r re:nK) (n sz i len:Nat) (l m:Int) (ho:o.op=.slice t x lo hi none) (ht:gZ P t=some r) (hd:r.d=.slice et)
  (he:gZ P et=some re) (hsz:re.sz=sz) (hx:ρ x=.os n sz i len)
  (hl:kL 0 (lo.map ρ)=some l) (hh:kL len (hi.map ρ)=some m) (h0:0<=l) (h1:l=m) (bXN:m=len)
  (hk:K (.os n sz (i+len) 0) h) (hk2:K (.sl sz [] true) h):rI P o ρ h K :=
 by
  intro E w ρc R hρ
  have hr:=hρ x
  rw[hx]at hr
  obtain⟨u,hu,hud,hrun⟩:=dA (w:=w) ht
  obtain rfl:=jW (hud.trans hd)
  have hsize:=jE (w:=w) he
  have hml:maxLen=9223372036854775807:=rfl
  have key:∀ (a:Option Addr) (cap:Nat),ρc x=.slice a len cap->len<=cap ->
    (execOp ρc o).run P w=.ok (.value (.slice (if cap=l.toNat then a else a.map (·.add (l.toNat*sz))) (m.toNat-l.toNat) (cap-l.toNat))) w:=by
   intro a cap hv hc
   have hb:=yZ (P:=P) R hρ true len cap lo hi none l m cap hl hh rfl aS h0 aA aA aA
   simp only[bE5]at hb
   have e:((cap:Int)).toNat=cap:=by omega
   simp[execOp,ho,Instr.sliceAt,Instr.slice,hrun,hv,hb,hsize,hsz,e]
  cases hv:ρc x <;> rw[hv]at hr <;> try(cases hr;done)
  have e0:m.toNat-l.toNat=0:=by omega
  cases hr with
  |os0 _ _ hd' hl' =>
   have hk':=key _ _ hv (fL _)
   refine .kW hk' (.same hk2 R ?_)
   rw[e0]
   have e1:l.toNat=0:=by have h2:=bXN;simp at h2;omega
   rw[e1]
   exact .sl0 sz true _ _ (λ_=>rfl) (by simp[maxLen]) trivial
  |os _ _ _ _ b o' cap t' mm hd' hl' hlc hmax hsh hm =>
   have hk':=key _ _ hv hlc
   rename_i cap
   by_cases hcl:cap=l.toNat
   ·refine .kW hk' (.same hk2 R ?_)
    rw[e0,if_pos hcl]
    exact .sl0 sz true _ _ (λ_=>by omega) aA trivial
   ·refine .kW hk' (.same hk R ?_)
    rw[e0,if_neg hcl]
    simp only[aOA,addr_add]
    have hlm:m=len:=bXN
    have e:o'+i*sz+l.toNat*sz=o'+(i+len)*sz:=by
     have:l.toNat=len:=by omega
     rw[this,aAT];omega
    rw[e]
    refine .os n sz (i+len) 0 b o' (cap-l.toNat) t' mm hd' hl' aA aA hsh ?_
    rw[show i+len+(cap-l.toNat)=i+cap by omega]
    exact hm
def bytesOf:List (List aC)->Option (List UInt8)
 | []=>some []
 | [.int .u8 n]::r=>(bytesOf r).map (UInt8.ofNat n.toNat::·)
 | _=>none
theorem aJT:∀ {es:List (List aC)} {s:List UInt8},bytesOf es=some s->∃ ns:List Int,es=ns.map (λn=>[.int .u8 n])/\s=ns.map λn=>UInt8.ofNat n.toNat
 | [],s,h=>by simp[bytesOf]at h;subst h;exact⟨[],rfl,rfl⟩
 |e::r,s,h=>by
  unfold bytesOf at h
  split at h
  ·simp_all
  ·rename_i n r' heq
   obtain⟨rfl,rfl⟩:=bKO heq
   obtain⟨s',hs,rfl⟩:=xD.1 h
   obtain⟨ns,rfl,rfl⟩:=aJT hs
   exact⟨n::ns,rfl,rfl⟩
  ·simp at h
theorem foldl_push:∀ (ns:List Int) (r:ByteArray),ns.foldl (λr n=>r.push (UInt8.ofNat n.toNat)) r=⟨(r.data.toList++ns.map λn=>UInt8.ofNat n.toNat).toArray⟩
 | [],r=>by simp
 |n::ns,r=>by
  rw[bE7,foldl_push ns]
  simp[ByteArray.push,qT]
theorem aQG (s d et:TypeId) (x:Operand) (rs rd re:nK) (es:List (List aC)) (tg:Bool) (bs:List UInt8) (ho:o.op=.convert s d x) (hs:gZ P s=some rs) (hss:rs.d=.slice et) (het:gZ P et=some re) (hee:re.d=.int .u8)
  (hd:gZ P d=some rd) (hdd:rd.d=.str) (hx:ρ x=.sl 1 es tg) (hb:bytesOf es=some bs) (hk:K (.str bs) h):rI P o ρ h K :=
 dJ hk λE w ρc R hρ=>by
  have hr:=hρ x
  rw[hx]at hr
  obtain⟨u,hu,hud,hrun⟩:=dA (w:=w) hs
  obtain rfl:=jW (hud.trans hss)
  obtain⟨u',hu',hud',hrun'⟩:=dA (w:=w) hd
  obtain rfl:=aJL (hud'.trans hdd)
  obtain⟨ue,hue,hude,hrune⟩:=dA (w:=w) het
  obtain rfl:=a9P (hude.trans hee)
  obtain⟨ns,rfl,rfl⟩:=aJT hb
  generalize hes:(ns.map λn=>[aC.int .u8 n])=es at hr
  cases hv:ρc x <;> rw[hv]at hr <;> try(cases hr;done)
  cases hr with
  |sl0 _ _ a cap htt hmax ha =>
   have hns:ns=[]:=by simpa using hes
   subst hns
   rename_i a cap
   refine⟨.string ⟨#[]⟩,?_,.str [] aS⟩
   cases a with
   |none=>simp[execOp,ho,convert,hv,hrun,hrun',hrune,Conv.bytesToString];rfl
   |some a =>
    have:=run_bytesToString (P:=P) w a 0 cap [] (by simp[loadCells,loadCellsFrom])
    simp[execOp,ho,convert,hv,hrun,hrun',hrune,this];rfl
  |sl _ _ _ b o' cap cv hI hcap hmax htt hs' hc h1' hrr =>
   rename_i cap
   subst hes
   have hns:(ns.map λn=>UInt8.ofNat n.toNat).length<=maxLen:=by simp at hcap ⊢;omega
   refine⟨.string ⟨(ns.map λn=>UInt8.ofNat n.toNat).toArray⟩,?_,.str _ hns⟩
   have hl:(loadCells ⟨b,o',none⟩ ns.length).run P w=.ok (ns.map (Value.int .u8)).toArray w:=by
    have:=run_loadCells_list (P:=P) (w:=w) ⟨b,o',none⟩ (ns.map (Value.int .u8)) (λj v hj=>by
     rw[rM]at hj
     obtain⟨n,hn,rfl⟩:=xD.1 hj
     have hat:kE (ns.map λn=>[aC.int .u8 n]) j 0=some (.int .u8 n):=by simp[kE,hn]
     have h1:=hc j 0 _ hat
     have h2:=j4 (hrr j 0 _ hat)
     rw[addr_add,←h2,←h1]
     simp)
    simpa using this
   have:=run_bytesToString (P:=P) w ⟨b,o',none⟩ ns.length cap ns hl
   simp only[k5]at hv
   simp[execOp,ho,convert,hv,hrun,hrun',hrune,this]
   rw[foldl_push];simp
theorem a0V (t ty:TypeId) (x y:Operand) (a b:List UInt8) (ho:o.op=.binOp .add t x y ty) (hx:ρ x=.str a) (hy:ρ y=.str b) (hl:a.length+b.length<=9223372036854775807) (hk:K (.str (a++b)) h):rI P o ρ h K :=
 dJ hk λE w ρc R hρ=>by
  obtain⟨e1,h1⟩:=mZ (hx▸hρ x)
  obtain⟨e2,h2⟩:=mZ (hy▸hρ y)
  have hg:(eqGuard .add t x y (ρc x) (ρc y)).run P w=.ok () w:=by rw[e1,e2];simp[eqGuard]
  refine⟨.string ⟨(a++b).toArray⟩,?_,.str _ (by simp[maxLen]at *;omega)⟩
  simp only[execOp,ho,Sem.run_bind,hg,Result.andThen_ok,e1,e2,binOp,Op.stringOp]
  have hs:¬((((⟨a.toArray⟩:ByteArray).size+(⟨b.toArray⟩:ByteArray).size:Nat):Int) > IntKind.i64.max):=by
   have:IntKind.i64.max=9223372036854775807:=by decide
   rw[this];simp[ByteArray.size];omega
  rw[if_neg hs]
  simp only[Sem.run_pure]
  congr 3
def a4I (op:BinOp) (a b:List UInt8):Option Bool :=
 match op with
 | .lss=>some (Op.bytesLess a b)
 | .leq=>some (Op.bytesLess a b || a == b)
 | .gtr=>some (!(Op.bytesLess a b || a == b))
 | .geq=>some (!(Op.bytesLess a b))
 | _=>none
theorem a0W (op:BinOp) (t ty:TypeId) (x y:Operand) (a b:List UInt8) (c:Bool) (ho:o.op=.binOp op t x y ty) (hx:ρ x=.str a) (hy:ρ y=.str b) (hc:a4I op a b=some c) (hk:K (.bool c) h):rI P o ρ h K :=
 dJ hk λE w ρc R hρ=>by
  obtain⟨e1,h1⟩:=mZ (hx▸hρ x)
  obtain⟨e2,h2⟩:=mZ (hy▸hρ y)
  refine⟨.bool c,?_,.bool c⟩
  have q1:(⟨a.toArray⟩:ByteArray).toList=a:=by rw[ByteArray.toList_eq]
  have q2:(⟨b.toArray⟩:ByteArray).toList=b:=by rw[ByteArray.toList_eq]
  have hg:(eqGuard op t x y (ρc x) (ρc y)).run P w=.ok () w:=by
   rw[e1,e2];cases op <;> simp[eqGuard]
  rw[e1,e2]at hg
  cases op <;> simp only[a4I,bCU,reduceCtorEq]at hc <;> subst hc <;>
   simp only[execOp,ho,Sem.run_bind,hg,Result.andThen_ok,e1,e2,binOp,Op.stringOp,q1,q2,Sem.run_pure]
theorem aC0 (op:BinOp) (t ty:TypeId) (x y:Operand) (r:nK) (et:TypeId) (Z Z2:Prop) (ho:o.op=.binOp op t x y ty) (ht:gZ P t=some r) (hd:r.d=.slice et)
  (hx:∀ E w v,fY E h w (ρ x) v->∃ a n c,v=.slice a n c/\(a=none->Z)/\(¬a=none->Z2)) (hy:ρ y=.aV)
  (hop:op=.eql∨op=.neq) (h1:Z->K (.bool (op == .eql)) h) (h2:Z2->K (.bool (op != .eql)) h):rI P o ρ h K:=by
 intro E w ρc R hρ
 have hyv:ρc y=.slice none 0 0:=by have:=hy▸hρ y;generalize ρc y=v at this;cases this;rfl
 obtain⟨u,hu,hud,hrun⟩:=dA (w:=w) ht
 obtain rfl:=jW (hud.trans hd)
 have hg:(eqGuard op t x y (ρc x) (ρc y)).run P w=.ok () w:=by
  rw[hyv];rcases hop with rfl|rfl <;> cases ρc x <;> simp[eqGuard]
 have bF1:∀ (d:Nat) (a:Option Addr) (n c:Nat),(Op.equalIn (d+1) t (.slice a n c) (.slice none 0 0)).run P w=.ok a.isNone w:=by
  intro d a n c
  cases a <;> simp[Op.equalIn,hrun]
 have key:∀ (a:Option Addr) (n c:Nat),(Op.equal t (.slice a n c) (.slice none 0 0)).run P w=.ok a.isNone w:=λa n c=>bF1 9999 a n c
 have fin:∀ (a:Option Addr) (n c:Nat),ρc x=.slice a n c->K (.bool (if op=.eql then a.isNone else !a.isNone)) h->∃ v,(execOp ρc o).run P w=.ok (.value v) w/\fY E h w (.bool (if op=.eql then a.isNone else !a.isNone)) v:=by
  intro a n c e hk
  rw[e,hyv]at hg
  refine⟨.bool (if op=.eql then a.isNone else !a.isNone),?_,.bool _⟩
  rcases hop with rfl|rfl
  ·simp only[execOp,ho,Sem.run_bind,e,hyv,hg,Result.andThen_ok,binOp,key,Sem.run_pure];simp
  ·simp only[execOp,ho,Sem.run_bind,e,hyv,hg,Result.andThen_ok,binOp,key,Sem.run_pure];simp
 obtain⟨a,n,c,hv,hz,hz2⟩:=hx E w _ (hρ x)
 have h1':Z->K (.bool (if op=.eql then true else false)) h:=λq=>by have:=h1 q;rcases hop with rfl|rfl <;> exact this
 have h2':Z2->K (.bool (if op=.eql then false else true)) h:=λq=>by have:=h2 q;rcases hop with rfl|rfl <;> exact this
 cases a with
 |none =>
  have he:=hz rfl
  obtain⟨v,hv1,hv2⟩:=fin none n c hv (by simpa using h1' he)
  exact .kW hv1 (.same (by simpa using h1' he) R (by simpa using hv2))
 |some a =>
  have he:=hz2 aS
  obtain⟨v,hv1,hv2⟩:=fin (some a) n c hv (by simpa using h2' he)
  exact .kW hv1 (.same (by simpa using h2' he) R (by simpa using hv2))
theorem aNI (op:BinOp) (t ty:TypeId) (x y:Operand) (r:nK) (et:TypeId) (sz:Nat) (es:List (List aC)) (tt:Bool) (ho:o.op=.binOp op t x y ty) (ht:gZ P t=some r) (hd:r.d=.slice et) (hx:ρ x=.sl sz es tt) (hy:ρ y=.aV)
  (hop:op=.eql∨op=.neq) (h1:es=[]->K (.bool (op == .eql)) h) (h2:K (.bool (op != .eql)) h):rI P o ρ h K :=
 aC0 op t ty x y r et (es=[]) True ho ht hd (λE w v hr=>by
  rw[hx]at hr
  cases v <;> try(cases hr;done)
  exact⟨_,_,_,rfl,λq=>by subst q;cases hr <;> rfl,λ_=>trivial⟩) hy hop h1 λ_=>h2
theorem aJU (op:BinOp) (t ty:TypeId) (x y:Operand) (r:nK) (et:TypeId) (m sz i len:Nat) (ho:o.op=.binOp op t x y ty) (ht:gZ P t=some r) (hd:r.d=.slice et) (hx:ρ x=.os m sz i len) (hy:ρ y=.aV)
  (hop:op=.eql∨op=.neq) (h1:len=0->K (.bool (op == .eql)) h) (h2:K (.bool (op != .eql)) h):rI P o ρ h K :=
 aC0 op t ty x y r et (len=0) True ho ht hd (λE w v hr=>by
  rw[hx]at hr
  cases v <;> try(cases hr;done)
  exact⟨_,_,_,rfl,λq=>by subst q;cases hr;rfl,λ_=>trivial⟩) hy hop h1 λ_=>h2
theorem aJV (op:BinOp) (t ty:TypeId) (x y:Operand) (r:nK) (et:TypeId) (ho:o.op=.binOp op t x y ty) (ht:gZ P t=some r) (hd:r.d=.slice et) (hx:ρ x=.aV) (hy:ρ y=.aV)
  (hop:op=.eql∨op=.neq) (h1:K (.bool (op == .eql)) h):rI P o ρ h K :=
 aC0 op t ty x y r et True False ho ht hd (λE w v hr=>by
  rw[hx]at hr
  cases v <;> try(cases hr;done)
  exact⟨_,_,_,rfl,λ_=>trivial,λq=>by cases hr;exact q rfl⟩) hy hop (λ_=>h1) λq=>q.elim
def aBQ (P:Program) (t:TypeId):Bool:=match P.underlying t with|some (.interface _)=>true|_=>false
def xX:Operand->Bool | .const _=>true|_=>false
theorem aAF (op:BinOp) (t ty:TypeId) (x y:Operand) (b:Bool) (ho:o.op=.binOp op t x y ty) (hi:aBQ P t=true) (hc:xX y=true) (hx:(ρ x=.lS/\b=true)∨(∃ ti xi,ρ x=.iface ti xi)/\b=false) (hy:ρ y=.lS)
  (hop:op=.eql∨op=.neq) (h1:K (.bool (if op=.eql then b else !b)) h):rI P o ρ h K:=by
 intro E w ρc R hρ
 have hyv:ρc y=.nilIface:=by have:=hy▸hρ y;generalize ρc y=v at this;cases this;rfl
 obtain⟨ms,hu⟩:∃ ms,P.underlying t=some (.interface ms):=by
  unfold aBQ at hi
  split at hi
  ·exact⟨_,by assumption⟩
  ·cases hi
 have hrun:(underlying t).run P w=.ok (.interface ms) w:=by simp[underlying,hu]
 have hyc:∃ v,y=.const v:=by cases y <;> first|exact⟨_,rfl⟩|(simp[xX]at hc)
 obtain⟨yv,rfl⟩:=hyc
 refine .kW (v:=.bool (if op=.eql then b else !b)) ?_ (.same h1 R (.bool _))
 rcases hx with⟨hx,rfl⟩|⟨⟨ti,xi,hx⟩,rfl⟩
 ·have hxv:ρc x=.nilIface:=by have:=hx▸hρ x;generalize ρc x=v at this;cases this;rfl
  have hg:(eqGuard op t x (.const yv) (ρc x) (ρc (.const yv))).run P w=.ok () w:=by
   rw[hxv,hyv];rcases hop with rfl|rfl <;> simp[eqGuard]
  have bF1:∀ d:Nat,(Op.equalIn (d+1) t .nilIface .nilIface).run P w=.ok true w:=by
   intro d
   simp[Op.equalIn,hrun]
  have key:(Op.equal t .nilIface .nilIface).run P w=.ok true w:=bF1 9999
  rw[hxv,hyv]at hg
  rcases hop with rfl|rfl
  ·simp only[execOp,ho,Sem.run_bind,hxv,hyv,hg,Result.andThen_ok,binOp,key,Sem.run_pure];simp
  ·simp only[execOp,ho,Sem.run_bind,hxv,hyv,hg,Result.andThen_ok,binOp,key,Sem.run_pure];simp
 ·obtain⟨xv,hxv⟩:∃ xv,ρc x=.iface ti xv:=by have:=hx▸hρ x;generalize ρc x=v at this;cases this;exact⟨_,rfl⟩
  have hg:(eqGuard op t x (.const yv) (ρc x) (ρc (.const yv))).run P w=.ok () w:=by
   rw[hxv,hyv];rcases hop with rfl|rfl <;> simp[eqGuard]
  have bF1:∀ d:Nat,(Op.equalIn (d+1) t (.iface ti xv) .nilIface).run P w=.ok false w:=by
   intro d
   simp[Op.equalIn,hrun]
  have key:(Op.equal t (.iface ti xv) .nilIface).run P w=.ok false w:=bF1 9999
  rw[hxv,hyv]at hg
  rcases hop with rfl|rfl
  ·simp only[execOp,ho,Sem.run_bind,hxv,hyv,hg,Result.andThen_ok,binOp,key,Sem.run_pure];simp
  ·simp only[execOp,ho,Sem.run_bind,hxv,hyv,hg,Result.andThen_ok,binOp,key,Sem.run_pure];simp
end
variable {ds:List Deferred}
def jG (P:Program) (f:FuncId):Bool :=
 match P.funcs[f]? with
 |some fn=>fn.body.isSome && !(fn.name == "runtime.NumGoroutine")
 |none=>false
def gK (P:Program) (f:FuncId) (args:List aC) (h:Heap) (K:aC->Heap->Prop):Prop:=jG P f=true/\aWK P f args h K
theorem gK.mono {P:Program} {f:FuncId} {args:List aC} {h:Heap} {K K':aC->Heap->Prop} (a:gK P f args h K) (hk:∀ r h',K r h'->K' r h'):gK P f args h K':=⟨a.1,a.2.mono hk⟩
def dQ (P:Program) (f:FuncId) (args:List aC) (r:aC):Prop:=∀ h,gK P f args h λr' h'=>r'=r/\h'=h
theorem dQ.call {P:Program} {f:FuncId} {args:List aC} {r:aC} (a:dQ P f args r) {h:Heap} {K:aC->Heap->Prop} (hk:K r h):gK P f args h K :=
 (a h).mono λ_ _ ⟨e,e'⟩=>e▸e'▸hk
section
variable {P:Program} {o:Oper} {ρ:Operand->aC} {h:Heap} {K:aC->Heap->Prop}
theorem bF2 (f:Operand) (as:Array Operand) (ats:Array TypeId) (g:FuncId) (first cap:List aC) (ho:o.op=.call { callee:=.value f,args:=as,argTypes:=ats }) (hf:ρ f=.fn (.func g) first cap)
  (hk:gK P g (first++as.toList.map ρ++cap) h K):rI P o ρ h K:=by
 intro E w ρc R hρ
 have hr:=hρ f
 rw[hf]at hr
 obtain⟨hc,hk⟩:=hk
 cases hv:ρc f <;> rw[hv]at hr <;> try(cases hr;done)
 cases hr with
 |fn _ _ _ vs us hl hrr hl' hrr' =>
  have hL:=(eT.append (eT.append (eT.mk hl hrr) (aJO hρ as.toList)) (eT.mk hl' hrr'))
  unfold jG at hc
  cases hfn:P.funcs[g]? with
  |none=>simp[hfn]at hc
  |some fn =>
   simp only[hfn,oN,bCW,beq_eq_false_iff_ne,ne_eq]at hc
   have hb:fn.body.isNone=false:=by cases hb:fn.body <;> simp_all
   have hrun:(execOp ρc o).run P w=.ok (.enter g (vs++as.toList.map ρc++us).toArray) w:=by
    have hb':¬fn.body=none:=by intro e;simp[e]at hb
    simp[execOp,ho,resolve,hv,Deferred.ofValue,invoke,callFunc,hfn,hc.2]
    rw[if_neg hb']
    congr 2
    apply Array.ext'
    simp
   unfold aBM
   rw[hrun]
   exact Calls.mono (hk E w _ R hL) λe w' he=>by cases e <;> exact he
end
abbrev cJ:=List (Nat×aC)
def dB:cJ->Nat->aC
 | [],_=>.any
 |(j,v)::r,k=>if j=k then v else dB r k
def hev (τ:cJ):Operand->aC
 | .tmp t=>dB τ t
 | .const v=>.ofValue v
 | .global _=>.any
 | .func f=>.fn (.func f) [] []
def iT (τ:cJ) (d:Option Tmp) (v:aC):cJ :=
 match d with
 |some d=>(d,v)::τ
 |none=>τ
def prune (keep:List Nat) (τ:cJ):cJ:=keep.map λk=>(k,dB τ k)
structure aA9 (ds:List Deferred) (E:Env) (h:Heap) (w:World) (N:Nat) (τ:cJ) (a:Act):Prop where
 size:a.tmps.size=N
 defers:a.defers=ds
 get:∀ k,fY E h w (dB τ k) (a.tmps.getD k undef)
theorem aA9.hev {E:Env} {h:Heap} {w:World} {N:Nat} {τ:cJ} {a:Act} (r:aA9 ds E h w N τ a) (x:Operand):fY E h w (hev τ x) (a.eval x):=by
 cases x with
 |tmp t=>exact r.get t
 |const v=>exact .ofValue _ _ _ _
 |global g=>exact .any _
 |func f =>
  have:=fY.fn (E:=E) (h:=h) (w:=w) (.func f) [] [] [] [] rfl aS rfl aS
  exact this
theorem aA9.put {E:Env} {h:Heap} {w:World} {N:Nat} {τ:cJ} {a:Act} (r:aA9 ds E h w N τ a) (d:Option Tmp) (hd:∀ k,d=some k->k<N) {x:aC} {v:Value} (hx:fY E h w x v) :
  aA9 ds E h w N (iT τ d x) (a.put d v):=by
 cases d with
 |none=>exact r
 |some d =>
  have hlt:d<a.tmps.size:=by rw[r.size];exact hd d rfl
  refine⟨by simpa[Act.put]using r.size,r.defers,λk=>?_⟩
  simp only[iT,dB,Act.put]
  by_cases e:d=k
  ·subst e
   simp[hlt];exact hx
  ·rw[if_neg e]
   have:=r.get k
   simpa[a38 e]using this
theorem aA9.ev {E E':Env} {h h':Heap} {w w':World} {N:Nat} {τ:cJ} {a:Act} (r:aA9 ds E h w N τ a) (ev:Ev E h w E' h' w'):aA9 ds E' h' w' N τ a :=
 ⟨r.size,r.defers,λk=>(r.get k).ev ev⟩
theorem a4J (keep:List Nat) (τ:cJ) (k:Nat):dB (prune keep τ) k=.any∨dB (prune keep τ) k=dB τ k:=by
 induction keep with
 |nil=>exact .inl rfl
 |cons j keep ih =>
  simp only[prune,lU,dB]
  by_cases e:j=k
  ·subst e;simp
  ·rw[if_neg e];exact ih
theorem aA9.prune {E:Env} {h:Heap} {w:World} {N:Nat} {τ:cJ} {a:Act} (keep:List Nat) (r:aA9 ds E h w N τ a):aA9 ds E h w N (prune keep τ) a :=
 ⟨r.size,r.defers,λk=>by
  rcases a4J keep τ k with e|e
  ·rw[e];exact .any _
  ·rw[e];exact r.get k⟩
def xF (ds:List Deferred) (N:Nat) (Q:Exit->cJ->Heap->Prop) (E:Env) (h:Heap) (w:World) (e:Exit) (a':Act) (w':World):Prop :=
 ∃ τ' h' E',Q e τ' h'/\Ev E h w E' h' w'/\Rel E' h' w'/\aA9 ds E' h' w' N τ' a'
def tE (P:Program) (N:Nat) (c:Code) (Q:Exit->cJ->Heap->Prop) (τ:cJ) (h:Heap):Prop :=
 ∀ (ds:List Deferred) E w a,Rel E h w->aA9 ds E h w N τ a->Code.wp P c (xF ds N Q E h w) a w
theorem xF.trans {N:Nat} {Q:Exit->cJ->Heap->Prop} {E E':Env} {h h':Heap} {w w':World} {e:Exit} {a:Act} {w'':World} (ev:Ev E h w E' h' w') (x:xF ds N Q E' h' w' e a w''):xF ds N Q E h w e a w'' :=
 let ⟨τ,g,F,q,ev',R,r⟩:=x;⟨τ,g,F,q,ev.trans ev',R,r⟩
theorem tE.mono {P:Program} {N:Nat} {c:Code} {Q Q':Exit->cJ->Heap->Prop} {τ:cJ} {h:Heap} (hq:∀ e τ h,Q e τ h->Q' e τ h) (x:tE P N c Q τ h):tE P N c Q' τ h :=
 λds E w a R r=>Code.wp_mono (λe a' w' ⟨τ',h',E',q,rest⟩=>⟨τ',h',E',hq _ _ _ q,rest⟩) (x ds E w a R r)
theorem tE.prune {P:Program} {N:Nat} {c:Code} {Q:Exit->cJ->Heap->Prop} {τ:cJ} {h:Heap} (keep:List Nat) (x:tE P N c Q (prune keep τ) h):tE P N c Q τ h :=
 λds E w a R r=>x ds E w a R (r.prune keep)
theorem tE.forget {P:Program} {N:Nat} {c:Code} {Q:Exit->cJ->Heap->Prop} {τ:cJ} {h g:Heap} (hl:g.le h) (x:tE P N c Q τ g):tE P N c Q τ h :=
 λds E w a R r=>Code.wp_mono (λe a' w' y=>xF.trans ((Ev.refl E h w).forget hl) y) (x ds E w a (R.forget hl) (r.ev ((Ev.refl E h w).forget hl)))
theorem tE.skip {P:Program} {N:Nat} {Q:Exit->cJ->Heap->Prop} {τ:cJ} {h:Heap} (hq:Q .normal τ h):tE P N .skip Q τ h :=
 λds E w a R r=>wp_skip ⟨τ,h,E,hq,.refl _ _ _,R,r⟩
theorem tE.exit {P:Program} {N id:Nat} {Q:Exit->cJ->Heap->Prop} {τ:cJ} {h:Heap} (hq:Q (.exit id) τ h):tE P N (.exit id) Q τ h :=
 λds E w a R r=>wp_exit ⟨τ,h,E,hq,.refl _ _ _,R,r⟩
theorem tE.ret {P:Program} {N:Nat} {Q:Exit->cJ->Heap->Prop} {τ:cJ} {h:Heap} (hq:Q .ret τ h):tE P N .ret Q τ h :=
 λds E w a R r=>wp_ret ⟨τ,h,E,hq,.refl _ _ _,R,r⟩
def aBR (next:cJ->Heap->Prop) (Q:Exit->cJ->Heap->Prop):Exit->cJ->Heap->Prop
 | .normal,τ,h=>next τ h
 | .outgrown,_,_=>False
 |e,τ,h=>Q e τ h
theorem tE.seq {P:Program} {N:Nat} {x y:Code} {Q:Exit->cJ->Heap->Prop} {τ:cJ} {h:Heap} (hx:tE P N x (aBR (tE P N y Q) Q) τ h):tE P N (.seq x y) Q τ h:=by
 intro ds E w a R r
 refine wp_seq (Code.wp_mono ?_ (hx ds E w a R r))
 rintro e a' w' ⟨τ',h',E',q,ev,R',r'⟩
 cases e <;> simp only[aBR]at q
 ·simp only[Exit.then]
  exact Code.wp_mono (λe a w y=>xF.trans ev y) (q ds E' w' a' R' r')
 all_goals first|exact q.elim|exact⟨τ',h',E',q,ev,R',r'⟩
theorem tE.cond {P:Program} {N:Nat} {c:Operand} {x y:Code} {Q:Exit->cJ->Heap->Prop} {τ:cJ} {h:Heap} {b:Bool} (hc:hev τ c=.bool b)
  (ht:b=true->tE P N x Q τ h) (hf:b=false->tE P N y Q τ h):tE P N (.cond c x y) Q τ h:=by
 intro ds E w a R r
 have:=r.hev c
 rw[hc]at this
 exact wp_cond_split (aBN this) (λe=>ht e ds E w a R r) (λe=>hf e ds E w a R r)
def aWO (id:Nat) (Q:Exit->cJ->Heap->Prop):Exit->cJ->Heap->Prop
 | .exit id',τ,h=>if id'=id then Q .normal τ h else Q (.exit id') τ h
 | .outgrown,_,_=>False
 |e,τ,h=>Q e τ h
theorem tE.block {P:Program} {N id:Nat} {c:Code} {Q:Exit->cJ->Heap->Prop} {τ:cJ} {h:Heap} (hx:tE P N c (aWO id Q) τ h):tE P N (.block id c) Q τ h:=by
 intro ds E w a R r
 refine wp_block (Code.wp_mono ?_ (hx ds E w a R r))
 rintro e a' w' ⟨τ',h',E',q,ev,R',r'⟩
 cases e <;> simp only[aWO]at q <;> simp only[Exit.inBlock]
 case exit id' =>
  split
  ·rename_i e;rw[if_pos e]at q;exact⟨τ',h',E',q,ev,R',r'⟩
  ·rename_i e;rw[if_neg e]at q;exact⟨τ',h',E',q,ev,R',r'⟩
 all_goals first|exact q.elim|exact⟨τ',h',E',q,ev,R',r'⟩
theorem tE.loop {P:Program} {N:Nat} {c:Code} {Q:Exit->cJ->Heap->Prop} {τ:cJ} {h:Heap} {α:Type} (I:α->cJ->Heap->Prop) (μ:α->Nat) (x₀:α) (h₀:I x₀ τ h)
  (round:∀ x τ h,I x τ h->tE P N c (aBR (λτ' h'=>∃ x',I x' τ' h'/\μ x'<μ x) Q) τ h):tE P N (.loop c) Q τ h:=by
 intro ds E w a R r
 have key:∀ n x τ₁ h₁ E₁ a₁ w₁,μ x=n->I x τ₁ h₁->Ev E h w E₁ h₁ w₁->Rel E₁ h₁ w₁->aA9 ds E₁ h₁ w₁ N τ₁ a₁->∀ b k cs,
   ∃ e a' w',xF ds N Q E h w e a' w'/\Arrives P (lone (b.at a₁ (.code c::.inLoop c::k)) cs w₁) b k cs e a' w':=by
  intro n
  induction n using Nat.strongRecOn with
  | _ n ih =>
   intro x τ₁ h₁ E₁ a₁ w₁ hn hI ev₁ R₁ r₁ b k cs
   obtain⟨e,a₂,w₂,⟨τ₂,h₂,E₂,q,ev₂,R₂,r₂⟩,harr⟩:=round x τ₁ h₁ hI ds E₁ w₁ a₁ R₁ r₁ b (.inLoop c::k) cs
   cases e with
   |normal =>
    obtain⟨x',hI',hlt⟩:=q
    obtain⟨e₃,a₃,w₃,q₃,harr₃⟩:=ih (μ x') (hn▸hlt) x' τ₂ h₂ E₂ a₂ w₂ rfl hI' (ev₁.trans ev₂) R₂ r₂ b k cs
    exact⟨e₃,a₃,w₃,q₃,.of_steps (Steps.trans harr (.one step_inLoop)) harr₃⟩
   |outgrown=>exact q.elim
   |exit id=>exact⟨_,a₂,w₂,⟨τ₂,h₂,E₂,q,ev₁.trans ev₂,R₂,r₂⟩,.pass (x:=.inLoop c) rfl (λ_ _=>.inl aS) harr⟩
   |goto l=>exact⟨_,a₂,w₂,⟨τ₂,h₂,E₂,q,ev₁.trans ev₂,R₂,r₂⟩,.pass (x:=.inLoop c) rfl (λ_ _=>.inl aS) harr⟩
   |ret=>exact⟨_,a₂,w₂,⟨τ₂,h₂,E₂,q,ev₁.trans ev₂,R₂,r₂⟩,.pass (x:=.inLoop c) rfl (λ_ _=>.inl aS) harr⟩
   |panic ch=>exact⟨_,a₂,w₂,⟨τ₂,h₂,E₂,q,ev₁.trans ev₂,R₂,r₂⟩,.pass (x:=.inLoop c) rfl (λ_ _=>.inl aS) harr⟩
 intro b k cs
 obtain⟨e,a',w',q,harr⟩:=key _ x₀ τ h E a w rfl h₀ (.refl _ _ _) R r b k cs
 exact⟨e,a',w',q,.of_steps (.one step_loop) harr⟩
def nV (P:Program) (t:TypeId):Option nK :=
 match gZ P t with
 |some r=>match r.d with
  | .slice et=>gZ P et
  | _=>none
 |none=>none
theorem oQ {P:Program} {t:TypeId} {re:nK} (h:nV P t=some re):∃ r et,gZ P t=some r/\r.d=.slice et/\gZ P et=some re:=by
 unfold nV at h
 split at h
 ·rename_i r hr
  split at h
  ·rename_i et hd;exact⟨r,et,hr,hd,h⟩
  ·simp at h
 ·simp at h
def dOf (P:Program) (t:TypeId):Option TyD:=(gZ P t).map (·.d)
theorem lF {P:Program} {t:TypeId} {d:TyD} (h:dOf P t=some d):∃ r,gZ P t=some r/\r.d=d:=by
 unfold dOf at h
 obtain⟨r,hr,rfl⟩:=xD.1 h
 exact⟨r,hr,rfl⟩
def iU (P:Program) (op:BinOp) (t:TypeId) (x y:aC) (K:aC->Prop):Prop :=
 match x,y with
 | .bool a,.bool b=>dOf P t=some .bool/\(match op with | .eql=>K (.bool (a == b)) | .neq=>K (.bool (a != b))|_=>False)
 | .int k a,.int k' b =>
  match op with
  | .quo=>k=k'/\b≠0/\K (.int k (k.wrap (a.tdiv b)))
  | .rem=>k=k'/\b≠0/\K (.int k (a.tmod b))
  | .shl=>0<=b/\K (.int k (k.wrap (a*2 ^ (min b.toNat k.bits))))
  | .shr=>0<=b/\K (.int k (a.fdiv (2 ^ (min b.toNat k.bits))))
  |op=>match pO op (.int k a) (.int k' b)with|some v=>K v|none=>False
 | .str a,.str b =>
  match op with
  | .add=>a.length+b.length<=9223372036854775807/\K (.str (a++b))
  | .eql=>K (.bool (decide (a=b)))
  | .neq=>K (.bool (!decide (a=b)))
  |op=>match a4I op a b with|some c=>K (.bool c)|none=>False
 |x,y=>match pO op x y with|some v=>K v|none=>False
def aBS (P:Program) (op:BinOp) (t:TypeId) (x y:aC) (K:aC->Prop):Prop :=
 match x,y with
 | .sl _ es _,.aV=>(match dOf P t with|some (.slice _)=>True|_=>False)/\(match op with | .eql=>(es=[]->K (.bool true))/\K (.bool false) | .neq=>(es=[]->K (.bool false))/\K (.bool true)|_=>False)
 | .os _ _ _ len,.aV=>(match dOf P t with|some (.slice _)=>True|_=>False)/\(match op with | .eql=>(len=0->K (.bool true))/\K (.bool false) | .neq=>(len=0->K (.bool false))/\K (.bool true)|_=>False)
 | .aV,.aV=>(match dOf P t with|some (.slice _)=>True|_=>False)/\(match op with | .eql=>K (.bool true) | .neq=>K (.bool false)|_=>False)
 |x,y=>iU P op t x y K
def aBT (P:Program) (op:BinOp) (t:TypeId) (c:Bool) (x y:aC) (K:aC->Prop):Prop :=
 match c,x,y with
 |true,.lS,.lS=>aBQ P t=true/\(match op with | .eql=>K (.bool true) | .neq=>K (.bool false)|_=>False)
 |true,.iface _ _,.lS=>aBQ P t=true/\(match op with | .eql=>K (.bool false) | .neq=>K (.bool true)|_=>False)
 | _,x,y=>aBS P op t x y K
def aLN (op:UnOp) (x:aC) (K:aC->Prop):Prop :=
 match op,x with
 | .not,.bool b=>K (.bool (!b))
 | .neg,.int k n=>K (.int k (k.wrap (0-n)))
 | _,_=>False
def aLO (d:Option TyD) (f:Nat) (x:aC) (K:aC->Prop):Prop :=
 match d with
 |some (.st fs)=>match fs[f]? with
  |some (off,_,sz')=>sz'≠0/\(match x with
   | .op n sz i k=>K (.op n sz i (k+off))
   | .ip sz es i k=>K (.ip sz es i (k+off))
   | _=>False)
  |none=>False
 | _=>False
def aLP (re:Option nK) (x i:aC) (K:aC->Prop):Prop :=
 match re with
 |some re=>match x,i with
  | .sl sz es _,.int _ n=>re.sz=sz/\0<=n/\n<es.length/\K (.ip sz es n.toNat 0)
  | .os m sz i0 len,.int _ n=>re.sz=sz/\0<=n/\n<len/\K (.op m sz (i0+n.toNat) 0)
  | _,_=>False
 |none=>False
def aHF (d:Option TyD) (x i:aC) (K:aC->Prop):Prop :=
 match d,x,i with
 |some .str,.str s,.int _ n=>0<=n/\(match s[n.toNat]? with|some c=>K (.int .u8 c.toNat)|none=>False)
 | _,_,_=>False
def lC (r:Option nK) (a:aC) (h:Heap) (K:aC->Prop):Prop :=
 match r with
 |some r=>match a with
  | .ip _ es i off=>match es[i]? with
   |some e=>match ld r e off with
    |some x=>K x
    |none=>False
   |none=>False
  | .op n sz i off=>match h n with
   |some (.row sz' es)=>sz'=sz/\(match es[i]? with
    |some e=>match aNC r e off with
     |some x=>K x
     |none=>False
    |none=>False)
   | _=>False
  | _=>False
 |none=>False
def aWP (r:Option nK) (a v:aC) (h:Heap) (K:Heap->Prop):Prop :=
 match r with
 |some r=>match a with
  | .op n sz i off=>match h n with
   |some (.row sz' es)=>sz'=sz/\(match es[i]? with
    |some e=>v.cells.all aC.flat=true/\v.cells.length=r.sz/\off+r.sz<=e.length/\K (bT h n (.row sz (es.set i (r8 e off v.cells))))
    |none=>False)
   | _=>False
  | _=>False
 |none=>False
def aLQ (r:Option nK) (h:Heap) (K:aC->Heap->Prop):Prop :=
 match r with
 |some r=>r.zero≠[]/\r.zero.all aC.flat=true/\∀ n,h n=none->K (.op n r.zero.length 0 0) (bT h n (.row r.zero.length [r.zero.map .v]))
 |none=>False
def a9U (x:aC) (h:Heap) (K:aC->Heap->Prop):Prop :=
 x.cells.all aC.flat=true/\∀ n,h n=none->K (.op n x.cells.length 0 0) (bT h n (.row x.cells.length [x.cells.map .v]))
def bR5 (t:TypeId):Bool:=match bFT with|none=>false|some r=>decide (t=r)
def a9V (t:TypeId) (x:aC) (h:Heap) (K:aC->Heap->Prop):Prop :=
 x.cells=[.lB,.aV]/\∀ n,h n=none->K (.op n 2 0 0) (bT h n (.raw t #[.pointer none,.slice none 0 0]))
def aQH (re:Option nK) (l c:aC) (h:Heap) (K:aC->Heap->Prop):Prop :=
 match re with
 |some re=>match l,c with
  | .int _ a,.int _ b=>re.zero.length=re.sz/\0<re.sz/\re.zero.all aC.flat=true/\0<=a/\a<=b/\b<=281474976710656/\re.bytes*b<=281474976710656 /\
    ∀ n,h n=none->K (.os n re.sz 0 a.toNat) (bT h n (.row re.sz ((List.replicate b.toNat re.zero).map (List.map .v))))
  | _,_=>False
 |none=>False
def nY (P:Program) (t:TypeId) (x:aC) (lo hi:Option aC) (K:aC->Prop):Prop :=
 match x with
 | .str s=>dOf P t=some .str/\(match kL 0 lo,kL s.length hi with
  |some l,some m=>0<=l/\l<=m/\m<=s.length/\K (.str ((s.take m.toNat).drop l.toNat))
  | _,_=>False)
 | .sl sz es tg=>match nV P t with
  |some re=>re.sz=sz/\(match kL 0 lo,kL es.length hi with
   |some l,some m=>0<=l/\l<=m/\m<=es.length/\K (.sl sz ((es.take m.toNat).drop l.toNat) (tg && decide (m=es.length)))
   | _,_=>False)
  |none=>False
 | .os n sz i len=>match nV P t with
  |some re=>re.sz=sz/\(match kL 0 lo,kL len hi with
   |some l,some m=>0<=l/\l<m/\m<=len/\K (.os n sz (i+l.toNat) (m.toNat-l.toNat))
   | _,_=>False)
  |none=>False
 | _=>False
def v8 (P:Program) (t:TypeId) (x:aC) (lo hi:Option aC) (K:aC->Prop):Prop :=
 match x,hi with
 | .os n sz i len,none=>(match nV P t with
  |some re=>re.sz=sz/\(match kL 0 lo with
   |some l=>0<=l/\l<=len/\(l<len->K (.os n sz (i+l.toNat) (len-l.toNat)))/\(l=len->K (.os n sz (i+len) 0)/\K (.sl sz [] true))
   |none=>False)
  |none=>False)
 |x,hi=>nY P t x lo hi K
def sF (P:Program) (t:TypeId) (x:aC) (lo:Option aC) (hi mx:aC) (K:aC->Prop):Prop :=
 match x with
 | .sl sz es tg=>match nV P t with
  |some re=>re.sz=sz/\(match kL 0 lo,kL es.length (some hi),kL 0 (some mx)with
   |some l,some m,some M=>0<=l/\l<=m/\m<=M/\M<=es.length/\K (.sl sz ((es.take m.toNat).drop l.toNat) (decide (M=m)))
   | _,_,_=>False)
  |none=>False
 | _=>False
def aWQ (P:Program) (t:Option TypeId) (x:aC) (K:aC->Prop):Prop :=
 match t with
 |some t=>match dOf P t,x with
  |some (.slice _),.sl _ es _=>es.length<=9223372036854775807->K (.int .i64 es.length)
  |some (.slice _),.os _ _ _ n=>n<=9223372036854775807->K (.int .i64 n)
  |some (.slice _),.aV=>K (.int .i64 0)
  |some .str,.str s=>s.length<=9223372036854775807->K (.int .i64 s.length)
  | _,_=>False
 |none=>False
def yL (P:Program) (r:Option nK) (ps:List (Nat×aC)) (K:aC->Prop):Prop :=
 match r with
 |some r=>aEZ P r.d=true/\r.zero≠[]/\aCZ (places P r.d) r.zero.length ps=true/\K (.agg (aQF (places P r.d) r.zero ps))
 |none=>False
def zA (re:Option nK) (len:Nat) (ps:List (Nat×aC)) (K:Nat->List (List aC)->Prop):Prop :=
 match re with
 |some re=>re.zero.length=re.sz/\0<re.sz/\re.zero.all aC.flat=true/\len*re.sz<=16777216/\v7 len re.sz ps=true/\K re.sz (y1 (List.replicate len re.zero) ps)
 |none=>False
def aC2 (P:Program) (re:Option nK) (t1:Option TypeId) (x y:aC) (h:Heap) (K:aC->Heap->Prop):Prop :=
 match re with
 |some re=>re.zero.length=re.sz/\0<re.sz/\aEW P t1=true/\(match x with
  | .os n sz i len=>re.sz=sz/\(match h n with
   |some (.row sz' es)=>sz'=sz/\i+len<=es.length/\(match aAE h sz y with
    |some ys=>(len+ys.length)*re.bytes<=140737488355328/\len+ys.length<=9223372036854775807 /\
      ∀ b,h b=none->K (.os b sz 0 (len+ys.length)) (bT (bT h n .gone) b (.row sz ((es.drop i).take len++ys.map (List.map .v))))
    |none=>False)
   | _=>False)
  |x=>match aJR re.sz x,aAE h re.sz y with
   |some olds,some ys=>(ys=[]->K x h)/\(ys≠[]->(olds.length+ys.length)*re.bytes<=140737488355328/\olds.length+ys.length<=9223372036854775807 /\
     ∀ n,h n=none->K (.os n re.sz 0 (olds.length+ys.length)) (bT h n (.row re.sz ((olds++ys).map (List.map .v)))))
   | _,_=>False)
 |none=>False
def bK5 (P:Program) (t:Option TypeId):Option nK:=match t with|some t=>nV P t|none=>none
def aE0 (P:Program) (c:Call) (ρ:Operand->aC) (h:Heap) (K:aC->Heap->Prop):Prop :=
 match c with
 | { callee:=.value f,args:=as,argTypes:=_ }=>match ρ f with
  | .fn (.func g) first cap=>gK P g (first++as.toList.map ρ++cap) h K
  | _=>False
 | { callee:=.builtin .len,args:=as,argTypes:=ats }=>match as.toList with
  | [x]=>aWQ P ats[0]? (ρ x) λv=>K v h
  | _=>False
 | { callee:=.builtin .max,args:=as,argTypes:=_ }=>match as.toList with
  | [x,y]=>match ρ x,ρ y with
   | .int k a,.int _ b=>(match ρ y with | .int k' _=>k'=k|_=>False)/\K (.int k (max a b)) h
   | _,_=>False
  | _=>False
 | { callee:=.builtin .append,args:=as,argTypes:=ats }=>match as.toList with
  | [x,y]=>aC2 P (bK5 P ats[0]?) ats[1]? (ρ x) (ρ y) h K
  | _=>False
 | _=>False
def aE1 (P:Program) (s d:TypeId) (x:aC) (K:aC->Prop):Prop :=
 match dOf P d,x with
 |some (.int k'),.int k n=>(dOf P s).isSome=true/\K (.int k' (k'.wrap n))
 |some .str,.sl 1 es _=>(match dOf P s with
  |some (.slice et)=>dOf P et=some (.int .u8)/\(match bytesOf es with|some bs=>K (.str bs)|none=>False)
  | _=>False)
 | _,_=>False
def step (P:Program) (o:Oper) (ρ:Operand->aC) (h:Heap) (K:aC->Heap->Prop):Prop :=
 match o.op with
 | .move x=>K (ρ x) h
 | .assign x=>K (ρ x) h
 | .pick c a b=>match ρ c with
  | .bool t=>(t=true->K (ρ a) h)/\(t=false->K (ρ b) h)
  | _=>False
 | .binOp op t x y _=>aBT P op t (xX y) (ρ x) (ρ y) λv=>K v h
 | .unOp op _ x=>aLN op (ρ x) λv=>K v h
 | .convert s d x=>aE1 P s d (ρ x) λv=>K v h
 | .fieldAddr t x f=>aLO (dOf P t) f (ρ x) λv=>K v h
 | .indexAddr t x i=>aLP (nV P t) (ρ x) (ρ i) λv=>K v h
 | .index t x i=>aHF (dOf P t) (ρ x) (ρ i) λv=>K v h
 | .load t a=>lC (gZ P t) (ρ a) h λv=>K v h
 | .store t a v=>aWP (gZ P t) (ρ a) (ρ v) h λh'=>K .any h'
 | .alloc t=>aLQ (gZ P t) h K
 | .box t x=>if bR5 t then a9V t (ρ x) h K else a9U (ρ x) h K
 | .makeSlice t l c=>aQH (nV P t) (ρ l) (ρ c) h K
 | .slice t x lo hi none=>v8 P t (ρ x) (lo.map ρ) (hi.map ρ) λv=>K v h
 | .extract t i=>match ρ t with
  | .iF cs=>match cs[i]? with|some x=>K x h|none=>False
  | _=>False
 | .nilCheck x=>match ρ x with
  | .op n sz i k=>K (.op n sz i k) h
  | .ip sz es i k=>K (.ip sz es i k) h
  | _=>False
 | .makeFunc fn fs cs=>K (.fn fn (fs.toList.map ρ) (cs.toList.map ρ)) h
 | .call c=>aE0 P c ρ h K
 | .build t ps=>yL P (gZ P t) (ps.toList.map λp=>(p.1,ρ p.2)) λv=>K v h
 | .buildSlice t len ps=>zA (nV P t) len (ps.toList.map λp=>(p.1,ρ p.2)) λsz es=>∀ n,h n=none->K (.os n sz 0 len) (bT h n (.row sz (es.map (List.map .v))))
 | .slice t x lo (some hi) (some mx)=>sF P t (ρ x) (lo.map ρ) (ρ hi) (ρ mx) λv=>K v h
 | _=>False
section
variable {P:Program} {o:Oper} {ρ:Operand->aC} {h:Heap} {K:aC->Heap->Prop}
theorem aTW (op:BinOp) (t ty:TypeId) (x y:Operand) (ho:o.op=.binOp op t x y ty) (hs:iU P op t (ρ x) (ρ y) λv=>K v h):rI P o ρ h K:=by
 have gen:∀ v,pO op (ρ x) (ρ y)=some v->K v h->rI P o ρ h K:=λv hv hk=>bKY op t ty x y v ho hv hk
 unfold iU at hs
 split at hs
 ·rename_i a b ex ey
  obtain⟨hd,hs⟩:=hs
  obtain⟨r,hr,hd⟩:=lF hd
  split at hs
  ·exact aJP .eql t ty x y r a b _ ho hr hd ex ey (.inl ⟨rfl,rfl⟩) hs
  ·exact aJP .neq t ty x y r a b _ ho hr hd ex ey (.inr ⟨rfl,rfl⟩) hs
  ·exact hs.elim
 ·rename_i k a k' b ex ey
  split at hs
  ·obtain⟨rfl,hb,hk⟩:=hs
   exact a9Q .quo t ty x y k a b _ ho ex ey hb (.inl ⟨rfl,rfl⟩) hk
  ·obtain⟨rfl,hb,hk⟩:=hs
   exact a9Q .rem t ty x y k a b _ ho ex ey hb (.inr ⟨rfl,rfl⟩) hk
  ·obtain⟨hb,hk⟩:=hs
   exact aUU .shl t ty x y k k' a b _ ho ex ey hb (.inl ⟨rfl,rfl⟩) hk
  ·obtain⟨hb,hk⟩:=hs
   exact aUU .shr t ty x y k k' a b _ ho ex ey hb (.inr ⟨rfl,rfl⟩) hk
  ·split at hs
   ·rename_i v hv;exact gen v (by rw[ex,ey];exact hv) hs
   ·exact hs.elim
 ·rename_i a b ex ey
  split at hs
  ·exact a0V t ty x y a b ho ex ey hs.1 hs.2
  ·exact gen _ (by rw[ex,ey];rfl) hs
  ·exact gen _ (by rw[ex,ey];rfl) hs
  ·split at hs
   ·rename_i c hc;exact a0W _ t ty x y a b c ho ex ey hc hs
   ·exact hs.elim
 ·split at hs
  ·rename_i v hv;exact gen v hv hs
  ·exact hs.elim
theorem aQI (op:BinOp) (t ty:TypeId) (x y:Operand) (ho:o.op=.binOp op t x y ty) (hs:aBS P op t (ρ x) (ρ y) λv=>K v h):rI P o ρ h K:=by
 unfold aBS at hs
 split at hs
 ·rename_i sz es tt ex ey
  obtain⟨hd0,hs⟩:=hs
  split at hd0
  ·rename_i et hd
   obtain⟨r,hr,hd⟩:=lF hd
   split at hs
   ·exact aNI .eql t ty x y r et sz es tt ho hr hd ex ey (.inl rfl) hs.1 hs.2
   ·exact aNI .neq t ty x y r et sz es tt ho hr hd ex ey (.inr rfl) hs.1 hs.2
   ·exact hs.elim
  ·exact hd0.elim
 ·rename_i m sz i len ex ey
  obtain⟨hd0,hs⟩:=hs
  split at hd0
  ·rename_i et hd
   obtain⟨r,hr,hd⟩:=lF hd
   split at hs
   ·exact aJU .eql t ty x y r et m sz i len ho hr hd ex ey (.inl rfl) hs.1 hs.2
   ·exact aJU .neq t ty x y r et m sz i len ho hr hd ex ey (.inr rfl) hs.1 hs.2
   ·exact hs.elim
  ·exact hd0.elim
 ·rename_i ex ey
  obtain⟨hd0,hs⟩:=hs
  split at hd0
  ·rename_i et hd
   obtain⟨r,hr,hd⟩:=lF hd
   split at hs
   ·exact aJV .eql t ty x y r et ho hr hd ex ey (.inl rfl) hs
   ·exact aJV .neq t ty x y r et ho hr hd ex ey (.inr rfl) hs
   ·exact hs.elim
  ·exact hd0.elim
 ·exact aTW op t ty x y ho hs
theorem aQJ (op:BinOp) (t ty:TypeId) (x y:Operand) (ho:o.op=.binOp op t x y ty) (hs:aBT P op t (xX y) (ρ x) (ρ y) λv=>K v h):rI P o ρ h K:=by
 unfold aBT at hs
 split at hs
 ·rename_i ec ex ey
  obtain⟨hi,hs⟩:=hs
  split at hs
  ·exact aAF .eql t ty x y true ho hi ec (.inl ⟨ex,rfl⟩) ey (.inl rfl) hs
  ·exact aAF .neq t ty x y true ho hi ec (.inl ⟨ex,rfl⟩) ey (.inr rfl) hs
  ·exact hs.elim
 ·rename_i ti xi ec ex ey
  obtain⟨hi,hs⟩:=hs
  split at hs
  ·exact aAF .eql t ty x y false ho hi ec (.inr ⟨⟨_,_,ex⟩,rfl⟩) ey (.inl rfl) hs
  ·exact aAF .neq t ty x y false ho hi ec (.inr ⟨⟨_,_,ex⟩,rfl⟩) ey (.inr rfl) hs
  ·exact hs.elim
 ·exact aQI op t ty x y ho hs
theorem aTX (x y:Operand) (ats:Array TypeId) (ho:o.op=.call { callee:=.builtin .append,args:=#[x,y],argTypes:=ats }) (hs:aC2 P (bK5 P ats[0]?) ats[1]? (ρ x) (ρ y) h K):rI P o ρ h K:=by
 unfold aC2 at hs
 split at hs
 ·rename_i re hre
  unfold bK5 at hre
  split at hre
  ·rename_i t a0
   obtain⟨r,et,hr,hd,he⟩:=oQ hre
   obtain⟨hz,hz0,h1,hs⟩:=hs
   split at hs
   ·rename_i n sz i len hx
    obtain⟨hsz,hs⟩:=hs
    split at hs
    ·rename_i sz' es hn
     obtain⟨rfl,hle,hs⟩:=hs
     split at hs
     ·rename_i ys hy
      exact aTT x y ats t et r re n sz' i len es ys ho a0 hr hd he hz hz0 h1 hx hsz hn hle hy hs.1 hs.2.1 hs.2.2
     ·exact hs.elim
    ·exact hs.elim
   ·split at hs
    ·rename_i olds ys hx hy
     rcases List.eq_nil_or_concat ys with e|⟨_,_,e⟩
     ·subst e
      exact aOF x y ats t et r re ho a0 hr hd he h1 (by rw[hx];rfl) hy (hs.1 rfl)
     ·have hne:ys≠[]:=by rw[e];simp
      have hs:=hs.2 hne
      exact aQD x y ats t et r re olds ys ho a0 hr hd he hz hz0 h1 hx hy hne hs.1 hs.2.1 hs.2.2
    ·exact hs.elim
  ·simp at hre
 ·exact hs.elim
theorem nM (hs:step P o ρ h K):rI P o ρ h K:=by
 unfold step at hs
 split at hs
 case h_1 x ho=>exact bFU x ho hs
 case h_2 x ho=>exact a4F x ho hs
 case h_3 c a b ho =>
  split at hs
  ·rename_i t ht
   refine bFV c a b t ho ht ?_
   cases t
   ·exact hs.2 rfl
   ·exact hs.1 rfl
  ·exact hs.elim
 case h_4 op t x y ty ho=>exact aQJ op t ty x y ho hs
 case h_5 op t x ho =>
  unfold aLN at hs
  split at hs
  ·rename_i b hb;exact bK2 t x b ho hb hs
  ·rename_i k n hn;exact bK3 t x k n ho hn hs
  ·exact hs.elim
 case h_6 s d x ho =>
  unfold aE1 at hs
  split at hs
  ·rename_i k' k n hd hx
   obtain⟨rH,hk⟩:=hs
   obtain⟨rd,hrd,hdd⟩:=lF hd
   obtain⟨ds,hds⟩:=Option.isSome_iff_exists.1 rH
   obtain⟨rs,hrs,_⟩:=lF hds
   exact aOE s d x rs rd k k' n ho hrs hrd hdd hx hk
  ·rename_i es tg hd hx
   split at hs
   ·rename_i et hss
    obtain⟨hee,hs⟩:=hs
    split at hs
    ·rename_i bs hbs
     obtain⟨rd,hrd,hdd⟩:=lF hd
     obtain⟨rs,hrs,hsd⟩:=lF hss
     obtain⟨re,hre,hed⟩:=lF hee
     exact aQG s d et x rs rd re es tg bs ho hrs hsd hre hed hrd hdd hx hbs hs
    ·exact hs.elim
   ·exact hs.elim
  ·exact hs.elim
 case h_7 t x f ho =>
  unfold aLO at hs
  split at hs
  ·rename_i fs hd
   obtain⟨r,hr,hd⟩:=lF hd
   split at hs
   ·rename_i off ft sz' hf
    obtain⟨hsz,hs⟩:=hs
    split at hs
    ·rename_i n sz i k hx;exact aGS t x f r fs off sz' ft _ ho hr hd hf hsz (.inl ⟨n,sz,i,k,hx,rfl⟩) hs
    ·rename_i sz es i k hx;exact aGS t x f r fs off sz' ft _ ho hr hd hf hsz (.inr ⟨sz,es,i,k,hx,rfl⟩) hs
    ·exact hs.elim
   ·exact hs.elim
  ·exact hs.elim
 case h_8 t x i ho =>
  unfold aLP at hs
  split at hs
  ·rename_i re hre
   obtain⟨r,et,hr,hd,he⟩:=oQ hre
   split at hs
   ·rename_i sz es tg k n hx hi
    obtain⟨hsz,h0,hn,hk⟩:=hs
    exact aLK t et x i r re sz es tg k n ho hr hd he hsz hx hi h0 hn hk
   ·rename_i m sz i0 len k n hx hi
    obtain⟨hsz,h0,hn,hk⟩:=hs
    exact aLL t et x i r re m sz i0 len k n ho hr hd he hsz hx hi h0 hn hk
   ·exact hs.elim
  ·exact hs.elim
 case h_9 t x i ho =>
  unfold aHF at hs
  split at hs
  ·rename_i s k n hd hx hi
   obtain⟨r,hr,hd⟩:=lF hd
   obtain⟨h0,hs⟩:=hs
   split at hs
   ·rename_i c hc;exact aTQ t x i r s k n c ho hr hd hx hi h0 hc hs
   ·exact hs.elim
  ·exact hs.elim
 case h_10 t a ho =>
  unfold lC at hs
  split at hs
  ·rename_i r hr
   split at hs
   ·rename_i sz es i off ha
    split at hs
    ·rename_i e he
     split at hs
     ·rename_i x hx;exact a0L t a r sz i off es e x ho hr ha he hx hs
     ·exact hs.elim
    ·exact hs.elim
   ·rename_i n sz i off ha
    split at hs
    ·rename_i sz' es hn
     obtain⟨rfl,hs⟩:=hs
     split at hs
     ·rename_i e he
      split at hs
      ·rename_i x hx;exact a0M t a r n sz' i off es e x ho hr ha hn he hx hs
      ·exact hs.elim
     ·exact hs.elim
    ·exact hs.elim
   ·exact hs.elim
  ·exact hs.elim
 case h_11 t a v ho =>
  unfold aWP at hs
  split at hs
  ·rename_i r hr
   split at hs
   ·rename_i n sz i off ha
    split at hs
    ·rename_i sz' es hn
     obtain⟨rfl,hs⟩:=hs
     split at hs
     ·rename_i e he
      obtain⟨hf,hsz,hoff,hk⟩:=hs
      exact bC1 t a v r n sz' i off es e ho hr ha hn he hf hsz hoff hk
     ·exact hs.elim
    ·exact hs.elim
   ·exact hs.elim
  ·exact hs.elim
 case h_12 t ho =>
  unfold aLQ at hs
  split at hs
  ·rename_i r hr
   obtain⟨hz,hf,hk⟩:=hs
   exact bC2 t r ho hr hz hf hk
  ·exact hs.elim
 case h_13 t x ho =>
  split at hs
  ·exact a0N t x ho hs.1 hs.2
  ·exact bK1 t x ho hs.1 hs.2
 case h_14 t l c ho =>
  unfold aQH at hs
  split at hs
  ·rename_i re hre
   obtain⟨r,et,hr,hd,he⟩:=oQ hre
   split at hs
   ·rename_i k a k' b hl hc
    obtain⟨hz,hz0,hf,h0,hab,hb,hbb,hk⟩:=hs
    exact aTS t et l c r re k k' a b ho hr hd he hz hz0 hf hl hc h0 hab hb hbb hk
   ·exact hs.elim
  ·exact hs.elim
 case h_15 t x lo hi ho =>
  unfold v8 at hs
  split at hs
  ·rename_i n sz i len hx hhi
   split at hs
   ·rename_i re hre
    obtain⟨r,et,hr,hd,he⟩:=oQ hre
    obtain⟨hsz,hs⟩:=hs
    split at hs
    ·rename_i l hl
     obtain⟨h0,h1,h2,h3⟩:=hs
     rcases Int.lt_or_eq_of_le h1 with q|q
     ·have:=h2 q
      exact aJS t et x lo hi r re n sz i len l len ho hr hd he hsz hx hl (by rw[hhi];rfl) h0 q (Int.le_refl _) (by simpa using this)
     ·exact aTV t et x lo hi r re n sz i len l len ho hr hd he hsz hx hl (by rw[hhi];rfl) h0 q rfl (h3 q).1 (h3 q).2
    ·exact hs.elim
   ·exact hs.elim
  unfold nY at hs
  split at hs
  ·rename_i s hx
   obtain⟨hd,hs⟩:=hs
   obtain⟨r,hr,hd⟩:=lF hd
   split at hs
   ·rename_i l m hl hh
    obtain⟨h0,h1,h2,hk⟩:=hs
    exact aTR t x lo hi r s l m ho hr hd hx hl hh h0 h1 h2 hk
   ·exact hs.elim
  ·rename_i sz es tg hx
   split at hs
   ·rename_i re hre
    obtain⟨r,et,hr,hd,he⟩:=oQ hre
    obtain⟨hsz,hs⟩:=hs
    split at hs
    ·rename_i l m hl hh
     obtain⟨h0,h1,h2,hk⟩:=hs
     exact aWN t et x lo hi r re sz es tg l m ho hr hd he hsz hx hl hh h0 h1 h2 hk
    ·exact hs.elim
   ·exact hs.elim
  ·rename_i n sz i len hx
   split at hs
   ·rename_i re hre
    obtain⟨r,et,hr,hd,he⟩:=oQ hre
    obtain⟨hsz,hs⟩:=hs
    split at hs
    ·rename_i l m hl hh
     obtain⟨h0,h1,h2,hk⟩:=hs
     exact aJS t et x lo hi r re n sz i len l m ho hr hd he hsz hx hl hh h0 h1 h2 hk
    ·exact hs.elim
   ·exact hs.elim
  ·exact hs.elim
 case h_16 t i ho =>
  split at hs
  ·rename_i cs ht
   split at hs
   ·rename_i x hx;exact a0O t i cs x ho ht hx hs
   ·exact hs.elim
  ·exact hs.elim
 case h_17 x ho =>
  split at hs
  ·rename_i n sz i k hx;exact aJN x ho (.inl ⟨n,sz,i,k,hx⟩) (hx▸hs)
  ·rename_i sz es i k hx;exact aJN x ho (.inr ⟨sz,es,i,k,hx⟩) (hx▸hs)
  ·exact hs.elim
 case h_18 fn fs cs ho=>exact aWM fn fs cs ho hs
 case h_19 c ho =>
  unfold aE0 at hs
  split at hs
  ·rename_i f as ats
   split at hs
   ·rename_i g first cap hf;exact bF2 f as ats g first cap ho hf hs
   ·exact hs.elim
  ·rename_i as ats
   split at hs
   ·rename_i x hax
    have hax':as=#[x]:=by cases as;simp_all
    subst hax'
    unfold aWQ at hs
    split at hs
    ·rename_i t hat
     split at hs
     ·rename_i et sz es tg hd hx
      obtain⟨r,hr,hd⟩:=lF hd
      exact aOP t x r es.length ats ho hat hr (.inl ⟨_,sz,es,tg,hd,hx,rfl⟩) hs
     ·rename_i et m sz i n hd hx
      obtain⟨r,hr,hd⟩:=lF hd
      exact aOP t x r n ats ho hat hr (.inr (.inl ⟨_,m,sz,i,hd,hx⟩)) hs
     ·rename_i et hd hx
      obtain⟨r,hr,hd⟩:=lF hd
      exact aOP t x r 0 ats ho hat hr (.inr (.inr (.inl ⟨_,hd,hx,rfl⟩))) λ_=>hs
     ·rename_i s hd hx
      obtain⟨r,hr,hd⟩:=lF hd
      exact aOP t x r s.length ats ho hat hr (.inr (.inr (.inr ⟨s,hd,hx,rfl⟩))) hs
     ·exact hs.elim
    ·exact hs.elim
   ·exact hs.elim
  ·rename_i as ats
   split at hs
   ·rename_i x y hax
    have hax':as=#[x,y]:=by cases as;simp_all
    subst hax'
    split at hs
    ·rename_i k a k' b hx hy
     obtain⟨h1,hk⟩:=hs
     rw[hy]at h1
     simp only at h1
     subst h1
     exact bK4 x y ats _ a b ho hx hy hk
    ·exact hs.elim
   ·exact hs.elim
  ·rename_i as ats
   split at hs
   ·rename_i x y hax
    have hax':as=#[x,y]:=by cases as;simp_all
    subst hax'
    exact aTX x y ats ho hs
   ·exact hs.elim
  ·exact hs.elim
 case h_20 t ps ho =>
  unfold yL at hs
  split at hs
  ·rename_i r hr
   obtain⟨h1,h2,h3,hk⟩:=hs
   exact bC5 t ps r ho hr h1 h2 h3 hk
  ·exact hs.elim
 case h_21 t len ps ho =>
  unfold zA at hs
  split at hs
  ·rename_i re hre
   obtain⟨r,et,hr,hd,he⟩:=oQ hre
   obtain⟨h1,h2,h3,h4,h5,hk⟩:=hs
   exact aQB t et len ps r re ho hr hd he h1 h2 h3 h4 h5 hk
  ·exact hs.elim
 case h_22 t x lo hi mx ho =>
  unfold sF at hs
  split at hs
  ·rename_i sz es tg hx
   split at hs
   ·rename_i re hre
    obtain⟨r,et,hr,hd,he⟩:=oQ hre
    obtain⟨hsz,hs⟩:=hs
    split at hs
    ·rename_i l m M hl hh hM
     obtain⟨h0,h1,h2,h3,hk⟩:=hs
     exact aTU t et x lo (some hi) mx r re sz es tg l m M ho hr hd he hsz hx rfl hl hh hM h0 h1 h2 h3 hk
    ·exact hs.elim
   ·exact hs.elim
  ·exact hs.elim
 case h_23=>exact hs.elim
def aQK (x:aC) (K:aC->Prop):Prop:=x.cells.all aC.flat=true/\K (.ip x.cells.length [x.cells] 0 0)
def bR6 (r':aC) (h':Heap) (r:aC) (h:Heap):Prop :=
 ∀ E w v,Rel E h' w->fY E h' w r' v->∃ E',Ev E h' w E' h w/\Rel E' h w/\fY E' h w r v
def a9W (K:aC->Heap->Prop):aC->Heap->Prop:=λv h'=>∃ r g,bR6 v h' r g/\K r g
theorem rI.seal {P:Program} {o:Oper} {ρ:Operand->aC} {h:Heap} {K:aC->Heap->Prop} (a:rI P o ρ h (a9W K)):rI P o ρ h K:=λE w ρc R hρ =>
 (a E w ρc R hρ).mono λv w' ⟨r',h',E',⟨r,g,s,k⟩,ev,R',x⟩ =>
  let ⟨E'',ev',R'',x'⟩:=s E' w' v R' x
  ⟨r,g,E'',k,ev.trans ev',R'',x'⟩
def zB (P:Program) (ib:List Nat) (o:Oper) (ρ:Operand->aC) (h:Heap) (K:aC->Heap->Prop):Prop :=
 match o.dst with
 |some d=>if ib.contains d then(match o.op with
   | .box _ x=>aQK (ρ x) λv=>K v h
   | .buildSlice t len ps=>zA (nV P t) len (ps.toList.map λp=>(p.1,ρ p.2)) λsz es=>K (.sl sz es true) h
   | .call ⟨.builtin .append,_,_⟩=>step P o ρ h (a9W K)
   | _=>step P o ρ h K)else step P o ρ h K
 |none=>step P o ρ h K
theorem aE2 {ib:List Nat} (hs:zB P ib o ρ h K):rI P o ρ h K:=by
 unfold zB at hs
 split at hs
 ·split at hs
  ·split at hs
   ·rename_i t x ho;exact a0Q t x ho hs.1 hs.2
   ·rename_i t len ps ho
    unfold zA at hs
    split at hs
    ·rename_i re hre
     obtain⟨r,et,hr,hd,he⟩:=oQ hre
     obtain⟨h1,h2,h3,h4,h5,hk⟩:=hs
     exact aHD t et len ps r re ho hr hd he h1 h2 h3 h4 h5 hk
    ·exact hs.elim
   ·exact(nM hs).seal
   ·exact nM hs
  ·exact nM hs
 ·exact nM hs
end
variable {ds:List Deferred}
def want (ops:Array Oper) (τ:cJ) (o:Oper):Option Bool :=
 match o.guard with
 |none=>some true
 |some (g,b)=>match (ops[g]?).bind (·.dst)with
  |some d=>match dB τ d with
   | .bool b'=>some (b' == b)
   | .iF []=>some false
   | _=>none
  |none=>none
theorem aHG {E:Env} {h:Heap} {w:World} {N:Nat} {τ:cJ} {a:Act} {ops:Array Oper} {o:Oper} {c:Bool} (r:aA9 ds E h w N τ a) (hw:want ops τ o=some c) (hd:∀ (g:Nat) (og:Oper) d,ops[g]?=some og->og.dst=some d->d<N) :
  Region.wanted o (yielded ops a.tmps)=c:=by
 unfold want at hw
 unfold Region.wanted
 split at hw
 ·rename_i hg;rw[hg];exact dY hw
 ·rename_i g b hg
  rw[hg]
  split at hw
  ·rename_i d hdd
   obtain⟨og,hog,hod⟩:=Option.bind_eq_some_iff.1 hdd
   have hlt:d<a.tmps.size:=by rw[r.size];exact hd g og d hog hod
   have hr:=r.get d
   have hge:a.tmps[d]?=some a.tmps[d]:=aPS hlt
   have hgd:a.tmps.getD d undef=a.tmps[d]:=by simp[Array.getD,hlt]
   split at hw
   ·rename_i b' hb'
    rw[hb',hgd]at hr
    have:=aBN hr
    obtain rfl:=dY hw
    simp only[yielded,hog,a33,hod,hge,this]
    cases b <;> cases b' <;> rfl
   ·rename_i hb'
    rw[hb',hgd]at hr
    obtain rfl:=dY hw
    have:a.tmps[d]=.tuple #[]:=by
     cases hv:a.tmps[d] <;> rw[hv]at hr <;> try(cases hr;done)
     cases hr with
     |iF _ vs hl hrr =>
      have:vs=[]:=by cases vs <;> simp_all
      simp[this]
    simp only[yielded,hog,a33,hod,hge,this]
    cases b <;> rfl
   ·simp at hw
  ·simp at hw
def aJW (P:Program) (ib:List Nat) (ops:Array Oper):List Oper->cJ->Heap->(cJ->Heap->Prop)->Prop
 | [],τ,h,K=>K τ h
 |o::rest,τ,h,K=>match o.guard with
  |none=>zB P ib o (hev τ) h λv h'=>aJW P ib ops rest (iT τ o.dst v) h' K
  |some (g,b)=>match (ops[g]?).bind (·.dst)with
   |some d=>match dB τ d with
    | .bool b'=>(b'=b->zB P ib o (hev ((d,.bool b)::τ)) h λv h'=>aJW P ib ops rest (iT ((d,.bool b)::τ) o.dst v) h' K) /\
      (b'=!b->aJW P ib ops rest (iT ((d,.bool !b)::τ) o.dst (.iF [])) h K)
    | .iF []=>aJW P ib ops rest (iT τ o.dst (.iF [])) h K
    | _=>False
   |none=>False
theorem aC3 {τ:cJ} {d:Nat} {v:aC} (hv:dB τ d=v) (k:Nat):dB ((d,v)::τ) k=dB τ k:=by
 simp only[dB];split
 ·rename_i e;rw[←e,hv]
 ·rfl
theorem aJW.cases {P:Program} {ib:List Nat} {ops:Array Oper} {o:Oper} {rest:List Oper} {τ:cJ} {h:Heap} {K:cJ->Heap->Prop} (r:aJW P ib ops (o::rest) τ h K) :
  ∃ σ,(∀ k,dB σ k=dB τ k)/\((want ops τ o=some true/\zB P ib o (hev σ) h λv h'=>aJW P ib ops rest (iT σ o.dst v) h' K) ∨
   (want ops τ o=some false/\aJW P ib ops rest (iT σ o.dst (.iF [])) h K)):=by
 unfold aJW at r
 unfold want
 split at r
 ·rename_i hg;exact⟨τ,λ_=>rfl,.inl ⟨by simp[hg],r⟩⟩
 ·rename_i g b hg
  try simp only[hg]
  split at r
  ·rename_i d hd
   try simp only[hd]
   split at r
   ·rename_i b' hb'
    by_cases e:b'=b
    ·subst e
     exact⟨(d,.bool b')::τ,aC3 hb',.inl ⟨by simp[hb'],r.1 rfl⟩⟩
    ·have e':b'=!b:=by cases b' <;> cases b <;> simp_all
     subst e'
     exact⟨(d,.bool !b)::τ,aC3 hb',.inr ⟨by first|(cases b <;> rfl)|(simp only[hb'];cases b <;> rfl),r.2 rfl⟩⟩
   ·rename_i hb';exact⟨τ,λ_=>rfl,.inr ⟨by simp[hb'],r⟩⟩
   ·exact r.elim
  ·exact r.elim
def aHH (N:Nat) (ops:Array Oper):Bool:=ops.toList.all λo=>match o.dst with|some d=>decide (d<N)|none=>true
theorem aC4 {N:Nat} {ops:Array Oper} (h:aHH N ops=true) (g:Nat) (og:Oper) (d:Nat) (hg:ops[g]?=some og) (hd:og.dst=some d):d<N:=by
 have:=zV.1 h og (by rw[←aOB]at hg;exact rS hg)
 simpa[hd]using this
theorem aWR {P:Program} {ib:List Nat} {N:Nat} {ops:Array Oper} {Q:Exit->cJ->Heap->Prop} {K:cJ->Heap->Prop} (hN:aHH N ops=true) (keep:List Nat) (hK:∀ τ h,K τ h->Q .normal (prune keep τ) h) {E₀:Env} {h₀:Heap} {w₀:World} :
  ∀ (l:List Oper),(∀ o∈l,o∈ops.toList)->∀ (τ:cJ) (h:Heap),aJW P ib ops l τ h K->∀ E w a,Ev E₀ h₀ w₀ E h w->Rel E h w->aA9 ds E h w N τ a->wpList P ops (xF ds N Q E₀ h₀ w₀) l a w
 | [],_,τ,h,hr,E,w,a,ev,R,r=>⟨prune keep τ,h,E,hK _ _ hr,ev,R,r.prune keep⟩
 |o::rest,hl,τ,h,hr,E,w,a,ev,R,r=>by
  have hdst:∀ k,o.dst=some k->k<N:=λk hk=>by
   have:=zV.1 hN o (hl o aS)
   simpa[hk]using this
  obtain⟨σ,hσ,hr⟩:=hr.cases
  have rσ:aA9 ds E h w N σ a:=⟨r.size,r.defers,λk=>by rw[hσ];exact r.get k⟩
  rcases hr with⟨hw,hr⟩|⟨hw,hr⟩
  ·have hwant:=aHG r hw (aC4 hN)
   unfold wpList
   rw[hwant,if_pos rfl]
   left
   refine aBM.wp ((aE2 hr E w _ R λx=>rσ.hev x).mono ?_)
   rintro v w' ⟨x,h',E',k,ev',R',rx⟩
   exact aWR hN keep hK rest (λo ho=>hl o (by simp[ho])) _ h' k E' w' (a.put o.dst v) (ev.trans ev') R' ((rσ.ev ev').put o.dst hdst rx)
  ·have hwant:=aHG r hw (aC4 hN)
   unfold wpList
   rw[hwant,if_neg aS]
   refine aWR hN keep hK rest (λo ho=>hl o (by simp[ho])) _ h hr E w _ ev R (rσ.put o.dst hdst ?_)
   exact fY.iF [] [] rfl aS
theorem tE.region {P:Program} {ib:List Nat} {N id:Nat} {ops:Array Oper} {Q:Exit->cJ->Heap->Prop} {τ:cJ} {h:Heap} (hN:aHH N ops=true) (keep:List Nat) (hr:aJW P ib ops ops.toList τ h λτ' h'=>Q .normal (Hl.prune keep τ') h'):tE P N (.region id ops false) Q τ h :=
 λds E w a R r=>wp_region_list (aWR hN keep (λ_ _ x=>x) ops.toList (λ_ ho=>ho) τ h hr E w a (.refl _ _ _) R r)
def a4K (P:Program) (τ:cJ) (h:Heap):ResultVar->(aC->Prop)->Prop
 | .tmp t,K=>K (dB τ t)
 | .cell a t,K=>lC (gZ P t) (dB τ a) h K
def bF3 (P:Program) (τ:cJ) (h:Heap):List ResultVar->(List aC->Prop)->Prop
 | [],K=>K []
 |x::l,K=>a4K P τ h x λv=>bF3 P τ h l λvs=>K (v::vs)
def bK6 (P:Program) (rs:Array ResultVar) (τ:cJ) (h:Heap) (K:aC->Heap->Prop):Prop :=
 bF3 P τ h rs.toList λvs=>match vs with
  | [v]=>K v h
  |vs=>K (.iF vs) h
def aJX (P:Program) (rs:Array ResultVar) (K:aC->Heap->Prop):Exit->cJ->Heap->Prop
 | .normal,τ,h=>bK6 P rs τ h K
 | .ret,τ,h=>bK6 P rs τ h K
 | _,_,_=>False
theorem a4L {P:Program} {t:TypeId} {a:aC} {h:Heap} {K:aC->Prop} (hs:lC (gZ P t) a h K) {E:Env} {w:World} {v:Value} (R:Rel E h w) (hv:fY E h w a v) :
  ∃ (b o:Nat) (x:aC) (c:Value),v=.pointer (some ⟨b,o,none⟩)/\(loadVar t ⟨b,o,none⟩).run P w=.ok c w/\K x/\fY E h w x c:=by
 unfold lC at hs
 split at hs
 ·rename_i r hr
  split at hs
  ·rename_i sz es i off
   split at hs
   ·rename_i e he
    split at hs
    ·rename_i x hx
     obtain⟨b,k,c,h1,h2,h3⟩:=aND (P:=P) t r sz i off es e x hr hv he hx
     exact⟨b,k,x,c,h1,h2,hs,h3⟩
    ·exact hs.elim
   ·exact hs.elim
  ·rename_i n sz i off
   split at hs
   ·rename_i sz' es hn
    obtain⟨rfl,hs⟩:=hs
    split at hs
    ·rename_i e he
     split at hs
     ·rename_i x hx
      obtain⟨b,k,c,h1,h2,h3⟩:=aNE (P:=P) R t r n sz' i off es e x hr hv hn he hx
      exact⟨b,k,x,c,h1,h2,hs,h3⟩
     ·exact hs.elim
    ·exact hs.elim
   ·exact hs.elim
  ·exact hs.elim
 ·exact hs.elim
def aQL (P:Program) (tmps:Array Value):ResultVar->Sem Value
 | .tmp t=>pure (tmps.getD t undef)
 | .cell a t=>do loadVar t (←asAddr (tmps.getD a undef))
theorem aQM {P:Program} {N:Nat} {τ:cJ} {h:Heap} {E:Env} {w:World} {a:Act} (R:Rel E h w) (r:aA9 ds E h w N τ a):∀ (l:List ResultVar) (K:List aC->Prop),bF3 P τ h l K ->
  ∃ xs vs,(l.mapM (aQL P a.tmps)).run P w=.ok vs w/\K xs/\eT E h w xs vs
 | [],K,hk=>⟨[],[],by simp,hk,trivial⟩
 |x::l,K,hk=>by
  unfold bF3 at hk
  cases x with
  |tmp t =>
   simp only[a4K]at hk
   obtain⟨xs,vs,h1,h2,h3⟩:=aQM R r l _ hk
   exact⟨_::xs,_::vs,by simp[aQL,h1],h2,r.get t,h3⟩
  |cell p t =>
   simp only[a4K]at hk
   obtain⟨b,o,x,c,h1,h2,h3,h4⟩:=a4L hk R (r.get p)
   obtain⟨xs,vs,k1,k2,k3⟩:=aQM R r l _ h3
   exact⟨x::xs,c::vs,by simp[aQL,h1,asAddr,h2,k1],k2,h4,k3⟩
theorem bF4 {P:Program} {N:Nat} {τ:cJ} {h:Heap} {E:Env} {w:World} {a:Act} {fn:Func} {K:aC->Heap->Prop} (R:Rel E h w) (r:aA9 ds E h w N τ a) (hk:bK6 P fn.results τ h K) :
  ∃ x v,(results fn a.tmps).run P w=.ok v w/\K x h/\fY E h w x v:=by
 unfold bK6 at hk
 obtain⟨xs,vs,h1,h2,h3⟩:=aQM R r _ _ hk
 have hm:(fn.results.mapM (aQL P a.tmps)).run P w=.ok vs.toArray w:=by
  rw[←Array.toArray_toList (xs:=fn.results),List.mapM_toArray]
  simp[h1]
 have hres:(results fn a.tmps).run P w=.ok (if h:vs.toArray.size=1 then vs.toArray[0]else .tuple vs.toArray) w:=by
  have e:results fn a.tmps=(do let vs ←fn.results.mapM (aQL P a.tmps);pure (if h:vs.size=1 then vs[0]else .tuple vs)):=by
   unfold results
   congr 1
  rw[e,Sem.run_bind,hm]
  rfl
 split at h2
 ·rename_i x
  cases vs with
  |nil=>exact h3.elim
  |cons v vs =>
   cases vs with
   |nil=>exact⟨x,v,by rw[hres];simp,h2,h3.1⟩
   |cons _ _=>exact h3.2.elim
 ·rename_i hne
  refine⟨.iF xs,.tuple vs.toArray,?_,h2,.iF xs vs h3.length h3.get⟩
  rw[hres,dif_neg]
  intro e
  have hl:=h3.length
  simp at e
  rw[e]at hl
  cases xs with
  |nil=>simp at hl
  |cons y ys =>
   cases ys with
   |nil=>exact hne y rfl
   |cons _ _=>simp at hl
def rU:Nat->List aC->cJ
 | _,[]=>[]
 |i,x::xs=>(i,x)::rU (i+1) xs
theorem aQN:∀ (xs:List aC) (i k:Nat),dB (rU i xs) k=if i<=k then(xs[k-i]?).getD .any else .any
 | [],i,k=>by simp[rU,dB]
 |x::xs,i,k=>by
  simp only[rU,dB]
  by_cases e:i=k
  ·subst e;simp
  ·rw[if_neg e,aQN xs (i+1) k]
   by_cases h:i+1<=k
   ·rw[if_pos h,if_pos aA,show k-i=(k-(i+1))+1 by omega];simp
   ·rw[if_neg h,if_neg aA]
theorem bF5 {P:Program} {f:FuncId} {fn:Func} {c:Code} {N:Nat} {args:List aC} {h:Heap} {K:aC->Heap->Prop} (hf:P.funcs[f]?=some fn) (hb:fn.body=some c) (hc:jG P f=true) (hN:fn.ntmps=N)
  (hl:args.length<=N) {K':aC->Heap->Prop} (hw:tE P N c (aJX P fn.results K') (rU 0 args) h) (hk':∀ r h',K' r h'->∃ g:Heap,g.le h'/\K r g):gK P f args h K:=by
 refine⟨hc,λE w vs R hL=>calls_of_wp hf hb ?_⟩
 have hlen:=hL.length
 refine Code.wp_mono ?_ (hw [] E w _ R ⟨?_,rfl,?_⟩)
 ·rintro e a' w' ⟨τ',h',E',q,ev,R',r'⟩
  cases e <;> simp only[aJX]at q <;> try exact q.elim
  all_goals
   obtain⟨x,v,h1,hk0,hx⟩:=bF4 R' r' q
   obtain⟨g,hg,hk⟩:=hk' _ _ hk0
   exact⟨r'.defers,v,h1,x,g,E',hk,ev.forget hg,R'.forget hg,hx.zW λb=>vO.le hg⟩
 ·simp[hN];omega
 ·intro k
  rw[aQN]
  simp only[iZ,if_true,Nat.sub_zero]
  by_cases hk:k<args.length
  ·have hx:args[k]?=some args[k]:=b6 hk
   have hv:vs[k]?=some (vs[k]'aA):=b6 aA
   rw[hx]
   have hg:(vs.toArray++Array.replicate (fn.ntmps-vs.toArray.size) undef).getD k undef=vs[k]'aA:=by
    have hk':k<vs.length:=by omega
    simp[Array.getD,Array.getElem_append,hk'];omega
   rw[hg]
   exact hL.get k _ _ hx hv
  ·rw[List.getElem?_eq_none aA]
   exact .any _
variable {ds:List Deferred}
def xG (ops:Array Oper) (o:Oper):List Tmp :=
 (o.op.operands.toList.filterMap fun | .tmp t=>some t|_=>none)++(match o.guard with|some (g,_)=>((ops[g]?).bind (·.dst)).toList|none=>[])
def xY (ops:Array Oper) (o:Oper) (τ:cJ):Operand->aC
 | .tmp t=>if (xG ops o).contains t then dB τ t else .any
 |x=>hev τ x
theorem sG {ops:Array Oper} {o:Oper} {τ τ':cJ} (h:∀ t∈xG ops o,dB τ t=dB τ' t):xY ops o τ=xY ops o τ':=by
 funext x
 cases x with
 |tmp t =>
  simp only[xY]
  split
  ·rename_i hc;exact h t (by simpa using hc)
  ·rfl
 | _=>rfl
def zC (P:Program) (o:Oper) (ρ:Operand->aC) (v:aC):Prop:=∀ h,rI P o ρ h λv' h'=>v'=v/\h'=h
def aD5:List (Nat×Nat)->Nat->Nat->Bool
 | [],_,_=>false
 |(a,b)::r,x,i=>(a == x && b == i) || aD5 r x i
def bF6:List (Nat×Nat)->Nat->Bool
 | [],_=>false
 |(a,_)::r,x=>a == x || bF6 r x
theorem a0X {x i:Nat}:∀ {cr:List (Nat×Nat)},bF6 cr x=false->aD5 cr x i=false
 | [],_=>rfl
 |(a,b)::r,h=>by
  simp only[bF6,Bool.or_eq_false_iff]at h
  simp only[aD5,h.1,bKP,aPT]
  exact a0X h.2
def a4M (o:Oper):Bool:=match o.op with | .load _ _=>true|_=>false
def aWS (P:Program) (o:Oper) (ρ:Operand->aC) (h:Heap) (n:Nat) (v:aC):Prop:=∀ h',h' n=h n->rI P o ρ h' λv' h''=>v'=v/\h''=h'
def aQO (cr:List (Nat×Nat)) (i:Nat) (pr:List (Nat×Nat)) (h h':Heap):Prop:=∀ p∈pr,aD5 cr p.1 i=true->h' p.2=h p.2
inductive xH where
 |nil
 |op (i:Nat) (p:xH)
 |alt (i:Nat) (p:xH) (j:Nat) (q:xH)
def OpL (P:Program) (ops:Array Oper) (ms:List Nat) (i:Nat) (cr:List (Nat×Nat)) (pr:List (Nat×Nat)) (τ:cJ) (h:Heap) (C:List (Nat×Nat)->cJ->Heap->Prop):Prop :=
 match ops[i]? with
  |none=>False
  |some o=>match want ops τ o with
   |none=>False
   |some true=>if ms.contains i then(if a4M o then(∃ n v,aWS P o (xY ops o τ) h n v/\C ((i,n)::pr) (iT τ o.dst v) h)∨∃ v,zC P o (xY ops o τ) v/\C pr (iT τ o.dst v) h
      else rI P o (xY ops o τ) h λv h'=>aQO cr i pr h h'/\C pr (iT τ o.dst v) h')
     else ∃ v,zC P o (xY ops o τ) v/\C pr (iT τ o.dst v) h
   |some false=>C pr (iT τ o.dst (.iF [])) h
def lD (P:Program) (ops:Array Oper) (ms:List Nat) (cr:List (Nat×Nat)):xH->List (Nat×Nat)->cJ->Heap->(cJ->Heap->Prop)->Prop
 | .nil,_,τ,h,K=>K τ h
 | .op i p,pr,τ,h,K=>OpL P ops ms i cr pr τ h λpr τ h=>lD P ops ms cr p pr τ h K
 | .alt i p j q,pr,τ,h,K=>(OpL P ops ms i cr pr τ h λpr τ h=>lD P ops ms cr p pr τ h K)/\OpL P ops ms j cr pr τ h λpr τ h=>lD P ops ms cr q pr τ h K
def TEq (τ τ':cJ):Prop:=∀ k,dB τ k=dB τ' k
theorem aBU (τ:cJ) (d:Option Tmp) (v:aC) (k:Nat):dB (iT τ d v) k=if d=some k then v else dB τ k:=by
 cases d with
 |none=>simp[iT]
 |some d=>simp only[iT,dB,bCU]
theorem TEq.put {τ τ':cJ} (h:TEq τ τ') (d:Option Tmp) (v:aC):TEq (iT τ d v) (iT τ' d v):=λk=>by
 rw[aBU,aBU,h k]
theorem TEq.put_comm (τ:cJ) {d e:Option Tmp} (u v:aC) (hne:∀ k,d=some k->e≠some k):TEq (iT (iT τ d u) e v) (iT (iT τ e v) d u):=λk=>by
 simp only[aBU]
 by_cases h1:e=some k <;> by_cases h2:d=some k
 ·exact absurd h1 (hne k h2)
 ·simp[h1,h2]
 ·simp[h1,h2]
 ·simp[h1,h2]
theorem aC5 {ops:Array Oper} {o:Oper} {τ τ':cJ} (h:∀ t∈xG ops o,dB τ t=dB τ' t):want ops τ o=want ops τ' o:=by
 unfold want
 split
 ·rfl
 ·rename_i g b hg
  split
  ·rename_i d hd
   rw[h d (by simp[xG,hg,hd])]
  ·rfl
theorem aQO.sub {cr:List (Nat×Nat)} {i:Nat} {pr pr':List (Nat×Nat)} {h h':Heap} (hs:∀ p∈pr',p∈pr∨∀ j,aD5 cr p.1 j=false) (x:aQO cr i pr h h'):aQO cr i pr' h h':=λp hp hc=>by
 rcases hs p hp with h1|h1
 ·exact x p h1 hc
 ·rw[h1 i]at hc;cases hc
theorem bF7 {cr pr pr':List (Nat×Nat)} (hs:∀ p∈pr',p∈pr∨∀ j,aD5 cr p.1 j=false) (q:Nat×Nat):∀ p∈q::pr',p∈q::pr∨∀ j,aD5 cr p.1 j=false:=λp hp=>by
 rcases p7.1 hp with rfl|hp
 ·exact .inl al5
 ·exact(hs p hp).imp (al6 _) id
theorem OpL.congr {P:Program} {ops:Array Oper} {ms:List Nat} {cr:List (Nat×Nat)} {i:Nat} {C C':List (Nat×Nat)->cJ->Heap->Prop} {pr pr':List (Nat×Nat)} {τ τ':cJ} {h:Heap}
  (hC:∀ (pr pr':List (Nat×Nat)) (τ τ':cJ) (h:Heap),(∀ p∈pr',p∈pr∨∀ j,aD5 cr p.1 j=false)->TEq τ τ'->C pr τ h->C' pr' τ' h) (hs:∀ p∈pr',p∈pr∨∀ j,aD5 cr p.1 j=false) (e:TEq τ τ') (r:OpL P ops ms i cr pr τ h C):OpL P ops ms i cr pr' τ' h C':=by
 unfold OpL at r ⊢
 cases ho:ops[i]? with
 |none=>simp[ho]at r
 |some o =>
  simp only[ho]at r ⊢
  rw[←aC5 (ops:=ops) (o:=o) (τ:=τ) (τ':=τ') λt _=>e t]
  cases hw:want ops τ o with
  |none=>simp[hw]at r
  |some c =>
   simp only[hw]at r ⊢
   rw[←sG (ops:=ops) (o:=o) (τ:=τ) (τ':=τ') λt _=>e t]
   cases c with
   |false=>exact hC _ _ _ _ h hs (e.put _ _) r
   |true =>
    simp only at r ⊢
    split at r
    ·rename_i hm;rw[if_pos hm]
     split at r
     ·rename_i hl;rw[if_pos hl]
      rcases r with⟨n,v,hr,x⟩|⟨v,hr,x⟩
      ·exact .inl ⟨n,v,hr,hC _ _ _ _ h (bF7 hs _) (e.put _ _) x⟩
      ·exact .inr ⟨v,hr,hC _ _ _ _ h hs (e.put _ _) x⟩
     ·rename_i hl;rw[if_neg hl]
      exact r.mono λv h' x=>⟨x.1.sub hs,hC _ _ _ _ h' hs (e.put _ _) x.2⟩
    ·rename_i hm;rw[if_neg hm]
     obtain⟨v,hs',x⟩:=r
     exact⟨v,hs',hC _ _ _ _ h hs (e.put _ _) x⟩
theorem lD.congr {P:Program} {ops:Array Oper} {ms:List Nat} {cr:List (Nat×Nat)} {K:cJ->Heap->Prop} (hK:∀ τ τ' h,TEq τ τ'->K τ h->K τ' h):∀ (l:xH) (pr pr':List (Nat×Nat)) (τ τ':cJ) (h:Heap),(∀ p∈pr',p∈pr∨∀ j,aD5 cr p.1 j=false)->TEq τ τ'->lD P ops ms cr l pr τ h K->lD P ops ms cr l pr' τ' h K
 | .nil,pr,pr',τ,τ',h,hs,e,r=>hK _ _ _ e r
 | .op i l,pr,pr',τ,τ',h,hs,e,r=>OpL.congr (λpr pr' τ τ' h hs e r=>lD.congr hK l pr pr' τ τ' h hs e r) hs e r
 | .alt i l j q,pr,pr',τ,τ',h,hs,e,r=>⟨OpL.congr (λpr pr' τ τ' h hs e r=>lD.congr hK l pr pr' τ τ' h hs e r) hs e r.1,OpL.congr (λpr pr' τ τ' h hs e r=>lD.congr hK q pr pr' τ τ' h hs e r) hs e r.2⟩
def aQQ (ops:Array Oper) (x y:Oper):Bool :=
 (match x.dst with|some d=>!(xG ops y).contains d && !(y.dst == some d)|none=>true) && (match y.dst with|some d=>!(xG ops x).contains d|none=>true)
theorem a0Y {ops:Array Oper} {x y:Oper} (h:aQQ ops x y=true):(∀ d,x.dst=some d->d∉xG ops y)/\(∀ d,x.dst=some d->y.dst≠some d)/\(∀ d,y.dst=some d->d∉xG ops x):=by
 unfold aQQ at h
 refine⟨λd hd=>?_,λd hd=>?_,λd hd=>?_⟩ <;> simp[hd]at h
 ·exact h.1.1
 ·exact h.1.2
 ·exact h.2
def bF8 (ms:List Nat) (cr:List (Nat×Nat)) (x i:Nat) (ox oi:Oper):Bool:=!ms.contains x || (a4M ox && (aD5 cr x i || a4M oi || !ms.contains i))
theorem lD.swap {P:Program} {ops:Array Oper} {ms:List Nat} {cr:List (Nat×Nat)} {K:cJ->Heap->Prop} (hK:∀ τ τ' h,TEq τ τ'->K τ h->K τ' h) {x i:Nat} {ox oi:Oper} {l:xH} {pr:List (Nat×Nat)} {τ:cJ} {h:Heap}
  (hx:ops[x]?=some ox) (hi:ops[i]?=some oi) (hm:bF8 ms cr x i ox oi=true) (hap:aQQ ops ox oi=true) (r:lD P ops ms cr (.op x (.op i l)) pr τ h K):lD P ops ms cr (.op i (.op x l)) pr τ h K:=by
 obtain⟨a1,a2,a3⟩:=a0Y hap
 have ei:∀ v,(∀ t∈xG ops oi,dB (iT τ ox.dst v) t=dB τ t):=λv t ht=>by
  rw[aBU,if_neg];intro e;exact a1 t e ht
 have ex:∀ v,(∀ t∈xG ops ox,dB (iT τ oi.dst v) t=dB τ t):=λv t ht=>by
  rw[aBU,if_neg];intro e;exact a3 t e ht
 have hc:∀ u v,TEq (iT (iT τ ox.dst u) oi.dst v) (iT (iT τ oi.dst v) ox.dst u):=λu v=>TEq.put_comm τ u v a2
 have ids:∀ pr:List (Nat×Nat),∀ p∈pr,p∈pr∨∀ j,aD5 cr p.1 j=false:=λ_ _ h=>.inl h
 have sw:∀ (a b:Nat×Nat),∀ p∈b::a::pr,p∈a::b::pr∨∀ j,aD5 cr p.1 j=false:=λa b p hp=>by
  left
  simp only[p7]at hp ⊢
  rcases hp with h1|h1|h1
  ·exact .inr (.inl h1)
  ·exact .inl h1
  ·exact .inr (.inr h1)
 unfold lD OpL at r
 simp only[hx]at r
 cases hwx:want ops τ ox with
 |none=>simp[hwx]at r
 |some cx =>
  simp only[hwx]at r
  have hwx':∀ v,want ops (iT τ oi.dst v) ox=some cx:=λv=>by rw[aC5 (ex v)];exact hwx

  have key:∀ u,lD P ops ms cr (.op i l) pr (iT τ ox.dst u) h K ->
    (∀ τ' h' pr',lD P ops ms cr l pr' (iT (iT τ oi.dst τ') ox.dst u) h' K->lD P ops ms cr (.op x l) pr' (iT τ oi.dst τ') h' K) ->
    lD P ops ms cr (.op i (.op x l)) pr τ h K:=by
   intro u r hback
   unfold lD OpL at r
   rw[lD];unfold OpL
   simp only[hi]at r ⊢
   rw[aC5 (ei u),sG (ei u)]at r
   cases hwi:want ops τ oi with
   |none=>simp[hwi]at r
   |some ci =>
    simp only[hwi]at r ⊢
    cases ci with
    |false=>exact hback _ _ _ (lD.congr hK l _ _ _ _ h (ids _) (hc _ _) r)
    |true =>
     simp only at r ⊢
     split at r
     ·rename_i hmi;rw[if_pos hmi]
      split at r
      ·rename_i hl;rw[if_pos hl]
       rcases r with⟨n,v,hr,y⟩|⟨v,hr,y⟩
       ·exact .inl ⟨n,v,hr,hback _ _ _ (lD.congr hK l _ _ _ _ h (ids _) (hc _ _) y)⟩
       ·exact .inr ⟨v,hr,hback _ _ _ (lD.congr hK l _ _ _ _ h (ids _) (hc _ _) y)⟩
      ·rename_i hl;rw[if_neg hl]
       exact r.mono λv h' y=>⟨y.1,hback _ _ _ (lD.congr hK l _ _ _ _ h' (ids _) (hc _ _) y.2)⟩
     ·rename_i hmi;rw[if_neg hmi]
      obtain⟨v,hs,y⟩:=r
      exact⟨v,hs,hback _ _ _ (lD.congr hK l _ _ _ _ h (ids _) (hc _ _) y)⟩
  cases cx with
  |false =>
   refine key _ r λu h' pr' y=>?_
   rw[lD];unfold OpL;simp only[hx,hwx' u];exact y
  |true =>
   simp only at r
   by_cases hmx:ms.contains x=true
   ·rw[if_pos hmx]at r
    simp only[bF8,hmx,bCX,aPT,oN,Bool.or_eq_true,bCW]at hm
    obtain⟨hlx,hm⟩:=hm
    rw[if_pos hlx]at r
    rcases r with⟨n,v,hr,r⟩|⟨v,hs,r⟩
    case inr =>
     refine key v r λu h' pr' y=>?_
     rw[lD];unfold OpL;simp only[hx,hwx' u,hmx,hlx,if_true]
     exact .inr ⟨v,by rw[sG (ex u)];exact hs,y⟩

    have back:∀ (u:aC) (h':Heap) (pr':List (Nat×Nat)),h' n=h n->lD P ops ms cr l ((x,n)::pr') (iT (iT τ oi.dst u) ox.dst v) h' K->lD P ops ms cr (.op x l) pr' (iT τ oi.dst u) h' K:=by
     intro u h' pr' e y
     rw[lD];unfold OpL;simp only[hx,hwx' u,hmx,hlx,if_true]
     exact .inl ⟨n,v,λh'' e'=>by rw[sG (ex u)];exact hr h'' (e'.trans e),y⟩
    unfold lD OpL at r
    rw[lD];unfold OpL
    simp only[hi]at r ⊢
    rw[aC5 (ei v),sG (ei v)]at r
    cases hwi:want ops τ oi with
    |none=>simp[hwi]at r
    |some ci =>
     simp only[hwi]at r ⊢
     cases ci with
     |false=>exact back _ _ _ rfl (lD.congr hK l _ _ _ _ h (ids _) (hc _ _) r)
     |true =>
      simp only at r ⊢
      split at r
      ·rename_i hmi;rw[if_pos hmi]
       split at r
       ·rename_i hl;rw[if_pos hl]
        rcases r with⟨m,u,hri,y⟩|⟨u,hri,y⟩
        ·exact .inl ⟨m,u,hri,back _ _ _ rfl (lD.congr hK l _ _ _ _ h (sw _ _) (hc _ _) y)⟩
        ·exact .inr ⟨u,hri,back _ _ _ rfl (lD.congr hK l _ _ _ _ h (ids _) (hc _ _) y)⟩
       ·rename_i hl;rw[if_neg hl]
        refine r.mono λu h' y=>⟨y.1.sub λp hp=>.inl (al6 _ hp),?_⟩
        have hcx:aD5 cr x i=true:=by
         rcases hm with(h1|h1)|h1
         ·exact h1
         ·exact absurd h1 hl
         ·rw[hmi]at h1;cases h1
        exact back _ _ _ (y.1 (x,n) al5 hcx) (lD.congr hK l _ _ _ _ h' (ids _) (hc _ _) y.2)
      ·rename_i hmi;rw[if_neg hmi]
       obtain⟨u,hs,y⟩:=r
       exact⟨u,hs,back _ _ _ rfl (lD.congr hK l _ _ _ _ h (ids _) (hc _ _) y)⟩
   ·rw[if_neg hmx]at r
    obtain⟨v,hs,r⟩:=r
    refine key v r λu h' pr' y=>?_
    rw[lD];unfold OpL;simp only[hx,hwx' u]
    rw[if_neg hmx]
    exact⟨v,by rw[sG (ex u)];exact hs,y⟩
def blk:List Oper->Nat->List Nat->List Nat
 | [],_,B=>B
 |o::l,j,B=>blk l (j+1) (if o.after.toList.any (λe=>Region.binds .any e && B.contains e.on)then j::B else B)
theorem a9X:∀ (l:List Oper) (j:Nat) (B:List Nat) (b:Nat),b∈B->b∈blk l j B
 | [],_,_,_,h=>h
 |o::l,j,B,b,h=>by
  unfold blk
  refine a9X l (j+1) _ b ?_
  split
  ·exact al6 _ h
  ·exact h
theorem a9Y:∀ (l:List Oper) (j:Nat) (B:List Nat) (b:Nat),b∈blk l j B->b∈B∨∃ o e,j<=b/\l[b-j]?=some o/\e∈o.after.toList/\Region.binds .any e=true/\e.on∈blk l j B
 | [],_,_,_,h=>.inl h
 |o::l,j,B,b,h=>by
  unfold blk at h
  rcases a9Y l (j+1) _ b h with h1|⟨o',e,h1,h2,h3,h4,h5⟩
  ·split at h1
   ·rename_i hany
    rcases p7.1 h1 with rfl|h1
    ·right
     obtain⟨e,he,hb⟩:=bFA.1 hany
     simp only[oN,bKQ]at hb
     exact⟨o,e,fL _,by simp,he,hb.1,a9X _ _ _ _ hb.2⟩
    ·exact .inl h1
   ·exact .inl h1
  ·refine .inr ⟨o',e,by omega,?_,h3,h4,?_⟩
   ·rw[show b-j=(b-(j+1))+1 by omega];simpa using h2
   ·unfold blk;exact h5
def xI (ops:Array Oper) (ms:List Nat) (cr:List (Nat×Nat)):xH->List Nat->Bool
 | .nil,U=>U.isEmpty
 | .op x p,U=>U.contains x && (let B:=blk ops.toList 0 [x]
   (U.erase x).all λi=>B.contains i || (match ops[x]?,ops[i]? with|some ox,some oi=>bF8 ms cr x i ox oi && aQQ ops ox oi|_,_=>false)) && xI ops ms cr p (U.erase x)
 | .alt x p y q,U=>U.contains x && U.contains y && (let B:=blk ops.toList 0 [x]
   let C:=blk ops.toList 0 [y]
   U.all λi=>i == x || i == y || B.contains i || C.contains i) && xI ops ms cr p (U.erase x) && xI ops ms cr q (U.erase y)
def bR7 (ops:Array Oper) (ms:List Nat) (p:xH) (cr:List (Nat×Nat)):Bool :=
 xI ops ms cr p (List.range ops.size) &&
 (List.range ops.size).all λi=>match ops[i]? with|some o=>o.after.toList.all λe=>!Region.binds .any e || decide (e.on<i)|none=>true
def aWT (ops:Array Oper) (L:Nat->Prop):Prop:=∀ (j:Nat) (o:Oper),ops[j]?=some o->L j->∀ e∈o.after.toList,Region.binds .any e=true->L e.on
theorem aQR {ops:Array Oper} {L:Nat->Prop} (hc:aWT ops L) {x:Nat} (hx:¬L x):∀ (l:List Oper) (j:Nat) (B:List Nat),(∀ k o,l[k]?=some o->ops[j+k]?=some o)->(∀ b∈B,¬L b)->∀ b∈blk l j B,¬L b
 | [],_,_,_,hB,b,h=>hB b h
 |o::l,j,B,hl,hB,b,h=>by
  unfold blk at h
  refine aQR hc hx l (j+1) _ (λk o hk=>by have:=hl (k+1) o a0I;rwa [show j+1+k=j+(k+1)by omega]) ?_ b h
  intro b' hb'
  split at hb'
  ·rename_i hany
   rcases p7.1 hb' with rfl|hb'
   ·intro hL
    obtain⟨e,he,hb⟩:=bFA.1 hany
    simp only[oN,bKQ]at hb
    exact hB _ hb.2 (hc b' o (by simpa using hl 0 o rfl) hL e he hb.1)
   ·exact hB b' hb'
  ·exact hB b' hb'
theorem bC6 {ops:Array Oper} {L:Nat->Prop} (hc:aWT ops L) {x i:Nat} (hx:¬L x) (hne:i≠x) {oi:Oper} (hi:ops[i]?=some oi) (hr:∀ e∈oi.after.toList,Region.binds .any e=true->L e.on):(blk ops.toList 0 [x]).contains i=false:=by
 cases hb:(blk ops.toList 0 [x]).contains i with
 |false=>rfl
 |true =>
  exfalso
  rw[bKQ]at hb
  have hlist:=aQR hc hx ops.toList 0 [x] (λk o hk=>by simpa using hk) a0H
  rcases a9Y _ _ _ _ hb with h1|⟨o,e,_,h2,h3,h4,h5⟩
  ·exact hne (by simpa using h1)
  ·have:o=oi:=by
    simp only[Nat.sub_zero,aOB]at h2
    rw[hi]at h2;exact(dY h2).symm
   subst this
   exact hlist _ h5 (hr e h3 h4)
inductive aQS (ops:Array Oper) (ms:List Nat) (cr:List (Nat×Nat)) (i:Nat) (oi:Oper):xH->xH->Prop where
 |here (p:xH):aQS ops ms cr i oi (.op i p) p
 |skip {x:Nat} {ox:Oper} {p p':xH} (hox:ops[x]?=some ox) (hm:bF8 ms cr x i ox oi=true) (hap:aQQ ops ox oi=true) (f:aQS ops ms cr i oi p p'):aQS ops ms cr i oi (.op x p) (.op x p')
 |left (p:xH) (j:Nat) (q:xH):aQS ops ms cr i oi (.alt i p j q) p
 |right (j:Nat) (p q:xH):aQS ops ms cr i oi (.alt j p i q) q
theorem lD.front {P:Program} {ops:Array Oper} {ms:List Nat} {cr:List (Nat×Nat)} {K:cJ->Heap->Prop} (hK:∀ τ τ' h,TEq τ τ'->K τ h->K τ' h) {i:Nat} {oi:Oper} (hi:ops[i]?=some oi) {p p':xH} (f:aQS ops ms cr i oi p p') :
  ∀ (pr:List (Nat×Nat)) (τ:cJ) (h:Heap),lD P ops ms cr p pr τ h K->lD P ops ms cr (.op i p') pr τ h K:=by
 induction f with
 |here p=>intro pr τ h r;exact r
 |left p j q=>intro pr τ h r;exact r.1
 |right j p q=>intro pr τ h r;exact r.2
 | @skip x ox p p' hox hm hap f ih =>
  intro pr τ h r
  refine lD.swap hK hox hi hm hap ?_
  rw[lD]at r ⊢
  unfold OpL at r ⊢
  simp only[hox]at r ⊢
  cases hw:want ops τ ox with
  |none=>simp[hw]at r
  |some c =>
   simp only[hw]at r ⊢
   cases c with
   |false=>exact ih _ _ h r
   |true =>
    simp only at r ⊢
    by_cases hmx:ms.contains x=true
    ·rw[if_pos hmx]at r ⊢
     have hlx:a4M ox=true:=by
      simp only[bF8,hmx,bCX,aPT,oN]at hm
      exact hm.1
     rw[if_pos hlx]at r ⊢
     rcases r with⟨n,v,hs,r⟩|⟨v,hs,r⟩
     ·exact .inl ⟨n,v,hs,ih _ _ h r⟩
     ·exact .inr ⟨v,hs,ih _ _ h r⟩
    ·rw[if_neg hmx]at r ⊢
     obtain⟨v,hs,r⟩:=r;exact⟨v,hs,ih _ _ h r⟩
theorem a0Z {ops:Array Oper} {ms:List Nat} {cr:List (Nat×Nat)} {i:Nat} {oi:Oper} (hoi:ops[i]?=some oi):∀ (p:xH) (U:List Nat),xI ops ms cr p U=true->U.Nodup->i∈U ->
  (∀ x∈U,x≠i->(blk ops.toList 0 [x]).contains i=false)->∃ p',aQS ops ms cr i oi p p'/\xI ops ms cr p' (U.erase i)=true
 | .nil,U,hv,_,hi,_=>by
  simp only[xI,List.isEmpty_iff]at hv
  subst hv;cases hi
 | .op x p,U,hv,hnd,hi,hb=>by
  simp only[xI,oN,zV]at hv
  obtain⟨⟨hx,hall⟩,hp⟩:=hv
  by_cases e:x=i
  ·subst e;exact⟨p,.here p,hp⟩
  ·have hie:i∈U.erase x:=(List.mem_erase_of_ne (iR e)).2 hi
   have h1:=hall i hie
   have hxU:x∈U:=by simpa using hx
   rw[hb x hxU e,aPT]at h1
   cases hox:ops[x]? with
   |none=>simp[hox]at h1
   |some ox =>
    simp only[hox,hoi,oN]at h1
    obtain⟨p',f,hp'⟩:=a0Z hoi p (U.erase x) hp (hnd.erase x) hie λy hy hne=>hb y (List.mem_of_mem_erase hy) hne
    refine⟨.op x p',.skip hox h1.1 h1.2 f,?_⟩
    simp only[xI,oN,zV]
    refine⟨⟨by simpa using(List.mem_erase_of_ne e).2 hxU,λj hj=>hall j ?_⟩,?_⟩
    ·rw[List.erase_comm]at hj;exact List.mem_of_mem_erase hj
    ·rw[List.erase_comm];exact hp'
 | .alt x p y q,U,hv,hnd,hi,hb=>by
  simp only[xI,oN,zV,Bool.or_eq_true,beq_iff_eq]at hv
  obtain⟨⟨⟨⟨hx,hy⟩,hall⟩,hp⟩,hq⟩:=hv
  by_cases e:x=i
  ·subst e;exact⟨p,.left p y q,hp⟩
  ·by_cases e2:y=i
   ·subst e2;exact⟨q,.right x p q,hq⟩
   ·exfalso
    rcases hall i hi with((h1|h1)|h1)|h1
    ·exact e h1.symm
    ·exact e2 h1.symm
    ·rw[hb x a0H e]at h1;cases h1
    ·rw[hb y (by simpa using hy) e2]at h1;cases h1
theorem a00 {P:Program} {N:Nat} {ops:Array Oper} {ms:List Nat} {cr:List (Nat×Nat)} {Q:Exit->cJ->Heap->Prop} (hN:aHH N ops=true) (keep:List Nat) {E₀:Env} {h₀:Heap} {w₀:World}
  (hback:∀ (i:Nat) (o:Oper),ops[i]?=some o->∀ e∈o.after.toList,Region.binds .any e=true->e.on<i) :
  ∀ (fuel:Nat) (listed:Array Bool) (p:xH) (l:List Nat),listed.size=ops.size->l.Nodup->(∀ i,i∈l↔listed[i]?=some false)->fuel=l.length ->
   xI ops ms cr p l=true ->
   aWT ops (λi=>listed[i]?=some true) ->
   ∀ (pr:List (Nat×Nat)) (τ:cJ) (h:Heap),lD P ops ms cr p pr τ h (λτ' h'=>Q .normal (Hl.prune keep τ') h')->∀ E w a,Ev E₀ h₀ w₀ E h w->Rel E h w->aA9 ds E h w N τ a ->
   wpAny P .any ops (xF ds N Q E₀ h₀ w₀) fuel listed a w
 |0,listed,p,l,hsz,hnd,hl,hf,hp,hcl,pr,τ,h,r,E,w,a,ev,R,rt=>by
  have:l=[]:=aZM.1 hf.symm
  subst this
  have:p=.nil:=by cases p <;> simp[xI]at hp ⊢
  subst this
  refine⟨?_,⟨Hl.prune keep τ,h,E,r,ev,R,rt.prune keep⟩⟩
  unfold Region.ready
  rw[List.filter_eq_nil_iff]
  intro i hi hc
  simp only[bCY]at hi
  simp only[oN,bCW]at hc
  have hlt:i<listed.size:=by omega
  have:listed[i]?=some false:=by
   rw[aPS hlt]
   have:=hc.1
   simp only[Array.getD,hlt,dif_pos]at this
   rw[←this];rfl
  exact absurd ((hl i).2 this) aS
 |fuel+1,listed,p,l,hsz,hnd,hl,hf,hp,hcl,pr,τ,h,r,E,w,a,ev,R,rt=>by
  have hK:∀ τ τ' h,TEq τ τ'->Q .normal (Hl.prune keep τ) h->Q .normal (Hl.prune keep τ') h:=λτ τ' h e q=>by
   have:Hl.prune keep τ=Hl.prune keep τ':=by unfold Hl.prune;exact bFB λk _=>by rw[e k]
   rwa [←this]
  have hready:∀ i,i∈Region.ready .any ops listed->i∈l/\∃ o,ops[i]?=some o/\∀ e∈o.after.toList,Region.binds .any e=true->listed[e.on]?=some true:=by
   intro i hi
   unfold Region.ready at hi
   rw[a4B]at hi
   obtain⟨hi,hc⟩:=hi
   simp only[bCY]at hi
   simp only[oN,bCW]at hc
   have hlt:i<listed.size:=by omega
   have hlf:listed[i]?=some false:=by
    rw[aPS hlt]
    have:=hc.1
    simp only[Array.getD,hlt,dif_pos]at this
    rw[←this];rfl
   refine⟨(hl i).2 hlf,ops[i],aPS hi,λe he hb=>?_⟩
   have h2:=hc.2
   simp only[aPS hi,aOA,a39]at h2
   rw[bFC]at h2
   have:=h2 e (by simpa using he)
   simp only[hb,bCX,aPT]at this
   by_cases hel:e.on<listed.size
   ·simp only[Array.getD,hel,dif_pos]at this
    rw[aPS hel,←this];rfl
   ·simp[Array.getD,hel]at this
  refine⟨λhnil=>?_,λi hi=>?_⟩
  ·
   exfalso
   have hne:l≠[]:=by intro e;simp[e]at hf

   have:∃ m∈l,∀ j∈l,m<=j:=by
    obtain⟨x,hx⟩:=List.exists_mem_of_ne_nil l hne
    have key:∀ n,∀ x∈l,x<=n->∃ m∈l,∀ j∈l,m<=j:=by
     intro n
     induction n with
     |zero=>intro x hx hn;exact⟨x,hx,λj _=>by omega⟩
     |succ n ih =>
      intro x hx hn
      by_cases hall:∀ j∈l,x<=j
      ·exact⟨x,hx,hall⟩
      ·have:∃ j∈l,j<x:=by
        apply bKR
        intro hcon
        exact hall λj hj=>by
         apply bKR
         intro hlt
         exact hcon ⟨j,hj,by omega⟩
       obtain⟨j,hj,hlt⟩:=this
       exact ih j hj aA
    exact key x x hx (fL _)
   obtain⟨m,hm,hmin⟩:=this
   have hmf:=(hl m).1 hm
   have hmlt:m<listed.size:=(aWF.1 hmf).1
   have hmo:m<ops.size:=by omega
   have hmem:m∈Region.ready .any ops listed:=by
    unfold Region.ready
    rw[a4B]
    refine⟨by simpa using hmo,?_⟩
    simp only[oN,bCW]
    refine⟨?_,?_⟩
    ·simp only[Array.getD,hmlt,dif_pos]
     have:=(aWF.1 hmf).2
     exact this
    ·simp only[aPS hmo,aOA,a39]
     rw[bFC]
     intro e he
     cases hb:Region.binds .any e with
     |false=>rfl
     |true =>
      simp only[bCX,aPT]
      have hlt:=hback m _ (aPS hmo) e (by simpa using he) hb
      have hel:e.on<listed.size:=by omega
      simp only[Array.getD,hel,dif_pos]
      cases hv:listed[e.on]with
      |true=>exact hv
      |false =>
       have:=hmin e.on ((hl e.on).2 (by rw[aPS hel,hv]))
       omega
   rw[hnil]at hmem
   simp at hmem
  ·obtain⟨hil,o,ho,hedges⟩:=hready i hi
   obtain⟨p',hfr,hp'⟩:=a0Z ho p l hp hnd hil λx hx hne=>bC6 hcl (x:=x) (i:=i) (by simp[(hl x).1 hx]) (iR hne) ho hedges
   have hfront:=lD.front hK ho hfr pr τ h r
   unfold wpOp
   simp only[ho]
   have hdst:∀ k,o.dst=some k->k<N:=λk hk=>aC4 hN i o k ho hk
   have hil':listed[i]?=some false:=(hl i).1 hil
   have hilt:i<listed.size:=(aWF.1 hil').1
   have hrest:∀ (pr':List (Nat×Nat)) (τ':cJ) (h':Heap),lD P ops ms cr p' pr' τ' h' (λτ' h'=>Q .normal (Hl.prune keep τ') h')->∀ E' w' a',Ev E₀ h₀ w₀ E' h' w'->Rel E' h' w'->aA9 ds E' h' w' N τ' a' ->
     wpAny P .any ops (xF ds N Q E₀ h₀ w₀) fuel (listed.setIfInBounds i true) a' w':=by
    intro pr' τ' h' r' E' w' a' ev' R' rt'
    refine a00 hN keep hback fuel _ p' (l.erase i) (by simpa using hsz) (hnd.erase i) ?_ (by rw[List.length_erase_of_mem hil];omega) hp' ?_ pr' τ' h' r' E' w' a' ev' R' rt'
    ·intro j
     rw[hnd.mem_erase_iff]
     by_cases e:j=i
     ·subst e
      simp[hilt]
     ·rw[a38 (iR e),←hl j]
      simp[e]
    ·intro j oj hoj hL e he hb
     by_cases ej:j=i
     ·subst ej
      rw[ho]at hoj
      obtain rfl:=dY hoj
      have:=hedges e he hb
      by_cases e2:e.on=j
      ·rw[e2]at this;rw[this]at hil';simp at hil'
      ·rw[a38 (iR e2)];exact this
     ·rw[a38 (iR ej)]at hL
      have:=hcl j oj hoj hL e he hb
      by_cases e2:e.on=i
      ·rw[e2]at this;rw[this]at hil';simp at hil'
      ·rw[a38 (iR e2)];exact this
   rw[lD]at hfront
   unfold OpL at hfront
   simp only[ho]at hfront
   have hmask:∀ x,fY E h w (xY ops o τ x) (a.eval x):=λx=>by
    cases x with
    |tmp t =>
     simp only[xY]
     split
     ·exact rt.get t
     ·exact .any _
    |const v=>exact rt.hev (.const v)
    |global g=>exact rt.hev (.global g)
    |func f=>exact rt.hev (.func f)
   cases hw:want ops τ o with
   |none=>simp[hw]at hfront
   |some c =>
    simp only[hw]at hfront
    have hwant:=aHG rt hw (aC4 hN)
    rw[hwant]
    cases c with
    |false =>
     rw[if_neg aS]
     exact hrest _ _ h hfront E w _ ev R (rt.put o.dst hdst (fY.iF [] [] rfl aS))
    |true =>
     rw[if_pos rfl]
     left
     simp only at hfront
     split at hfront
     ·split at hfront
      ·rcases hfront with⟨n,v,hs,hfront⟩|⟨v,hs,hfront⟩
       ·refine aBM.wp ((hs h rfl E w _ R hmask).mono ?_)
        rintro c w' ⟨x,h',E',⟨rfl,rfl⟩,ev',R',rx⟩
        exact hrest _ _ _ hfront E' w' _ (ev.trans ev') R' ((rt.ev ev').put o.dst hdst rx)
       ·refine aBM.wp ((hs h E w _ R hmask).mono ?_)
        rintro c w' ⟨x,h',E',⟨rfl,rfl⟩,ev',R',rx⟩
        exact hrest _ _ _ hfront E' w' _ (ev.trans ev') R' ((rt.ev ev').put o.dst hdst rx)
      ·refine aBM.wp ((hfront E w _ R hmask).mono ?_)
       rintro v w' ⟨x,h',E',k,ev',R',rx⟩
       exact hrest _ _ h' k.2 E' w' _ (ev.trans ev') R' ((rt.ev ev').put o.dst hdst rx)
     ·obtain⟨v,hs,hfront⟩:=hfront
      refine aBM.wp ((hs h E w _ R hmask).mono ?_)
      rintro c w' ⟨x,h',E',⟨rfl,rfl⟩,ev',R',rx⟩
      exact hrest _ _ _ hfront E' w' _ (ev.trans ev') R' ((rt.ev ev').put o.dst hdst rx)
theorem tE.a01 {P:Program} {N id:Nat} {ops:Array Oper} {ms:List Nat} {ord:xH} {cr:List (Nat×Nat)} {Q:Exit->cJ->Heap->Prop} {τ:cJ} {h:Heap} (hmix:P.follows .mixedOrders=true) (hN:aHH N ops=true) (hord:bR7 ops ms ord cr=true) (keep:List Nat)
  (hr:lD P ops ms cr ord [] τ h λτ' h'=>Q .normal (Hl.prune keep τ') h'):tE P N (.region id ops true) Q τ h:=by
 intro ds E w a R r
 simp only[bR7,oN]at hord
 obtain⟨h1,h5⟩:=hord
 rw[zV]at h5
 refine wp_region_any hmix ?_
 have ev:Ev E h w E h { w with drawn:=w.drawn+1 }:=⟨fL _,λ_ hb=>⟨rfl,hb⟩,λ_ _=>rfl,λ_ hn=>⟨rfl,hn⟩,rfl,rfl⟩
 have R':Rel E h { w with drawn:=w.drawn+1 }:=⟨R.fin,R.dom,R.lt,R.apart,λn o hn=>(R.obj n o hn).ev ev rfl rfl λ_ _ _=>rfl,R.laid.ev ev⟩
 refine a00 hN keep ?_ ops.size _ ord (List.range ops.size) aS List.nodup_range ?_ aS h1 ?_ [] τ h hr E _ a ev R' (r.ev ev)
 ·intro i o ho e he hb
  have:=h5 i (by simp;exact(aWF.1 ho).1)
  simp only[ho,zV]at this
  have:=this e he
  simpa[hb]using this
 ·intro i
  rw[bCY]
  constructor
  ·intro hi;simp[hi]
  ·intro hi;have:=(aWF.1 hi).1;simpa using this
 ·intro j o ho hL
  rw[Array.getElem?_replicate]at hL
  split at hL <;> simp at hL
def Det (F:(aC->Prop)->Prop):Prop:=∀ K,F K->∃ v,K v/\∀ K':aC->Prop,K' v->F K'
theorem tF (v:aC):Det λK=>K v:=λK hk=>⟨v,hk,λ_ h=>h⟩
theorem bK7 {c:Prop} {F:(aC->Prop)->Prop} (h:c->Det F):Det λK=>c/\F K:=λK ⟨hc,hk⟩=>let ⟨v,h1,h2⟩:=h hc K hk;⟨v,h1,λK' h'=>⟨hc,h2 K' h'⟩⟩
theorem bK8 (P:Program) (op:BinOp) (t:TypeId) (x y:aC):Det (iU P op t x y):=by
 intro K hk
 unfold iU at hk ⊢
 split at hk
 ·obtain⟨hd,hk⟩:=hk
  split at hk
  ·exact⟨_,hk,λK' h=>⟨hd,h⟩⟩
  ·exact⟨_,hk,λK' h=>⟨hd,h⟩⟩
  ·exact hk.elim
 ·split at hk
  ·exact⟨_,hk.2.2,λK' h=>⟨hk.1,hk.2.1,h⟩⟩
  ·exact⟨_,hk.2.2,λK' h=>⟨hk.1,hk.2.1,h⟩⟩
  ·exact⟨_,hk.2,λK' h=>⟨hk.1,h⟩⟩
  ·exact⟨_,hk.2,λK' h=>⟨hk.1,h⟩⟩
  ·split at hk
   ·rename_i v hv;exact⟨v,hk,λK' h=>by first|exact h|(simp only[hv];exact h)⟩
   ·exact hk.elim
 ·split at hk
  ·exact⟨_,hk.2,λK' h=>⟨hk.1,h⟩⟩
  ·exact⟨_,hk,λK' h=>h⟩
  ·exact⟨_,hk,λK' h=>h⟩
  ·split at hk
   ·rename_i v hv;exact⟨_,hk,λK' h=>by first|exact h|(simp only[hv];exact h)⟩
   ·exact hk.elim
 ·split at hk
  ·rename_i v hv;exact⟨v,hk,λK' h=>by first|exact h|(simp only[hv];exact h)⟩
  ·exact hk.elim
theorem bC7 {P:Program} {op:BinOp} {t:TypeId} {x y:aC} {K:aC->Prop} (h:iU P op t x y K):aBS P op t x y K:=by
 unfold aBS
 split
 ·simp[iU,pO]at h
 ·simp[iU,pO]at h
 ·simp[iU,pO]at h
 ·exact h
theorem bC8 {P:Program} {op:BinOp} {t:TypeId} {c:Bool} {x y:aC} {K:aC->Prop} (h:iU P op t x y K):aBT P op t c x y K:=by
 unfold aBT
 split
 ·simp[iU,pO]at h
 ·simp[iU,pO]at h
 ·exact bC7 h
theorem bR8 (op:UnOp) (x:aC):Det (aLN op x):=by
 intro K hk
 unfold aLN at hk ⊢
 split at hk
 ·exact⟨_,hk,λK' h=>h⟩
 ·exact⟨_,hk,λK' h=>h⟩
 ·exact hk.elim
theorem bF9 (P:Program) (s d:TypeId) (x:aC):Det (aE1 P s d x):=by
 intro K hk
 unfold aE1 at hk ⊢
 split at hk
 ·rename_i hd;exact⟨_,hk.2,λK' h=>by first|exact⟨hk.1,h⟩|(simp only[hd];exact⟨hk.1,h⟩)⟩
 ·rename_i hd
  split at hk
  ·rename_i h1
   obtain⟨h2,hk⟩:=hk
   split at hk
   ·rename_i h3
    exact⟨_,hk,λK' h=>by exact⟨h2,h⟩⟩
   ·exact hk.elim
  ·exact hk.elim
 ·exact hk.elim
theorem bR9 (d:Option TyD) (f:Nat) (x:aC):Det (aLO d f x):=by
 intro K hk
 unfold aLO at hk ⊢
 split at hk
 ·split at hk
  ·rename_i hf
   obtain⟨h1,hk⟩:=hk
   split at hk
   ·exact⟨_,hk,λK' h=>by first|exact⟨h1,h⟩|(simp only[hf];exact⟨h1,h⟩)⟩
   ·exact⟨_,hk,λK' h=>by first|exact⟨h1,h⟩|(simp only[hf];exact⟨h1,h⟩)⟩
   ·exact hk.elim
  ·exact hk.elim
 ·exact hk.elim
theorem bSA (re:Option nK) (x i:aC):Det (aLP re x i):=by
 intro K hk
 unfold aLP at hk ⊢
 split at hk
 ·split at hk
  ·exact⟨_,hk.2.2.2,λK' h=>⟨hk.1,hk.2.1,hk.2.2.1,h⟩⟩
  ·exact⟨_,hk.2.2.2,λK' h=>⟨hk.1,hk.2.1,hk.2.2.1,h⟩⟩
  ·exact hk.elim
 ·exact hk.elim
theorem bSB (d:Option TyD) (x i:aC):Det (aHF d x i):=by
 intro K hk
 unfold aHF at hk ⊢
 split at hk
 ·obtain⟨h1,hk⟩:=hk
  split at hk
  ·rename_i c hc;exact⟨_,hk,λK' h=>by first|exact⟨h1,h⟩|(simp only[hc];exact⟨h1,h⟩)⟩
  ·exact hk.elim
 ·exact hk.elim
theorem bGA (r:Option nK) (sz i off:Nat) (es:List (List aC)) (h:Heap):Det (lC r (.ip sz es i off) h):=by
 intro K hk
 unfold lC at hk ⊢
 split at hk
 ·simp only at hk ⊢
  split at hk
  ·rename_i he
   split at hk
   ·rename_i x hx;exact⟨x,hk,λK' h=>by first|exact h|(simp only[he,hx];exact h)⟩
   ·exact hk.elim
  ·exact hk.elim
 ·exact hk.elim
theorem a9Z (r:Option nK) (sz i off:Nat) (es:List (List aC)) (h h':Heap) (K:aC->Prop):lC r (.ip sz es i off) h K=lC r (.ip sz es i off) h' K:=by
 unfold lC;rfl
theorem a03 {P:Program} {t:TypeId} {x:aC} {lo hi:Option aC} {K:aC->Prop} (h:nY P t x lo hi K):v8 P t x lo hi K:=by
 unfold v8
 split
 ·simp only[nY]at h
  split at h
  ·rename_i re hre
   obtain⟨h1,h⟩:=h
   split at h
   ·rename_i l m hl hm
    obtain rfl:_=m:=dY hm
    obtain⟨a,b,c,d⟩:=h
    try rw[hre]
    simp only[hl]
    exact⟨h1,a,Int.le_of_lt b,λ_=>by simpa using d,λq=>absurd b aA⟩
   ·exact h.elim
  ·exact h.elim
 ·exact h
theorem bC9 (P:Program) (t:TypeId) (x:aC) (lo hi:Option aC):Det (nY P t x lo hi):=by
 intro K hk
 unfold nY at hk ⊢
 split at hk
 ·obtain⟨h1,hk⟩:=hk
  split at hk
  ·rename_i e1 e2;exact⟨_,hk.2.2.2,λK' h=>by first|exact⟨h1,hk.1,hk.2.1,hk.2.2.1,h⟩|(simp only[e1,e2];exact⟨h1,hk.1,hk.2.1,hk.2.2.1,h⟩)⟩
  ·exact hk.elim
 ·split at hk
  ·rename_i e0
   obtain⟨h1,hk⟩:=hk
   split at hk
   ·rename_i e1 e2;exact⟨_,hk.2.2.2,λK' h=>by first|exact⟨h1,hk.1,hk.2.1,hk.2.2.1,h⟩|(simp only[e0,e1,e2];exact⟨h1,hk.1,hk.2.1,hk.2.2.1,h⟩)⟩
   ·exact hk.elim
  ·exact hk.elim
 ·split at hk
  ·rename_i e0
   obtain⟨h1,hk⟩:=hk
   split at hk
   ·rename_i e1 e2;exact⟨_,hk.2.2.2,λK' h=>by first|exact⟨h1,hk.1,hk.2.1,hk.2.2.1,h⟩|(simp only[e0,e1,e2];exact⟨h1,hk.1,hk.2.1,hk.2.2.1,h⟩)⟩
   ·exact hk.elim
  ·exact hk.elim
 ·exact hk.elim
theorem a4N (P:Program) (t:TypeId) (x:aC) (lo:Option aC) (hi mx:aC):Det (sF P t x lo hi mx):=by
 intro K hk
 unfold sF at hk ⊢
 split at hk
 ·split at hk
  ·rename_i e0
   obtain⟨h1,hk⟩:=hk
   split at hk
   ·rename_i e1 e2 e3
    obtain⟨a,b,c,d,hk⟩:=hk
    exact⟨_,hk,λK' h=>by exact⟨h1,a,b,c,d,h⟩⟩
   ·exact hk.elim
  ·exact hk.elim
 ·exact hk.elim
theorem bDA (P:Program) (r:Option nK) (ps:List (Nat×aC)):Det (yL P r ps):=by
 intro K hk
 unfold yL at hk ⊢
 split at hk
 ·exact⟨_,hk.2.2.2,λK' h=>⟨hk.1,hk.2.1,hk.2.2.1,h⟩⟩
 ·exact hk.elim
theorem bSC (re:Option nK) (len:Nat) (ps:List (Nat×aC)):Det λK=>zA re len ps λsz es=>K (.sl sz es true):=by
 intro K hk
 unfold zA at hk
 split at hk
 ·exact⟨_,hk.2.2.2.2.2,λK' h=>by unfold zA;exact⟨hk.1,hk.2.1,hk.2.2.1,hk.2.2.2.1,hk.2.2.2.2.1,h⟩⟩
 ·exact hk.elim
def a04 (P:Program) (t:Option TypeId) (x:aC) (K:aC->Prop):Prop :=
 match t with
 |some t=>match dOf P t,x with
  |some (.slice _),.sl _ es _=>K (.int .i64 es.length)
  |some (.slice _),.os _ _ _ n=>K (.int .i64 n)
  |some (.slice _),.aV=>K (.int .i64 0)
  |some .str,.str s=>K (.int .i64 s.length)
  | _,_=>False
 |none=>False
def bGB (P:Program) (g:FuncId) (args:List aC) (K:aC->Prop):Prop:=∃ r,dQ P g args r/\K r
def aNJ (P:Program) (o:Oper) (ρ:Operand->aC) (K:aC->Prop):Prop :=
 match o.op with
 | .move x=>K (ρ x)
 | .assign x=>K (ρ x)
 | .pick c a b=>match ρ c with
  | .bool t=>(t=true->K (ρ a))/\(t=false->K (ρ b))
  | _=>False
 | .binOp op t x y _=>iU P op t (ρ x) (ρ y) K
 | .unOp op _ x=>aLN op (ρ x) K
 | .convert s d x=>aE1 P s d (ρ x) K
 | .fieldAddr t x f=>aLO (dOf P t) f (ρ x) K
 | .indexAddr t x i=>aLP (nV P t) (ρ x) (ρ i) K
 | .index t x i=>aHF (dOf P t) (ρ x) (ρ i) K
 | .load t a=>match ρ a with
  | .ip sz es i off=>lC (gZ P t) (.ip sz es i off) (λ_=>none) K
  | _=>False
 | .slice t x lo hi none=>nY P t (ρ x) (lo.map ρ) (hi.map ρ) K
 | .extract t i=>match ρ t with
  | .iF cs=>match cs[i]? with|some x=>K x|none=>False
  | _=>False
 | .nilCheck x=>match ρ x with
  | .op n sz i k=>K (.op n sz i k)
  | .ip sz es i k=>K (.ip sz es i k)
  | _=>False
 | .makeFunc fn fs cs=>K (.fn fn (fs.toList.map ρ) (cs.toList.map ρ))
 | .build t ps=>yL P (gZ P t) (ps.toList.map λp=>(p.1,ρ p.2)) K
 | .call { callee:=.value f,args:=as,argTypes:=_ }=>match ρ f with
  | .fn (.func g) first cap=>bGB P g (first++as.toList.map ρ++cap) K
  | _=>False
 | .call { callee:=.builtin .len,args:=as,argTypes:=ats }=>match as.toList with
  | [x]=>a04 P ats[0]? (ρ x) K
  | _=>False
 | .call { callee:=.builtin .max,args:=as,argTypes:=_ }=>match as.toList with
  | [x,y]=>match ρ x,ρ y with
   | .int k a,.int _ b=>(match ρ y with | .int k' _=>k'=k|_=>False)/\K (.int k (max a b))
   | _,_=>False
  | _=>False
 | .slice t x lo (some hi) (some mx)=>sF P t (ρ x) (lo.map ρ) (ρ hi) (ρ mx) K
 | _=>False
theorem nA {P:Program} {o:Oper} {ρ:Operand->aC} {F:(aC->Prop)->Prop} {K:aC->Prop} (hd:Det F) (hk:F K) (hs:∀ h K',F (λv=>K' v h)->step P o ρ h K'):∃ v,zC P o ρ v/\K v:=by
 obtain⟨v,h1,h2⟩:=hd K hk
 exact⟨v,λh=>nM (hs h _ (h2 (λv'=>v'=v/\h=h) ⟨rfl,rfl⟩)),h1⟩
theorem aE3 {P:Program} {o:Oper} {ρ:Operand->aC} {K:aC->Prop} (hs:aNJ P o ρ K):∃ v,zC P o ρ v/\K v:=by
 unfold aNJ at hs
 split at hs
 case h_1 x ho=>exact nA (tF _) hs λh K' f=>by unfold step;rw[ho];exact f
 case h_2 x ho=>exact nA (tF _) hs λh K' f=>by unfold step;rw[ho];exact f
 case h_3 c a b ho =>
  split at hs
  ·rename_i t ht
   refine⟨if t then ρ a else ρ b,λh=>nM ?_,?_⟩
   ·unfold step;rw[ho];simp only[ht]
    cases t <;> simp
   ·cases t
    ·exact hs.2 rfl
    ·exact hs.1 rfl
  ·exact hs.elim
 case h_4 op t x y ty ho=>exact nA (bK8 P op t _ _) hs λh K' f=>by unfold step;rw[ho];exact bC8 f
 case h_5 op t x ho=>exact nA (bR8 op _) hs λh K' f=>by unfold step;rw[ho];exact f
 case h_6 s d x ho=>exact nA (bF9 P s d _) hs λh K' f=>by unfold step;rw[ho];exact f
 case h_7 t x f ho=>exact nA (bR9 _ f _) hs λh K' f=>by unfold step;rw[ho];exact f
 case h_8 t x i ho=>exact nA (bSA _ _ _) hs λh K' f=>by unfold step;rw[ho];exact f
 case h_9 t x i ho=>exact nA (bSB _ _ _) hs λh K' f=>by unfold step;rw[ho];exact f
 case h_10 t a ho =>
  split at hs
  ·rename_i sz es i off ha
   refine nA (bGA _ sz i off es _) hs λh K' f=>?_
   unfold step;rw[ho];simp only[ha];rw[a9Z _ _ _ _ _ h (λ_=>none)];exact f
  ·exact hs.elim
 case h_11 t x lo hi ho=>exact nA (bC9 P t _ _ _) hs λh K' f=>by unfold step;rw[ho];exact a03 f
 case h_12 t i ho =>
  split at hs
  ·rename_i cs ht
   split at hs
   ·rename_i x hx
    exact nA (tF _) hs λh K' f=>by unfold step;rw[ho];simp only[ht,hx];exact f
   ·exact hs.elim
  ·exact hs.elim
 case h_13 x ho =>
  split at hs
  ·rename_i n sz i k hx;exact nA (tF _) hs λh K' f=>by unfold step;rw[ho];simp only[hx];exact f
  ·rename_i sz es i k hx;exact nA (tF _) hs λh K' f=>by unfold step;rw[ho];simp only[hx];exact f
  ·exact hs.elim
 case h_14 fn fs cs ho=>exact nA (tF _) hs λh K' f=>by unfold step;rw[ho];exact f
 case h_15 t ps ho=>exact nA (bDA P _ _) hs λh K' f=>by unfold step;rw[ho];exact f
 case h_16 f as ats ho =>
  split at hs
  ·rename_i g first cap hf
   obtain⟨r,hr,hk⟩:=hs
   refine⟨r,λh=>nM ?_,hk⟩
   unfold step;rw[ho];simp only[aE0,hf]
   exact hr h
  ·exact hs.elim
 case h_17 as ats ho =>
  split at hs
  ·rename_i x hax
   unfold a04 at hs
   split at hs
   ·rename_i t hat
    split at hs
    all_goals first
     |exact hs.elim
     |(rename_i e1 e2;refine nA (tF _) hs λh K' f=>?_;unfold step;rw[ho];simp only[aE0,hax,aWQ,hat,e1,e2];first|exact λ_=>f|exact f)
   ·exact hs.elim
  ·exact hs.elim
 case h_18 as ats ho =>
  split at hs
  ·rename_i x y hax
   split at hs
   ·rename_i k a k' b hx hy
    refine⟨_,λh=>nM ?_,hs.2⟩
    unfold step;rw[ho];simp only[aE0,hax,hx,hy]
    have:=hs.1;simp only[hy]at this;simp[this]
   ·exact hs.elim
  ·exact hs.elim
 case h_19 t x lo hi mx ho=>exact nA (a4N P t _ _ _ _) hs λh K' f=>by unfold step;rw[ho];exact f
 case h_20=>exact hs.elim
def aLR (P:Program) (ib:List Nat) (o:Oper) (ρ:Operand->aC) (K:aC->Prop):Prop :=
 match o.dst with
 |some d=>if ib.contains d then(match o.op with
   | .box _ x=>aQK (ρ x) K
   | .buildSlice t len ps=>zA (nV P t) len (ps.toList.map λp=>(p.1,ρ p.2)) λsz es=>K (.sl sz es true)
   | _=>aNJ P o ρ K)else aNJ P o ρ K
 |none=>aNJ P o ρ K
theorem a05 {P:Program} {ib:List Nat} {o:Oper} {ρ:Operand->aC} {F:(aC->Prop)->Prop} {K:aC->Prop} (hd:Det F) (hk:F K) (hs:∀ h K',F (λv=>K' v h)->zB P ib o ρ h K'):∃ v,zC P o ρ v/\K v:=by
 obtain⟨v,h1,h2⟩:=hd K hk
 exact⟨v,λh=>aE2 (hs h _ (h2 (λv'=>v'=v/\h=h) ⟨rfl,rfl⟩)),h1⟩
theorem aWU {P:Program} {ib:List Nat} {o:Oper} {ρ:Operand->aC} {K:aC->Prop} (hs:aLR P ib o ρ K):∃ v,zC P o ρ v/\K v:=by
 unfold aLR at hs
 split at hs
 ·rename_i d hd
  split at hs
  ·rename_i hib
   split at hs
   ·rename_i t x ho
    exact a05 (ib:=ib) (bK7 λ_=>tF _) hs λh K' f=>by unfold zB;rw[hd];simp only[hib,if_true,ho];exact f
   ·rename_i t len ps ho
    exact a05 (ib:=ib) (bSC _ _ _) hs λh K' f=>by unfold zB;rw[hd];simp only[hib,if_true,ho];exact f
   ·exact aE3 hs
  ·exact aE3 hs
 ·exact aE3 hs
def a06 (P:Program) (o:Oper) (ρ:Operand->aC) (h:Heap) (K:Option Nat->aC->Prop):Prop :=
 match o.op with
 | .load t a=>match ρ a with
  | .op n sz i off=>lC (gZ P t) (.op n sz i off) h λv=>K (some n) v
  | .ip sz es i off=>lC (gZ P t) (.ip sz es i off) h λv=>K none v
  | _=>False
 | _=>False
theorem bK9 (r:Option nK) (n sz i off:Nat) (h:Heap):Det (lC r (.op n sz i off) h):=by
 intro K hk
 unfold lC at hk ⊢
 split at hk
 ·simp only at hk
  split at hk
  ·rename_i sz' es e0
   obtain⟨h1,hk⟩:=hk
   split at hk
   ·rename_i e e1
    split at hk
    ·rename_i x e2
     exact⟨x,hk,λK' q=>by simp only[e0,e1,e2];exact⟨h1,q⟩⟩
    ·exact hk.elim
   ·exact hk.elim
  ·exact hk.elim
 ·exact hk.elim
theorem bGC (r:Option nK) (n sz i off:Nat) (h h':Heap) (e:h' n=h n) (K:aC->Prop):lC r (.op n sz i off) h' K=lC r (.op n sz i off) h K:=by
 unfold lC;simp only[e]
theorem a07 {P:Program} {o:Oper} {ρ:Operand->aC} {h:Heap} {K:Option Nat->aC->Prop} (hs:a06 P o ρ h K):(∃ n v,aWS P o ρ h n v/\K (some n) v)∨∃ v,zC P o ρ v/\K none v:=by
 unfold a06 at hs
 split at hs
 ·rename_i t a ho
  split at hs
  ·rename_i n sz i off ha
   obtain⟨v,h1,h2⟩:=bK9 _ n sz i off h _ hs
   refine .inl ⟨n,v,λh' e=>nM ?_,h1⟩
   unfold step;rw[ho];simp only[ha]
   rw[bGC _ _ _ _ _ h h' e]
   have:=h2 (λv'=>v'=v/\h'=h') ⟨rfl,rfl⟩
   simpa using this
  ·rename_i sz es i off ha
   obtain⟨v,h1,h2⟩:=bGA _ sz i off es h _ hs
   refine .inr ⟨v,λh'=>nM ?_,h1⟩
   unfold step;rw[ho];simp only[ha]
   rw[a9Z _ _ _ _ _ h' h]
   have:=h2 (λv'=>v'=v/\h'=h') ⟨rfl,rfl⟩
   simpa using this
  ·exact hs.elim
 ·exact hs.elim
def a08 (cr:List (Nat×Nat)) (i:Nat):Option Nat->List (Nat×Nat)->List (Nat×Nat)
 |some n,pr=>if bF6 cr i then(i,n)::pr else pr
 |none,pr=>pr
def aQT (cr:List (Nat×Nat)) (i:Nat):List (Nat×Nat)->Heap->Heap->Prop
 | [],_,_=>True
 |(x,n)::pr,h,h'=>(if aD5 cr x i then h' n=h n else True)/\aQT cr i pr h h'
theorem a90 {cr:List (Nat×Nat)} {i:Nat} {h h':Heap}:∀ {pr:List (Nat×Nat)},aQT cr i pr h h'->aQO cr i pr h h'
 | [],_=>λp hp=>by simp at hp
 |(x,n)::pr,q=>λp hp hc=>by
  simp only[aQT]at q
  rcases p7.1 hp with rfl|hp
  ·have:=q.1;rw[if_pos hc]at this;exact this
  ·exact a90 q.2 p hp hc
def aNK (P:Program) (ib:List Nat) (cr:List (Nat×Nat)) (i:Nat) (m:Bool) (o:Oper) (ρ:Operand->aC) (pr:List (Nat×Nat)) (h:Heap) (K:List (Nat×Nat)->aC->Heap->Prop):Prop :=
 if m then(if a4M o then a06 P o ρ h (λn v=>K (a08 cr i n pr) v h)else zB P ib o ρ h (λv h'=>aQT cr i pr h h'/\K pr v h'))
 else aLR P ib o ρ (λv=>K pr v h)
def OpD (P:Program) (ib:List Nat) (ops:Array Oper) (ms:List Nat) (cr:List (Nat×Nat)) (i:Nat) (pr:List (Nat×Nat)) (τ:cJ) (h:Heap) (C:List (Nat×Nat)->cJ->Heap->Prop):Prop :=
 match ops[i]? with
  |none=>False
  |some o=>match o.guard with
   |none=>aNK P ib cr i (ms.contains i) o (xY ops o τ) pr h (λpr' v h'=>C pr' (iT τ o.dst v) h')
   |some (g,b)=>match (ops[g]?).bind (·.dst)with
    |some d=>match dB τ d with
     | .bool b'=>(b'=b->aNK P ib cr i (ms.contains i) o (xY ops o ((d,.bool b)::τ)) pr h (λpr' v h'=>C pr' (iT ((d,.bool b)::τ) o.dst v) h')) /\
       (b'=!b->C pr (iT ((d,.bool !b)::τ) o.dst (.iF [])) h)
     | .iF []=>C pr (iT τ o.dst (.iF [])) h
     | _=>False
    |none=>False
def aLS (P:Program) (ib:List Nat) (ops:Array Oper) (ms:List Nat) (cr:List (Nat×Nat)):xH->List (Nat×Nat)->cJ->Heap->(cJ->Heap->Prop)->Prop
 | .nil,_,τ,h,K=>K τ h
 | .op i l,pr,τ,h,K=>OpD P ib ops ms cr i pr τ h λpr τ h=>aLS P ib ops ms cr l pr τ h K
 | .alt i l j q,pr,τ,h,K=>(OpD P ib ops ms cr i pr τ h λpr τ h=>aLS P ib ops ms cr l pr τ h K)/\OpD P ib ops ms cr j pr τ h λpr τ h=>aLS P ib ops ms cr q pr τ h K
theorem OpD.sound {P:Program} {ib:List Nat} {ops:Array Oper} {ms:List Nat} {cr:List (Nat×Nat)} {i:Nat} {C C':List (Nat×Nat)->cJ->Heap->Prop}
  (hC:∀ (pr pr':List (Nat×Nat)) (τ τ':cJ) (h:Heap),(∀ p∈pr',p∈pr∨∀ j,aD5 cr p.1 j=false)->TEq τ τ'->C pr τ h->C' pr' τ' h) (pr:List (Nat×Nat)) (τ:cJ) (h:Heap) (r:OpD P ib ops ms cr i pr τ h C):OpL P ops ms i cr pr τ h C':=by
  have ids:∀ pr:List (Nat×Nat),∀ p∈pr,p∈pr∨∀ j,aD5 cr p.1 j=false:=λ_ _ h=>.inl h
  unfold OpD at r
  unfold OpL
  cases ho:ops[i]? with
  |none=>simp[ho]at r
  |some o =>
   simp only[ho]at r ⊢
   have go:∀ σ:cJ,(∀ k,dB σ k=dB τ k)->want ops τ o=some true->aNK P ib cr i (ms.contains i) o (xY ops o σ) pr h (λpr' v h'=>C pr' (iT σ o.dst v) h')->(match want ops τ o with
      |none=>False
      |some true=>if ms.contains i then(if a4M o then(∃ n v,aWS P o (xY ops o τ) h n v/\C' ((i,n)::pr) (iT τ o.dst v) h)∨∃ v,zC P o (xY ops o τ) v/\C' pr (iT τ o.dst v) h
         else rI P o (xY ops o τ) h λv h'=>aQO cr i pr h h'/\C' pr (iT τ o.dst v) h')
        else ∃ v,zC P o (xY ops o τ) v/\C' pr (iT τ o.dst v) h
      |some false=>C' pr (iT τ o.dst (.iF [])) h):=by
    intro σ hσ hw r
    rw[hw]
    simp only
    rw[sG (ops:=ops) (o:=o) (τ:=σ) (τ':=τ) λt _=>hσ t]at r
    unfold aNK at r
    split at r
    ·rename_i hm;rw[if_pos hm]
     split at r
     ·rename_i hl;rw[if_pos hl]
      rcases a07 r with⟨n,v,h1,h2⟩|⟨v,h1,h2⟩
      ·refine .inl ⟨n,v,h1,hC _ _ _ _ h ?_ (TEq.put hσ _ _) h2⟩
       intro p hp
       simp only[a08]
       split
       ·exact .inl hp
       ·rename_i hn
        rcases p7.1 hp with rfl|hp
        ·exact .inr λj=>a0X (by simpa using hn)
        ·exact .inl hp
      ·exact .inr ⟨v,h1,hC _ _ _ _ h (ids _) (TEq.put hσ _ _) h2⟩
     ·rename_i hl;rw[if_neg hl]
      exact(aE2 r).mono λv h' x=>⟨a90 x.1,hC _ _ _ _ h' (ids _) (TEq.put hσ _ _) x.2⟩
    ·rename_i hm;rw[if_neg hm]
     obtain⟨v,h1,h2⟩:=aWU r
     exact⟨v,h1,hC _ _ _ _ h (ids _) (TEq.put hσ _ _) h2⟩
   have skip:∀ σ:cJ,(∀ k,dB σ k=dB τ k)->want ops τ o=some false->C pr (iT σ o.dst (.iF [])) h->(match want ops τ o with
      |none=>False
      |some true=>if ms.contains i then(if a4M o then(∃ n v,aWS P o (xY ops o τ) h n v/\C' ((i,n)::pr) (iT τ o.dst v) h)∨∃ v,zC P o (xY ops o τ) v/\C' pr (iT τ o.dst v) h
         else rI P o (xY ops o τ) h λv h'=>aQO cr i pr h h'/\C' pr (iT τ o.dst v) h')
        else ∃ v,zC P o (xY ops o τ) v/\C' pr (iT τ o.dst v) h
      |some false=>C' pr (iT τ o.dst (.iF [])) h):=by
    intro σ hσ hw r
    rw[hw]
    exact hC _ _ _ _ h (ids _) (TEq.put hσ _ _) r
   cases hg:o.guard with
   |none=>simp only[hg]at r;exact go τ (λ_=>rfl) (by simp[want,hg]) r
   |some gb =>
    obtain⟨g,b⟩:=gb
    simp only[hg]at r
    split at r
    ·rename_i d hd
     split at r
     ·rename_i b' hb'
      by_cases e:b'=b
      ·subst e
       exact go _ (aC3 hb') (by simp[want,hg,hd,hb']) (r.1 rfl)
      ·have e':b'=!b:=by cases b' <;> cases b <;> simp_all
       subst e'
       exact skip _ (aC3 hb') (by simp only[want,hg,hd,hb'];cases b <;> rfl) (r.2 rfl)
     ·rename_i hb';exact skip τ (λ_=>rfl) (by simp[want,hg,hd,hb']) r
     ·exact r.elim
    ·exact r.elim
theorem aLS.sound {P:Program} {ib:List Nat} {ops:Array Oper} {ms:List Nat} {cr:List (Nat×Nat)} {K:cJ->Heap->Prop} (hK:∀ τ τ' h,TEq τ τ'->K τ h->K τ' h):∀ (l:xH) (pr:List (Nat×Nat)) (τ:cJ) (h:Heap),aLS P ib ops ms cr l pr τ h K->lD P ops ms cr l pr τ h K
 | .nil,_,_,_,r=>r
 | .op i l,pr,τ,h,r=>OpD.sound (λpr pr' τ τ' h hs e r=>lD.congr hK l _ _ _ _ h hs e (aLS.sound hK l pr τ h r)) pr τ h r
 | .alt i l j q,pr,τ,h,r=>⟨OpD.sound (λpr pr' τ τ' h hs e r=>lD.congr hK l _ _ _ _ h hs e (aLS.sound hK l pr τ h r)) pr τ h r.1,OpD.sound (λpr pr' τ τ' h hs e r=>lD.congr hK q _ _ _ _ h hs e (aLS.sound hK q pr τ h r)) pr τ h r.2⟩
abbrev Marks:=Nat->List Nat×xH×List (Nat×Nat)
def aQU (id:Nat) (K:cJ->Heap->Prop) (Q:Exit->cJ->Heap->Prop):Exit->cJ->Heap->Prop
 | .exit i,τ,h=>if i=id then K τ h else Q (.exit i) τ h
 |e,τ,h=>Q e τ h
def hwp (P:Program) (N:Nat) (keep ib:List Nat) (mk:Marks):Code->(cJ->Heap->Prop)->(Exit->cJ->Heap->Prop)->cJ->Heap->Prop
 | .skip,K,Q,τ,h=>K τ h
 | .region id ops false,K,Q,τ,h=>aJW P ib ops ops.toList τ h λτ' h'=>K (Hl.prune keep τ') h'
 | .region id ops true,K,Q,τ,h=>aLS P ib ops (mk id).1 (mk id).2.2 (mk id).2.1 [] τ h λτ' h'=>K (Hl.prune keep τ') h'
 | .seq a b,K,Q,τ,h=>hwp P N keep ib mk a (λτ h=>hwp P N keep ib mk b K Q τ h) Q τ h
 | .cond c a b,K,Q,τ,h=>match hev τ c with
  | .bool t=>(t=true->hwp P N keep ib mk a K Q τ h)/\(t=false->hwp P N keep ib mk b K Q τ h)
  | _=>False
 | .block id c,K,Q,τ,h=>hwp P N keep ib mk c K (aQU id K Q) τ h
 | .loop c,K,Q,τ,h=>tE P N (.loop c) (aBR K Q) τ h
 | .exit id,K,Q,τ,h=>Q (.exit id) τ h
 | .ret,K,Q,τ,h=>Q .ret τ h
 | _,_,_,_,_=>False
def iV (N:Nat) (mk:Marks):Code->Bool
 | .region _ ops false=>aHH N ops
 | .region id ops true=>aHH N ops && bR7 ops (mk id).1 (mk id).2.1 (mk id).2.2
 | .seq a b=>iV N mk a && iV N mk b
 | .cond _ a b=>iV N mk a && iV N mk b
 | .block _ c=>iV N mk c
 | .loop c=>iV N mk c
 | _=>true
theorem wA {P:Program} {N:Nat} {keep ib:List Nat} {mk:Marks} (hmix:P.follows .mixedOrders=true):∀ (c:Code) (K:cJ->Heap->Prop) (Q:Exit->cJ->Heap->Prop) (τ:cJ) (h:Heap),iV N mk c=true->hwp P N keep ib mk c K Q τ h->tE P N c (aBR K Q) τ h
 | .skip,K,Q,τ,h,_,hw=>.skip hw
 | .region id ops false,K,Q,τ,h,hc,hw=>.region hc keep hw
 | .region id ops true,K,Q,τ,h,hc,hw=>by
  simp only[iV,oN]at hc
  exact .a01 hmix hc.1 hc.2 keep (aLS.sound (λτ τ' h e q=>by
   have:Hl.prune keep τ=Hl.prune keep τ':=by unfold Hl.prune;exact bFB λk _=>by rw[e k]
   rwa [←this]) _ _ _ _ hw)
 | .seq a b,K,Q,τ,h,hc,hw=>by
  simp only[iV,oN]at hc
  refine .seq ((wA hmix a _ _ τ h hc.1 hw).mono ?_)
  intro e τ' h' q
  cases e <;> simp only[aBR]at q ⊢ <;> first|exact q|exact wA hmix b _ _ _ _ hc.2 q
 | .cond c a b,K,Q,τ,h,hc,hw=>by
  simp only[iV,oN]at hc
  unfold hwp at hw
  split at hw
  ·rename_i t ht
   exact .cond ht (λe=>wA hmix a _ _ _ _ hc.1 (hw.1 e)) (λe=>wA hmix b _ _ _ _ hc.2 (hw.2 e))
  ·exact hw.elim
 | .block id c,K,Q,τ,h,hc,hw=>.block ((wA hmix c _ _ τ h hc hw).mono λe τ' h' q=>by
   cases e <;> simp only[aBR,aQU,aWO]at q ⊢ <;> first|exact q|(split at q <;> rename_i hi <;> simp_all [aBR,aWO]))
 | .loop c,K,Q,τ,h,hc,hw=>hw
 | .exit id,K,Q,τ,h,hc,hw=>.exit hw
 | .ret,K,Q,τ,h,hc,hw=>.ret hw
 | .rangeFunc _ _ _ _,_,_,_,_,_,hw=>hw.elim
 | .scope _,_,_,_,_,_,hw=>hw.elim
 | .label _,_,_,_,_,_,hw=>hw.elim
 | .goto _,_,_,_,_,_,hw=>hw.elim
 | .refuse _,_,_,_,_,_,hw=>hw.elim
theorem aQV {P:Program} {f:FuncId} {fn:Func} {c:Code} (N:Nat) (keep ib:List Nat) (mk:Marks) {args:List aC} {h:Heap} {K:aC->Heap->Prop} (hmix:P.follows .mixedOrders=true) (hf:P.funcs[f]?=some fn) (hb:fn.body=some c)
  (hck:(jG P f && decide (fn.ntmps=N) && iV N mk c)=true) (hl:args.length<=N) {K':aC->Heap->Prop}
  (hw:hwp P N keep ib mk c (aJX P fn.results K' .normal) (aJX P fn.results K') (rU 0 args) h) (hk:∀ r h',K' r h'->∃ g:Heap,g.le h'/\K r g):gK P f args h K:=by
 simp only[oN,decide_eq_true_eq]at hck
 refine bF5 hf hb hck.1.1 hck.1.2 hl ((wA hmix c _ _ _ _ hck.2 hw).mono ?_) hk
 intro e τ h q
 cases e <;> exact q
theorem bLA {P:Program} {f:FuncId} {fn:Func} {c:Code} (N:Nat) (keep ib:List Nat) (mk:Marks) {args:List aC} {r:aC} (hmix:P.follows .mixedOrders=true) (hf:P.funcs[f]?=some fn) (hb:fn.body=some c)
  (hck:(jG P f && decide (fn.ntmps=N) && iV N mk c)=true) (hl:args.length<=N)
  (hw:∀ h,hwp P N keep ib mk c (aJX P fn.results (λr' h'=>r'=r/\h.le h') .normal) (aJX P fn.results λr' h'=>r'=r/\h.le h') (rU 0 args) h):dQ P f args r :=
 λh=>aQV N keep ib mk hmix hf hb hck hl (hw h) λ_ _ hx=>⟨h,hx.2,hx.1,rfl⟩
theorem aW {h h':Heap} {n:Nat} {o:cF} (hn:h n=none):h.le (bT h' n o)↔h.le h':=by
 constructor
 ·intro hl m
  by_cases e:m=n
  ·subst e;exact .inl hn
  ·have:=hl m;rwa [aD _ _ _ _ e]at this
 ·exact Heap.aW hn
theorem lX {h:Heap} {n m:Nat} {o:cF}:bT h n o m=none↔m≠n/\h m=none:=by
 simp only[bT];split <;> simp_all
def dT:cJ->cJ->Prop
 | [],_=>True
 |(k,v)::r,τ=>dB τ k=v/\dT r τ
theorem dT.get:∀ {l τ:cJ},dT l τ->∀ k,dB l k=.any∨dB l k=dB τ k
 | [],τ,_,k=>.inl rfl
 |(j,v)::r,τ,h,k=>by
  simp only[dB]
  by_cases e:j=k
  ·subst e;right;rw[if_pos rfl];exact h.1.symm
  ·rw[if_neg e];exact dT.get h.2 k
theorem tE.weaken {P:Program} {N:Nat} {c:Code} {Q:Exit->cJ->Heap->Prop} {σ τ:cJ} {g h:Heap} (hs:dT σ τ) (hl:g.le h) (x:tE P N c Q σ g):tE P N c Q τ h :=
 tE.forget hl λds E w a R r=>x ds E w a R ⟨r.size,r.defers,λk=>by
  rcases hs.get k with e|e
  ·rw[e];exact .any _
  ·rw[e];exact r.get k⟩
theorem tE.a09 {P:Program} {N:Nat} {c:Code} {Q:Exit->cJ->Heap->Prop} {τ:cJ} {h:Heap} {α:Type} (S:α->cJ) (H:α->Heap) (side:α->Prop) (μ:α->Nat) (x₀:α)
  (h₀:dT (S x₀) τ/\(H x₀).le h/\side x₀)
  (round:∀ x,side x->tE P N c (aBR (λτ' h'=>∃ x',dT (S x') τ'/\(H x').le h'/\side x'/\μ x'<μ x) Q) (S x) (H x)):tE P N (.loop c) Q τ h :=
 tE.loop (λx τ h=>dT (S x) τ/\(H x).le h/\side x) μ x₀ h₀ λx τ h ⟨h1,h2,h3⟩ =>
  tE.weaken h1 h2 ((round x h3).mono λe τ h q=>by
   cases e <;> simp only[aBR]at q ⊢ <;> first|exact q|(obtain⟨x',a,b,c,d⟩:=q;exact⟨x',⟨a,b,c⟩,d⟩))
end Go.Hl
