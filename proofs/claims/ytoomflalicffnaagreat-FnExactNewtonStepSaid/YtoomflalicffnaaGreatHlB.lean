/-
  Contracts of functions and laws of the layer over the walk.
-/
import Derived.Test.YtoomflalicffnaaGreatHlA
import Derived.Orders
namespace Go.Hl
set_option linter.unusedVariables false
set_option linter.unusedSimpArgs false
def aKK:List aC→Nat→List aC→List aC
 |es,_,[]=>es
 |es,off,v :: vs=>aKK (es.set off v) (off + 1) vs
theorem u5:∀ (vs es:List aC) (off:Nat),(aKK es off vs).length = es.length
 | [],_,_=>rfl
 |v :: vs,es,off=>by simp [aKK,u5 vs]
theorem aKL:∀ (vs es:List aC) (off k:Nat),off + vs.length≤es.length→(aKK es off vs)[k]? = if off≤k∧k < off + vs.length then vs[k - off]? else es[k]?
 | [],es,off,k,_=>by
  rw [if_neg]
  ·rfl
  ·simp only [List.length_nil];omega
 |v :: vs,es,off,k,h=>by
  simp only [List.length_cons] at h
  rw [aKK,aKL vs _ _ _ (by simp;omega)]
  by_cases e:k = off
  ·subst e
   rw [if_neg (by omega),if_pos (by simp),List.getElem?_set_self (by omega)]
   try simp
  ·rw [List.getElem?_set_ne (Ne.symm e)]
   by_cases h1:off + 1≤k∧k < off + 1 + vs.length
   ·rw [if_pos h1,if_pos (by simp;omega),show k - off = (k - (off + 1)) + 1 by omega];simp
   ·rw [if_neg h1,if_neg (by simp;omega)]
def aDB (place:Nat→Option (Nat × Nat)) (es:List aC):List (Nat × aC)→List aC
 | []=>es
 |(i,v) :: r=>match place i with
  |some (off,_)=>aDB place (aKK es off v.cells) r
  |none=>es
def sW (place:Nat→Option (Nat × Nat)) (n:Nat):List (Nat × aC)→Bool
 | []=>true
 |(i,v) :: r=>(match place i with
  |some (off,sz)=>decide (v.cells.length = sz) && decide (off + sz≤n)
  |none=>false) && v.cells.all aC.flat && sW place n r
theorem bDZ (a:Array Value):a.toList.length = a.size:=rfl
theorem aGS {E:Env} {h:aA} {w:World} {ρ:Operand→aC} {place:Nat→Option (Nat × Nat)} {ρc:Operand→Value} (hρ:∀ x,eC E h w (ρ x) (ρc x)):∀ (ps:List (Nat × Operand)) (es:List aC) (cs:Array Value),sW place es.length (ps.map fun p=>(p.1,ρ p.2)) = true →
  cX E h w es cs.toList→∃ cs',Instr.fill place cs (ps.map fun p=>(p.1,ρc p.2)) = some cs'∧cX E h w (aDB place es (ps.map fun p=>(p.1,ρ p.2))) cs'.toList
 | [],es,cs,_,hL=>⟨cs,rfl,hL⟩
 |(i,x) :: ps,es,cs,hf,hL=>by
  simp only [List.map_cons,sW,Bool.and_eq_true] at hf
  obtain ⟨⟨hp,hfl⟩,hf⟩:=hf
  cases hpl:place i with
  |none=>simp [hpl] at hp
  |some os =>
   obtain ⟨off,sz⟩:=os
   simp only [hpl,Bool.and_eq_true,decide_eq_true_eq] at hp
   obtain ⟨hsz,hfit⟩:=hp
   obtain ⟨hcL,hc1⟩:=(hρ x).z7 hfl
   have hvs:(ρc x).cells.size = sz:=by have:=hcL.length;simp at this;omega
   have hcsz:cs.size = es.length:=by have:=hL.length;simpa using this.symm
   have hget:=fun k=>uE (ρc x).cells off cs k (by omega)
   have hsize:=rV (ρc x).cells off cs
   obtain ⟨cs',r1,r2⟩:=aGS hρ ps (aKK es off (ρ x).cells) ((ρc x).cells.zipIdx.foldl (fun cs (cj:Value × Nat)=>cs.setIfInBounds (off + cj.2) cj.1) cs) (by rw [u5];exact hf) (by
    refine cX.mk (by rw [u5,bDZ,hsize,hcsz]) ?_
    intro k y v hy hv
    rw [aKL _ _ _ _ (by omega)] at hy
    rw [Array.getElem?_toList,hget k] at hv
    by_cases hr:off≤k∧k < off + (ρ x).cells.length
    ·rw [if_pos hr] at hy
     rw [if_pos (by omega)] at hv
     exact hcL.get _ _ _ hy (by simpa using hv)
    ·rw [if_neg hr] at hy
     rw [if_neg (by omega)] at hv
     exact hL.get _ _ _ hy (by simpa using hv))
   refine ⟨cs',?_,?_⟩
   ·simp only [List.map_cons,Instr.fill,hpl,hvs]
    rw [if_neg (by simp;omega)]
    exact r1
   ·simpa only [List.map_cons,aDB,hpl] using r2
def o7 (P:Program):TyD→Nat→Option (Nat × Nat)
 | .st fs,i=>(fs[i]?).map fun f=>(f.1,f.2.2)
 | .arr _ e,i=>match gL P e with | some re=>some (i * re.sz,re.sz) | none=>none
 | _,_=>none
def u6 (P:Program):TyD→Bool
 | .st _=>true
 | .arr _ e=>(gL P e).isSome
 | _=>false
theorem aSN {P:Program} {o:Oper} {ρ:Operand→aC} {h:aA} {K:aC→aA→Prop} (t:TypeId) (ps:Array (Nat × Operand)) (r:jU) (ho:o.op = .build t ps) (ht:gL P t = some r) (hd:u6 P r.d = true) (hz:r.zero≠[])
  (hf:sW (o7 P r.d) r.zero.length (ps.toList.map fun p=>(p.1,ρ p.2)) = true) (hk:K (.agg (aDB (o7 P r.d) r.zero (ps.toList.map fun p=>(p.1,ρ p.2)))) h):mA P o ρ h K :=
 bS hk fun E w ρc R hρ=>by
  obtain ⟨u,hu,hud,hrun⟩:=bP (w:=w) ht
  obtain ⟨z,hzr,hzz⟩:=mS (w:=w) ht hz
  have hL:cX E h w r.zero z.cells.toList:=by rw [← hzz];exact nH E h w _
  obtain ⟨cs,h1,h2⟩:=aGS hρ ps.toList r.zero z.cells hf hL
  refine ⟨.agg cs,?_,by have:=eC.agg (E:=E) (h:=h) (w:=w) _ cs.toList h2.length h2.get;simpa using this⟩
  have hmap:(ps.map fun (i,x)=>(i,ρc x)).toList = ps.toList.map fun p=>(p.1,ρc p.2):=by simp
  cases hdd:r.d with
  |st fs =>
   obtain ⟨gs,rfl,hall,hgs⟩:=aT8 (hud.trans hdd)
   have hpl:∀ i:Nat,((gs.toList.map fun f=>(f.offset,P.cellsOf f.type)).toArray)[i]? = o7 P r.d i:=by
    intro i
    rw [hdd]
    simp only [o7,← hgs,List.getElem?_toArray,List.getElem?_map,Option.map_map]
    rfl
   have hm:(gs.mapM fun f=>(do pure (f.offset,← sizeOf f.type):Sem (Nat × Nat))).run P w = .ok (gs.toList.map fun f=>(f.offset,P.cellsOf f.type)).toArray w:=by
    rw [← Array.toArray_toList (xs:=gs),List.mapM_toArray]
    have key:∀ l:List Field,l.all (fun f=>(P.info? f.type).isSome) = true→(l.mapM fun f=>(do pure (f.offset,← sizeOf f.type):Sem (Nat × Nat))).run P w = .ok (l.map fun f=>(f.offset,P.cellsOf f.type)) w:=by
     intro l
     induction l with
     |nil=>intro _;simp
     |cons f l ih =>
      intro hl
      simp only [List.all_cons,Bool.and_eq_true] at hl
      simp only [List.mapM_cons,Sem.run_bind,uX hl.1,Result.andThen_ok,Sem.run_pure,ih hl.2,List.map_cons]
    have hk':=key _ hall
    simp only [bind_pure_comp] at hk' ⊢
    simp [hk']
   simp only [execOp,ho,Instr.build,Sem.run_bind,hzr,Result.andThen_ok,hrun,hm,hmap]
   have:(fun x=>(gs.toList.map fun f=>(f.offset,P.cellsOf f.type)).toArray[x]?) = o7 P r.d:=funext hpl
   rw [this,h1]
   simp
  |arr n e =>
   obtain rfl:=aYF (hud.trans hdd)
   rw [hdd] at hd
   obtain ⟨re,hre⟩:=Option.isSome_iff_exists.1 hd
   have hsize:=fT (w:=w) hre
   simp only [execOp,ho,Instr.build,Sem.run_bind,hzr,Result.andThen_ok,hrun,hsize,hmap]
   have:(fun i=>some (i * re.sz,re.sz)) = o7 P r.d:=by funext i;rw [hdd];simp [o7,hre]
   rw [this,h1]
   simp
  | _=>rw [hdd] at hd;simp [u6] at hd
section
variable {P:Program} {o:Oper} {ρ:Operand→aC} {h:aA} {K:aC→aA→Prop}
theorem aF4 (t et:TypeId) (x:Operand) (lo hi:Option Operand) (mx:Operand) (r re:jU) (sz:Nat) (es:List (List aC)) (tg:Bool) (l m M:Int) (ho:o.op = .slice t x lo hi (some mx)) (ht:gL P t = some r) (hd:r.d = .slice et)
  (he:gL P et = some re) (hsz:re.sz = sz) (hx:ρ x = .sl sz es tg) (hhi:hi.isSome = true)
  (hl:iI 0 (lo.map ρ) = some l) (hh:iI es.length (hi.map ρ) = some m) (hM:iI 0 (some (ρ mx)) = some M) (h0:0≤l) (h1:l≤m) (h2:m≤M) (h3:M≤es.length)
  (hk:K (.sl sz ((es.take m.toNat).drop l.toNat) (decide (M = m))) h):mA P o ρ h K :=
 bS hk fun E w ρc R hρ=>by
  have hr:=hρ x
  rw [hx] at hr
  obtain ⟨u,hu,hud,hrun⟩:=bP (w:=w) ht
  obtain rfl:=fZ (hud.trans hd)
  have hsize:=fT (w:=w) he
  have hml:maxLen = 9223372036854775807:=rfl
  have key:∀ (a:Option Addr) (cap:Nat),ρc x = .slice a es.length cap→es.length≤cap →
    (execOp ρc o).run P w = .ok (.value (.slice (if M.toNat = l.toNat then a else a.map (·.add (l.toNat * sz))) (m.toNat - l.toNat) (M.toNat - l.toNat))) w:=by
   intro a cap hv hc
   have hM':iI cap (some (ρ mx)) = some M:=by
    generalize ρ mx = z at hM
    cases z <;> simp [iI] at hM ⊢
    exact hM
   have hb:=p0 (P:=P) R hρ true es.length cap lo hi (some mx) l m M hl hh hM' (fun _=>hhi) h0 h1 h2 (by omega)
   simp only [Option.map_some] at hb
   simp [execOp,ho,Instr.sliceAt,Instr.slice,hrun,hv,hb,hsize,hsz]
  have htk:∀ i j y,iE ((es.take m.toNat).drop l.toNat) i j = some y→iE es (l.toNat + i) j = some y:=by
   intro i j y hy
   obtain ⟨e,h1,h2⟩:=jI hy
   rw [List.getElem?_drop] at h1
   have hlt:l.toNat + i < m.toNat:=by have:=(List.getElem?_eq_some_iff.1 h1).1;simp at this;omega
   rw [List.getElem?_take_of_lt hlt] at h1
   simp [iE,h1,h2]
  cases hv:ρc x <;> rw [hv] at hr <;> try (cases hr;done)
  cases hr with
  |w7 _ _ _ _ htt hmax ha =>
   have hl0:l = 0:=by simp at h3;omega
   have hm0:m = 0:=by simp at h3;omega
   have hM0:M = 0:=by simp at h3;omega
   subst hl0 hm0 hM0
   refine ⟨_,key _ _ (by simpa using hv) (by simp),?_⟩
   simp only [Int.toNat_zero,List.take_zero,List.drop_nil,Nat.sub_zero,Nat.zero_mul,Nat.sub_self,List.length_nil]
   exact .w7 sz _ _ _ (fun _=>rfl) (by omega) trivial
  |sl _ _ _ b o' cap cv hI hcap hmax htt hs hc h1' hrr =>
   rename_i cap
   refine ⟨_,key _ cap hv hcap,?_⟩
   have hlen:((es.take m.toNat).drop l.toNat).length = m.toNat - l.toNat:=by simp;omega
   by_cases hemp:m.toNat = l.toNat
   ·have e1:(es.take m.toNat).drop l.toNat = []:=List.drop_eq_nil_of_le (by simp;omega)
    rw [e1,hemp,Nat.sub_self]
    refine .w7 sz _ _ _ (fun e=>?_) (by omega) trivial
    simp at e;omega
   ·have hne:¬ M.toNat = l.toNat:=by omega
    rw [if_neg hne,← hlen]
    simp only [Option.map_some,kD]
    refine .sl sz _ _ b (o' + l.toNat * sz) (M.toNat - l.toNat) (fun i j=>cv (l.toNat + i) j) hI (by omega) (by omega) (fun e=>?_) ?_ ?_ ?_ ?_
    ·simp at e;omega
    ·intro e he
     exact hs e (List.mem_of_mem_take (List.mem_of_mem_drop he))
    ·intro i j y hy
     rw [← hc _ _ _ (htk i j y hy)];congr 2;rw [Nat.add_mul];omega
    ·intro i j y hy;exact h1' _ _ _ (htk i j y hy)
    ·intro i j y hy;exact hrr _ _ _ (htk i j y hy)
theorem yF (t et:TypeId) (x:Operand) (lo hi:Option Operand) (r re:jU) (n sz i len:Nat) (l m:Int) (ho:o.op = .slice t x lo hi none) (ht:gL P t = some r) (hd:r.d = .slice et)
  (he:gL P et = some re) (hsz:re.sz = sz) (hx:ρ x = .os n sz i len)
  (hl:iI 0 (lo.map ρ) = some l) (hh:iI len (hi.map ρ) = some m) (h0:0≤l) (h1:l < m) (h2:m≤len)
  (hk:K (.os n sz (i + l.toNat) (m.toNat - l.toNat)) h):mA P o ρ h K :=
 bS hk fun E w ρc R hρ=>by
  have hr:=hρ x
  rw [hx] at hr
  obtain ⟨u,hu,hud,hrun⟩:=bP (w:=w) ht
  obtain rfl:=fZ (hud.trans hd)
  have hsize:=fT (w:=w) he
  have hml:maxLen = 9223372036854775807:=rfl
  have key:∀ (a:Option Addr) (cap:Nat),ρc x = .slice a len cap→len≤cap →
    (execOp ρc o).run P w = .ok (.value (.slice (if cap = l.toNat then a else a.map (·.add (l.toNat * sz))) (m.toNat - l.toNat) (cap - l.toNat))) w:=by
   intro a cap hv hc
   have hb:=p0 (P:=P) R hρ true len cap lo hi none l m cap hl hh rfl (by simp) h0 (by omega) (by omega) (by omega)
   simp only [Option.map_none] at hb
   have e:((cap:Int)).toNat = cap:=by omega
   simp [execOp,ho,Instr.sliceAt,Instr.slice,hrun,hv,hb,hsize,hsz,e]
  cases hv:ρc x <;> rw [hv] at hr <;> try (cases hr;done)
  cases hr with
  |os0 _ _ hd' hl'=>simp at h2;omega
  |os _ _ _ _ b o' cap t' mm hd' hl' hlc hmax hsh hm =>
   refine ⟨_,key _ _ hv hlc,?_⟩
   rename_i cap
   rw [if_neg (by omega)]
   simp only [Option.map_some,kD]
   have e:o' + i * sz + l.toNat * sz = o' + (i + l.toNat) * sz:=by rw [Nat.add_mul];omega
   rw [e]
   refine .os n sz (i + l.toNat) (m.toNat - l.toNat) b o' (cap - l.toNat) t' mm hd' hl' (by omega) (by omega) hsh ?_
   rw [show i + l.toNat + (cap - l.toNat) = i + cap by omega]
   exact hm
theorem aF5 (t et:TypeId) (x:Operand) (lo hi:Option Operand) (r re:jU) (n sz i len:Nat) (l m:Int) (ho:o.op = .slice t x lo hi none) (ht:gL P t = some r) (hd:r.d = .slice et)
  (he:gL P et = some re) (hsz:re.sz = sz) (hx:ρ x = .os n sz i len)
  (hl:iI 0 (lo.map ρ) = some l) (hh:iI len (hi.map ρ) = some m) (h0:0≤l) (h1:l = m) (a8P:m = len)
  (hk:K (.os n sz (i + len) 0) h) (hk2:K (.sl sz [] true) h):mA P o ρ h K :=
 by
  intro E w ρc R hρ
  have hr:=hρ x
  rw [hx] at hr
  obtain ⟨u,hu,hud,hrun⟩:=bP (w:=w) ht
  obtain rfl:=fZ (hud.trans hd)
  have hsize:=fT (w:=w) he
  have hml:maxLen = 9223372036854775807:=rfl
  have key:∀ (a:Option Addr) (cap:Nat),ρc x = .slice a len cap→len≤cap →
    (execOp ρc o).run P w = .ok (.value (.slice (if cap = l.toNat then a else a.map (·.add (l.toNat * sz))) (m.toNat - l.toNat) (cap - l.toNat))) w:=by
   intro a cap hv hc
   have hb:=p0 (P:=P) R hρ true len cap lo hi none l m cap hl hh rfl (by simp) h0 (by omega) (by omega) (by omega)
   simp only [Option.map_none] at hb
   have e:((cap:Int)).toNat = cap:=by omega
   simp [execOp,ho,Instr.sliceAt,Instr.slice,hrun,hv,hb,hsize,hsz,e]
  cases hv:ρc x <;> rw [hv] at hr <;> try (cases hr;done)
  have e0:m.toNat - l.toNat = 0:=by omega
  cases hr with
  |os0 _ _ hd' hl' =>
   have hk':=key _ _ hv (Nat.le_refl _)
   refine .hU hk' (.same hk2 R ?_)
   rw [e0]
   have e1:l.toNat = 0:=by have h2:=a8P;simp at h2;omega
   rw [e1]
   exact .w7 sz true _ _ (fun _=>rfl) (by simp [maxLen]) trivial
  |os _ _ _ _ b o' cap t' mm hd' hl' hlc hmax hsh hm =>
   have hk':=key _ _ hv hlc
   rename_i cap
   by_cases hcl:cap = l.toNat
   ·refine .hU hk' (.same hk2 R ?_)
    rw [e0,if_pos hcl]
    exact .w7 sz true _ _ (fun _=>by omega) (by omega) trivial
   ·refine .hU hk' (.same hk R ?_)
    rw [e0,if_neg hcl]
    simp only [Option.map_some,kD]
    have hlm:m = len:=a8P
    have e:o' + i * sz + l.toNat * sz = o' + (i + len) * sz:=by
     have:l.toNat = len:=by omega
     rw [this,Nat.add_mul];omega
    rw [e]
    refine .os n sz (i + len) 0 b o' (cap - l.toNat) t' mm hd' hl' (by omega) (by omega) hsh ?_
    rw [show i + len + (cap - l.toNat) = i + cap by omega]
    exact hm
def bytesOf:List (List aC)→Option (List UInt8)
 | []=>some []
 | [.int .u8 n] :: r=>(bytesOf r).map (UInt8.ofNat n.toNat :: ·)
 | _=>none
theorem yG:∀ {es:List (List aC)} {s:List UInt8},bytesOf es = some s→∃ ns:List Int,es = ns.map (fun n=>[.int .u8 n])∧s = ns.map fun n=>UInt8.ofNat n.toNat
 | [],s,h=>by simp [bytesOf] at h;subst h;exact ⟨[],rfl,rfl⟩
 |e :: r,s,h=>by
  unfold bytesOf at h
  split at h
  ·simp_all
  ·rename_i n r' heq
   obtain ⟨rfl,rfl⟩:=List.cons.inj heq
   obtain ⟨s',hs,rfl⟩:=Option.map_eq_some_iff.1 h
   obtain ⟨ns,rfl,rfl⟩:=yG hs
   exact ⟨n :: ns,rfl,rfl⟩
  ·simp at h
theorem foldl_push:∀ (ns:List Int) (r:ByteArray),ns.foldl (fun r n=>r.push (UInt8.ofNat n.toNat)) r = ⟨(r.data.toList ++ ns.map fun n=>UInt8.ofNat n.toNat).toArray⟩
 | [],r=>by simp
 |n :: ns,r=>by
  rw [List.foldl_cons,foldl_push ns]
  simp [ByteArray.push,List.append_assoc]
theorem aDC (s d et:TypeId) (x:Operand) (rs rd re:jU) (es:List (List aC)) (tg:Bool) (bs:List UInt8) (ho:o.op = .convert s d x) (hs:gL P s = some rs) (hss:rs.d = .slice et) (het:gL P et = some re) (hee:re.d = .int .u8)
  (hd:gL P d = some rd) (hdd:rd.d = .str) (hx:ρ x = .sl 1 es tg) (hb:bytesOf es = some bs) (hk:K (.str bs) h):mA P o ρ h K :=
 bS hk fun E w ρc R hρ=>by
  have hr:=hρ x
  rw [hx] at hr
  obtain ⟨u,hu,hud,hrun⟩:=bP (w:=w) hs
  obtain rfl:=fZ (hud.trans hss)
  obtain ⟨u',hu',hud',hrun'⟩:=bP (w:=w) hd
  obtain rfl:=x8 (hud'.trans hdd)
  obtain ⟨ue,hue,hude,hrune⟩:=bP (w:=w) het
  obtain rfl:=aPW (hude.trans hee)
  obtain ⟨ns,rfl,rfl⟩:=yG hb
  generalize hes:(ns.map fun n=>[aC.int .u8 n]) = es at hr
  cases hv:ρc x <;> rw [hv] at hr <;> try (cases hr;done)
  cases hr with
  |w7 _ _ a cap htt hmax ha =>
   have hns:ns = []:=by simpa using hes
   subst hns
   rename_i a cap
   refine ⟨.string ⟨#[]⟩,?_,.str [] (by simp)⟩
   cases a with
   |none=>simp [execOp,ho,convert,hv,hrun,hrun',hrune,Conv.bytesToString];rfl
   |some a =>
    have:=run_bytesToString (P:=P) w a 0 cap [] (by simp [loadCells,loadCellsFrom])
    simp [execOp,ho,convert,hv,hrun,hrun',hrune,this];rfl
  |sl _ _ _ b o' cap cv hI hcap hmax htt hs' hc h1' hrr =>
   rename_i cap
   subst hes
   have hns:(ns.map fun n=>UInt8.ofNat n.toNat).length≤maxLen:=by simp at hcap ⊢;omega
   refine ⟨.string ⟨(ns.map fun n=>UInt8.ofNat n.toNat).toArray⟩,?_,.str _ hns⟩
   have hl:(loadCells ⟨b,o',none⟩ ns.length).run P w = .ok (ns.map (Value.int .u8)).toArray w:=by
    have:=run_loadCells_list (P:=P) (w:=w) ⟨b,o',none⟩ (ns.map (Value.int .u8)) (fun j v hj=>by
     rw [List.getElem?_map] at hj
     obtain ⟨n,hn,rfl⟩:=Option.map_eq_some_iff.1 hj
     have hat:iE (ns.map fun n=>[aC.int .u8 n]) j 0 = some (.int .u8 n):=by simp [iE,hn]
     have h1:=hc j 0 _ hat
     have h2:=jJ (hrr j 0 _ hat)
     rw [kD,← h2,← h1]
     simp)
    simpa using this
   have:=run_bytesToString (P:=P) w ⟨b,o',none⟩ ns.length cap ns hl
   simp only [List.length_map] at hv
   simp [execOp,ho,convert,hv,hrun,hrun',hrune,this]
   rw [foldl_push];simp
theorem aKM (t ty:TypeId) (x y:Operand) (a b:List UInt8) (ho:o.op = .binOp .add t x y ty) (hx:ρ x = .str a) (hy:ρ y = .str b) (hl:a.length + b.length≤9223372036854775807) (hk:K (.str (a ++ b)) h):mA P o ρ h K :=
 bS hk fun E w ρc R hρ=>by
  obtain ⟨e1,h1⟩:=qU (hx ▸ hρ x)
  obtain ⟨e2,h2⟩:=qU (hy ▸ hρ y)
  have hg:(eqGuard .add t x y (ρc x) (ρc y)).run P w = .ok () w:=by rw [e1,e2];simp [eqGuard]
  refine ⟨.string ⟨(a ++ b).toArray⟩,?_,.str _ (by simp [maxLen] at *;omega)⟩
  simp only [execOp,ho,Sem.run_bind,hg,Result.andThen_ok,e1,e2,binOp,Op.stringOp]
  have hs:¬ ((((⟨a.toArray⟩:ByteArray).size + (⟨b.toArray⟩:ByteArray).size:Nat):Int) > IntKind.i64.max):=by
   have:IntKind.i64.max = 9223372036854775807:=by decide
   rw [this];simp [ByteArray.size];omega
  rw [if_neg hs]
  simp only [Sem.run_pure]
  congr 3
def aNT (op:BinOp) (a b:List UInt8):Option Bool :=
 match op with
 | .lss=>some (Op.bytesLess a b)
 | .leq=>some (Op.bytesLess a b || a == b)
 | .gtr=>some (!(Op.bytesLess a b || a == b))
 | .geq=>some (!(Op.bytesLess a b))
 | _=>none
theorem aKN (op:BinOp) (t ty:TypeId) (x y:Operand) (a b:List UInt8) (c:Bool) (ho:o.op = .binOp op t x y ty) (hx:ρ x = .str a) (hy:ρ y = .str b) (hc:aNT op a b = some c) (hk:K (.bool c) h):mA P o ρ h K :=
 bS hk fun E w ρc R hρ=>by
  obtain ⟨e1,h1⟩:=qU (hx ▸ hρ x)
  obtain ⟨e2,h2⟩:=qU (hy ▸ hρ y)
  refine ⟨.bool c,?_,.bool c⟩
  have q1:(⟨a.toArray⟩:ByteArray).toList = a:=by rw [ByteArray.toList_eq]
  have q2:(⟨b.toArray⟩:ByteArray).toList = b:=by rw [ByteArray.toList_eq]
  have hg:(eqGuard op t x y (ρc x) (ρc y)).run P w = .ok () w:=by
   rw [e1,e2];cases op <;> simp [eqGuard]
  rw [e1,e2] at hg
  cases op <;> simp only [aNT,Option.some.injEq,reduceCtorEq] at hc <;> subst hc <;>
   simp only [execOp,ho,Sem.run_bind,hg,Result.andThen_ok,e1,e2,binOp,Op.stringOp,q1,q2,Sem.run_pure]
theorem sX (op:BinOp) (t ty:TypeId) (x y:Operand) (r:jU) (et:TypeId) (Z Z2:Prop) (ho:o.op = .binOp op t x y ty) (ht:gL P t = some r) (hd:r.d = .slice et)
  (hx:∀ E w v,eC E h w (ρ x) v→∃ a n c,v = .slice a n c∧(a = none→Z)∧(¬ a = none→Z2)) (hy:ρ y = .bO)
  (hop:op = .eql∨op = .neq) (h1:Z→K (.bool (op == .eql)) h) (h2:Z2→K (.bool (op != .eql)) h):mA P o ρ h K:=by
 intro E w ρc R hρ
 have hyv:ρc y = .slice none 0 0:=by have:=hy ▸ hρ y;generalize ρc y = v at this;cases this;rfl
 obtain ⟨u,hu,hud,hrun⟩:=bP (w:=w) ht
 obtain rfl:=fZ (hud.trans hd)
 have hg:(eqGuard op t x y (ρc x) (ρc y)).run P w = .ok () w:=by
  rw [hyv];rcases hop with rfl | rfl <;> cases ρc x <;> simp [eqGuard]
 have aUC:∀ (d:Nat) (a:Option Addr) (n c:Nat),(Op.equalIn (d + 1) t (.slice a n c) (.slice none 0 0)).run P w = .ok a.isNone w:=by
  intro d a n c
  cases a <;> simp [Op.equalIn,hrun]
 have key:∀ (a:Option Addr) (n c:Nat),(Op.equal t (.slice a n c) (.slice none 0 0)).run P w = .ok a.isNone w:=fun a n c=>aUC 9999 a n c
 have fin:∀ (a:Option Addr) (n c:Nat),ρc x = .slice a n c→K (.bool (if op = .eql then a.isNone else !a.isNone)) h→∃ v,(execOp ρc o).run P w = .ok (.value v) w∧eC E h w (.bool (if op = .eql then a.isNone else !a.isNone)) v:=by
  intro a n c e hk
  rw [e,hyv] at hg
  refine ⟨.bool (if op = .eql then a.isNone else !a.isNone),?_,.bool _⟩
  rcases hop with rfl | rfl
  ·simp only [execOp,ho,Sem.run_bind,e,hyv,hg,Result.andThen_ok,binOp,key,Sem.run_pure];simp
  ·simp only [execOp,ho,Sem.run_bind,e,hyv,hg,Result.andThen_ok,binOp,key,Sem.run_pure];simp
 obtain ⟨a,n,c,hv,hz,hz2⟩:=hx E w _ (hρ x)
 have h1':Z→K (.bool (if op = .eql then true else false)) h:=fun q=>by have:=h1 q;rcases hop with rfl | rfl <;> exact this
 have h2':Z2→K (.bool (if op = .eql then false else true)) h:=fun q=>by have:=h2 q;rcases hop with rfl | rfl <;> exact this
 cases a with
 |none =>
  have he:=hz rfl
  obtain ⟨v,zW,hv2⟩:=fin none n c hv (by simpa using h1' he)
  exact .hU zW (.same (by simpa using h1' he) R (by simpa using hv2))
 |some a =>
  have he:=hz2 (by simp)
  obtain ⟨v,zW,hv2⟩:=fin (some a) n c hv (by simpa using h2' he)
  exact .hU zW (.same (by simpa using h2' he) R (by simpa using hv2))
theorem aBD (op:BinOp) (t ty:TypeId) (x y:Operand) (r:jU) (et:TypeId) (sz:Nat) (es:List (List aC)) (tt:Bool) (ho:o.op = .binOp op t x y ty) (ht:gL P t = some r) (hd:r.d = .slice et) (hx:ρ x = .sl sz es tt) (hy:ρ y = .bO)
  (hop:op = .eql∨op = .neq) (h1:es = []→K (.bool (op == .eql)) h) (h2:K (.bool (op != .eql)) h):mA P o ρ h K :=
 sX op t ty x y r et (es = []) True ho ht hd (fun E w v hr=>by
  rw [hx] at hr
  cases v <;> try (cases hr;done)
  exact ⟨_,_,_,rfl,fun q=>by subst q;cases hr <;> rfl,fun _=>trivial⟩) hy hop h1 fun _=>h2
theorem yH (op:BinOp) (t ty:TypeId) (x y:Operand) (r:jU) (et:TypeId) (m sz i len:Nat) (ho:o.op = .binOp op t x y ty) (ht:gL P t = some r) (hd:r.d = .slice et) (hx:ρ x = .os m sz i len) (hy:ρ y = .bO)
  (hop:op = .eql∨op = .neq) (h1:len = 0→K (.bool (op == .eql)) h) (h2:K (.bool (op != .eql)) h):mA P o ρ h K :=
 sX op t ty x y r et (len = 0) True ho ht hd (fun E w v hr=>by
  rw [hx] at hr
  cases v <;> try (cases hr;done)
  exact ⟨_,_,_,rfl,fun q=>by subst q;cases hr;rfl,fun _=>trivial⟩) hy hop h1 fun _=>h2
theorem yI (op:BinOp) (t ty:TypeId) (x y:Operand) (r:jU) (et:TypeId) (ho:o.op = .binOp op t x y ty) (ht:gL P t = some r) (hd:r.d = .slice et) (hx:ρ x = .bO) (hy:ρ y = .bO)
  (hop:op = .eql∨op = .neq) (h1:K (.bool (op == .eql)) h):mA P o ρ h K :=
 sX op t ty x y r et True False ho ht hd (fun E w v hr=>by
  rw [hx] at hr
  cases v <;> try (cases hr;done)
  exact ⟨_,_,_,rfl,fun _=>trivial,fun q=>by cases hr;exact q rfl⟩) hy hop (fun _=>h1) fun q=>q.elim
def aBE (P:Program) (t:TypeId):Bool:=match P.underlying t with | some (.interface _)=>true | _=>false
def pG:Operand→Bool | .const _=>true | _=>false
theorem qZ (op:BinOp) (t ty:TypeId) (x y:Operand) (b:Bool) (ho:o.op = .binOp op t x y ty) (hi:aBE P t = true) (hc:pG y = true) (hx:(ρ x = .kC∧b = true)∨(∃ ti xi,ρ x = .iface ti xi)∧b = false) (hy:ρ y = .kC)
  (hop:op = .eql∨op = .neq) (h1:K (.bool (if op = .eql then b else !b)) h):mA P o ρ h K:=by
 intro E w ρc R hρ
 have hyv:ρc y = .nilIface:=by have:=hy ▸ hρ y;generalize ρc y = v at this;cases this;rfl
 obtain ⟨ms,hu⟩:∃ ms,P.underlying t = some (.interface ms):=by
  unfold aBE at hi
  split at hi
  ·exact ⟨_,by assumption⟩
  ·cases hi
 have hrun:(underlying t).run P w = .ok (.interface ms) w:=by simp [underlying,hu]
 have hyc:∃ v,y = .const v:=by cases y <;> first | exact ⟨_,rfl⟩ | (simp [pG] at hc)
 obtain ⟨yv,rfl⟩:=hyc
 refine .hU (v:=.bool (if op = .eql then b else !b)) ?_ (.same h1 R (.bool _))
 rcases hx with ⟨hx,rfl⟩ | ⟨⟨ti,xi,hx⟩,rfl⟩
 ·have hxv:ρc x = .nilIface:=by have:=hx ▸ hρ x;generalize ρc x = v at this;cases this;rfl
  have hg:(eqGuard op t x (.const yv) (ρc x) (ρc (.const yv))).run P w = .ok () w:=by
   rw [hxv,hyv];rcases hop with rfl | rfl <;> simp [eqGuard]
  have aUC:∀ d:Nat,(Op.equalIn (d + 1) t .nilIface .nilIface).run P w = .ok true w:=by
   intro d
   simp [Op.equalIn,hrun]
  have key:(Op.equal t .nilIface .nilIface).run P w = .ok true w:=aUC 9999
  rw [hxv,hyv] at hg
  rcases hop with rfl | rfl
  ·simp only [execOp,ho,Sem.run_bind,hxv,hyv,hg,Result.andThen_ok,binOp,key,Sem.run_pure];simp
  ·simp only [execOp,ho,Sem.run_bind,hxv,hyv,hg,Result.andThen_ok,binOp,key,Sem.run_pure];simp
 ·obtain ⟨xv,hxv⟩:∃ xv,ρc x = .iface ti xv:=by have:=hx ▸ hρ x;generalize ρc x = v at this;cases this;exact ⟨_,rfl⟩
  have hg:(eqGuard op t x (.const yv) (ρc x) (ρc (.const yv))).run P w = .ok () w:=by
   rw [hxv,hyv];rcases hop with rfl | rfl <;> simp [eqGuard]
  have aUC:∀ d:Nat,(Op.equalIn (d + 1) t (.iface ti xv) .nilIface).run P w = .ok false w:=by
   intro d
   simp [Op.equalIn,hrun]
  have key:(Op.equal t (.iface ti xv) .nilIface).run P w = .ok false w:=aUC 9999
  rw [hxv,hyv] at hg
  rcases hop with rfl | rfl
  ·simp only [execOp,ho,Sem.run_bind,hxv,hyv,hg,Result.andThen_ok,binOp,key,Sem.run_pure];simp
  ·simp only [execOp,ho,Sem.run_bind,hxv,hyv,hg,Result.andThen_ok,binOp,key,Sem.run_pure];simp
end
variable {ds:List Deferred}
def kX (P:Program) (f:FuncId):Bool :=
 match P.funcs[f]? with
 |some fn=>fn.body.isSome && !(fn.name == "runtime.NumGoroutine")
 |none=>false
def fE (P:Program) (f:FuncId) (args:List aC) (h:aA) (K:aC→aA→Prop):Prop:=kX P f = true∧aHU P f args h K
theorem fE.mono {P:Program} {f:FuncId} {args:List aC} {h:aA} {K K':aC→aA→Prop} (a:fE P f args h K) (hk:∀ r h',K r h'→K' r h'):fE P f args h K':=⟨a.1,a.2.mono hk⟩
def dI (P:Program) (f:FuncId) (args:List aC) (r:aC):Prop:=∀ h,fE P f args h fun r' h'=>r' = r∧h' = h
theorem dI.call {P:Program} {f:FuncId} {args:List aC} {r:aC} (a:dI P f args r) {h:aA} {K:aC→aA→Prop} (hk:K r h):fE P f args h K :=
 (a h).mono fun _ _ ⟨e,e'⟩=>e ▸ e' ▸ hk
section
variable {P:Program} {o:Oper} {ρ:Operand→aC} {h:aA} {K:aC→aA→Prop}
theorem aUD (f:Operand) (as:Array Operand) (ats:Array TypeId) (g:FuncId) (first cap:List aC) (ho:o.op = .call { callee:=.value f,args:=as,argTypes:=ats }) (hf:ρ f = .fn (.func g) first cap)
  (hk:fE P g (first ++ as.toList.map ρ ++ cap) h K):mA P o ρ h K:=by
 intro E w ρc R hρ
 have hr:=hρ f
 rw [hf] at hr
 obtain ⟨hc,hk⟩:=hk
 cases hv:ρc f <;> rw [hv] at hr <;> try (cases hr;done)
 cases hr with
 |fn _ _ _ vs us hl hrr hl' hrr' =>
  have hL:=(cX.append (cX.append (cX.mk hl hrr) (yB hρ as.toList)) (cX.mk hl' hrr'))
  unfold kX at hc
  cases hfn:P.funcs[g]? with
  |none=>simp [hfn] at hc
  |some fn =>
   simp only [hfn,Bool.and_eq_true,Bool.not_eq_true',beq_eq_false_iff_ne,ne_eq] at hc
   have hb:fn.body.isNone = false:=by cases hb:fn.body <;> simp_all
   have hrun:(execOp ρc o).run P w = .ok (.enter g (vs ++ as.toList.map ρc ++ us).toArray) w:=by
    have hb':¬ fn.body = none:=by intro e;simp [e] at hb
    simp [execOp,ho,resolve,hv,Deferred.ofValue,invoke,callFunc,hfn,hc.2]
    rw [if_neg hb']
    congr 2
    apply Array.ext'
    simp
   unfold rT
   rw [hrun]
   exact Calls.mono (hk E w _ R hL) fun e w' he=>by cases e <;> exact he
end
abbrev bE:=List (Nat × aC)
def bF:bE→Nat→aC
 | [],_=>.any
 |(j,v) :: r,k=>if j = k then v else bF r k
def hev (τ:bE):Operand→aC
 | .tmp t=>bF τ t
 | .const v=>.ofValue v
 | .global _=>.any
 | .func f=>.fn (.func f) [] []
def fJ (τ:bE) (d:Option Tmp) (v:aC):bE :=
 match d with
 |some d=>(d,v) :: τ
 |none=>τ
def prune (keep:List Nat) (τ:bE):bE:=keep.map fun k=>(k,bF τ k)
structure rM (ds:List Deferred) (E:Env) (h:aA) (w:World) (N:Nat) (τ:bE) (a:Act):Prop where
 size:a.tmps.size = N
 defers:a.defers = ds
 get:∀ k,eC E h w (bF τ k) (a.tmps.getD k undef)
theorem rM.hev {E:Env} {h:aA} {w:World} {N:Nat} {τ:bE} {a:Act} (r:rM ds E h w N τ a) (x:Operand):eC E h w (hev τ x) (a.eval x):=by
 cases x with
 |tmp t=>exact r.get t
 |const v=>exact .ofValue _ _ _ _
 |global g=>exact .any _
 |func f =>
  have:=eC.fn (E:=E) (h:=h) (w:=w) (.func f) [] [] [] [] rfl (by simp) rfl (by simp)
  exact this
theorem rM.put {E:Env} {h:aA} {w:World} {N:Nat} {τ:bE} {a:Act} (r:rM ds E h w N τ a) (d:Option Tmp) (hd:∀ k,d = some k→k < N) {x:aC} {v:Value} (hx:eC E h w x v) :
  rM ds E h w N (fJ τ d x) (a.put d v):=by
 cases d with
 |none=>exact r
 |some d =>
  have hlt:d < a.tmps.size:=by rw [r.size];exact hd d rfl
  refine ⟨by simpa [Act.put] using r.size,r.defers,fun k=>?_⟩
  simp only [fJ,bF,Act.put]
  by_cases e:d = k
  ·subst e
   simp [hlt];exact hx
  ·rw [if_neg e]
   have:=r.get k
   simpa [Array.getElem?_setIfInBounds_ne e] using this
theorem rM.ev {E E':Env} {h h':aA} {w w':World} {N:Nat} {τ:bE} {a:Act} (r:rM ds E h w N τ a) (ev:Ev E h w E' h' w'):rM ds E' h' w' N τ a :=
 ⟨r.size,r.defers,fun k=>(r.get k).ev ev⟩
theorem aNU (keep:List Nat) (τ:bE) (k:Nat):bF (prune keep τ) k = .any∨bF (prune keep τ) k = bF τ k:=by
 induction keep with
 |nil=>exact .inl rfl
 |cons j keep ih =>
  simp only [prune,List.map_cons,bF]
  by_cases e:j = k
  ·subst e;simp
  ·rw [if_neg e];exact ih
theorem rM.prune {E:Env} {h:aA} {w:World} {N:Nat} {τ:bE} {a:Act} (keep:List Nat) (r:rM ds E h w N τ a):rM ds E h w N (prune keep τ) a :=
 ⟨r.size,r.defers,fun k=>by
  rcases aNU keep τ k with e | e
  ·rw [e];exact .any _
  ·rw [e];exact r.get k⟩
def o8 (ds:List Deferred) (N:Nat) (Q:Exit→bE→aA→Prop) (E:Env) (h:aA) (w:World) (e:Exit) (a':Act) (w':World):Prop :=
 ∃ τ' h' E',Q e τ' h'∧Ev E h w E' h' w'∧Rel E' h' w'∧rM ds E' h' w' N τ' a'
def mM (P:Program) (N:Nat) (c:Code) (Q:Exit→bE→aA→Prop) (τ:bE) (h:aA):Prop :=
 ∀ (ds:List Deferred) E w a,Rel E h w→rM ds E h w N τ a→Code.wp P c (o8 ds N Q E h w) a w
theorem o8.trans {N:Nat} {Q:Exit→bE→aA→Prop} {E E':Env} {h h':aA} {w w':World} {e:Exit} {a:Act} {w'':World} (ev:Ev E h w E' h' w') (x:o8 ds N Q E' h' w' e a w''):o8 ds N Q E h w e a w'' :=
 let ⟨τ,g,F,q,ev',R,r⟩:=x;⟨τ,g,F,q,ev.trans ev',R,r⟩
theorem mM.mono {P:Program} {N:Nat} {c:Code} {Q Q':Exit→bE→aA→Prop} {τ:bE} {h:aA} (hq:∀ e τ h,Q e τ h→Q' e τ h) (x:mM P N c Q τ h):mM P N c Q' τ h :=
 fun ds E w a R r=>Code.wp_mono (fun e a' w' ⟨τ',h',E',q,rest⟩=>⟨τ',h',E',hq _ _ _ q,rest⟩) (x ds E w a R r)
theorem mM.prune {P:Program} {N:Nat} {c:Code} {Q:Exit→bE→aA→Prop} {τ:bE} {h:aA} (keep:List Nat) (x:mM P N c Q (prune keep τ) h):mM P N c Q τ h :=
 fun ds E w a R r=>x ds E w a R (r.prune keep)
theorem mM.forget {P:Program} {N:Nat} {c:Code} {Q:Exit→bE→aA→Prop} {τ:bE} {h g:aA} (hl:g.le h) (x:mM P N c Q τ g):mM P N c Q τ h :=
 fun ds E w a R r=>Code.wp_mono (fun e a' w' y=>o8.trans ((Ev.refl E h w).forget hl) y) (x ds E w a (R.forget hl) (r.ev ((Ev.refl E h w).forget hl)))
theorem mM.skip {P:Program} {N:Nat} {Q:Exit→bE→aA→Prop} {τ:bE} {h:aA} (hq:Q .normal τ h):mM P N .skip Q τ h :=
 fun ds E w a R r=>wp_skip ⟨τ,h,E,hq,.refl _ _ _,R,r⟩
theorem mM.exit {P:Program} {N id:Nat} {Q:Exit→bE→aA→Prop} {τ:bE} {h:aA} (hq:Q (.exit id) τ h):mM P N (.exit id) Q τ h :=
 fun ds E w a R r=>wp_exit ⟨τ,h,E,hq,.refl _ _ _,R,r⟩
theorem mM.ret {P:Program} {N:Nat} {Q:Exit→bE→aA→Prop} {τ:bE} {h:aA} (hq:Q .ret τ h):mM P N .ret Q τ h :=
 fun ds E w a R r=>wp_ret ⟨τ,h,E,hq,.refl _ _ _,R,r⟩
def rX (next:bE→aA→Prop) (Q:Exit→bE→aA→Prop):Exit→bE→aA→Prop
 | .normal,τ,h=>next τ h
 | .outgrown,_,_=>False
 |e,τ,h=>Q e τ h
theorem mM.seq {P:Program} {N:Nat} {x y:Code} {Q:Exit→bE→aA→Prop} {τ:bE} {h:aA} (hx:mM P N x (rX (mM P N y Q) Q) τ h):mM P N (.seq x y) Q τ h:=by
 intro ds E w a R r
 refine wp_seq (Code.wp_mono ?_ (hx ds E w a R r))
 rintro e a' w' ⟨τ',h',E',q,ev,R',r'⟩
 cases e <;> simp only [rX] at q
 ·simp only [Exit.then]
  exact Code.wp_mono (fun e a w y=>o8.trans ev y) (q ds E' w' a' R' r')
 all_goals first | exact q.elim | exact ⟨τ',h',E',q,ev,R',r'⟩
theorem mM.cond {P:Program} {N:Nat} {c:Operand} {x y:Code} {Q:Exit→bE→aA→Prop} {τ:bE} {h:aA} {b:Bool} (hc:hev τ c = .bool b)
  (ht:b = true→mM P N x Q τ h) (hf:b = false→mM P N y Q τ h):mM P N (.cond c x y) Q τ h:=by
 intro ds E w a R r
 have:=r.hev c
 rw [hc] at this
 exact wp_cond_split (rU this) (fun e=>ht e ds E w a R r) (fun e=>hf e ds E w a R r)
def aHY (id:Nat) (Q:Exit→bE→aA→Prop):Exit→bE→aA→Prop
 | .exit id',τ,h=>if id' = id then Q .normal τ h else Q (.exit id') τ h
 | .outgrown,_,_=>False
 |e,τ,h=>Q e τ h
theorem mM.block {P:Program} {N id:Nat} {c:Code} {Q:Exit→bE→aA→Prop} {τ:bE} {h:aA} (hx:mM P N c (aHY id Q) τ h):mM P N (.block id c) Q τ h:=by
 intro ds E w a R r
 refine wp_block (Code.wp_mono ?_ (hx ds E w a R r))
 rintro e a' w' ⟨τ',h',E',q,ev,R',r'⟩
 cases e <;> simp only [aHY] at q <;> simp only [Exit.inBlock]
 case exit id' =>
  split
  ·rename_i e;rw [if_pos e] at q;exact ⟨τ',h',E',q,ev,R',r'⟩
  ·rename_i e;rw [if_neg e] at q;exact ⟨τ',h',E',q,ev,R',r'⟩
 all_goals first | exact q.elim | exact ⟨τ',h',E',q,ev,R',r'⟩
theorem mM.loop {P:Program} {N:Nat} {c:Code} {Q:Exit→bE→aA→Prop} {τ:bE} {h:aA} {α:Type} (I:α→bE→aA→Prop) (μ:α→Nat) (x₀:α) (h₀:I x₀ τ h)
  (round:∀ x τ h,I x τ h→mM P N c (rX (fun τ' h'=>∃ x',I x' τ' h'∧μ x' < μ x) Q) τ h):mM P N (.loop c) Q τ h:=by
 intro ds E w a R r
 have key:∀ n x τ₁ h₁ E₁ a₁ w₁,μ x = n→I x τ₁ h₁→Ev E h w E₁ h₁ w₁→Rel E₁ h₁ w₁→rM ds E₁ h₁ w₁ N τ₁ a₁→∀ b k cs,
   ∃ e a' w',o8 ds N Q E h w e a' w'∧Arrives P (lone (b.at a₁ (.code c :: .inLoop c :: k)) cs w₁) b k cs e a' w':=by
  intro n
  induction n using Nat.strongRecOn with
  | _ n ih =>
   intro x τ₁ h₁ E₁ a₁ w₁ hn hI ev₁ R₁ r₁ b k cs
   obtain ⟨e,a₂,w₂,⟨τ₂,h₂,E₂,q,ev₂,R₂,r₂⟩,harr⟩:=round x τ₁ h₁ hI ds E₁ w₁ a₁ R₁ r₁ b (.inLoop c :: k) cs
   cases e with
   |normal =>
    obtain ⟨x',hI',hlt⟩:=q
    obtain ⟨e₃,a₃,w₃,q₃,harr₃⟩:=ih (μ x') (hn ▸ hlt) x' τ₂ h₂ E₂ a₂ w₂ rfl hI' (ev₁.trans ev₂) R₂ r₂ b k cs
    exact ⟨e₃,a₃,w₃,q₃,.of_steps (Steps.trans harr (.one step_inLoop)) harr₃⟩
   |outgrown=>exact q.elim
   |exit id=>exact ⟨_,a₂,w₂,⟨τ₂,h₂,E₂,q,ev₁.trans ev₂,R₂,r₂⟩,.pass (x:=.inLoop c) rfl (fun _ _=>.inl (by simp)) harr⟩
   |goto l=>exact ⟨_,a₂,w₂,⟨τ₂,h₂,E₂,q,ev₁.trans ev₂,R₂,r₂⟩,.pass (x:=.inLoop c) rfl (fun _ _=>.inl (by simp)) harr⟩
   |ret=>exact ⟨_,a₂,w₂,⟨τ₂,h₂,E₂,q,ev₁.trans ev₂,R₂,r₂⟩,.pass (x:=.inLoop c) rfl (fun _ _=>.inl (by simp)) harr⟩
   |panic ch=>exact ⟨_,a₂,w₂,⟨τ₂,h₂,E₂,q,ev₁.trans ev₂,R₂,r₂⟩,.pass (x:=.inLoop c) rfl (fun _ _=>.inl (by simp)) harr⟩
 intro b k cs
 obtain ⟨e,a',w',q,harr⟩:=key _ x₀ τ h E a w rfl h₀ (.refl _ _ _) R r b k cs
 exact ⟨e,a',w',q,.of_steps (.one step_loop) harr⟩
def j3 (P:Program) (t:TypeId):Option jU :=
 match gL P t with
 |some r=>match r.d with
  | .slice et=>gL P et
  | _=>none
 |none=>none
theorem kR {P:Program} {t:TypeId} {re:jU} (h:j3 P t = some re):∃ r et,gL P t = some r∧r.d = .slice et∧gL P et = some re:=by
 unfold j3 at h
 split at h
 ·rename_i r hr
  split at h
  ·rename_i et hd;exact ⟨r,et,hr,hd,h⟩
  ·simp at h
 ·simp at h
def uF (P:Program) (t:TypeId):Option TyD:=(gL P t).map (·.d)
theorem iO {P:Program} {t:TypeId} {d:TyD} (h:uF P t = some d):∃ r,gL P t = some r∧r.d = d:=by
 unfold uF at h
 obtain ⟨r,hr,rfl⟩:=Option.map_eq_some_iff.1 h
 exact ⟨r,hr,rfl⟩
def fK (P:Program) (op:BinOp) (t:TypeId) (x y:aC) (K:aC→Prop):Prop :=
 match x,y with
 | .bool a,.bool b=>uF P t = some .bool∧(match op with | .eql=>K (.bool (a == b)) | .neq=>K (.bool (a != b)) | _=>False)
 | .int k a,.int k' b =>
  match op with
  | .quo=>k = k'∧b≠0∧K (.int k (k.wrap (a.tdiv b)))
  | .rem=>k = k'∧b≠0∧K (.int k (a.tmod b))
  | .shl=>0≤b∧K (.int k (k.wrap (a * 2 ^ (min b.toNat k.bits))))
  | .shr=>0≤b∧K (.int k (a.fdiv (2 ^ (min b.toNat k.bits))))
  |op=>match lF op (.int k a) (.int k' b) with | some v=>K v | none=>False
 | .str a,.str b =>
  match op with
  | .add=>a.length + b.length≤9223372036854775807∧K (.str (a ++ b))
  | .eql=>K (.bool (decide (a = b)))
  | .neq=>K (.bool (!decide (a = b)))
  |op=>match aNT op a b with | some c=>K (.bool c) | none=>False
 |x,y=>match lF op x y with | some v=>K v | none=>False
def rY (P:Program) (op:BinOp) (t:TypeId) (x y:aC) (K:aC→Prop):Prop :=
 match x,y with
 | .sl _ es _,.bO=>(match uF P t with | some (.slice _)=>True | _=>False)∧(match op with | .eql=>(es = []→K (.bool true))∧K (.bool false) | .neq=>(es = []→K (.bool false))∧K (.bool true) | _=>False)
 | .os _ _ _ len,.bO=>(match uF P t with | some (.slice _)=>True | _=>False)∧(match op with | .eql=>(len = 0→K (.bool true))∧K (.bool false) | .neq=>(len = 0→K (.bool false))∧K (.bool true) | _=>False)
 | .bO,.bO=>(match uF P t with | some (.slice _)=>True | _=>False)∧(match op with | .eql=>K (.bool true) | .neq=>K (.bool false) | _=>False)
 |x,y=>fK P op t x y K
def rZ (P:Program) (op:BinOp) (t:TypeId) (c:Bool) (x y:aC) (K:aC→Prop):Prop :=
 match c,x,y with
 |true,.kC,.kC=>aBE P t = true∧(match op with | .eql=>K (.bool true) | .neq=>K (.bool false) | _=>False)
 |true,.iface _ _,.kC=>aBE P t = true∧(match op with | .eql=>K (.bool false) | .neq=>K (.bool true) | _=>False)
 | _,x,y=>rY P op t x y K
def aAC (op:UnOp) (x:aC) (K:aC→Prop):Prop :=
 match op,x with
 | .not,.bool b=>K (.bool (!b))
 | .neg,.int k n=>K (.int k (k.wrap (0 - n)))
 | _,_=>False
def aAD (d:Option TyD) (f:Nat) (x:aC) (K:aC→Prop):Prop :=
 match d with
 |some (.st fs)=>match fs[f]? with
  |some (off,_,sz')=>sz'≠0∧(match x with
   | .op n sz i k=>K (.op n sz i (k + off))
   | .ip sz es i k=>K (.ip sz es i (k + off))
   | _=>False)
  |none=>False
 | _=>False
def aAE (re:Option jU) (x i:aC) (K:aC→Prop):Prop :=
 match re with
 |some re=>match x,i with
  | .sl sz es _,.int _ n=>re.sz = sz∧0≤n∧n < es.length∧K (.ip sz es n.toNat 0)
  | .os m sz i0 len,.int _ n=>re.sz = sz∧0≤n∧n < len∧K (.op m sz (i0 + n.toNat) 0)
  | _,_=>False
 |none=>False
def xD (d:Option TyD) (x i:aC) (K:aC→Prop):Prop :=
 match d,x,i with
 |some .str,.str s,.int _ n=>0≤n∧(match s[n.toNat]? with | some c=>K (.int .u8 c.toNat) | none=>False)
 | _,_,_=>False
def iJ (r:Option jU) (a:aC) (h:aA) (K:aC→Prop):Prop :=
 match r with
 |some r=>match a with
  | .ip _ es i off=>match es[i]? with
   |some e=>match ld r e off with
    |some x=>K x
    |none=>False
   |none=>False
  | .op n sz i off=>match h n with
   |some (.row sz' es)=>sz' = sz∧(match es[i]? with
    |some e=>match aA8 r e off with
     |some x=>K x
     |none=>False
    |none=>False)
   | _=>False
  | _=>False
 |none=>False
def aHZ (r:Option jU) (a v:aC) (h:aA) (K:aA→Prop):Prop :=
 match r with
 |some r=>match a with
  | .op n sz i off=>match h n with
   |some (.row sz' es)=>sz' = sz∧(match es[i]? with
    |some e=>v.cells.all aC.flat = true∧v.cells.length = r.sz∧off + r.sz≤e.length∧K (a7 h n (.row sz (es.set i (mJ e off v.cells))))
    |none=>False)
   | _=>False
  | _=>False
 |none=>False
def aAF (r:Option jU) (h:aA) (K:aC→aA→Prop):Prop :=
 match r with
 |some r=>r.zero≠[]∧r.zero.all aC.flat = true∧∀ n,h n = none→K (.op n r.zero.length 0 0) (a7 h n (.row r.zero.length [r.zero.map .v]))
 |none=>False
def aP2 (x:aC) (h:aA) (K:aC→aA→Prop):Prop :=
 x.cells.all aC.flat = true∧∀ n,h n = none→K (.op n x.cells.length 0 0) (a7 h n (.row x.cells.length [x.cells.map .v]))
def a3N (t:TypeId):Bool:=match aT4 with | none=>false | some r=>decide (t = r)
def aP3 (t:TypeId) (x:aC) (h:aA) (K:aC→aA→Prop):Prop :=
 x.cells = [.iH,.bO]∧∀ n,h n = none→K (.op n 2 0 0) (a7 h n (.raw t #[.pointer none,.slice none 0 0]))
def aDD (re:Option jU) (l c:aC) (h:aA) (K:aC→aA→Prop):Prop :=
 match re with
 |some re=>match l,c with
  | .int _ a,.int _ b=>re.zero.length = re.sz∧0 < re.sz∧re.zero.all aC.flat = true∧0≤a∧a≤b∧b≤281474976710656∧re.bytes * b≤281474976710656 ∧
    ∀ n,h n = none→K (.os n re.sz 0 a.toNat) (a7 h n (.row re.sz ((List.replicate b.toNat re.zero).map (List.map .v))))
  | _,_=>False
 |none=>False
def k9 (P:Program) (t:TypeId) (x:aC) (lo hi:Option aC) (K:aC→Prop):Prop :=
 match x with
 | .str s=>uF P t = some .str∧(match iI 0 lo,iI s.length hi with
  |some l,some m=>0≤l∧l≤m∧m≤s.length∧K (.str ((s.take m.toNat).drop l.toNat))
  | _,_=>False)
 | .sl sz es tg=>match j3 P t with
  |some re=>re.sz = sz∧(match iI 0 lo,iI es.length hi with
   |some l,some m=>0≤l∧l≤m∧m≤es.length∧K (.sl sz ((es.take m.toNat).drop l.toNat) (tg && decide (m = es.length)))
   | _,_=>False)
  |none=>False
 | .os n sz i len=>match j3 P t with
  |some re=>re.sz = sz∧(match iI 0 lo,iI len hi with
   |some l,some m=>0≤l∧l < m∧m≤len∧K (.os n sz (i + l.toNat) (m.toNat - l.toNat))
   | _,_=>False)
  |none=>False
 | _=>False
def nX (P:Program) (t:TypeId) (x:aC) (lo hi:Option aC) (K:aC→Prop):Prop :=
 match x,hi with
 | .os n sz i len,none=>(match j3 P t with
  |some re=>re.sz = sz∧(match iI 0 lo with
   |some l=>0≤l∧l≤len∧(l < len→K (.os n sz (i + l.toNat) (len - l.toNat)))∧(l = len→K (.os n sz (i + len) 0)∧K (.sl sz [] true))
   |none=>False)
  |none=>False)
 |x,hi=>k9 P t x lo hi K
def mO (P:Program) (t:TypeId) (x:aC) (lo:Option aC) (hi mx:aC) (K:aC→Prop):Prop :=
 match x with
 | .sl sz es tg=>match j3 P t with
  |some re=>re.sz = sz∧(match iI 0 lo,iI es.length (some hi),iI 0 (some mx) with
   |some l,some m,some M=>0≤l∧l≤m∧m≤M∧M≤es.length∧K (.sl sz ((es.take m.toNat).drop l.toNat) (decide (M = m)))
   | _,_,_=>False)
  |none=>False
 | _=>False
def aH0 (P:Program) (t:Option TypeId) (x:aC) (K:aC→Prop):Prop :=
 match t with
 |some t=>match uF P t,x with
  |some (.slice _),.sl _ es _=>es.length≤9223372036854775807→K (.int .i64 es.length)
  |some (.slice _),.os _ _ _ n=>n≤9223372036854775807→K (.int .i64 n)
  |some (.slice _),.bO=>K (.int .i64 0)
  |some .str,.str s=>s.length≤9223372036854775807→K (.int .i64 s.length)
  | _,_=>False
 |none=>False
def pP (P:Program) (r:Option jU) (ps:List (Nat × aC)) (K:aC→Prop):Prop :=
 match r with
 |some r=>u6 P r.d = true∧r.zero≠[]∧sW (o7 P r.d) r.zero.length ps = true∧K (.agg (aDB (o7 P r.d) r.zero ps))
 |none=>False
def p2 (re:Option jU) (len:Nat) (ps:List (Nat × aC)) (K:Nat→List (List aC)→Prop):Prop :=
 match re with
 |some re=>re.zero.length = re.sz∧0 < re.sz∧re.zero.all aC.flat = true∧len * re.sz≤16777216∧nW len re.sz ps = true∧K re.sz (p1 (List.replicate len re.zero) ps)
 |none=>False
def sY (P:Program) (re:Option jU) (t1:Option TypeId) (x y:aC) (h:aA) (K:aC→aA→Prop):Prop :=
 match re with
 |some re=>re.zero.length = re.sz∧0 < re.sz∧u3 P t1 = true∧(match x with
  | .os n sz i len=>re.sz = sz∧(match h n with
   |some (.row sz' es)=>sz' = sz∧i + len≤es.length∧(match qY h sz y with
    |some ys=>(len + ys.length) * re.bytes≤140737488355328∧len + ys.length≤9223372036854775807 ∧
      ∀ b,h b = none→K (.os b sz 0 (len + ys.length)) (a7 (a7 h n .gone) b (.row sz ((es.drop i).take len ++ ys.map (List.map .v))))
    |none=>False)
   | _=>False)
  |x=>match yE re.sz x,qY h re.sz y with
   |some olds,some ys=>(ys = []→K x h)∧(ys≠[]→(olds.length + ys.length) * re.bytes≤140737488355328∧olds.length + ys.length≤9223372036854775807 ∧
     ∀ n,h n = none→K (.os n re.sz 0 (olds.length + ys.length)) (a7 h n (.row re.sz ((olds ++ ys).map (List.map .v)))))
   | _,_=>False)
 |none=>False
def aYL (P:Program) (t:Option TypeId):Option jU:=match t with | some t=>j3 P t | none=>none
def u7 (P:Program) (c:Call) (ρ:Operand→aC) (h:aA) (K:aC→aA→Prop):Prop :=
 match c with
 | { callee:=.value f,args:=as,argTypes:=_ }=>match ρ f with
  | .fn (.func g) first cap=>fE P g (first ++ as.toList.map ρ ++ cap) h K
  | _=>False
 | { callee:=.builtin .len,args:=as,argTypes:=ats }=>match as.toList with
  | [x]=>aH0 P ats[0]? (ρ x) fun v=>K v h
  | _=>False
 | { callee:=.builtin .max,args:=as,argTypes:=_ }=>match as.toList with
  | [x,y]=>match ρ x,ρ y with
   | .int k a,.int _ b=>(match ρ y with | .int k' _=>k' = k | _=>False)∧K (.int k (max a b)) h
   | _,_=>False
  | _=>False
 | { callee:=.builtin .append,args:=as,argTypes:=ats }=>match as.toList with
  | [x,y]=>sY P (aYL P ats[0]?) ats[1]? (ρ x) (ρ y) h K
  | _=>False
 | _=>False
def u9 (P:Program) (s d:TypeId) (x:aC) (K:aC→Prop):Prop :=
 match uF P d,x with
 |some (.int k'),.int k n=>(uF P s).isSome = true∧K (.int k' (k'.wrap n))
 |some .str,.sl 1 es _=>(match uF P s with
  |some (.slice et)=>uF P et = some (.int .u8)∧(match bytesOf es with | some bs=>K (.str bs) | none=>False)
  | _=>False)
 | _,_=>False
def step (P:Program) (o:Oper) (ρ:Operand→aC) (h:aA) (K:aC→aA→Prop):Prop :=
 match o.op with
 | .move x=>K (ρ x) h
 | .assign x=>K (ρ x) h
 | .pick c a b=>match ρ c with
  | .bool t=>(t = true→K (ρ a) h)∧(t = false→K (ρ b) h)
  | _=>False
 | .binOp op t x y _=>rZ P op t (pG y) (ρ x) (ρ y) fun v=>K v h
 | .unOp op _ x=>aAC op (ρ x) fun v=>K v h
 | .convert s d x=>u9 P s d (ρ x) fun v=>K v h
 | .fieldAddr t x f=>aAD (uF P t) f (ρ x) fun v=>K v h
 | .indexAddr t x i=>aAE (j3 P t) (ρ x) (ρ i) fun v=>K v h
 | .index t x i=>xD (uF P t) (ρ x) (ρ i) fun v=>K v h
 | .load t a=>iJ (gL P t) (ρ a) h fun v=>K v h
 | .store t a v=>aHZ (gL P t) (ρ a) (ρ v) h fun h'=>K .any h'
 | .alloc t=>aAF (gL P t) h K
 | .box t x=>if a3N t then aP3 t (ρ x) h K else aP2 (ρ x) h K
 | .makeSlice t l c=>aDD (j3 P t) (ρ l) (ρ c) h K
 | .slice t x lo hi none=>nX P t (ρ x) (lo.map ρ) (hi.map ρ) fun v=>K v h
 | .extract t i=>match ρ t with
  | .gW cs=>match cs[i]? with | some x=>K x h | none=>False
  | _=>False
 | .nilCheck x=>match ρ x with
  | .op n sz i k=>K (.op n sz i k) h
  | .ip sz es i k=>K (.ip sz es i k) h
  | _=>False
 | .makeFunc fn fs cs=>K (.fn fn (fs.toList.map ρ) (cs.toList.map ρ)) h
 | .call c=>u7 P c ρ h K
 | .build t ps=>pP P (gL P t) (ps.toList.map fun p=>(p.1,ρ p.2)) fun v=>K v h
 | .buildSlice t len ps=>p2 (j3 P t) len (ps.toList.map fun p=>(p.1,ρ p.2)) fun sz es=>∀ n,h n = none→K (.os n sz 0 len) (a7 h n (.row sz (es.map (List.map .v))))
 | .slice t x lo (some hi) (some mx)=>mO P t (ρ x) (lo.map ρ) (ρ hi) (ρ mx) fun v=>K v h
 | _=>False
section
variable {P:Program} {o:Oper} {ρ:Operand→aC} {h:aA} {K:aC→aA→Prop}
theorem aF6 (op:BinOp) (t ty:TypeId) (x y:Operand) (ho:o.op = .binOp op t x y ty) (hs:fK P op t (ρ x) (ρ y) fun v=>K v h):mA P o ρ h K:=by
 have gen:∀ v,lF op (ρ x) (ρ y) = some v→K v h→mA P o ρ h K:=fun v hv hk=>aYE op t ty x y v ho hv hk
 unfold fK at hs
 split at hs
 ·rename_i a b ex ey
  obtain ⟨hd,hs⟩:=hs
  obtain ⟨r,hr,hd⟩:=iO hd
  split at hs
  ·exact yC .eql t ty x y r a b _ ho hr hd ex ey (.inl ⟨rfl,rfl⟩) hs
  ·exact yC .neq t ty x y r a b _ ho hr hd ex ey (.inr ⟨rfl,rfl⟩) hs
  ·exact hs.elim
 ·rename_i k a k' b ex ey
  split at hs
  ·obtain ⟨rfl,hb,hk⟩:=hs
   exact aPX .quo t ty x y k a b _ ho ex ey hb (.inl ⟨rfl,rfl⟩) hk
  ·obtain ⟨rfl,hb,hk⟩:=hs
   exact aPX .rem t ty x y k a b _ ho ex ey hb (.inr ⟨rfl,rfl⟩) hk
  ·obtain ⟨hb,hk⟩:=hs
   exact aGL .shl t ty x y k k' a b _ ho ex ey hb (.inl ⟨rfl,rfl⟩) hk
  ·obtain ⟨hb,hk⟩:=hs
   exact aGL .shr t ty x y k k' a b _ ho ex ey hb (.inr ⟨rfl,rfl⟩) hk
  ·split at hs
   ·rename_i v hv;exact gen v (by rw [ex,ey];exact hv) hs
   ·exact hs.elim
 ·rename_i a b ex ey
  split at hs
  ·exact aKM t ty x y a b ho ex ey hs.1 hs.2
  ·exact gen _ (by rw [ex,ey];rfl) hs
  ·exact gen _ (by rw [ex,ey];rfl) hs
  ·split at hs
   ·rename_i c hc;exact aKN _ t ty x y a b c ho ex ey hc hs
   ·exact hs.elim
 ·split at hs
  ·rename_i v hv;exact gen v hv hs
  ·exact hs.elim
theorem aDE (op:BinOp) (t ty:TypeId) (x y:Operand) (ho:o.op = .binOp op t x y ty) (hs:rY P op t (ρ x) (ρ y) fun v=>K v h):mA P o ρ h K:=by
 unfold rY at hs
 split at hs
 ·rename_i sz es tt ex ey
  obtain ⟨hd0,hs⟩:=hs
  split at hd0
  ·rename_i et hd
   obtain ⟨r,hr,hd⟩:=iO hd
   split at hs
   ·exact aBD .eql t ty x y r et sz es tt ho hr hd ex ey (.inl rfl) hs.1 hs.2
   ·exact aBD .neq t ty x y r et sz es tt ho hr hd ex ey (.inr rfl) hs.1 hs.2
   ·exact hs.elim
  ·exact hd0.elim
 ·rename_i m sz i len ex ey
  obtain ⟨hd0,hs⟩:=hs
  split at hd0
  ·rename_i et hd
   obtain ⟨r,hr,hd⟩:=iO hd
   split at hs
   ·exact yH .eql t ty x y r et m sz i len ho hr hd ex ey (.inl rfl) hs.1 hs.2
   ·exact yH .neq t ty x y r et m sz i len ho hr hd ex ey (.inr rfl) hs.1 hs.2
   ·exact hs.elim
  ·exact hd0.elim
 ·rename_i ex ey
  obtain ⟨hd0,hs⟩:=hs
  split at hd0
  ·rename_i et hd
   obtain ⟨r,hr,hd⟩:=iO hd
   split at hs
   ·exact yI .eql t ty x y r et ho hr hd ex ey (.inl rfl) hs
   ·exact yI .neq t ty x y r et ho hr hd ex ey (.inr rfl) hs
   ·exact hs.elim
  ·exact hd0.elim
 ·exact aF6 op t ty x y ho hs
theorem aDF (op:BinOp) (t ty:TypeId) (x y:Operand) (ho:o.op = .binOp op t x y ty) (hs:rZ P op t (pG y) (ρ x) (ρ y) fun v=>K v h):mA P o ρ h K:=by
 unfold rZ at hs
 split at hs
 ·rename_i ec ex ey
  obtain ⟨hi,hs⟩:=hs
  split at hs
  ·exact qZ .eql t ty x y true ho hi ec (.inl ⟨ex,rfl⟩) ey (.inl rfl) hs
  ·exact qZ .neq t ty x y true ho hi ec (.inl ⟨ex,rfl⟩) ey (.inr rfl) hs
  ·exact hs.elim
 ·rename_i ti xi ec ex ey
  obtain ⟨hi,hs⟩:=hs
  split at hs
  ·exact qZ .eql t ty x y false ho hi ec (.inr ⟨⟨_,_,ex⟩,rfl⟩) ey (.inl rfl) hs
  ·exact qZ .neq t ty x y false ho hi ec (.inr ⟨⟨_,_,ex⟩,rfl⟩) ey (.inr rfl) hs
  ·exact hs.elim
 ·exact aDE op t ty x y ho hs
theorem aF7 (x y:Operand) (ats:Array TypeId) (ho:o.op = .call { callee:=.builtin .append,args:=#[x,y],argTypes:=ats }) (hs:sY P (aYL P ats[0]?) ats[1]? (ρ x) (ρ y) h K):mA P o ρ h K:=by
 unfold sY at hs
 split at hs
 ·rename_i re hre
  unfold aYL at hre
  split at hre
  ·rename_i t a0
   obtain ⟨r,et,hr,hd,he⟩:=kR hre
   obtain ⟨hz,hz0,h1,hs⟩:=hs
   split at hs
   ·rename_i n sz i len hx
    obtain ⟨hsz,hs⟩:=hs
    split at hs
    ·rename_i sz' es hn
     obtain ⟨rfl,hle,hs⟩:=hs
     split at hs
     ·rename_i ys hy
      exact aF3 x y ats t et r re n sz' i len es ys ho a0 hr hd he hz hz0 h1 hx hsz hn hle hy hs.1 hs.2.1 hs.2.2
     ·exact hs.elim
    ·exact hs.elim
   ·split at hs
    ·rename_i olds ys hx hy
     rcases List.eq_nil_or_concat ys with e | ⟨_,_,e⟩
     ·subst e
      exact aBX x y ats t et r re ho a0 hr hd he h1 (by rw [hx];rfl) hy (hs.1 rfl)
     ·have hne:ys≠[]:=by rw [e];simp
      have hs:=hs.2 hne
      exact aC9 x y ats t et r re olds ys ho a0 hr hd he hz hz0 h1 hx hy hne hs.1 hs.2.1 hs.2.2
    ·exact hs.elim
  ·simp at hre
 ·exact hs.elim
theorem jV (hs:step P o ρ h K):mA P o ρ h K:=by
 unfold step at hs
 split at hs
 case h_1 x ho=>exact aT5 x ho hs
 case h_2 x ho=>exact aNR x ho hs
 case h_3 c a b ho =>
  split at hs
  ·rename_i t ht
   refine aT6 c a b t ho ht ?_
   cases t
   ·exact hs.2 rfl
   ·exact hs.1 rfl
  ·exact hs.elim
 case h_4 op t x y ty ho=>exact aDF op t ty x y ho hs
 case h_5 op t x ho =>
  unfold aAC at hs
  split at hs
  ·rename_i b hb;exact aYI t x b ho hb hs
  ·rename_i k n hn;exact aYJ t x k n ho hn hs
  ·exact hs.elim
 case h_6 s d x ho =>
  unfold u9 at hs
  split at hs
  ·rename_i k' k n hd hx
   obtain ⟨jC,hk⟩:=hs
   obtain ⟨rd,hrd,hdd⟩:=iO hd
   obtain ⟨ds,hds⟩:=Option.isSome_iff_exists.1 jC
   obtain ⟨rs,hrs,_⟩:=iO hds
   exact aBW s d x rs rd k k' n ho hrs hrd hdd hx hk
  ·rename_i es tg hd hx
   split at hs
   ·rename_i et hss
    obtain ⟨hee,hs⟩:=hs
    split at hs
    ·rename_i bs hbs
     obtain ⟨rd,hrd,hdd⟩:=iO hd
     obtain ⟨rs,hrs,hsd⟩:=iO hss
     obtain ⟨re,hre,hed⟩:=iO hee
     exact aDC s d et x rs rd re es tg bs ho hrs hsd hre hed hrd hdd hx hbs hs
    ·exact hs.elim
   ·exact hs.elim
  ·exact hs.elim
 case h_7 t x f ho =>
  unfold aAD at hs
  split at hs
  ·rename_i fs hd
   obtain ⟨r,hr,hd⟩:=iO hd
   split at hs
   ·rename_i off ft sz' hf
    obtain ⟨hsz,hs⟩:=hs
    split at hs
    ·rename_i n sz i k hx;exact wT t x f r fs off sz' ft _ ho hr hd hf hsz (.inl ⟨n,sz,i,k,hx,rfl⟩) hs
    ·rename_i sz es i k hx;exact wT t x f r fs off sz' ft _ ho hr hd hf hsz (.inr ⟨sz,es,i,k,hx,rfl⟩) hs
    ·exact hs.elim
   ·exact hs.elim
  ·exact hs.elim
 case h_8 t x i ho =>
  unfold aAE at hs
  split at hs
  ·rename_i re hre
   obtain ⟨r,et,hr,hd,he⟩:=kR hre
   split at hs
   ·rename_i sz es tg k n hx hi
    obtain ⟨hsz,h0,hn,hk⟩:=hs
    exact z8 t et x i r re sz es tg k n ho hr hd he hsz hx hi h0 hn hk
   ·rename_i m sz i0 len k n hx hi
    obtain ⟨hsz,h0,hn,hk⟩:=hs
    exact aAA t et x i r re m sz i0 len k n ho hr hd he hsz hx hi h0 hn hk
   ·exact hs.elim
  ·exact hs.elim
 case h_9 t x i ho =>
  unfold xD at hs
  split at hs
  ·rename_i s k n hd hx hi
   obtain ⟨r,hr,hd⟩:=iO hd
   obtain ⟨h0,hs⟩:=hs
   split at hs
   ·rename_i c hc;exact aF0 t x i r s k n c ho hr hd hx hi h0 hc hs
   ·exact hs.elim
  ·exact hs.elim
 case h_10 t a ho =>
  unfold iJ at hs
  split at hs
  ·rename_i r hr
   split at hs
   ·rename_i sz es i off ha
    split at hs
    ·rename_i e he
     split at hs
     ·rename_i x hx;exact aKB t a r sz i off es e x ho hr ha he hx hs
     ·exact hs.elim
    ·exact hs.elim
   ·rename_i n sz i off ha
    split at hs
    ·rename_i sz' es hn
     obtain ⟨rfl,hs⟩:=hs
     split at hs
     ·rename_i e he
      split at hs
      ·rename_i x hx;exact aKC t a r n sz' i off es e x ho hr ha hn he hx hs
      ·exact hs.elim
     ·exact hs.elim
    ·exact hs.elim
   ·exact hs.elim
  ·exact hs.elim
 case h_11 t a v ho =>
  unfold aHZ at hs
  split at hs
  ·rename_i r hr
   split at hs
   ·rename_i n sz i off ha
    split at hs
    ·rename_i sz' es hn
     obtain ⟨rfl,hs⟩:=hs
     split at hs
     ·rename_i e he
      obtain ⟨hf,hsz,hoff,hk⟩:=hs
      exact aSJ t a v r n sz' i off es e ho hr ha hn he hf hsz hoff hk
     ·exact hs.elim
    ·exact hs.elim
   ·exact hs.elim
  ·exact hs.elim
 case h_12 t ho =>
  unfold aAF at hs
  split at hs
  ·rename_i r hr
   obtain ⟨hz,hf,hk⟩:=hs
   exact aSK t r ho hr hz hf hk
  ·exact hs.elim
 case h_13 t x ho =>
  split at hs
  ·exact aKD t x ho hs.1 hs.2
  ·exact aYH t x ho hs.1 hs.2
 case h_14 t l c ho =>
  unfold aDD at hs
  split at hs
  ·rename_i re hre
   obtain ⟨r,et,hr,hd,he⟩:=kR hre
   split at hs
   ·rename_i k a k' b hl hc
    obtain ⟨hz,hz0,hf,h0,hab,hb,hbb,hk⟩:=hs
    exact aF2 t et l c r re k k' a b ho hr hd he hz hz0 hf hl hc h0 hab hb hbb hk
   ·exact hs.elim
  ·exact hs.elim
 case h_15 t x lo hi ho =>
  unfold nX at hs
  split at hs
  ·rename_i n sz i len hx hhi
   split at hs
   ·rename_i re hre
    obtain ⟨r,et,hr,hd,he⟩:=kR hre
    obtain ⟨hsz,hs⟩:=hs
    split at hs
    ·rename_i l hl
     obtain ⟨h0,h1,h2,h3⟩:=hs
     rcases Int.lt_or_eq_of_le h1 with q | q
     ·have:=h2 q
      exact yF t et x lo hi r re n sz i len l len ho hr hd he hsz hx hl (by rw [hhi];rfl) h0 q (Int.le_refl _) (by simpa using this)
     ·exact aF5 t et x lo hi r re n sz i len l len ho hr hd he hsz hx hl (by rw [hhi];rfl) h0 q rfl (h3 q).1 (h3 q).2
    ·exact hs.elim
   ·exact hs.elim
  unfold k9 at hs
  split at hs
  ·rename_i s hx
   obtain ⟨hd,hs⟩:=hs
   obtain ⟨r,hr,hd⟩:=iO hd
   split at hs
   ·rename_i l m hl hh
    obtain ⟨h0,h1,h2,hk⟩:=hs
    exact aF1 t x lo hi r s l m ho hr hd hx hl hh h0 h1 h2 hk
   ·exact hs.elim
  ·rename_i sz es tg hx
   split at hs
   ·rename_i re hre
    obtain ⟨r,et,hr,hd,he⟩:=kR hre
    obtain ⟨hsz,hs⟩:=hs
    split at hs
    ·rename_i l m hl hh
     obtain ⟨h0,h1,h2,hk⟩:=hs
     exact aHX t et x lo hi r re sz es tg l m ho hr hd he hsz hx hl hh h0 h1 h2 hk
    ·exact hs.elim
   ·exact hs.elim
  ·rename_i n sz i len hx
   split at hs
   ·rename_i re hre
    obtain ⟨r,et,hr,hd,he⟩:=kR hre
    obtain ⟨hsz,hs⟩:=hs
    split at hs
    ·rename_i l m hl hh
     obtain ⟨h0,h1,h2,hk⟩:=hs
     exact yF t et x lo hi r re n sz i len l m ho hr hd he hsz hx hl hh h0 h1 h2 hk
    ·exact hs.elim
   ·exact hs.elim
  ·exact hs.elim
 case h_16 t i ho =>
  split at hs
  ·rename_i cs ht
   split at hs
   ·rename_i x hx;exact aKE t i cs x ho ht hx hs
   ·exact hs.elim
  ·exact hs.elim
 case h_17 x ho =>
  split at hs
  ·rename_i n sz i k hx;exact yA x ho (.inl ⟨n,sz,i,k,hx⟩) (hx ▸ hs)
  ·rename_i sz es i k hx;exact yA x ho (.inr ⟨sz,es,i,k,hx⟩) (hx ▸ hs)
  ·exact hs.elim
 case h_18 fn fs cs ho=>exact aHW fn fs cs ho hs
 case h_19 c ho =>
  unfold u7 at hs
  split at hs
  ·rename_i f as ats
   split at hs
   ·rename_i g first cap hf;exact aUD f as ats g first cap ho hf hs
   ·exact hs.elim
  ·rename_i as ats
   split at hs
   ·rename_i x hax
    have hax':as = #[x]:=by cases as;simp_all
    subst hax'
    unfold aH0 at hs
    split at hs
    ·rename_i t hat
     split at hs
     ·rename_i et sz es tg hd hx
      obtain ⟨r,hr,hd⟩:=iO hd
      exact aB7 t x r es.length ats ho hat hr (.inl ⟨_,sz,es,tg,hd,hx,rfl⟩) hs
     ·rename_i et m sz i n hd hx
      obtain ⟨r,hr,hd⟩:=iO hd
      exact aB7 t x r n ats ho hat hr (.inr (.inl ⟨_,m,sz,i,hd,hx⟩)) hs
     ·rename_i et hd hx
      obtain ⟨r,hr,hd⟩:=iO hd
      exact aB7 t x r 0 ats ho hat hr (.inr (.inr (.inl ⟨_,hd,hx,rfl⟩))) fun _=>hs
     ·rename_i s hd hx
      obtain ⟨r,hr,hd⟩:=iO hd
      exact aB7 t x r s.length ats ho hat hr (.inr (.inr (.inr ⟨s,hd,hx,rfl⟩))) hs
     ·exact hs.elim
    ·exact hs.elim
   ·exact hs.elim
  ·rename_i as ats
   split at hs
   ·rename_i x y hax
    have hax':as = #[x,y]:=by cases as;simp_all
    subst hax'
    split at hs
    ·rename_i k a k' b hx hy
     obtain ⟨h1,hk⟩:=hs
     rw [hy] at h1
     simp only at h1
     subst h1
     exact aYK x y ats _ a b ho hx hy hk
    ·exact hs.elim
   ·exact hs.elim
  ·rename_i as ats
   split at hs
   ·rename_i x y hax
    have hax':as = #[x,y]:=by cases as;simp_all
    subst hax'
    exact aF7 x y ats ho hs
   ·exact hs.elim
  ·exact hs.elim
 case h_20 t ps ho =>
  unfold pP at hs
  split at hs
  ·rename_i r hr
   obtain ⟨h1,h2,h3,hk⟩:=hs
   exact aSN t ps r ho hr h1 h2 h3 hk
  ·exact hs.elim
 case h_21 t len ps ho =>
  unfold p2 at hs
  split at hs
  ·rename_i re hre
   obtain ⟨r,et,hr,hd,he⟩:=kR hre
   obtain ⟨h1,h2,h3,h4,h5,hk⟩:=hs
   exact aC7 t et len ps r re ho hr hd he h1 h2 h3 h4 h5 hk
  ·exact hs.elim
 case h_22 t x lo hi mx ho =>
  unfold mO at hs
  split at hs
  ·rename_i sz es tg hx
   split at hs
   ·rename_i re hre
    obtain ⟨r,et,hr,hd,he⟩:=kR hre
    obtain ⟨hsz,hs⟩:=hs
    split at hs
    ·rename_i l m M hl hh hM
     obtain ⟨h0,h1,h2,h3,hk⟩:=hs
     exact aF4 t et x lo (some hi) mx r re sz es tg l m M ho hr hd he hsz hx rfl hl hh hM h0 h1 h2 h3 hk
    ·exact hs.elim
   ·exact hs.elim
  ·exact hs.elim
 case h_23=>exact hs.elim
def aDG (x:aC) (K:aC→Prop):Prop:=x.cells.all aC.flat = true∧K (.ip x.cells.length [x.cells] 0 0)
def a3O (r':aC) (h':aA) (r:aC) (h:aA):Prop :=
 ∀ E w v,Rel E h' w→eC E h' w r' v→∃ E',Ev E h' w E' h w∧Rel E' h w∧eC E' h w r v
def aP4 (K:aC→aA→Prop):aC→aA→Prop:=fun v h'=>∃ r g,a3O v h' r g∧K r g
theorem mA.seal {P:Program} {o:Oper} {ρ:Operand→aC} {h:aA} {K:aC→aA→Prop} (a:mA P o ρ h (aP4 K)):mA P o ρ h K:=fun E w ρc R hρ =>
 (a E w ρc R hρ).mono fun v w' ⟨r',h',E',⟨r,g,s,k⟩,ev,R',x⟩ =>
  let ⟨E'',ev',R'',x'⟩:=s E' w' v R' x
  ⟨r,g,E'',k,ev.trans ev',R'',x'⟩
def p3 (P:Program) (ib:List Nat) (o:Oper) (ρ:Operand→aC) (h:aA) (K:aC→aA→Prop):Prop :=
 match o.dst with
 |some d=>if ib.contains d then (match o.op with
   | .box _ x=>aDG (ρ x) fun v=>K v h
   | .buildSlice t len ps=>p2 (j3 P t) len (ps.toList.map fun p=>(p.1,ρ p.2)) fun sz es=>K (.sl sz es true) h
   | .call ⟨.builtin .append,_,_⟩=>step P o ρ h (aP4 K)
   | _=>step P o ρ h K) else step P o ρ h K
 |none=>step P o ρ h K
theorem vA {ib:List Nat} (hs:p3 P ib o ρ h K):mA P o ρ h K:=by
 unfold p3 at hs
 split at hs
 ·split at hs
  ·split at hs
   ·rename_i t x ho;exact aKG t x ho hs.1 hs.2
   ·rename_i t len ps ho
    unfold p2 at hs
    split at hs
    ·rename_i re hre
     obtain ⟨r,et,hr,hd,he⟩:=kR hre
     obtain ⟨h1,h2,h3,h4,h5,hk⟩:=hs
     exact xA t et len ps r re ho hr hd he h1 h2 h3 h4 h5 hk
    ·exact hs.elim
   ·exact (jV hs).seal
   ·exact jV hs
  ·exact jV hs
 ·exact jV hs
end
variable {ds:List Deferred}
def want (ops:Array Oper) (τ:bE) (o:Oper):Option Bool :=
 match o.guard with
 |none=>some true
 |some (g,b)=>match (ops[g]?).bind (·.dst) with
  |some d=>match bF τ d with
   | .bool b'=>some (b' == b)
   | .gW []=>some false
   | _=>none
  |none=>none
theorem xE {E:Env} {h:aA} {w:World} {N:Nat} {τ:bE} {a:Act} {ops:Array Oper} {o:Oper} {c:Bool} (r:rM ds E h w N τ a) (hw:want ops τ o = some c) (hd:∀ (g:Nat) (og:Oper) d,ops[g]? = some og→og.dst = some d→d < N) :
  Region.wanted o (yielded ops a.tmps) = c:=by
 unfold want at hw
 unfold Region.wanted
 split at hw
 ·rename_i hg;rw [hg];exact Option.some.inj hw
 ·rename_i g b hg
  rw [hg]
  split at hw
  ·rename_i d hdd
   obtain ⟨og,hog,hod⟩:=Option.bind_eq_some_iff.1 hdd
   have hlt:d < a.tmps.size:=by rw [r.size];exact hd g og d hog hod
   have hr:=r.get d
   have hge:a.tmps[d]? = some a.tmps[d]:=Array.getElem?_eq_getElem hlt
   have hgd:a.tmps.getD d undef = a.tmps[d]:=by simp [Array.getD,hlt]
   split at hw
   ·rename_i b' hb'
    rw [hb',hgd] at hr
    have:=rU hr
    obtain rfl:=Option.some.inj hw
    simp only [yielded,hog,Option.bind_some,hod,hge,this]
    cases b <;> cases b' <;> rfl
   ·rename_i hb'
    rw [hb',hgd] at hr
    obtain rfl:=Option.some.inj hw
    have:a.tmps[d] = .tuple #[]:=by
     cases hv:a.tmps[d] <;> rw [hv] at hr <;> try (cases hr;done)
     cases hr with
     |gW _ vs hl hrr =>
      have:vs = []:=by cases vs <;> simp_all
      simp [this]
    simp only [yielded,hog,Option.bind_some,hod,hge,this]
    cases b <;> rfl
   ·simp at hw
  ·simp at hw
def yJ (P:Program) (ib:List Nat) (ops:Array Oper):List Oper→bE→aA→(bE→aA→Prop)→Prop
 | [],τ,h,K=>K τ h
 |o :: rest,τ,h,K=>match o.guard with
  |none=>p3 P ib o (hev τ) h fun v h'=>yJ P ib ops rest (fJ τ o.dst v) h' K
  |some (g,b)=>match (ops[g]?).bind (·.dst) with
   |some d=>match bF τ d with
    | .bool b'=>(b' = b→p3 P ib o (hev ((d,.bool b) :: τ)) h fun v h'=>yJ P ib ops rest (fJ ((d,.bool b) :: τ) o.dst v) h' K) ∧
      (b' = !b→yJ P ib ops rest (fJ ((d,.bool !b) :: τ) o.dst (.gW [])) h K)
    | .gW []=>yJ P ib ops rest (fJ τ o.dst (.gW [])) h K
    | _=>False
   |none=>False
theorem sZ {τ:bE} {d:Nat} {v:aC} (hv:bF τ d = v) (k:Nat):bF ((d,v) :: τ) k = bF τ k:=by
 simp only [bF];split
 ·rename_i e;rw [← e,hv]
 ·rfl
theorem yJ.cases {P:Program} {ib:List Nat} {ops:Array Oper} {o:Oper} {rest:List Oper} {τ:bE} {h:aA} {K:bE→aA→Prop} (r:yJ P ib ops (o :: rest) τ h K) :
  ∃ σ,(∀ k,bF σ k = bF τ k)∧((want ops τ o = some true∧p3 P ib o (hev σ) h fun v h'=>yJ P ib ops rest (fJ σ o.dst v) h' K) ∨
   (want ops τ o = some false∧yJ P ib ops rest (fJ σ o.dst (.gW [])) h K)):=by
 unfold yJ at r
 unfold want
 split at r
 ·rename_i hg;exact ⟨τ,fun _=>rfl,.inl ⟨by simp [hg],r⟩⟩
 ·rename_i g b hg
  try simp only [hg]
  split at r
  ·rename_i d hd
   try simp only [hd]
   split at r
   ·rename_i b' hb'
    by_cases e:b' = b
    ·subst e
     exact ⟨(d,.bool b') :: τ,sZ hb',.inl ⟨by simp [hb'],r.1 rfl⟩⟩
    ·have e':b' = !b:=by cases b' <;> cases b <;> simp_all
     subst e'
     exact ⟨(d,.bool !b) :: τ,sZ hb',.inr ⟨by first | (cases b <;> rfl) | (simp only [hb'];cases b <;> rfl),r.2 rfl⟩⟩
   ·rename_i hb';exact ⟨τ,fun _=>rfl,.inr ⟨by simp [hb'],r⟩⟩
   ·exact r.elim
  ·exact r.elim
def xF (N:Nat) (ops:Array Oper):Bool:=ops.toList.all fun o=>match o.dst with | some d=>decide (d < N) | none=>true
theorem s3 {N:Nat} {ops:Array Oper} (h:xF N ops = true) (g:Nat) (og:Oper) (d:Nat) (hg:ops[g]? = some og) (hd:og.dst = some d):d < N:=by
 have:=List.all_eq_true.1 h og (by rw [← Array.getElem?_toList] at hg;exact List.mem_of_getElem? hg)
 simpa [hd] using this
theorem aH1 {P:Program} {ib:List Nat} {N:Nat} {ops:Array Oper} {Q:Exit→bE→aA→Prop} {K:bE→aA→Prop} (hN:xF N ops = true) (keep:List Nat) (hK:∀ τ h,K τ h→Q .normal (prune keep τ) h) {E₀:Env} {h₀:aA} {w₀:World} :
  ∀ (l:List Oper),(∀ o∈l,o∈ops.toList)→∀ (τ:bE) (h:aA),yJ P ib ops l τ h K→∀ E w a,Ev E₀ h₀ w₀ E h w→Rel E h w→rM ds E h w N τ a→wpList P ops (o8 ds N Q E₀ h₀ w₀) l a w
 | [],_,τ,h,hr,E,w,a,ev,R,r=>⟨prune keep τ,h,E,hK _ _ hr,ev,R,r.prune keep⟩
 |o :: rest,hl,τ,h,hr,E,w,a,ev,R,r=>by
  have hdst:∀ k,o.dst = some k→k < N:=fun k hk=>by
   have:=List.all_eq_true.1 hN o (hl o (by simp))
   simpa [hk] using this
  obtain ⟨σ,hσ,hr⟩:=hr.cases
  have rσ:rM ds E h w N σ a:=⟨r.size,r.defers,fun k=>by rw [hσ];exact r.get k⟩
  rcases hr with ⟨hw,hr⟩ | ⟨hw,hr⟩
  ·have hwant:=xE r hw (s3 hN)
   unfold wpList
   rw [hwant,if_pos rfl]
   left
   refine rT.wp ((vA hr E w _ R fun x=>rσ.hev x).mono ?_)
   rintro v w' ⟨x,h',E',k,ev',R',rx⟩
   exact aH1 hN keep hK rest (fun o ho=>hl o (by simp [ho])) _ h' k E' w' (a.put o.dst v) (ev.trans ev') R' ((rσ.ev ev').put o.dst hdst rx)
  ·have hwant:=xE r hw (s3 hN)
   unfold wpList
   rw [hwant,if_neg (by simp)]
   refine aH1 hN keep hK rest (fun o ho=>hl o (by simp [ho])) _ h hr E w _ ev R (rσ.put o.dst hdst ?_)
   exact eC.gW [] [] rfl (by simp)
theorem mM.region {P:Program} {ib:List Nat} {N id:Nat} {ops:Array Oper} {Q:Exit→bE→aA→Prop} {τ:bE} {h:aA} (hN:xF N ops = true) (keep:List Nat) (hr:yJ P ib ops ops.toList τ h fun τ' h'=>Q .normal (Hl.prune keep τ') h'):mM P N (.region id ops false) Q τ h :=
 fun ds E w a R r=>wp_region_list (aH1 hN keep (fun _ _ x=>x) ops.toList (fun _ ho=>ho) τ h hr E w a (.refl _ _ _) R r)
def aNV (P:Program) (τ:bE) (h:aA):ResultVar→(aC→Prop)→Prop
 | .tmp t,K=>K (bF τ t)
 | .cell a t,K=>iJ (gL P t) (bF τ a) h K
def aUE (P:Program) (τ:bE) (h:aA):List ResultVar→(List aC→Prop)→Prop
 | [],K=>K []
 |x :: l,K=>aNV P τ h x fun v=>aUE P τ h l fun vs=>K (v :: vs)
def aYM (P:Program) (rs:Array ResultVar) (τ:bE) (h:aA) (K:aC→aA→Prop):Prop :=
 aUE P τ h rs.toList fun vs=>match vs with
  | [v]=>K v h
  |vs=>K (.gW vs) h
def yK (P:Program) (rs:Array ResultVar) (K:aC→aA→Prop):Exit→bE→aA→Prop
 | .normal,τ,h=>aYM P rs τ h K
 | .ret,τ,h=>aYM P rs τ h K
 | _,_,_=>False
theorem aNW {P:Program} {t:TypeId} {a:aC} {h:aA} {K:aC→Prop} (hs:iJ (gL P t) a h K) {E:Env} {w:World} {v:Value} (R:Rel E h w) (hv:eC E h w a v) :
  ∃ (b o:Nat) (x:aC) (c:Value),v = .pointer (some ⟨b,o,none⟩)∧(loadVar t ⟨b,o,none⟩).run P w = .ok c w∧K x∧eC E h w x c:=by
 unfold iJ at hs
 split at hs
 ·rename_i r hr
  split at hs
  ·rename_i sz es i off
   split at hs
   ·rename_i e he
    split at hs
    ·rename_i x hx
     obtain ⟨b,k,c,h1,h2,h3⟩:=aA9 (P:=P) t r sz i off es e x hr hv he hx
     exact ⟨b,k,x,c,h1,h2,hs,h3⟩
    ·exact hs.elim
   ·exact hs.elim
  ·rename_i n sz i off
   split at hs
   ·rename_i sz' es hn
    obtain ⟨rfl,hs⟩:=hs
    split at hs
    ·rename_i e he
     split at hs
     ·rename_i x hx
      obtain ⟨b,k,c,h1,h2,h3⟩:=aBA (P:=P) R t r n sz' i off es e x hr hv hn he hx
      exact ⟨b,k,x,c,h1,h2,hs,h3⟩
     ·exact hs.elim
    ·exact hs.elim
   ·exact hs.elim
  ·exact hs.elim
 ·exact hs.elim
def aDH (P:Program) (tmps:Array Value):ResultVar→Sem Value
 | .tmp t=>pure (tmps.getD t undef)
 | .cell a t=>do loadVar t (← asAddr (tmps.getD a undef))
theorem aDI {P:Program} {N:Nat} {τ:bE} {h:aA} {E:Env} {w:World} {a:Act} (R:Rel E h w) (r:rM ds E h w N τ a):∀ (l:List ResultVar) (K:List aC→Prop),aUE P τ h l K →
  ∃ xs vs,(l.mapM (aDH P a.tmps)).run P w = .ok vs w∧K xs∧cX E h w xs vs
 | [],K,hk=>⟨[],[],by simp,hk,trivial⟩
 |x :: l,K,hk=>by
  unfold aUE at hk
  cases x with
  |tmp t =>
   simp only [aNV] at hk
   obtain ⟨xs,vs,h1,h2,h3⟩:=aDI R r l _ hk
   exact ⟨_ :: xs,_ :: vs,by simp [aDH,h1],h2,r.get t,h3⟩
  |cell p t =>
   simp only [aNV] at hk
   obtain ⟨b,o,x,c,h1,h2,h3,h4⟩:=aNW hk R (r.get p)
   obtain ⟨xs,vs,k1,k2,k3⟩:=aDI R r l _ h3
   exact ⟨x :: xs,c :: vs,by simp [aDH,h1,asAddr,h2,k1],k2,h4,k3⟩
theorem aUF {P:Program} {N:Nat} {τ:bE} {h:aA} {E:Env} {w:World} {a:Act} {fn:Func} {K:aC→aA→Prop} (R:Rel E h w) (r:rM ds E h w N τ a) (hk:aYM P fn.results τ h K) :
  ∃ x v,(results fn a.tmps).run P w = .ok v w∧K x h∧eC E h w x v:=by
 unfold aYM at hk
 obtain ⟨xs,vs,h1,h2,h3⟩:=aDI R r _ _ hk
 have hm:(fn.results.mapM (aDH P a.tmps)).run P w = .ok vs.toArray w:=by
  rw [← Array.toArray_toList (xs:=fn.results),List.mapM_toArray]
  simp [h1]
 have hres:(results fn a.tmps).run P w = .ok (if h:vs.toArray.size = 1 then vs.toArray[0] else .tuple vs.toArray) w:=by
  have e:results fn a.tmps = (do let vs ← fn.results.mapM (aDH P a.tmps);pure (if h:vs.size = 1 then vs[0] else .tuple vs)):=by
   unfold results
   congr 1
  rw [e,Sem.run_bind,hm]
  rfl
 split at h2
 ·rename_i x
  cases vs with
  |nil=>exact h3.elim
  |cons v vs =>
   cases vs with
   |nil=>exact ⟨x,v,by rw [hres];simp,h2,h3.1⟩
   |cons _ _=>exact h3.2.elim
 ·rename_i hne
  refine ⟨.gW xs,.tuple vs.toArray,?_,h2,.gW xs vs h3.length h3.get⟩
  rw [hres,dif_neg]
  intro e
  have hl:=h3.length
  simp at e
  rw [e] at hl
  cases xs with
  |nil=>simp at hl
  |cons y ys =>
   cases ys with
   |nil=>exact hne y rfl
   |cons _ _=>simp at hl
def p4:Nat→List aC→bE
 | _,[]=>[]
 |i,x :: xs=>(i,x) :: p4 (i + 1) xs
theorem aDJ:∀ (xs:List aC) (i k:Nat),bF (p4 i xs) k = if i≤k then (xs[k - i]?).getD .any else .any
 | [],i,k=>by simp [p4,bF]
 |x :: xs,i,k=>by
  simp only [p4,bF]
  by_cases e:i = k
  ·subst e;simp
  ·rw [if_neg e,aDJ xs (i + 1) k]
   by_cases h:i + 1≤k
   ·rw [if_pos h,if_pos (by omega),show k - i = (k - (i + 1)) + 1 by omega];simp
   ·rw [if_neg h,if_neg (by omega)]
theorem aUG {P:Program} {f:FuncId} {fn:Func} {c:Code} {N:Nat} {args:List aC} {h:aA} {K:aC→aA→Prop} (hf:P.funcs[f]? = some fn) (hb:fn.body = some c) (hc:kX P f = true) (hN:fn.ntmps = N)
  (hl:args.length≤N) {K':aC→aA→Prop} (hw:mM P N c (yK P fn.results K') (p4 0 args) h) (hk':∀ r h',K' r h'→∃ g:aA,g.le h'∧K r g):fE P f args h K:=by
 refine ⟨hc,fun E w vs R hL=>calls_of_wp hf hb ?_⟩
 have hlen:=hL.length
 refine Code.wp_mono ?_ (hw [] E w _ R ⟨?_,rfl,?_⟩)
 ·rintro e a' w' ⟨τ',h',E',q,ev,R',r'⟩
  cases e <;> simp only [yK] at q <;> try exact q.elim
  all_goals
   obtain ⟨x,v,h1,hk0,hx⟩:=aUF R' r' q
   obtain ⟨g,hg,hk⟩:=hk' _ _ hk0
   exact ⟨r'.defers,v,h1,x,g,E',hk,ev.forget hg,R'.forget hg,hx.pX fun b=>nB.le hg⟩
 ·simp [hN];omega
 ·intro k
  rw [aDJ]
  simp only [Nat.zero_le,if_true,Nat.sub_zero]
  by_cases hk:k < args.length
  ·have hx:args[k]? = some args[k]:=List.getElem?_eq_getElem hk
   have hv:vs[k]? = some (vs[k]'(by omega)):=List.getElem?_eq_getElem (by omega)
   rw [hx]
   have hg:(vs.toArray ++ Array.replicate (fn.ntmps - vs.toArray.size) undef).getD k undef = vs[k]'(by omega):=by
    have hk':k < vs.length:=by omega
    simp [Array.getD,Array.getElem_append,hk'];omega
   rw [hg]
   exact hL.get k _ _ hx hv
  ·rw [List.getElem?_eq_none (by omega)]
   exact .any _
variable {ds:List Deferred}
def o9 (ops:Array Oper) (o:Oper):List Tmp :=
 (o.op.operands.toList.filterMap fun | .tmp t=>some t | _=>none) ++ (match o.guard with | some (g,_)=>((ops[g]?).bind (·.dst)).toList | none=>[])
def pH (ops:Array Oper) (o:Oper) (τ:bE):Operand→aC
 | .tmp t=>if (o9 ops o).contains t then bF τ t else .any
 |x=>hev τ x
theorem mP {ops:Array Oper} {o:Oper} {τ τ':bE} (h:∀ t∈o9 ops o,bF τ t = bF τ' t):pH ops o τ = pH ops o τ':=by
 funext x
 cases x with
 |tmp t =>
  simp only [pH]
  split
  ·rename_i hc;exact h t (by simpa using hc)
  ·rfl
 | _=>rfl
def p5 (P:Program) (o:Oper) (ρ:Operand→aC) (v:aC):Prop:=∀ h,mA P o ρ h fun v' h'=>v' = v∧h' = h
def uK:List (Nat × Nat)→Nat→Nat→Bool
 | [],_,_=>false
 |(a,b) :: r,x,i=>(a == x && b == i) || uK r x i
def aUH:List (Nat × Nat)→Nat→Bool
 | [],_=>false
 |(a,_) :: r,x=>a == x || aUH r x
theorem aKO {x i:Nat}:∀ {cr:List (Nat × Nat)},aUH cr x = false→uK cr x i = false
 | [],_=>rfl
 |(a,b) :: r,h=>by
  simp only [aUH,Bool.or_eq_false_iff] at h
  simp only [uK,h.1,Bool.false_and,Bool.false_or]
  exact aKO h.2
def aNX (o:Oper):Bool:=match o.op with | .load _ _=>true | _=>false
def aH2 (P:Program) (o:Oper) (ρ:Operand→aC) (h:aA) (n:Nat) (v:aC):Prop:=∀ h',h' n = h n→mA P o ρ h' fun v' h''=>v' = v∧h'' = h'
def aDK (cr:List (Nat × Nat)) (i:Nat) (pr:List (Nat × Nat)) (h h':aA):Prop:=∀ p∈pr,uK cr p.1 i = true→h' p.2 = h p.2
inductive pA where
 |nil
 |op (i:Nat) (p:pA)
 |alt (i:Nat) (p:pA) (j:Nat) (q:pA)
def OpL (P:Program) (ops:Array Oper) (ms:List Nat) (i:Nat) (cr:List (Nat × Nat)) (pr:List (Nat × Nat)) (τ:bE) (h:aA) (C:List (Nat × Nat)→bE→aA→Prop):Prop :=
 match ops[i]? with
  |none=>False
  |some o=>match want ops τ o with
   |none=>False
   |some true=>if ms.contains i then (if aNX o then (∃ n v,aH2 P o (pH ops o τ) h n v∧C ((i,n) :: pr) (fJ τ o.dst v) h)∨∃ v,p5 P o (pH ops o τ) v∧C pr (fJ τ o.dst v) h
      else mA P o (pH ops o τ) h fun v h'=>aDK cr i pr h h'∧C pr (fJ τ o.dst v) h')
     else ∃ v,p5 P o (pH ops o τ) v∧C pr (fJ τ o.dst v) h
   |some false=>C pr (fJ τ o.dst (.gW [])) h
def iK (P:Program) (ops:Array Oper) (ms:List Nat) (cr:List (Nat × Nat)):pA→List (Nat × Nat)→bE→aA→(bE→aA→Prop)→Prop
 | .nil,_,τ,h,K=>K τ h
 | .op i p,pr,τ,h,K=>OpL P ops ms i cr pr τ h fun pr τ h=>iK P ops ms cr p pr τ h K
 | .alt i p j q,pr,τ,h,K=>(OpL P ops ms i cr pr τ h fun pr τ h=>iK P ops ms cr p pr τ h K)∧OpL P ops ms j cr pr τ h fun pr τ h=>iK P ops ms cr q pr τ h K
def TEq (τ τ':bE):Prop:=∀ k,bF τ k = bF τ' k
theorem r6 (τ:bE) (d:Option Tmp) (v:aC) (k:Nat):bF (fJ τ d v) k = if d = some k then v else bF τ k:=by
 cases d with
 |none=>simp [fJ]
 |some d=>simp only [fJ,bF,Option.some.injEq]
theorem TEq.put {τ τ':bE} (h:TEq τ τ') (d:Option Tmp) (v:aC):TEq (fJ τ d v) (fJ τ' d v):=fun k=>by
 rw [r6,r6,h k]
theorem TEq.put_comm (τ:bE) {d e:Option Tmp} (u v:aC) (hne:∀ k,d = some k→e≠some k):TEq (fJ (fJ τ d u) e v) (fJ (fJ τ e v) d u):=fun k=>by
 simp only [r6]
 by_cases h1:e = some k <;> by_cases h2:d = some k
 ·exact absurd h1 (hne k h2)
 ·simp [h1,h2]
 ·simp [h1,h2]
 ·simp [h1,h2]
theorem s4 {ops:Array Oper} {o:Oper} {τ τ':bE} (h:∀ t∈o9 ops o,bF τ t = bF τ' t):want ops τ o = want ops τ' o:=by
 unfold want
 split
 ·rfl
 ·rename_i g b hg
  split
  ·rename_i d hd
   rw [h d (by simp [o9,hg,hd])]
  ·rfl
theorem aDK.sub {cr:List (Nat × Nat)} {i:Nat} {pr pr':List (Nat × Nat)} {h h':aA} (hs:∀ p∈pr',p∈pr∨∀ j,uK cr p.1 j = false) (x:aDK cr i pr h h'):aDK cr i pr' h h':=fun p hp hc=>by
 rcases hs p hp with h1 | h1
 ·exact x p h1 hc
 ·rw [h1 i] at hc;cases hc
theorem aUI {cr pr pr':List (Nat × Nat)} (hs:∀ p∈pr',p∈pr∨∀ j,uK cr p.1 j = false) (q:Nat × Nat):∀ p∈q :: pr',p∈q :: pr∨∀ j,uK cr p.1 j = false:=fun p hp=>by
 rcases List.mem_cons.1 hp with rfl | hp
 ·exact .inl List.mem_cons_self
 ·exact (hs p hp).imp (List.mem_cons_of_mem _) id
theorem OpL.congr {P:Program} {ops:Array Oper} {ms:List Nat} {cr:List (Nat × Nat)} {i:Nat} {C C':List (Nat × Nat)→bE→aA→Prop} {pr pr':List (Nat × Nat)} {τ τ':bE} {h:aA}
  (hC:∀ (pr pr':List (Nat × Nat)) (τ τ':bE) (h:aA),(∀ p∈pr',p∈pr∨∀ j,uK cr p.1 j = false)→TEq τ τ'→C pr τ h→C' pr' τ' h) (hs:∀ p∈pr',p∈pr∨∀ j,uK cr p.1 j = false) (e:TEq τ τ') (r:OpL P ops ms i cr pr τ h C):OpL P ops ms i cr pr' τ' h C':=by
 unfold OpL at r ⊢
 cases ho:ops[i]? with
 |none=>simp [ho] at r
 |some o =>
  simp only [ho] at r ⊢
  rw [← s4 (ops:=ops) (o:=o) (τ:=τ) (τ':=τ') fun t _=>e t]
  cases hw:want ops τ o with
  |none=>simp [hw] at r
  |some c =>
   simp only [hw] at r ⊢
   rw [← mP (ops:=ops) (o:=o) (τ:=τ) (τ':=τ') fun t _=>e t]
   cases c with
   |false=>exact hC _ _ _ _ h hs (e.put _ _) r
   |true =>
    simp only at r ⊢
    split at r
    ·rename_i hm;rw [if_pos hm]
     split at r
     ·rename_i hl;rw [if_pos hl]
      rcases r with ⟨n,v,hr,x⟩ | ⟨v,hr,x⟩
      ·exact .inl ⟨n,v,hr,hC _ _ _ _ h (aUI hs _) (e.put _ _) x⟩
      ·exact .inr ⟨v,hr,hC _ _ _ _ h hs (e.put _ _) x⟩
     ·rename_i hl;rw [if_neg hl]
      exact r.mono fun v h' x=>⟨x.1.sub hs,hC _ _ _ _ h' hs (e.put _ _) x.2⟩
    ·rename_i hm;rw [if_neg hm]
     obtain ⟨v,hs',x⟩:=r
     exact ⟨v,hs',hC _ _ _ _ h hs (e.put _ _) x⟩
theorem iK.congr {P:Program} {ops:Array Oper} {ms:List Nat} {cr:List (Nat × Nat)} {K:bE→aA→Prop} (hK:∀ τ τ' h,TEq τ τ'→K τ h→K τ' h):∀ (l:pA) (pr pr':List (Nat × Nat)) (τ τ':bE) (h:aA),(∀ p∈pr',p∈pr∨∀ j,uK cr p.1 j = false)→TEq τ τ'→iK P ops ms cr l pr τ h K→iK P ops ms cr l pr' τ' h K
 | .nil,pr,pr',τ,τ',h,hs,e,r=>hK _ _ _ e r
 | .op i l,pr,pr',τ,τ',h,hs,e,r=>OpL.congr (fun pr pr' τ τ' h hs e r=>iK.congr hK l pr pr' τ τ' h hs e r) hs e r
 | .alt i l j q,pr,pr',τ,τ',h,hs,e,r=>⟨OpL.congr (fun pr pr' τ τ' h hs e r=>iK.congr hK l pr pr' τ τ' h hs e r) hs e r.1,OpL.congr (fun pr pr' τ τ' h hs e r=>iK.congr hK q pr pr' τ τ' h hs e r) hs e r.2⟩
def aDM (ops:Array Oper) (x y:Oper):Bool :=
 (match x.dst with | some d=>!(o9 ops y).contains d && !(y.dst == some d) | none=>true) && (match y.dst with | some d=>!(o9 ops x).contains d | none=>true)
theorem aKP {ops:Array Oper} {x y:Oper} (h:aDM ops x y = true):(∀ d,x.dst = some d→d ∉ o9 ops y)∧(∀ d,x.dst = some d→y.dst≠some d)∧(∀ d,y.dst = some d→d ∉ o9 ops x):=by
 unfold aDM at h
 refine ⟨fun d hd=>?_,fun d hd=>?_,fun d hd=>?_⟩ <;> simp [hd] at h
 ·exact h.1.1
 ·exact h.1.2
 ·exact h.2
def aUJ (ms:List Nat) (cr:List (Nat × Nat)) (x i:Nat) (ox oi:Oper):Bool:=!ms.contains x || (aNX ox && (uK cr x i || aNX oi || !ms.contains i))
theorem iK.swap {P:Program} {ops:Array Oper} {ms:List Nat} {cr:List (Nat × Nat)} {K:bE→aA→Prop} (hK:∀ τ τ' h,TEq τ τ'→K τ h→K τ' h) {x i:Nat} {ox oi:Oper} {l:pA} {pr:List (Nat × Nat)} {τ:bE} {h:aA}
  (hx:ops[x]? = some ox) (hi:ops[i]? = some oi) (hm:aUJ ms cr x i ox oi = true) (hap:aDM ops ox oi = true) (r:iK P ops ms cr (.op x (.op i l)) pr τ h K):iK P ops ms cr (.op i (.op x l)) pr τ h K:=by
 obtain ⟨a1,a2,a3⟩:=aKP hap
 have ei:∀ v,(∀ t∈o9 ops oi,bF (fJ τ ox.dst v) t = bF τ t):=fun v t ht=>by
  rw [r6,if_neg];intro e;exact a1 t e ht
 have ex:∀ v,(∀ t∈o9 ops ox,bF (fJ τ oi.dst v) t = bF τ t):=fun v t ht=>by
  rw [r6,if_neg];intro e;exact a3 t e ht
 have hc:∀ u v,TEq (fJ (fJ τ ox.dst u) oi.dst v) (fJ (fJ τ oi.dst v) ox.dst u):=fun u v=>TEq.put_comm τ u v a2
 have ids:∀ pr:List (Nat × Nat),∀ p∈pr,p∈pr∨∀ j,uK cr p.1 j = false:=fun _ _ h=>.inl h
 have sw:∀ (a b:Nat × Nat),∀ p∈b :: a :: pr,p∈a :: b :: pr∨∀ j,uK cr p.1 j = false:=fun a b p hp=>by
  left
  simp only [List.mem_cons] at hp ⊢
  rcases hp with h1 | h1 | h1
  ·exact .inr (.inl h1)
  ·exact .inl h1
  ·exact .inr (.inr h1)
 unfold iK OpL at r
 simp only [hx] at r
 cases hwx:want ops τ ox with
 |none=>simp [hwx] at r
 |some cx =>
  simp only [hwx] at r
  have hwx':∀ v,want ops (fJ τ oi.dst v) ox = some cx:=fun v=>by rw [s4 (ex v)];exact hwx

  have key:∀ u,iK P ops ms cr (.op i l) pr (fJ τ ox.dst u) h K →
    (∀ τ' h' pr',iK P ops ms cr l pr' (fJ (fJ τ oi.dst τ') ox.dst u) h' K→iK P ops ms cr (.op x l) pr' (fJ τ oi.dst τ') h' K) →
    iK P ops ms cr (.op i (.op x l)) pr τ h K:=by
   intro u r hback
   unfold iK OpL at r
   rw [iK];unfold OpL
   simp only [hi] at r ⊢
   rw [s4 (ei u),mP (ei u)] at r
   cases hwi:want ops τ oi with
   |none=>simp [hwi] at r
   |some ci =>
    simp only [hwi] at r ⊢
    cases ci with
    |false=>exact hback _ _ _ (iK.congr hK l _ _ _ _ h (ids _) (hc _ _) r)
    |true =>
     simp only at r ⊢
     split at r
     ·rename_i hmi;rw [if_pos hmi]
      split at r
      ·rename_i hl;rw [if_pos hl]
       rcases r with ⟨n,v,hr,y⟩ | ⟨v,hr,y⟩
       ·exact .inl ⟨n,v,hr,hback _ _ _ (iK.congr hK l _ _ _ _ h (ids _) (hc _ _) y)⟩
       ·exact .inr ⟨v,hr,hback _ _ _ (iK.congr hK l _ _ _ _ h (ids _) (hc _ _) y)⟩
      ·rename_i hl;rw [if_neg hl]
       exact r.mono fun v h' y=>⟨y.1,hback _ _ _ (iK.congr hK l _ _ _ _ h' (ids _) (hc _ _) y.2)⟩
     ·rename_i hmi;rw [if_neg hmi]
      obtain ⟨v,hs,y⟩:=r
      exact ⟨v,hs,hback _ _ _ (iK.congr hK l _ _ _ _ h (ids _) (hc _ _) y)⟩
  cases cx with
  |false =>
   refine key _ r fun u h' pr' y=>?_
   rw [iK];unfold OpL;simp only [hx,hwx' u];exact y
  |true =>
   simp only at r
   by_cases hmx:ms.contains x = true
   ·rw [if_pos hmx] at r
    simp only [aUJ,hmx,Bool.not_true,Bool.false_or,Bool.and_eq_true,Bool.or_eq_true,Bool.not_eq_true'] at hm
    obtain ⟨hlx,hm⟩:=hm
    rw [if_pos hlx] at r
    rcases r with ⟨n,v,hr,r⟩ | ⟨v,hs,r⟩
    case inr =>
     refine key v r fun u h' pr' y=>?_
     rw [iK];unfold OpL;simp only [hx,hwx' u,hmx,hlx,if_true]
     exact .inr ⟨v,by rw [mP (ex u)];exact hs,y⟩

    have back:∀ (u:aC) (h':aA) (pr':List (Nat × Nat)),h' n = h n→iK P ops ms cr l ((x,n) :: pr') (fJ (fJ τ oi.dst u) ox.dst v) h' K→iK P ops ms cr (.op x l) pr' (fJ τ oi.dst u) h' K:=by
     intro u h' pr' e y
     rw [iK];unfold OpL;simp only [hx,hwx' u,hmx,hlx,if_true]
     exact .inl ⟨n,v,fun h'' e'=>by rw [mP (ex u)];exact hr h'' (e'.trans e),y⟩
    unfold iK OpL at r
    rw [iK];unfold OpL
    simp only [hi] at r ⊢
    rw [s4 (ei v),mP (ei v)] at r
    cases hwi:want ops τ oi with
    |none=>simp [hwi] at r
    |some ci =>
     simp only [hwi] at r ⊢
     cases ci with
     |false=>exact back _ _ _ rfl (iK.congr hK l _ _ _ _ h (ids _) (hc _ _) r)
     |true =>
      simp only at r ⊢
      split at r
      ·rename_i hmi;rw [if_pos hmi]
       split at r
       ·rename_i hl;rw [if_pos hl]
        rcases r with ⟨m,u,hri,y⟩ | ⟨u,hri,y⟩
        ·exact .inl ⟨m,u,hri,back _ _ _ rfl (iK.congr hK l _ _ _ _ h (sw _ _) (hc _ _) y)⟩
        ·exact .inr ⟨u,hri,back _ _ _ rfl (iK.congr hK l _ _ _ _ h (ids _) (hc _ _) y)⟩
       ·rename_i hl;rw [if_neg hl]
        refine r.mono fun u h' y=>⟨y.1.sub fun p hp=>.inl (List.mem_cons_of_mem _ hp),?_⟩
        have hcx:uK cr x i = true:=by
         rcases hm with (h1 | h1) | h1
         ·exact h1
         ·exact absurd h1 hl
         ·rw [hmi] at h1;cases h1
        exact back _ _ _ (y.1 (x,n) List.mem_cons_self hcx) (iK.congr hK l _ _ _ _ h' (ids _) (hc _ _) y.2)
      ·rename_i hmi;rw [if_neg hmi]
       obtain ⟨u,hs,y⟩:=r
       exact ⟨u,hs,back _ _ _ rfl (iK.congr hK l _ _ _ _ h (ids _) (hc _ _) y)⟩
   ·rw [if_neg hmx] at r
    obtain ⟨v,hs,r⟩:=r
    refine key v r fun u h' pr' y=>?_
    rw [iK];unfold OpL;simp only [hx,hwx' u]
    rw [if_neg hmx]
    exact ⟨v,by rw [mP (ex u)];exact hs,y⟩
def blk:List Oper→Nat→List Nat→List Nat
 | [],_,B=>B
 |o :: l,j,B=>blk l (j + 1) (if o.after.toList.any (fun e=>Region.binds .any e && B.contains e.on) then j :: B else B)
theorem aP5:∀ (l:List Oper) (j:Nat) (B:List Nat) (b:Nat),b∈B→b∈blk l j B
 | [],_,_,_,h=>h
 |o :: l,j,B,b,h=>by
  unfold blk
  refine aP5 l (j + 1) _ b ?_
  split
  ·exact List.mem_cons_of_mem _ h
  ·exact h
theorem aP6:∀ (l:List Oper) (j:Nat) (B:List Nat) (b:Nat),b∈blk l j B→b∈B∨∃ o e,j≤b∧l[b - j]? = some o∧e∈o.after.toList∧Region.binds .any e = true∧e.on∈blk l j B
 | [],_,_,_,h=>.inl h
 |o :: l,j,B,b,h=>by
  unfold blk at h
  rcases aP6 l (j + 1) _ b h with h1 | ⟨o',e,h1,h2,h3,h4,h5⟩
  ·split at h1
   ·rename_i hany
    rcases List.mem_cons.1 h1 with rfl | h1
    ·right
     obtain ⟨e,he,hb⟩:=List.any_eq_true.1 hany
     simp only [Bool.and_eq_true,List.contains_iff_mem] at hb
     exact ⟨o,e,Nat.le_refl _,by simp,he,hb.1,aP5 _ _ _ _ hb.2⟩
    ·exact .inl h1
   ·exact .inl h1
  ·refine .inr ⟨o',e,by omega,?_,h3,h4,?_⟩
   ·rw [show b - j = (b - (j + 1)) + 1 by omega];simpa using h2
   ·unfold blk;exact h5
def pB (ops:Array Oper) (ms:List Nat) (cr:List (Nat × Nat)):pA→List Nat→Bool
 | .nil,U=>U.isEmpty
 | .op x p,U=>U.contains x && (let B:=blk ops.toList 0 [x]
   (U.erase x).all fun i=>B.contains i || (match ops[x]?,ops[i]? with | some ox,some oi=>aUJ ms cr x i ox oi && aDM ops ox oi | _,_=>false)) && pB ops ms cr p (U.erase x)
 | .alt x p y q,U=>U.contains x && U.contains y && (let B:=blk ops.toList 0 [x]
   let C:=blk ops.toList 0 [y]
   U.all fun i=>i == x || i == y || B.contains i || C.contains i) && pB ops ms cr p (U.erase x) && pB ops ms cr q (U.erase y)
def a3P (ops:Array Oper) (ms:List Nat) (p:pA) (cr:List (Nat × Nat)):Bool :=
 pB ops ms cr p (List.range ops.size) &&
 (List.range ops.size).all fun i=>match ops[i]? with | some o=>o.after.toList.all fun e=>!Region.binds .any e || decide (e.on < i) | none=>true
def aH3 (ops:Array Oper) (L:Nat→Prop):Prop:=∀ (j:Nat) (o:Oper),ops[j]? = some o→L j→∀ e∈o.after.toList,Region.binds .any e = true→L e.on
theorem aDN {ops:Array Oper} {L:Nat→Prop} (hc:aH3 ops L) {x:Nat} (hx:¬ L x):∀ (l:List Oper) (j:Nat) (B:List Nat),(∀ k o,l[k]? = some o→ops[j + k]? = some o)→(∀ b∈B,¬ L b)→∀ b∈blk l j B,¬ L b
 | [],_,_,_,hB,b,h=>hB b h
 |o :: l,j,B,hl,hB,b,h=>by
  unfold blk at h
  refine aDN hc hx l (j + 1) _ (fun k o hk=>by have:=hl (k + 1) o (by simpa using hk);rwa [show j + 1 + k = j + (k + 1) by omega]) ?_ b h
  intro b' hb'
  split at hb'
  ·rename_i hany
   rcases List.mem_cons.1 hb' with rfl | hb'
   ·intro hL
    obtain ⟨e,he,hb⟩:=List.any_eq_true.1 hany
    simp only [Bool.and_eq_true,List.contains_iff_mem] at hb
    exact hB _ hb.2 (hc b' o (by simpa using hl 0 o rfl) hL e he hb.1)
   ·exact hB b' hb'
  ·exact hB b' hb'
theorem aSO {ops:Array Oper} {L:Nat→Prop} (hc:aH3 ops L) {x i:Nat} (hx:¬ L x) (hne:i≠x) {oi:Oper} (hi:ops[i]? = some oi) (hr:∀ e∈oi.after.toList,Region.binds .any e = true→L e.on):(blk ops.toList 0 [x]).contains i = false:=by
 cases hb:(blk ops.toList 0 [x]).contains i with
 |false=>rfl
 |true =>
  exfalso
  rw [List.contains_iff_mem] at hb
  have hlist:=aDN hc hx ops.toList 0 [x] (fun k o hk=>by simpa using hk) (by simpa using hx)
  rcases aP6 _ _ _ _ hb with h1 | ⟨o,e,_,h2,h3,h4,h5⟩
  ·exact hne (by simpa using h1)
  ·have:o = oi:=by
    simp only [Nat.sub_zero,Array.getElem?_toList] at h2
    rw [hi] at h2;exact (Option.some.inj h2).symm
   subst this
   exact hlist _ h5 (hr e h3 h4)
inductive aDO (ops:Array Oper) (ms:List Nat) (cr:List (Nat × Nat)) (i:Nat) (oi:Oper):pA→pA→Prop where
 |here (p:pA):aDO ops ms cr i oi (.op i p) p
 |skip {x:Nat} {ox:Oper} {p p':pA} (hox:ops[x]? = some ox) (hm:aUJ ms cr x i ox oi = true) (hap:aDM ops ox oi = true) (f:aDO ops ms cr i oi p p'):aDO ops ms cr i oi (.op x p) (.op x p')
 |left (p:pA) (j:Nat) (q:pA):aDO ops ms cr i oi (.alt i p j q) p
 |right (j:Nat) (p q:pA):aDO ops ms cr i oi (.alt j p i q) q
theorem iK.front {P:Program} {ops:Array Oper} {ms:List Nat} {cr:List (Nat × Nat)} {K:bE→aA→Prop} (hK:∀ τ τ' h,TEq τ τ'→K τ h→K τ' h) {i:Nat} {oi:Oper} (hi:ops[i]? = some oi) {p p':pA} (f:aDO ops ms cr i oi p p') :
  ∀ (pr:List (Nat × Nat)) (τ:bE) (h:aA),iK P ops ms cr p pr τ h K→iK P ops ms cr (.op i p') pr τ h K:=by
 induction f with
 |here p=>intro pr τ h r;exact r
 |left p j q=>intro pr τ h r;exact r.1
 |right j p q=>intro pr τ h r;exact r.2
 | @skip x ox p p' hox hm hap f ih =>
  intro pr τ h r
  refine iK.swap hK hox hi hm hap ?_
  rw [iK] at r ⊢
  unfold OpL at r ⊢
  simp only [hox] at r ⊢
  cases hw:want ops τ ox with
  |none=>simp [hw] at r
  |some c =>
   simp only [hw] at r ⊢
   cases c with
   |false=>exact ih _ _ h r
   |true =>
    simp only at r ⊢
    by_cases hmx:ms.contains x = true
    ·rw [if_pos hmx] at r ⊢
     have hlx:aNX ox = true:=by
      simp only [aUJ,hmx,Bool.not_true,Bool.false_or,Bool.and_eq_true] at hm
      exact hm.1
     rw [if_pos hlx] at r ⊢
     rcases r with ⟨n,v,hs,r⟩ | ⟨v,hs,r⟩
     ·exact .inl ⟨n,v,hs,ih _ _ h r⟩
     ·exact .inr ⟨v,hs,ih _ _ h r⟩
    ·rw [if_neg hmx] at r ⊢
     obtain ⟨v,hs,r⟩:=r;exact ⟨v,hs,ih _ _ h r⟩
theorem aKQ {ops:Array Oper} {ms:List Nat} {cr:List (Nat × Nat)} {i:Nat} {oi:Oper} (hoi:ops[i]? = some oi):∀ (p:pA) (U:List Nat),pB ops ms cr p U = true→U.Nodup→i∈U →
  (∀ x∈U,x≠i→(blk ops.toList 0 [x]).contains i = false)→∃ p',aDO ops ms cr i oi p p'∧pB ops ms cr p' (U.erase i) = true
 | .nil,U,hv,_,hi,_=>by
  simp only [pB,List.isEmpty_iff] at hv
  subst hv;cases hi
 | .op x p,U,hv,hnd,hi,hb=>by
  simp only [pB,Bool.and_eq_true,List.all_eq_true] at hv
  obtain ⟨⟨hx,hall⟩,hp⟩:=hv
  by_cases e:x = i
  ·subst e;exact ⟨p,.here p,hp⟩
  ·have hie:i∈U.erase x:=(List.mem_erase_of_ne (Ne.symm e)).2 hi
   have h1:=hall i hie
   have hxU:x∈U:=by simpa using hx
   rw [hb x hxU e,Bool.false_or] at h1
   cases hox:ops[x]? with
   |none=>simp [hox] at h1
   |some ox =>
    simp only [hox,hoi,Bool.and_eq_true] at h1
    obtain ⟨p',f,hp'⟩:=aKQ hoi p (U.erase x) hp (hnd.erase x) hie fun y hy hne=>hb y (List.mem_of_mem_erase hy) hne
    refine ⟨.op x p',.skip hox h1.1 h1.2 f,?_⟩
    simp only [pB,Bool.and_eq_true,List.all_eq_true]
    refine ⟨⟨by simpa using (List.mem_erase_of_ne e).2 hxU,fun j hj=>hall j ?_⟩,?_⟩
    ·rw [List.erase_comm] at hj;exact List.mem_of_mem_erase hj
    ·rw [List.erase_comm];exact hp'
 | .alt x p y q,U,hv,hnd,hi,hb=>by
  simp only [pB,Bool.and_eq_true,List.all_eq_true,Bool.or_eq_true,beq_iff_eq] at hv
  obtain ⟨⟨⟨⟨hx,hy⟩,hall⟩,hp⟩,hq⟩:=hv
  by_cases e:x = i
  ·subst e;exact ⟨p,.left p y q,hp⟩
  ·by_cases e2:y = i
   ·subst e2;exact ⟨q,.right x p q,hq⟩
   ·exfalso
    rcases hall i hi with ((h1 | h1) | h1) | h1
    ·exact e h1.symm
    ·exact e2 h1.symm
    ·rw [hb x (by simpa using hx) e] at h1;cases h1
    ·rw [hb y (by simpa using hy) e2] at h1;cases h1
theorem aKR {P:Program} {N:Nat} {ops:Array Oper} {ms:List Nat} {cr:List (Nat × Nat)} {Q:Exit→bE→aA→Prop} (hN:xF N ops = true) (keep:List Nat) {E₀:Env} {h₀:aA} {w₀:World}
  (hback:∀ (i:Nat) (o:Oper),ops[i]? = some o→∀ e∈o.after.toList,Region.binds .any e = true→e.on < i) :
  ∀ (fuel:Nat) (listed:Array Bool) (p:pA) (l:List Nat),listed.size = ops.size→l.Nodup→(∀ i,i∈l ↔ listed[i]? = some false)→fuel = l.length →
   pB ops ms cr p l = true →
   aH3 ops (fun i=>listed[i]? = some true) →
   ∀ (pr:List (Nat × Nat)) (τ:bE) (h:aA),iK P ops ms cr p pr τ h (fun τ' h'=>Q .normal (Hl.prune keep τ') h')→∀ E w a,Ev E₀ h₀ w₀ E h w→Rel E h w→rM ds E h w N τ a →
   wpAny P .any ops (o8 ds N Q E₀ h₀ w₀) fuel listed a w
 |0,listed,p,l,hsz,hnd,hl,hf,hp,hcl,pr,τ,h,r,E,w,a,ev,R,rt=>by
  have:l = []:=List.length_eq_zero_iff.1 hf.symm
  subst this
  have:p = .nil:=by cases p <;> simp [pB] at hp ⊢
  subst this
  refine ⟨?_,⟨Hl.prune keep τ,h,E,r,ev,R,rt.prune keep⟩⟩
  unfold Region.ready
  rw [List.filter_eq_nil_iff]
  intro i hi hc
  simp only [List.mem_range] at hi
  simp only [Bool.and_eq_true,Bool.not_eq_true'] at hc
  have hlt:i < listed.size:=by omega
  have:listed[i]? = some false:=by
   rw [Array.getElem?_eq_getElem hlt]
   have:=hc.1
   simp only [Array.getD,hlt,dif_pos] at this
   rw [← this];rfl
  exact absurd ((hl i).2 this) (by simp)
 |fuel + 1,listed,p,l,hsz,hnd,hl,hf,hp,hcl,pr,τ,h,r,E,w,a,ev,R,rt=>by
  have hK:∀ τ τ' h,TEq τ τ'→Q .normal (Hl.prune keep τ) h→Q .normal (Hl.prune keep τ') h:=fun τ τ' h e q=>by
   have:Hl.prune keep τ = Hl.prune keep τ':=by unfold Hl.prune;exact List.map_congr_left fun k _=>by rw [e k]
   rwa [← this]
  have hready:∀ i,i∈Region.ready .any ops listed→i∈l∧∃ o,ops[i]? = some o∧∀ e∈o.after.toList,Region.binds .any e = true→listed[e.on]? = some true:=by
   intro i hi
   unfold Region.ready at hi
   rw [List.mem_filter] at hi
   obtain ⟨hi,hc⟩:=hi
   simp only [List.mem_range] at hi
   simp only [Bool.and_eq_true,Bool.not_eq_true'] at hc
   have hlt:i < listed.size:=by omega
   have hlf:listed[i]? = some false:=by
    rw [Array.getElem?_eq_getElem hlt]
    have:=hc.1
    simp only [Array.getD,hlt,dif_pos] at this
    rw [← this];rfl
   refine ⟨(hl i).2 hlf,ops[i],Array.getElem?_eq_getElem hi,fun e he hb=>?_⟩
   have h2:=hc.2
   simp only [Array.getElem?_eq_getElem hi,Option.map_some,Option.getD_some] at h2
   rw [Array.all_eq_true_iff_forall_mem] at h2
   have:=h2 e (by simpa using he)
   simp only [hb,Bool.not_true,Bool.false_or] at this
   by_cases hel:e.on < listed.size
   ·simp only [Array.getD,hel,dif_pos] at this
    rw [Array.getElem?_eq_getElem hel,← this];rfl
   ·simp [Array.getD,hel] at this
  refine ⟨fun hnil=>?_,fun i hi=>?_⟩
  ·
   exfalso
   have hne:l≠[]:=by intro e;simp [e] at hf

   have:∃ m∈l,∀ j∈l,m≤j:=by
    obtain ⟨x,hx⟩:=List.exists_mem_of_ne_nil l hne
    have key:∀ n,∀ x∈l,x≤n→∃ m∈l,∀ j∈l,m≤j:=by
     intro n
     induction n with
     |zero=>intro x hx hn;exact ⟨x,hx,fun j _=>by omega⟩
     |succ n ih =>
      intro x hx hn
      by_cases hall:∀ j∈l,x≤j
      ·exact ⟨x,hx,hall⟩
      ·have:∃ j∈l,j < x:=by
        apply Classical.byContradiction
        intro hcon
        exact hall fun j hj=>by
         apply Classical.byContradiction
         intro hlt
         exact hcon ⟨j,hj,by omega⟩
       obtain ⟨j,hj,hlt⟩:=this
       exact ih j hj (by omega)
    exact key x x hx (Nat.le_refl _)
   obtain ⟨m,hm,hmin⟩:=this
   have hmf:=(hl m).1 hm
   have hmlt:m < listed.size:=(Array.getElem?_eq_some_iff.1 hmf).1
   have hmo:m < ops.size:=by omega
   have hmem:m∈Region.ready .any ops listed:=by
    unfold Region.ready
    rw [List.mem_filter]
    refine ⟨by simpa using hmo,?_⟩
    simp only [Bool.and_eq_true,Bool.not_eq_true']
    refine ⟨?_,?_⟩
    ·simp only [Array.getD,hmlt,dif_pos]
     have:=(Array.getElem?_eq_some_iff.1 hmf).2
     exact this
    ·simp only [Array.getElem?_eq_getElem hmo,Option.map_some,Option.getD_some]
     rw [Array.all_eq_true_iff_forall_mem]
     intro e he
     cases hb:Region.binds .any e with
     |false=>rfl
     |true =>
      simp only [Bool.not_true,Bool.false_or]
      have hlt:=hback m _ (Array.getElem?_eq_getElem hmo) e (by simpa using he) hb
      have hel:e.on < listed.size:=by omega
      simp only [Array.getD,hel,dif_pos]
      cases hv:listed[e.on] with
      |true=>exact hv
      |false =>
       have:=hmin e.on ((hl e.on).2 (by rw [Array.getElem?_eq_getElem hel,hv]))
       omega
   rw [hnil] at hmem
   simp at hmem
  ·obtain ⟨hil,o,ho,hedges⟩:=hready i hi
   obtain ⟨p',hfr,hp'⟩:=aKQ ho p l hp hnd hil fun x hx hne=>aSO hcl (x:=x) (i:=i) (by simp [(hl x).1 hx]) (Ne.symm hne) ho hedges
   have hfront:=iK.front hK ho hfr pr τ h r
   unfold wpOp
   simp only [ho]
   have hdst:∀ k,o.dst = some k→k < N:=fun k hk=>s3 hN i o k ho hk
   have hil':listed[i]? = some false:=(hl i).1 hil
   have hilt:i < listed.size:=(Array.getElem?_eq_some_iff.1 hil').1
   have hrest:∀ (pr':List (Nat × Nat)) (τ':bE) (h':aA),iK P ops ms cr p' pr' τ' h' (fun τ' h'=>Q .normal (Hl.prune keep τ') h')→∀ E' w' a',Ev E₀ h₀ w₀ E' h' w'→Rel E' h' w'→rM ds E' h' w' N τ' a' →
     wpAny P .any ops (o8 ds N Q E₀ h₀ w₀) fuel (listed.setIfInBounds i true) a' w':=by
    intro pr' τ' h' r' E' w' a' ev' R' rt'
    refine aKR hN keep hback fuel _ p' (l.erase i) (by simpa using hsz) (hnd.erase i) ?_ (by rw [List.length_erase_of_mem hil];omega) hp' ?_ pr' τ' h' r' E' w' a' ev' R' rt'
    ·intro j
     rw [hnd.mem_erase_iff]
     by_cases e:j = i
     ·subst e
      simp [hilt]
     ·rw [Array.getElem?_setIfInBounds_ne (Ne.symm e),← hl j]
      simp [e]
    ·intro j oj hoj hL e he hb
     by_cases ej:j = i
     ·subst ej
      rw [ho] at hoj
      obtain rfl:=Option.some.inj hoj
      have:=hedges e he hb
      by_cases e2:e.on = j
      ·rw [e2] at this;rw [this] at hil';simp at hil'
      ·rw [Array.getElem?_setIfInBounds_ne (Ne.symm e2)];exact this
     ·rw [Array.getElem?_setIfInBounds_ne (Ne.symm ej)] at hL
      have:=hcl j oj hoj hL e he hb
      by_cases e2:e.on = i
      ·rw [e2] at this;rw [this] at hil';simp at hil'
      ·rw [Array.getElem?_setIfInBounds_ne (Ne.symm e2)];exact this
   rw [iK] at hfront
   unfold OpL at hfront
   simp only [ho] at hfront
   have hmask:∀ x,eC E h w (pH ops o τ x) (a.eval x):=fun x=>by
    cases x with
    |tmp t =>
     simp only [pH]
     split
     ·exact rt.get t
     ·exact .any _
    |const v=>exact rt.hev (.const v)
    |global g=>exact rt.hev (.global g)
    |func f=>exact rt.hev (.func f)
   cases hw:want ops τ o with
   |none=>simp [hw] at hfront
   |some c =>
    simp only [hw] at hfront
    have hwant:=xE rt hw (s3 hN)
    rw [hwant]
    cases c with
    |false =>
     rw [if_neg (by simp)]
     exact hrest _ _ h hfront E w _ ev R (rt.put o.dst hdst (eC.gW [] [] rfl (by simp)))
    |true =>
     rw [if_pos rfl]
     left
     simp only at hfront
     split at hfront
     ·split at hfront
      ·rcases hfront with ⟨n,v,hs,hfront⟩ | ⟨v,hs,hfront⟩
       ·refine rT.wp ((hs h rfl E w _ R hmask).mono ?_)
        rintro c w' ⟨x,h',E',⟨rfl,rfl⟩,ev',R',rx⟩
        exact hrest _ _ _ hfront E' w' _ (ev.trans ev') R' ((rt.ev ev').put o.dst hdst rx)
       ·refine rT.wp ((hs h E w _ R hmask).mono ?_)
        rintro c w' ⟨x,h',E',⟨rfl,rfl⟩,ev',R',rx⟩
        exact hrest _ _ _ hfront E' w' _ (ev.trans ev') R' ((rt.ev ev').put o.dst hdst rx)
      ·refine rT.wp ((hfront E w _ R hmask).mono ?_)
       rintro v w' ⟨x,h',E',k,ev',R',rx⟩
       exact hrest _ _ h' k.2 E' w' _ (ev.trans ev') R' ((rt.ev ev').put o.dst hdst rx)
     ·obtain ⟨v,hs,hfront⟩:=hfront
      refine rT.wp ((hs h E w _ R hmask).mono ?_)
      rintro c w' ⟨x,h',E',⟨rfl,rfl⟩,ev',R',rx⟩
      exact hrest _ _ _ hfront E' w' _ (ev.trans ev') R' ((rt.ev ev').put o.dst hdst rx)
theorem mM.aKS {P:Program} {N id:Nat} {ops:Array Oper} {ms:List Nat} {ord:pA} {cr:List (Nat × Nat)} {Q:Exit→bE→aA→Prop} {τ:bE} {h:aA} (hmix:P.follows .mixedOrders = true) (hN:xF N ops = true) (hord:a3P ops ms ord cr = true) (keep:List Nat)
  (hr:iK P ops ms cr ord [] τ h fun τ' h'=>Q .normal (Hl.prune keep τ') h'):mM P N (.region id ops true) Q τ h:=by
 intro ds E w a R r
 simp only [a3P,Bool.and_eq_true] at hord
 obtain ⟨h1,h5⟩:=hord
 rw [List.all_eq_true] at h5
 refine wp_region_any hmix ?_
 have ev:Ev E h w E h { w with drawn:=w.drawn + 1 }:=⟨Nat.le_refl _,fun _ hb=>⟨rfl,hb⟩,fun _ _=>rfl,fun _ hn=>⟨rfl,hn⟩,rfl,rfl⟩
 have R':Rel E h { w with drawn:=w.drawn + 1 }:=⟨R.fin,R.dom,R.lt,R.apart,fun n o hn=>(R.obj n o hn).ev ev rfl rfl fun _ _ _=>rfl,R.laid.ev ev⟩
 refine aKR hN keep ?_ ops.size _ ord (List.range ops.size) (by simp) List.nodup_range ?_ (by simp) h1 ?_ [] τ h hr E _ a ev R' (r.ev ev)
 ·intro i o ho e he hb
  have:=h5 i (by simp;exact (Array.getElem?_eq_some_iff.1 ho).1)
  simp only [ho,List.all_eq_true] at this
  have:=this e he
  simpa [hb] using this
 ·intro i
  rw [List.mem_range]
  constructor
  ·intro hi;simp [hi]
  ·intro hi;have:=(Array.getElem?_eq_some_iff.1 hi).1;simpa using this
 ·intro j o ho hL
  rw [Array.getElem?_replicate] at hL
  split at hL <;> simp at hL
def Det (F:(aC→Prop)→Prop):Prop:=∀ K,F K→∃ v,K v∧∀ K':aC→Prop,K' v→F K'
theorem mV (v:aC):Det fun K=>K v:=fun K hk=>⟨v,hk,fun _ h=>h⟩
theorem aYN {c:Prop} {F:(aC→Prop)→Prop} (h:c→Det F):Det fun K=>c∧F K:=fun K ⟨hc,hk⟩=>let ⟨v,h1,h2⟩:=h hc K hk;⟨v,h1,fun K' h'=>⟨hc,h2 K' h'⟩⟩
theorem aYO (P:Program) (op:BinOp) (t:TypeId) (x y:aC):Det (fK P op t x y):=by
 intro K hk
 unfold fK at hk ⊢
 split at hk
 ·obtain ⟨hd,hk⟩:=hk
  split at hk
  ·exact ⟨_,hk,fun K' h=>⟨hd,h⟩⟩
  ·exact ⟨_,hk,fun K' h=>⟨hd,h⟩⟩
  ·exact hk.elim
 ·split at hk
  ·exact ⟨_,hk.2.2,fun K' h=>⟨hk.1,hk.2.1,h⟩⟩
  ·exact ⟨_,hk.2.2,fun K' h=>⟨hk.1,hk.2.1,h⟩⟩
  ·exact ⟨_,hk.2,fun K' h=>⟨hk.1,h⟩⟩
  ·exact ⟨_,hk.2,fun K' h=>⟨hk.1,h⟩⟩
  ·split at hk
   ·rename_i v hv;exact ⟨v,hk,fun K' h=>by first | exact h | (simp only [hv];exact h)⟩
   ·exact hk.elim
 ·split at hk
  ·exact ⟨_,hk.2,fun K' h=>⟨hk.1,h⟩⟩
  ·exact ⟨_,hk,fun K' h=>h⟩
  ·exact ⟨_,hk,fun K' h=>h⟩
  ·split at hk
   ·rename_i v hv;exact ⟨_,hk,fun K' h=>by first | exact h | (simp only [hv];exact h)⟩
   ·exact hk.elim
 ·split at hk
  ·rename_i v hv;exact ⟨v,hk,fun K' h=>by first | exact h | (simp only [hv];exact h)⟩
  ·exact hk.elim
theorem aSP {P:Program} {op:BinOp} {t:TypeId} {x y:aC} {K:aC→Prop} (h:fK P op t x y K):rY P op t x y K:=by
 unfold rY
 split
 ·simp [fK,lF] at h
 ·simp [fK,lF] at h
 ·simp [fK,lF] at h
 ·exact h
theorem aSQ {P:Program} {op:BinOp} {t:TypeId} {c:Bool} {x y:aC} {K:aC→Prop} (h:fK P op t x y K):rZ P op t c x y K:=by
 unfold rZ
 split
 ·simp [fK,lF] at h
 ·simp [fK,lF] at h
 ·exact aSP h
theorem a3Q (op:UnOp) (x:aC):Det (aAC op x):=by
 intro K hk
 unfold aAC at hk ⊢
 split at hk
 ·exact ⟨_,hk,fun K' h=>h⟩
 ·exact ⟨_,hk,fun K' h=>h⟩
 ·exact hk.elim
theorem aUK (P:Program) (s d:TypeId) (x:aC):Det (u9 P s d x):=by
 intro K hk
 unfold u9 at hk ⊢
 split at hk
 ·rename_i hd;exact ⟨_,hk.2,fun K' h=>by first | exact ⟨hk.1,h⟩ | (simp only [hd];exact ⟨hk.1,h⟩)⟩
 ·rename_i hd
  split at hk
  ·rename_i h1
   obtain ⟨h2,hk⟩:=hk
   split at hk
   ·rename_i h3
    exact ⟨_,hk,fun K' h=>by exact ⟨h2,h⟩⟩
   ·exact hk.elim
  ·exact hk.elim
 ·exact hk.elim
theorem a3R (d:Option TyD) (f:Nat) (x:aC):Det (aAD d f x):=by
 intro K hk
 unfold aAD at hk ⊢
 split at hk
 ·split at hk
  ·rename_i hf
   obtain ⟨h1,hk⟩:=hk
   split at hk
   ·exact ⟨_,hk,fun K' h=>by first | exact ⟨h1,h⟩ | (simp only [hf];exact ⟨h1,h⟩)⟩
   ·exact ⟨_,hk,fun K' h=>by first | exact ⟨h1,h⟩ | (simp only [hf];exact ⟨h1,h⟩)⟩
   ·exact hk.elim
  ·exact hk.elim
 ·exact hk.elim
theorem a3S (re:Option jU) (x i:aC):Det (aAE re x i):=by
 intro K hk
 unfold aAE at hk ⊢
 split at hk
 ·split at hk
  ·exact ⟨_,hk.2.2.2,fun K' h=>⟨hk.1,hk.2.1,hk.2.2.1,h⟩⟩
  ·exact ⟨_,hk.2.2.2,fun K' h=>⟨hk.1,hk.2.1,hk.2.2.1,h⟩⟩
  ·exact hk.elim
 ·exact hk.elim
theorem a3T (d:Option TyD) (x i:aC):Det (xD d x i):=by
 intro K hk
 unfold xD at hk ⊢
 split at hk
 ·obtain ⟨h1,hk⟩:=hk
  split at hk
  ·rename_i c hc;exact ⟨_,hk,fun K' h=>by first | exact ⟨h1,h⟩ | (simp only [hc];exact ⟨h1,h⟩)⟩
  ·exact hk.elim
 ·exact hk.elim
theorem aUL (r:Option jU) (sz i off:Nat) (es:List (List aC)) (h:aA):Det (iJ r (.ip sz es i off) h):=by
 intro K hk
 unfold iJ at hk ⊢
 split at hk
 ·simp only at hk ⊢
  split at hk
  ·rename_i he
   split at hk
   ·rename_i x hx;exact ⟨x,hk,fun K' h=>by first | exact h | (simp only [he,hx];exact h)⟩
   ·exact hk.elim
  ·exact hk.elim
 ·exact hk.elim
theorem aP7 (r:Option jU) (sz i off:Nat) (es:List (List aC)) (h h':aA) (K:aC→Prop):iJ r (.ip sz es i off) h K = iJ r (.ip sz es i off) h' K:=by
 unfold iJ;rfl
theorem aKU {P:Program} {t:TypeId} {x:aC} {lo hi:Option aC} {K:aC→Prop} (h:k9 P t x lo hi K):nX P t x lo hi K:=by
 unfold nX
 split
 ·simp only [k9] at h
  split at h
  ·rename_i re hre
   obtain ⟨h1,h⟩:=h
   split at h
   ·rename_i l m hl hm
    obtain rfl:_ = m:=Option.some.inj hm
    obtain ⟨a,b,c,d⟩:=h
    try rw [hre]
    simp only [hl]
    exact ⟨h1,a,Int.le_of_lt b,fun _=>by simpa using d,fun q=>absurd b (by omega)⟩
   ·exact h.elim
  ·exact h.elim
 ·exact h
theorem aSR (P:Program) (t:TypeId) (x:aC) (lo hi:Option aC):Det (k9 P t x lo hi):=by
 intro K hk
 unfold k9 at hk ⊢
 split at hk
 ·obtain ⟨h1,hk⟩:=hk
  split at hk
  ·rename_i e1 e2;exact ⟨_,hk.2.2.2,fun K' h=>by first | exact ⟨h1,hk.1,hk.2.1,hk.2.2.1,h⟩ | (simp only [e1,e2];exact ⟨h1,hk.1,hk.2.1,hk.2.2.1,h⟩)⟩
  ·exact hk.elim
 ·split at hk
  ·rename_i e0
   obtain ⟨h1,hk⟩:=hk
   split at hk
   ·rename_i e1 e2;exact ⟨_,hk.2.2.2,fun K' h=>by first | exact ⟨h1,hk.1,hk.2.1,hk.2.2.1,h⟩ | (simp only [e0,e1,e2];exact ⟨h1,hk.1,hk.2.1,hk.2.2.1,h⟩)⟩
   ·exact hk.elim
  ·exact hk.elim
 ·split at hk
  ·rename_i e0
   obtain ⟨h1,hk⟩:=hk
   split at hk
   ·rename_i e1 e2;exact ⟨_,hk.2.2.2,fun K' h=>by first | exact ⟨h1,hk.1,hk.2.1,hk.2.2.1,h⟩ | (simp only [e0,e1,e2];exact ⟨h1,hk.1,hk.2.1,hk.2.2.1,h⟩)⟩
   ·exact hk.elim
  ·exact hk.elim
 ·exact hk.elim
theorem aNY (P:Program) (t:TypeId) (x:aC) (lo:Option aC) (hi mx:aC):Det (mO P t x lo hi mx):=by
 intro K hk
 unfold mO at hk ⊢
 split at hk
 ·split at hk
  ·rename_i e0
   obtain ⟨h1,hk⟩:=hk
   split at hk
   ·rename_i e1 e2 e3
    obtain ⟨a,b,c,d,hk⟩:=hk
    exact ⟨_,hk,fun K' h=>by exact ⟨h1,a,b,c,d,h⟩⟩
   ·exact hk.elim
  ·exact hk.elim
 ·exact hk.elim
theorem aSS (P:Program) (r:Option jU) (ps:List (Nat × aC)):Det (pP P r ps):=by
 intro K hk
 unfold pP at hk ⊢
 split at hk
 ·exact ⟨_,hk.2.2.2,fun K' h=>⟨hk.1,hk.2.1,hk.2.2.1,h⟩⟩
 ·exact hk.elim
theorem a3U (re:Option jU) (len:Nat) (ps:List (Nat × aC)):Det fun K=>p2 re len ps fun sz es=>K (.sl sz es true):=by
 intro K hk
 unfold p2 at hk
 split at hk
 ·exact ⟨_,hk.2.2.2.2.2,fun K' h=>by unfold p2;exact ⟨hk.1,hk.2.1,hk.2.2.1,hk.2.2.2.1,hk.2.2.2.2.1,h⟩⟩
 ·exact hk.elim
def aKV (P:Program) (t:Option TypeId) (x:aC) (K:aC→Prop):Prop :=
 match t with
 |some t=>match uF P t,x with
  |some (.slice _),.sl _ es _=>K (.int .i64 es.length)
  |some (.slice _),.os _ _ _ n=>K (.int .i64 n)
  |some (.slice _),.bO=>K (.int .i64 0)
  |some .str,.str s=>K (.int .i64 s.length)
  | _,_=>False
 |none=>False
def aKW (P:Program) (g:FuncId) (args:List aC) (K:aC→Prop):Prop:=∃ r,dI P g args r∧K r
theorem aKW.mk {P:Program} {g:FuncId} {args:List aC} {r:aC} {K:aC→Prop} (a:dI P g args r) (k:K r):aKW P g args K:=⟨r,a,k⟩
def aBF (P:Program) (o:Oper) (ρ:Operand→aC) (K:aC→Prop):Prop :=
 match o.op with
 | .move x=>K (ρ x)
 | .assign x=>K (ρ x)
 | .pick c a b=>match ρ c with
  | .bool t=>(t = true→K (ρ a))∧(t = false→K (ρ b))
  | _=>False
 | .binOp op t x y _=>fK P op t (ρ x) (ρ y) K
 | .unOp op _ x=>aAC op (ρ x) K
 | .convert s d x=>u9 P s d (ρ x) K
 | .fieldAddr t x f=>aAD (uF P t) f (ρ x) K
 | .indexAddr t x i=>aAE (j3 P t) (ρ x) (ρ i) K
 | .index t x i=>xD (uF P t) (ρ x) (ρ i) K
 | .load t a=>match ρ a with
  | .ip sz es i off=>iJ (gL P t) (.ip sz es i off) (fun _=>none) K
  | _=>False
 | .slice t x lo hi none=>k9 P t (ρ x) (lo.map ρ) (hi.map ρ) K
 | .extract t i=>match ρ t with
  | .gW cs=>match cs[i]? with | some x=>K x | none=>False
  | _=>False
 | .nilCheck x=>match ρ x with
  | .op n sz i k=>K (.op n sz i k)
  | .ip sz es i k=>K (.ip sz es i k)
  | _=>False
 | .makeFunc fn fs cs=>K (.fn fn (fs.toList.map ρ) (cs.toList.map ρ))
 | .build t ps=>pP P (gL P t) (ps.toList.map fun p=>(p.1,ρ p.2)) K
 | .call { callee:=.value f,args:=as,argTypes:=_ }=>match ρ f with
  | .fn (.func g) first cap=>aKW P g (first ++ as.toList.map ρ ++ cap) K
  | _=>False
 | .call { callee:=.builtin .len,args:=as,argTypes:=ats }=>match as.toList with
  | [x]=>aKV P ats[0]? (ρ x) K
  | _=>False
 | .call { callee:=.builtin .max,args:=as,argTypes:=_ }=>match as.toList with
  | [x,y]=>match ρ x,ρ y with
   | .int k a,.int _ b=>(match ρ y with | .int k' _=>k' = k | _=>False)∧K (.int k (max a b))
   | _,_=>False
  | _=>False
 | .slice t x lo (some hi) (some mx)=>mO P t (ρ x) (lo.map ρ) (ρ hi) (ρ mx) K
 | _=>False
theorem jL {P:Program} {o:Oper} {ρ:Operand→aC} {F:(aC→Prop)→Prop} {K:aC→Prop} (hd:Det F) (hk:F K) (hs:∀ h K',F (fun v=>K' v h)→step P o ρ h K'):∃ v,p5 P o ρ v∧K v:=by
 obtain ⟨v,h1,h2⟩:=hd K hk
 exact ⟨v,fun h=>jV (hs h _ (h2 (fun v'=>v' = v∧h = h) ⟨rfl,rfl⟩)),h1⟩
theorem vB {P:Program} {o:Oper} {ρ:Operand→aC} {K:aC→Prop} (hs:aBF P o ρ K):∃ v,p5 P o ρ v∧K v:=by
 unfold aBF at hs
 split at hs
 case h_1 x ho=>exact jL (mV _) hs fun h K' f=>by unfold step;rw [ho];exact f
 case h_2 x ho=>exact jL (mV _) hs fun h K' f=>by unfold step;rw [ho];exact f
 case h_3 c a b ho =>
  split at hs
  ·rename_i t ht
   refine ⟨if t then ρ a else ρ b,fun h=>jV ?_,?_⟩
   ·unfold step;rw [ho];simp only [ht]
    cases t <;> simp
   ·cases t
    ·exact hs.2 rfl
    ·exact hs.1 rfl
  ·exact hs.elim
 case h_4 op t x y ty ho=>exact jL (aYO P op t _ _) hs fun h K' f=>by unfold step;rw [ho];exact aSQ f
 case h_5 op t x ho=>exact jL (a3Q op _) hs fun h K' f=>by unfold step;rw [ho];exact f
 case h_6 s d x ho=>exact jL (aUK P s d _) hs fun h K' f=>by unfold step;rw [ho];exact f
 case h_7 t x f ho=>exact jL (a3R _ f _) hs fun h K' f=>by unfold step;rw [ho];exact f
 case h_8 t x i ho=>exact jL (a3S _ _ _) hs fun h K' f=>by unfold step;rw [ho];exact f
 case h_9 t x i ho=>exact jL (a3T _ _ _) hs fun h K' f=>by unfold step;rw [ho];exact f
 case h_10 t a ho =>
  split at hs
  ·rename_i sz es i off ha
   refine jL (aUL _ sz i off es _) hs fun h K' f=>?_
   unfold step;rw [ho];simp only [ha];rw [aP7 _ _ _ _ _ h (fun _=>none)];exact f
  ·exact hs.elim
 case h_11 t x lo hi ho=>exact jL (aSR P t _ _ _) hs fun h K' f=>by unfold step;rw [ho];exact aKU f
 case h_12 t i ho =>
  split at hs
  ·rename_i cs ht
   split at hs
   ·rename_i x hx
    exact jL (mV _) hs fun h K' f=>by unfold step;rw [ho];simp only [ht,hx];exact f
   ·exact hs.elim
  ·exact hs.elim
 case h_13 x ho =>
  split at hs
  ·rename_i n sz i k hx;exact jL (mV _) hs fun h K' f=>by unfold step;rw [ho];simp only [hx];exact f
  ·rename_i sz es i k hx;exact jL (mV _) hs fun h K' f=>by unfold step;rw [ho];simp only [hx];exact f
  ·exact hs.elim
 case h_14 fn fs cs ho=>exact jL (mV _) hs fun h K' f=>by unfold step;rw [ho];exact f
 case h_15 t ps ho=>exact jL (aSS P _ _) hs fun h K' f=>by unfold step;rw [ho];exact f
 case h_16 f as ats ho =>
  split at hs
  ·rename_i g first cap hf
   obtain ⟨r,hr,hk⟩:=hs
   refine ⟨r,fun h=>jV ?_,hk⟩
   unfold step;rw [ho];simp only [u7,hf]
   exact hr h
  ·exact hs.elim
 case h_17 as ats ho =>
  split at hs
  ·rename_i x hax
   unfold aKV at hs
   split at hs
   ·rename_i t hat
    split at hs
    all_goals first
     |exact hs.elim
     |(rename_i e1 e2;refine jL (mV _) hs fun h K' f=>?_;unfold step;rw [ho];simp only [u7,hax,aH0,hat,e1,e2];first | exact fun _=>f | exact f)
   ·exact hs.elim
  ·exact hs.elim
 case h_18 as ats ho =>
  split at hs
  ·rename_i x y hax
   split at hs
   ·rename_i k a k' b hx hy
    refine ⟨_,fun h=>jV ?_,hs.2⟩
    unfold step;rw [ho];simp only [u7,hax,hx,hy]
    have:=hs.1;simp only [hy] at this;simp [this]
   ·exact hs.elim
  ·exact hs.elim
 case h_19 t x lo hi mx ho=>exact jL (aNY P t _ _ _ _) hs fun h K' f=>by unfold step;rw [ho];exact f
 case h_20=>exact hs.elim
def aAG (P:Program) (ib:List Nat) (o:Oper) (ρ:Operand→aC) (K:aC→Prop):Prop :=
 match o.dst with
 |some d=>if ib.contains d then (match o.op with
   | .box _ x=>aDG (ρ x) K
   | .buildSlice t len ps=>p2 (j3 P t) len (ps.toList.map fun p=>(p.1,ρ p.2)) fun sz es=>K (.sl sz es true)
   | _=>aBF P o ρ K) else aBF P o ρ K
 |none=>aBF P o ρ K
theorem aKX {P:Program} {ib:List Nat} {o:Oper} {ρ:Operand→aC} {F:(aC→Prop)→Prop} {K:aC→Prop} (hd:Det F) (hk:F K) (hs:∀ h K',F (fun v=>K' v h)→p3 P ib o ρ h K'):∃ v,p5 P o ρ v∧K v:=by
 obtain ⟨v,h1,h2⟩:=hd K hk
 exact ⟨v,fun h=>vA (hs h _ (h2 (fun v'=>v' = v∧h = h) ⟨rfl,rfl⟩)),h1⟩
theorem aH4 {P:Program} {ib:List Nat} {o:Oper} {ρ:Operand→aC} {K:aC→Prop} (hs:aAG P ib o ρ K):∃ v,p5 P o ρ v∧K v:=by
 unfold aAG at hs
 split at hs
 ·rename_i d hd
  split at hs
  ·rename_i hib
   split at hs
   ·rename_i t x ho
    exact aKX (ib:=ib) (aYN fun _=>mV _) hs fun h K' f=>by unfold p3;rw [hd];simp only [hib,if_true,ho];exact f
   ·rename_i t len ps ho
    exact aKX (ib:=ib) (a3U _ _ _) hs fun h K' f=>by unfold p3;rw [hd];simp only [hib,if_true,ho];exact f
   ·exact vB hs
  ·exact vB hs
 ·exact vB hs
def aKY (P:Program) (o:Oper) (ρ:Operand→aC) (h:aA) (K:Option Nat→aC→Prop):Prop :=
 match o.op with
 | .load t a=>match ρ a with
  | .op n sz i off=>iJ (gL P t) (.op n sz i off) h fun v=>K (some n) v
  | .ip sz es i off=>iJ (gL P t) (.ip sz es i off) h fun v=>K none v
  | _=>False
 | _=>False
theorem aYP (r:Option jU) (n sz i off:Nat) (h:aA):Det (iJ r (.op n sz i off) h):=by
 intro K hk
 unfold iJ at hk ⊢
 split at hk
 ·simp only at hk
  split at hk
  ·rename_i sz' es e0
   obtain ⟨h1,hk⟩:=hk
   split at hk
   ·rename_i e e1
    split at hk
    ·rename_i x e2
     exact ⟨x,hk,fun K' q=>by simp only [e0,e1,e2];exact ⟨h1,q⟩⟩
    ·exact hk.elim
   ·exact hk.elim
  ·exact hk.elim
 ·exact hk.elim
theorem aUM (r:Option jU) (n sz i off:Nat) (h h':aA) (e:h' n = h n) (K:aC→Prop):iJ r (.op n sz i off) h' K = iJ r (.op n sz i off) h K:=by
 unfold iJ;simp only [e]
theorem aKZ {P:Program} {o:Oper} {ρ:Operand→aC} {h:aA} {K:Option Nat→aC→Prop} (hs:aKY P o ρ h K):(∃ n v,aH2 P o ρ h n v∧K (some n) v)∨∃ v,p5 P o ρ v∧K none v:=by
 unfold aKY at hs
 split at hs
 ·rename_i t a ho
  split at hs
  ·rename_i n sz i off ha
   obtain ⟨v,h1,h2⟩:=aYP _ n sz i off h _ hs
   refine .inl ⟨n,v,fun h' e=>jV ?_,h1⟩
   unfold step;rw [ho];simp only [ha]
   rw [aUM _ _ _ _ _ h h' e]
   have:=h2 (fun v'=>v' = v∧h' = h') ⟨rfl,rfl⟩
   simpa using this
  ·rename_i sz es i off ha
   obtain ⟨v,h1,h2⟩:=aUL _ sz i off es h _ hs
   refine .inr ⟨v,fun h'=>jV ?_,h1⟩
   unfold step;rw [ho];simp only [ha]
   rw [aP7 _ _ _ _ _ h' h]
   have:=h2 (fun v'=>v' = v∧h' = h') ⟨rfl,rfl⟩
   simpa using this
  ·exact hs.elim
 ·exact hs.elim
def aK0 (cr:List (Nat × Nat)) (i:Nat):Option Nat→List (Nat × Nat)→List (Nat × Nat)
 |some n,pr=>if aUH cr i then (i,n) :: pr else pr
 |none,pr=>pr
def iT (cr:List (Nat × Nat)) (i:Nat):List (Nat × Nat)→aA→aA→Prop
 | [],_,_=>True
 |(x,n) :: pr,h,h'=>(if uK cr x i then h' n = h n else True)∧iT cr i pr h h'
theorem aP8 {cr:List (Nat × Nat)} {i:Nat} {h h':aA}:∀ {pr:List (Nat × Nat)},iT cr i pr h h'→aDK cr i pr h h'
 | [],_=>fun p hp=>by simp at hp
 |(x,n) :: pr,q=>fun p hp hc=>by
  simp only [iT] at q
  rcases List.mem_cons.1 hp with rfl | hp
  ·have:=q.1;rw [if_pos hc] at this;exact this
  ·exact aP8 q.2 p hp hc
def aBG (P:Program) (ib:List Nat) (cr:List (Nat × Nat)) (i:Nat) (m:Bool) (o:Oper) (ρ:Operand→aC) (pr:List (Nat × Nat)) (h:aA) (K:List (Nat × Nat)→aC→aA→Prop):Prop :=
 if m then (if aNX o then aKY P o ρ h (fun n v=>K (aK0 cr i n pr) v h) else p3 P ib o ρ h (fun v h'=>iT cr i pr h h'∧K pr v h'))
 else aAG P ib o ρ (fun v=>K pr v h)
def OpD (P:Program) (ib:List Nat) (ops:Array Oper) (ms:List Nat) (cr:List (Nat × Nat)) (i:Nat) (pr:List (Nat × Nat)) (τ:bE) (h:aA) (C:List (Nat × Nat)→bE→aA→Prop):Prop :=
 match ops[i]? with
  |none=>False
  |some o=>match o.guard with
   |none=>aBG P ib cr i (ms.contains i) o (pH ops o τ) pr h (fun pr' v h'=>C pr' (fJ τ o.dst v) h')
   |some (g,b)=>match (ops[g]?).bind (·.dst) with
    |some d=>match bF τ d with
     | .bool b'=>(b' = b→aBG P ib cr i (ms.contains i) o (pH ops o ((d,.bool b) :: τ)) pr h (fun pr' v h'=>C pr' (fJ ((d,.bool b) :: τ) o.dst v) h')) ∧
       (b' = !b→C pr (fJ ((d,.bool !b) :: τ) o.dst (.gW [])) h)
     | .gW []=>C pr (fJ τ o.dst (.gW [])) h
     | _=>False
    |none=>False
def aAH (P:Program) (ib:List Nat) (ops:Array Oper) (ms:List Nat) (cr:List (Nat × Nat)):pA→List (Nat × Nat)→bE→aA→(bE→aA→Prop)→Prop
 | .nil,_,τ,h,K=>K τ h
 | .op i l,pr,τ,h,K=>OpD P ib ops ms cr i pr τ h fun pr τ h=>aAH P ib ops ms cr l pr τ h K
 | .alt i l j q,pr,τ,h,K=>(OpD P ib ops ms cr i pr τ h fun pr τ h=>aAH P ib ops ms cr l pr τ h K)∧OpD P ib ops ms cr j pr τ h fun pr τ h=>aAH P ib ops ms cr q pr τ h K
theorem OpD.sound {P:Program} {ib:List Nat} {ops:Array Oper} {ms:List Nat} {cr:List (Nat × Nat)} {i:Nat} {C C':List (Nat × Nat)→bE→aA→Prop}
  (hC:∀ (pr pr':List (Nat × Nat)) (τ τ':bE) (h:aA),(∀ p∈pr',p∈pr∨∀ j,uK cr p.1 j = false)→TEq τ τ'→C pr τ h→C' pr' τ' h) (pr:List (Nat × Nat)) (τ:bE) (h:aA) (r:OpD P ib ops ms cr i pr τ h C):OpL P ops ms i cr pr τ h C':=by
  have ids:∀ pr:List (Nat × Nat),∀ p∈pr,p∈pr∨∀ j,uK cr p.1 j = false:=fun _ _ h=>.inl h
  unfold OpD at r
  unfold OpL
  cases ho:ops[i]? with
  |none=>simp [ho] at r
  |some o =>
   simp only [ho] at r ⊢
   have go:∀ σ:bE,(∀ k,bF σ k = bF τ k)→want ops τ o = some true→aBG P ib cr i (ms.contains i) o (pH ops o σ) pr h (fun pr' v h'=>C pr' (fJ σ o.dst v) h')→(match want ops τ o with
      |none=>False
      |some true=>if ms.contains i then (if aNX o then (∃ n v,aH2 P o (pH ops o τ) h n v∧C' ((i,n) :: pr) (fJ τ o.dst v) h)∨∃ v,p5 P o (pH ops o τ) v∧C' pr (fJ τ o.dst v) h
         else mA P o (pH ops o τ) h fun v h'=>aDK cr i pr h h'∧C' pr (fJ τ o.dst v) h')
        else ∃ v,p5 P o (pH ops o τ) v∧C' pr (fJ τ o.dst v) h
      |some false=>C' pr (fJ τ o.dst (.gW [])) h):=by
    intro σ hσ hw r
    rw [hw]
    simp only
    rw [mP (ops:=ops) (o:=o) (τ:=σ) (τ':=τ) fun t _=>hσ t] at r
    unfold aBG at r
    split at r
    ·rename_i hm;rw [if_pos hm]
     split at r
     ·rename_i hl;rw [if_pos hl]
      rcases aKZ r with ⟨n,v,h1,h2⟩ | ⟨v,h1,h2⟩
      ·refine .inl ⟨n,v,h1,hC _ _ _ _ h ?_ (TEq.put hσ _ _) h2⟩
       intro p hp
       simp only [aK0]
       split
       ·exact .inl hp
       ·rename_i hn
        rcases List.mem_cons.1 hp with rfl | hp
        ·exact .inr fun j=>aKO (by simpa using hn)
        ·exact .inl hp
      ·exact .inr ⟨v,h1,hC _ _ _ _ h (ids _) (TEq.put hσ _ _) h2⟩
     ·rename_i hl;rw [if_neg hl]
      exact (vA r).mono fun v h' x=>⟨aP8 x.1,hC _ _ _ _ h' (ids _) (TEq.put hσ _ _) x.2⟩
    ·rename_i hm;rw [if_neg hm]
     obtain ⟨v,h1,h2⟩:=aH4 r
     exact ⟨v,h1,hC _ _ _ _ h (ids _) (TEq.put hσ _ _) h2⟩
   have skip:∀ σ:bE,(∀ k,bF σ k = bF τ k)→want ops τ o = some false→C pr (fJ σ o.dst (.gW [])) h→(match want ops τ o with
      |none=>False
      |some true=>if ms.contains i then (if aNX o then (∃ n v,aH2 P o (pH ops o τ) h n v∧C' ((i,n) :: pr) (fJ τ o.dst v) h)∨∃ v,p5 P o (pH ops o τ) v∧C' pr (fJ τ o.dst v) h
         else mA P o (pH ops o τ) h fun v h'=>aDK cr i pr h h'∧C' pr (fJ τ o.dst v) h')
        else ∃ v,p5 P o (pH ops o τ) v∧C' pr (fJ τ o.dst v) h
      |some false=>C' pr (fJ τ o.dst (.gW [])) h):=by
    intro σ hσ hw r
    rw [hw]
    exact hC _ _ _ _ h (ids _) (TEq.put hσ _ _) r
   cases hg:o.guard with
   |none=>simp only [hg] at r;exact go τ (fun _=>rfl) (by simp [want,hg]) r
   |some gb =>
    obtain ⟨g,b⟩:=gb
    simp only [hg] at r
    split at r
    ·rename_i d hd
     split at r
     ·rename_i b' hb'
      by_cases e:b' = b
      ·subst e
       exact go _ (sZ hb') (by simp [want,hg,hd,hb']) (r.1 rfl)
      ·have e':b' = !b:=by cases b' <;> cases b <;> simp_all
       subst e'
       exact skip _ (sZ hb') (by simp only [want,hg,hd,hb'];cases b <;> rfl) (r.2 rfl)
     ·rename_i hb';exact skip τ (fun _=>rfl) (by simp [want,hg,hd,hb']) r
     ·exact r.elim
    ·exact r.elim
theorem aAH.sound {P:Program} {ib:List Nat} {ops:Array Oper} {ms:List Nat} {cr:List (Nat × Nat)} {K:bE→aA→Prop} (hK:∀ τ τ' h,TEq τ τ'→K τ h→K τ' h):∀ (l:pA) (pr:List (Nat × Nat)) (τ:bE) (h:aA),aAH P ib ops ms cr l pr τ h K→iK P ops ms cr l pr τ h K
 | .nil,_,_,_,r=>r
 | .op i l,pr,τ,h,r=>OpD.sound (fun pr pr' τ τ' h hs e r=>iK.congr hK l _ _ _ _ h hs e (aAH.sound hK l pr τ h r)) pr τ h r
 | .alt i l j q,pr,τ,h,r=>⟨OpD.sound (fun pr pr' τ τ' h hs e r=>iK.congr hK l _ _ _ _ h hs e (aAH.sound hK l pr τ h r)) pr τ h r.1,OpD.sound (fun pr pr' τ τ' h hs e r=>iK.congr hK q _ _ _ _ h hs e (aAH.sound hK q pr τ h r)) pr τ h r.2⟩
abbrev Marks:=Nat→List Nat × pA × List (Nat × Nat)
def aDP (id:Nat) (K:bE→aA→Prop) (Q:Exit→bE→aA→Prop):Exit→bE→aA→Prop
 | .exit i,τ,h=>if i = id then K τ h else Q (.exit i) τ h
 |e,τ,h=>Q e τ h
def hwp (P:Program) (N:Nat) (keep ib:List Nat) (mk:Marks):Code→(bE→aA→Prop)→(Exit→bE→aA→Prop)→bE→aA→Prop
 | .skip,K,Q,τ,h=>K τ h
 | .region id ops false,K,Q,τ,h=>yJ P ib ops ops.toList τ h fun τ' h'=>K (Hl.prune keep τ') h'
 | .region id ops true,K,Q,τ,h=>aAH P ib ops (mk id).1 (mk id).2.2 (mk id).2.1 [] τ h fun τ' h'=>K (Hl.prune keep τ') h'
 | .seq a b,K,Q,τ,h=>hwp P N keep ib mk a (fun τ h=>hwp P N keep ib mk b K Q τ h) Q τ h
 | .cond c a b,K,Q,τ,h=>match hev τ c with
  | .bool t=>(t = true→hwp P N keep ib mk a K Q τ h)∧(t = false→hwp P N keep ib mk b K Q τ h)
  | _=>False
 | .block id c,K,Q,τ,h=>hwp P N keep ib mk c K (aDP id K Q) τ h
 | .loop c,K,Q,τ,h=>mM P N (.loop c) (rX K Q) τ h
 | .exit id,K,Q,τ,h=>Q (.exit id) τ h
 | .ret,K,Q,τ,h=>Q .ret τ h
 | _,_,_,_,_=>False
def iS (N:Nat) (mk:Marks):Code→Bool
 | .region _ ops false=>xF N ops
 | .region id ops true=>xF N ops && a3P ops (mk id).1 (mk id).2.1 (mk id).2.2
 | .seq a b=>iS N mk a && iS N mk b
 | .cond _ a b=>iS N mk a && iS N mk b
 | .block _ c=>iS N mk c
 | .loop c=>iS N mk c
 | _=>true
theorem nY {P:Program} {N:Nat} {keep ib:List Nat} {mk:Marks} (hmix:P.follows .mixedOrders = true):∀ (c:Code) (K:bE→aA→Prop) (Q:Exit→bE→aA→Prop) (τ:bE) (h:aA),iS N mk c = true→hwp P N keep ib mk c K Q τ h→mM P N c (rX K Q) τ h
 | .skip,K,Q,τ,h,_,hw=>.skip hw
 | .region id ops false,K,Q,τ,h,hc,hw=>.region hc keep hw
 | .region id ops true,K,Q,τ,h,hc,hw=>by
  simp only [iS,Bool.and_eq_true] at hc
  exact .aKS hmix hc.1 hc.2 keep (aAH.sound (fun τ τ' h e q=>by
   have:Hl.prune keep τ = Hl.prune keep τ':=by unfold Hl.prune;exact List.map_congr_left fun k _=>by rw [e k]
   rwa [← this]) _ _ _ _ hw)
 | .seq a b,K,Q,τ,h,hc,hw=>by
  simp only [iS,Bool.and_eq_true] at hc
  refine .seq ((nY hmix a _ _ τ h hc.1 hw).mono ?_)
  intro e τ' h' q
  cases e <;> simp only [rX] at q ⊢ <;> first | exact q | exact nY hmix b _ _ _ _ hc.2 q
 | .cond c a b,K,Q,τ,h,hc,hw=>by
  simp only [iS,Bool.and_eq_true] at hc
  unfold hwp at hw
  split at hw
  ·rename_i t ht
   exact .cond ht (fun e=>nY hmix a _ _ _ _ hc.1 (hw.1 e)) (fun e=>nY hmix b _ _ _ _ hc.2 (hw.2 e))
  ·exact hw.elim
 | .block id c,K,Q,τ,h,hc,hw=>.block ((nY hmix c _ _ τ h hc hw).mono fun e τ' h' q=>by
   cases e <;> simp only [rX,aDP,aHY] at q ⊢ <;> first | exact q | (split at q <;> rename_i hi <;> simp_all [rX,aHY]))
 | .loop c,K,Q,τ,h,hc,hw=>hw
 | .exit id,K,Q,τ,h,hc,hw=>.exit hw
 | .ret,K,Q,τ,h,hc,hw=>.ret hw
 | .rangeFunc _ _ _ _,_,_,_,_,_,hw=>hw.elim
 | .scope _,_,_,_,_,_,hw=>hw.elim
 | .label _,_,_,_,_,_,hw=>hw.elim
 | .goto _,_,_,_,_,_,hw=>hw.elim
 | .refuse _,_,_,_,_,_,hw=>hw.elim
theorem aDQ {P:Program} {f:FuncId} {fn:Func} {c:Code} (N:Nat) (keep ib:List Nat) (mk:Marks) {args:List aC} {h:aA} {K:aC→aA→Prop} (hmix:P.follows .mixedOrders = true) (hf:P.funcs[f]? = some fn) (hb:fn.body = some c)
  (hck:(kX P f && decide (fn.ntmps = N) && iS N mk c) = true) (hl:args.length≤N) {K':aC→aA→Prop}
  (hw:hwp P N keep ib mk c (yK P fn.results K' .normal) (yK P fn.results K') (p4 0 args) h) (hk:∀ r h',K' r h'→∃ g:aA,g.le h'∧K r g):fE P f args h K:=by
 simp only [Bool.and_eq_true,decide_eq_true_eq] at hck
 refine aUG hf hb hck.1.1 hck.1.2 hl ((nY hmix c _ _ _ _ hck.2 hw).mono ?_) hk
 intro e τ h q
 cases e <;> exact q
theorem aYQ {P:Program} {f:FuncId} {fn:Func} {c:Code} (N:Nat) (keep ib:List Nat) (mk:Marks) {args:List aC} {r:aC} (hmix:P.follows .mixedOrders = true) (hf:P.funcs[f]? = some fn) (hb:fn.body = some c)
  (hck:(kX P f && decide (fn.ntmps = N) && iS N mk c) = true) (hl:args.length≤N)
  (hw:∀ h,hwp P N keep ib mk c (yK P fn.results (fun r' h'=>r' = r∧h.le h') .normal) (yK P fn.results fun r' h'=>r' = r∧h.le h') (p4 0 args) h):dI P f args r :=
 fun h=>aDQ N keep ib mk hmix hf hb hck hl (hw h) fun _ _ hx=>⟨h,hx.2,hx.1,rfl⟩
theorem bI {h h':aA} {n:Nat} {o:bH} (hn:h n = none):h.le (a7 h' n o) ↔ h.le h':=by
 constructor
 ·intro hl m
  by_cases e:m = n
  ·subst e;exact .inl hn
  ·have:=hl m;rwa [aF _ _ _ _ e] at this
 ·exact aA.bI hn
theorem b8 {h:aA} {n m:Nat} {o:bH}:a7 h n o m = none ↔ m≠n∧h m = none:=by
 simp only [a7];split <;> simp_all
def bU:bE→bE→Prop
 | [],_=>True
 |(k,v) :: r,τ=>bF τ k = v∧bU r τ
theorem bU.get:∀ {l τ:bE},bU l τ→∀ k,bF l k = .any∨bF l k = bF τ k
 | [],τ,_,k=>.inl rfl
 |(j,v) :: r,τ,h,k=>by
  simp only [bF]
  by_cases e:j = k
  ·subst e;right;rw [if_pos rfl];exact h.1.symm
  ·rw [if_neg e];exact bU.get h.2 k
theorem mM.weaken {P:Program} {N:Nat} {c:Code} {Q:Exit→bE→aA→Prop} {σ τ:bE} {g h:aA} (hs:bU σ τ) (hl:g.le h) (x:mM P N c Q σ g):mM P N c Q τ h :=
 mM.forget hl fun ds E w a R r=>x ds E w a R ⟨r.size,r.defers,fun k=>by
  rcases hs.get k with e | e
  ·rw [e];exact .any _
  ·rw [e];exact r.get k⟩
theorem mM.bQ {P:Program} {N:Nat} {c:Code} {Q:Exit→bE→aA→Prop} {τ:bE} {h:aA} {α:Type} (S:α→bE) (H:α→aA) (side:α→Prop) (μ:α→Nat) (x₀:α)
  (h₀:bU (S x₀) τ∧(H x₀).le h∧side x₀)
  (round:∀ x,side x→mM P N c (rX (fun τ' h'=>∃ x',bU (S x') τ'∧(H x').le h'∧side x'∧μ x' < μ x) Q) (S x) (H x)):mM P N (.loop c) Q τ h :=
 mM.loop (fun x τ h=>bU (S x) τ∧(H x).le h∧side x) μ x₀ h₀ fun x τ h ⟨h1,h2,h3⟩ =>
  mM.weaken h1 h2 ((round x h3).mono fun e τ h q=>by
   cases e <;> simp only [rX] at q ⊢ <;> first | exact q | (obtain ⟨x',a,b,c,d⟩:=q;exact ⟨x',⟨a,b,c⟩,d⟩))
end Go.Hl
