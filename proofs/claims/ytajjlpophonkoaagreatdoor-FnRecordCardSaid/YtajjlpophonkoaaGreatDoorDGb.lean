/-
  Contracts of functions and laws of the layer over the walk.
-/
import Derived.Test.YtajjlpophonkoaaGreatDoorProg
import Derived.Shelf.Strings.BuilderK
import Derived.Lib.AppendZeros
import Derived.KernelRfl
namespace Go.Hl
set_option maxRecDepth 100000
open Go.Proofs
set_option linter.unusedVariables false
set_option linter.unusedSimpArgs false
open Go.RowKit Go.Lib
set_option maxHeartbeats 1000000 in
theorem a4D (b:Nat) (w:World) (h0:w.cell? ⟨b,0,none⟩=some (.pointer (some ⟨b,0,none⟩))) :
  Calls Tryz.prog 129 #[.pointer (some ⟨b,0,none⟩)] w λe w'=>e=.returned (.tuple #[])/\w'=w:=by
 obtain⟨j,hj⟩:∃ j,Tryz.prog.info? 122=some j:=⟨_,rfl⟩
 go_enter Tryz.func129,Tryz.ntmps129
 go_wp2
 rw[Lib.run_neq_ptr_same w _ (show Tryz.prog.underlying 120=some (.pointer 122)by kernel_rfl) hj]
 go_wp2
 go_end0
 exact⟨rfl,rfl⟩
set_option maxHeartbeats 1000000 in
theorem aZV (b:Nat) (w:World) (h0:w.cell? ⟨b,0,none⟩=some (.pointer none)) (hsh:w.shape? b=some (122,2)) (hfz:w.frozen? ⟨b,0,none⟩=false) :
  Calls Tryz.prog 129 #[.pointer (some ⟨b,0,none⟩)] w λe w'=>e=.returned (.tuple #[])/\w'=w.setCell ⟨b,0,none⟩ (.pointer (some ⟨b,0,none⟩)):=by
 obtain⟨j,hj,hjs⟩:∃ j,Tryz.prog.info? 122=some j/\j.size=2:=⟨_,rfl,rfl⟩
 have tp:Tryz.prog.underlying 120=some (.pointer 122):=by kernel_rfl
 go_enter Tryz.func129,Tryz.ntmps129
 go_wp2
 rw[Lib.run_to_unsafe w ⟨b,0,none⟩ tp (by kernel_rfl) hj (by rw[hjs];decide) hsh (Nat.zero_lt_succ 1)]
 simp only[Result.andThen]
 rw[Oper.upon_value]
 go_wp2
 rw[run_callFunc_extern Tryz.func171 (by kernel_rfl) (by kernel_rfl) (by kernel_rfl) (e:=Extern.AbiNoEscape.same) (by kernel_rfl)]
 rw[Lib.run_noEscape]
 simp only[Result.andThen]
 rw[Oper.upon_value]
 go_wp2
 rw[Lib.run_from_unsafe w ⟨b,0,none⟩ (by kernel_rfl) tp hj hsh (by kernel_rfl)]
 simp only[Result.andThen]
 rw[Oper.upon_value]
 go_wp2
 go_end0
 exact⟨rfl,rfl⟩
set_option maxHeartbeats 1000000 in
theorem a61 (b:Nat) (w:World) (p v:Value) (hp:p=.pointer none∨p=.pointer (some ⟨b,0,none⟩)) (hb:w.heap[b]?=some (.cells #[p,v] 122 (0,0))) :
  Calls Tryz.prog 129 #[.pointer (some ⟨b,0,none⟩)] w λe w'=>e=.returned (.tuple #[])/\w'.heap[b]?=some (.cells #[.pointer (some ⟨b,0,none⟩),v] 122 (0,0))/\w.grownBy w' (some b)/\w'.heap.size=w.heap.size/\w'.shape? b=w.shape? b:=by
 rcases hp with rfl|rfl
 ·refine(aZV b w (by rw[Lib.cell_of_heap hb];rfl) (by simp[World.shape?,hb]) (Lib.frozen_of_heap hb 0)).mono ?_
  rintro e w' ⟨rfl,rfl⟩
  refine⟨rfl,by simp[World.setCell,Array.getElem?_modify,hb],⟨rfl,rfl,rfl,by simp[World.setCell],λk _ hk=>Below.heap_setCell _ _ _ _ (λe=>hk (by simp[e]))⟩,by simp[World.setCell],?_⟩
  simp[World.shape?,World.setCell,Array.getElem?_modify,hb]
 ·refine(a4D b w (by rw[Lib.cell_of_heap hb];rfl)).mono ?_
  rintro e w' ⟨rfl,rfl⟩
  exact⟨rfl,hb,⟨rfl,rfl,rfl,Nat.le_refl _,λk _ _=>rfl⟩,rfl,rfl⟩
theorem kX {w w':World} {k:Nat} (h:w'.heap[k]?=w.heap[k]?):w'.shape? k=w.shape? k:=by simp only[World.shape?,h]
theorem a96 (w:World) (v:Value) (n:Nat) (xs:List Value) (hown:w.ownsRowF 0 5 1 v n xs) (s:ByteArray) (hlen:n+s.size<=140737488355328) :
  ∃ v' w',(Builtin.append_ #[22,9] 22 #[v,.string s]).run Tryz.prog w=.ok v' w'/\w'.ownsRowF 0 5 1 v' (n+s.size) (xs++strCells s)/\w.grownBy w' v.ownBlock /\
   ((∀ k,k<w.heap.size->w'.shape? k=w.shape? k)/\∀ g,v'.ownBlock=some g->v.ownBlock=some g∨w.heap.size<=g)/\(s.size=0->v=.slice none 0 0->v'=.slice none 0 0):=by
 obtain⟨i,hi,hz,hsz,hby⟩:=info_parts (show(Tryz.prog.info? 5).map (λi=>(i.zero,i.size,i.bytes))=some (some (.int .u8 0),1,1)by kernel_rfl)
 have ht:Tryz.prog.underlying 22=some (.slice 5):=by kernel_rfl
 have hu:Tryz.prog.underlying 9=some .string:=by kernel_rfl
 have hm:n+s.size<=maxLen:=by simp only[maxLen];omega
 rcases hown.2 with⟨rfl,rfl⟩|⟨g,cap,cur,fz,rfl,hbg,hg,hfz,hnc,hcm,hcs,htake⟩
 ·obtain⟨v',w',h1,h2,h3,h4⟩:=run_append_own_stringF (P:=Tryz.prog) w w.heap.size 22 9 22 5 i ht hu hi hz hsz hby (.slice none 0 0) 0 xs ⟨hown.1,.inl ⟨rfl,rfl⟩⟩ s hm hlen (Nat.le_refl _)
  refine⟨v',w',h1,⟨h2.1,?_⟩,h3,⟨λk hk=>kX (h3.block k hk (by simp[Value.ownBlock])),λg hg=>.inr (h2.lt g hg).1⟩,λq1 q2=>h4.2 ⟨q2,q1⟩⟩
  rcases h2.2 with q|⟨g,cap,cur,fz,q1,q2,q3⟩
  ·exact .inl q
  ·exact .inr ⟨g,cap,cur,fz,q1,Nat.zero_le _,q3⟩
 ·obtain⟨v',w',h1,h2,h3,h4⟩:=run_append_own_stringF (P:=Tryz.prog) w 0 22 9 22 5 i ht hu hi hz hsz hby _ n xs hown s hm hlen (Nat.zero_le _)
  refine⟨v',w',h1,h2,h3,?_,λq1 q2=>h4.2 ⟨q2,q1⟩⟩
  by_cases hroom:n+s.size<=cap
  ·have hr:=run_append_room_stringF (P:=Tryz.prog) w 22 9 22 5 i ht hu hi hsz g n cap cur fz hg (by simpa using hfz) s hroom (by omega)
   rw[h1]at hr
   obtain⟨rfl,rfl⟩:=Result.ok.inj hr
   refine⟨λk hk=>?_,λg' hg'=>.inl hg'⟩
   by_cases e:k=g
   ·subst e
    have e2:=setRow_heap w k cur ((cur.toList.take n++strCells s++cur.toList.drop (n+s.size)).toArray) 5 fz hg
    simp only[World.shape?,e2,hg]
    have hl:=strCells_length s
    simp only[List.size_toArray,List.length_append,List.length_take,List.length_drop,Array.length_toList,hl]
    congr 2
    omega
   ·exact kX (setRow_other w g k _ e)
  ·have hxl:xs.length=n:=by simpa using hown.1
   have hr:=run_append_grow_string (P:=Tryz.prog) w 22 9 22 5 i (.int .u8 0) ht hu hi hz ⟨g,0,none⟩ n cap xs (by rw[hsz];simpa using hxl) (hown.cells (g:=g) rfl) s (by omega) (by omega) (by rw[hby];exact growslice_fits (by omega) (by omega))
   rw[h1]at hr
   obtain⟨rfl,rfl⟩:=Result.ok.inj hr
   refine⟨λk hk=>kX (heap_alloc_old w.drew _ hk),λg' hg'=>.inr ?_⟩
   simp only[Value.ownBlock,Option.some.injEq]at hg'
   omega
theorem bFX (w:World) (v:Value) (n:Nat) (xs:List Value) (hown:w.ownsRowF 0 5 1 v n xs) (a:Addr) (m c:Nat) (news:List Value) (hl:news.length=m) (hnews:∀ j u,news[j]?=some u->w.cell? (a.add j)=some u) (h1:∀ u∈news,u.oneCell'=true) (hlen:n+m<=140737488355328) :
  ∃ v' w',(Builtin.append_ #[22,22] 22 #[v,.slice (some a) m c]).run Tryz.prog w=.ok v' w'/\w'.ownsRowF 0 5 1 v' (n+m) (xs++news)/\w.grownBy w' v.ownBlock /\
   (∀ k,k<w.heap.size->w'.shape? k=w.shape? k)/\∀ g,v'.ownBlock=some g->v.ownBlock=some g∨w.heap.size<=g:=by
 obtain⟨i,hi,hz,hsz,hby⟩:=info_parts (show(Tryz.prog.info? 5).map (λi=>(i.zero,i.size,i.bytes))=some (some (.int .u8 0),1,1)by kernel_rfl)
 have ht:Tryz.prog.underlying 22=some (.slice 5):=by kernel_rfl
 have hm:n+m<=maxLen:=by simp only[maxLen];omega
 have hl':news.length=m*1:=by omega
 rcases hown.2 with⟨rfl,rfl⟩|⟨g,cap,cur,fz,rfl,hbg,hg,hfz,hnc,hcm,hcs,htake⟩
 ·obtain⟨v',w',e1,e2,e3,e4⟩:=run_append_ownF (P:=Tryz.prog) w w.heap.size 22 22 5 i (.int .u8 0) 1 1 ht hi hz hsz hby rfl (by decide) (.slice none 0 0) 0 xs ⟨hown.1,.inl ⟨rfl,rfl⟩⟩ a m c news hl' hnews h1 hm (by omega) (Nat.le_refl _)
  refine⟨v',w',e1,⟨e2.1,?_⟩,e3,λk hk=>kX (e3.block k hk (by simp[Value.ownBlock])),λg hg=>.inr (e2.lt g hg).1⟩
  rcases e2.2 with q|⟨g,cap,cur,fz,q1,q2,q3⟩
  ·exact .inl q
  ·exact .inr ⟨g,cap,cur,fz,q1,Nat.zero_le _,q3⟩
 ·obtain⟨v',w',e1,e2,e3,e4⟩:=run_append_ownF (P:=Tryz.prog) w 0 22 22 5 i (.int .u8 0) 1 1 ht hi hz hsz hby rfl (by decide) _ n xs hown a m c news hl' hnews h1 hm (by omega) (Nat.zero_le _)
  refine⟨v',w',e1,e2,e3,?_⟩
  by_cases hroom:n+m<=cap
  ·have hr:=run_append_roomF (P:=Tryz.prog) w 22 22 5 i ht hi g n cap cur fz hg (by rw[hsz];exact hfz) a m c news (by rw[hsz];exact hl') hnews h1 hroom (by rw[hsz];omega)
   rw[e1]at hr
   obtain⟨rfl,rfl⟩:=Result.ok.inj hr
   refine⟨λk hk=>?_,λg' hg'=>.inl hg'⟩
   by_cases e:k=g
   ·subst e
    simp only[World.shape?,setRow_heap w k cur _ 5 fz hg,hg]
    simp only[List.size_toArray,List.length_append,List.length_take,List.length_drop,Array.length_toList,hsz]
    congr 2
    omega
   ·exact kX (setRow_other w g k _ e)
  ·have hxl:xs.length=n:=by simpa using hown.1
   have hr:=run_append_grow (P:=Tryz.prog) w 22 22 5 i (.int .u8 0) ht hi hz ⟨g,0,none⟩ n cap xs (by rw[hsz];simpa using hxl) (hown.cells (g:=g) rfl) a m c news (by rw[hsz];exact hl') hnews (by omega) (by omega) (by rw[hby];exact growslice_fits (by omega) (by omega))
   rw[e1]at hr
   obtain⟨rfl,rfl⟩:=Result.ok.inj hr
   refine⟨λk hk=>kX (heap_alloc_old w.drew _ hk),λg' hg'=>.inr ?_⟩
   simp only[Value.ownBlock,Option.some.injEq]at hg'
   omega
structure aOR (w w':World) (b:Nat) (row:Option Nat):Prop where
 size:w.heap.size<=w'.heap.size
 block:∀ k,k<w.heap.size->k≠b->row≠some k->w'.heap[k]?=w.heap[k]?
 shape:∀ k,k<w.heap.size->w'.shape? k=w.shape? k
 os:w'.os=w.os
 out:w'.output=w.output
theorem aZW {w w1 w2:World} {b n' cap:Nat} {ao:Option Addr} {v:Value} {bs:List UInt8} (hlt:b<w.heap.size) (hsb:w.shape? b=some (122,2)) (j9:w.grownBy w1 (some b)) (hz1:w.heap.size<=w1.heap.size)
  (zC:w2.ownsRowF 0 5 1 (.slice ao n' cap) bs.length (byteCells bs)) (hg2:w1.grownBy w2 v.ownBlock) (aZX:∀ k,k<w1.heap.size->w2.shape? k=w1.shape? k) (hnew:∀ g,(Value.slice ao n' cap).ownBlock=some g->v.ownBlock=some g∨w1.heap.size<=g) (hnil:bs=[]->v=.slice none 0 0->Value.slice ao n' cap=.slice none 0 0)
  (lR:w2.heap[b]?=some (.cells #[.pointer (some ⟨b,0,none⟩),v] 122 (0,0))) :
  ∃ v',(w2.setCell ⟨b,1,none⟩ (.slice ao n' cap)).heap[b]?=some (.cells #[.pointer (some ⟨b,0,none⟩),v'] 122 (0,0)) /\
   (w2.setCell ⟨b,1,none⟩ (.slice ao n' cap)).ownsRowF 0 5 1 v' bs.length (byteCells bs)/\v'.ownBlock≠some b/\(∀ g,v'.ownBlock=some g->v.ownBlock=some g∨w.heap.size<=g)/\aOR w (w2.setCell ⟨b,1,none⟩ (.slice ao n' cap)) b v.ownBlock/\(bs=[]->v=.slice none 0 0->v'=.slice none 0 0):=by
 have hne':=ownBlock_neF zC lR (by decide)
 have hb3:(w2.setCell ⟨b,1,none⟩ (.slice ao n' cap)).heap[b]?=some (.cells #[.pointer (some ⟨b,0,none⟩),.slice ao n' cap] 122 (0,0)):=by simp[World.setCell,Array.getElem?_modify,lR]
 have hg3:w2.grownBy (w2.setCell ⟨b,1,none⟩ (.slice ao n' cap)) (some b):=⟨rfl,rfl,rfl,by simp[World.setCell],λk _ hk=>Below.heap_setCell _ _ _ _ (λe=>hk (by simp[e]))⟩
 have h12:∀ k,k<w.heap.size->k≠b->w1.heap[k]?=w.heap[k]?:=λk hk hkb=>j9.block k hk (λe=>hkb (Option.some.inj e))
 have h23:∀ k,k<w.heap.size->k≠b->(w2.setCell ⟨b,1,none⟩ (.slice ao n' cap)).heap[k]?=w2.heap[k]?:=λk hk hkb=>hg3.block k (by have:=hg2.size;omega) (λe=>hkb (Option.some.inj e))
 refine⟨_,hb3,zC.kept hg3 (Or.inr hne'),hne',λg hg=>(hnew g hg).imp id λq=>by omega,⟨?_,λk hk hkb hkr=>?_,λk hk=>?_,?_,?_⟩,hnil⟩
 ·have:=hg2.size;have:=hg3.size;omega
 ·rw[h23 k hk hkb,hg2.block k (by omega) (Ne.symm hkr),h12 k hk hkb]
 ·by_cases e:k=b
  ·subst e;rw[hsb];simp[World.shape?,hb3]
  ·rw[kX (h23 k hk e),aZX k (by omega),kX (h12 k hk e)]
 ·rw[hg3.os,hg2.os,j9.os]
 ·rw[hg3.output,hg2.output,j9.output]
set_option maxHeartbeats 2000000 in
theorem bFY (b:Nat) (l s:List UInt8) (w:World) (p v:Value) (hp:p=.pointer none∨p=.pointer (some ⟨b,0,none⟩)) (hb:w.heap[b]?=some (.cells #[p,v] 122 (0,0)))
  (hown:w.ownsRowF 0 5 1 v l.length (byteCells l)) (hne:v.ownBlock≠some b) (hlen:l.length+s.length<=140737488355328) :
  Calls Tryz.prog 72 #[.pointer (some ⟨b,0,none⟩),.string ⟨s.toArray⟩] w λe w'=>e=.returned (.tuple #[.int .i64 s.length,.nilIface])/\∃ v',w'.heap[b]?=some (.cells #[.pointer (some ⟨b,0,none⟩),v'] 122 (0,0)) /\
   w'.ownsRowF 0 5 1 v' (l++s).length (byteCells (l++s))/\v'.ownBlock≠some b/\(∀ g,v'.ownBlock=some g->v.ownBlock=some g∨w.heap.size<=g)/\aOR w w' b v.ownBlock/\(l++s=[]->v=.slice none 0 0->v'=.slice none 0 0):=by
 have hlt:b<w.heap.size:=(Array.getElem?_eq_some_iff.1 hb).1
 have hss:(⟨s.toArray⟩:ByteArray).size=s.length:=by simp[ByteArray.size]
 go_enter Tryz.func72,Tryz.ntmps72
 go_wp2_with (go_at_call 129;refine(a61 b w p v hp hb).mono ?_)
 rintro e w1 ⟨rfl,iS,j9,hz1,sO⟩
 have aZY:=hown.kept j9 (Or.inr hne)
 obtain⟨v',w2,hrun,zC,hg2,⟨aZX,hnew⟩,hnil⟩:=a96 w1 v l.length _ aZY ⟨s.toArray⟩ (by rw[hss];exact hlen)
 have c0:w1.cell? ⟨b,0,none⟩=some (.pointer (some ⟨b,0,none⟩)):=by rw[Lib.cell_of_heap iS];rfl
 have c1:w1.cell? ⟨b,1,none⟩=some v:=by rw[Lib.cell_of_heap iS];rfl
 have a97:b<w1.heap.size:=by rw[hz1];exact hlt
 have lR:w2.heap[b]?=some (.cells #[.pointer (some ⟨b,0,none⟩),v] 122 (0,0)):=(hg2.block b a97 (Ne.symm hne)).trans iS
 have d0:w2.cell? ⟨b,0,none⟩=some (.pointer (some ⟨b,0,none⟩)):=by rw[Lib.cell_of_heap lR];rfl
 have d1:w2.cell? ⟨b,1,none⟩=some v:=by rw[Lib.cell_of_heap lR];rfl
 have f1:w2.frozen? ⟨b,1,none⟩=false:=Lib.frozen_of_heap lR 1
 obtain⟨ao,n',cap,rfl⟩:∃ ao n' cap,v'=.slice ao n' cap:=by
  rcases zC.2 with⟨hv,_⟩|⟨g,cap,cur,fz,hv,_⟩
  ·exact⟨_,_,_,hv⟩
  ·exact⟨_,_,_,hv⟩
 have hbl:byteCells l++strCells ⟨s.toArray⟩=byteCells (l++s):=by rw[strCells_eq,byteCells_append]
 have hll:l.length+(⟨s.toArray⟩:ByteArray).size=(l++s).length:=by rw[hss,List.length_append]
 rw[hbl,hll]at zC
 have fin:=aZW hlt (by simp[World.shape?,hb]) j9 (by omega) zC hg2 aZX hnew (λq1 q2=>hnil (by rw[hss,(List.append_eq_nil_iff.1 q1).2];rfl) q2) lR
 go_wp2_with (at_builtin;refine wpList_append_run _ rfl _ _ _ _ rfl _ _ rfl rfl _ _ hrun ?_)
 go_ret2
 exact⟨rfl,fin⟩
set_option maxHeartbeats 2000000 in
theorem bFZ (b:Nat) (l:List UInt8) (c:UInt8) (w:World) (p v:Value) (hp:p=.pointer none∨p=.pointer (some ⟨b,0,none⟩)) (hb:w.heap[b]?=some (.cells #[p,v] 122 (0,0)))
  (hown:w.ownsRowF 0 5 1 v l.length (byteCells l)) (hne:v.ownBlock≠some b) (hlen:l.length+1<=140737488355328) :
  Calls Tryz.prog 75 #[.pointer (some ⟨b,0,none⟩),.int .u8 c.toNat] w λe w'=>e=.returned .nilIface/\∃ v',w'.heap[b]?=some (.cells #[.pointer (some ⟨b,0,none⟩),v'] 122 (0,0)) /\
   w'.ownsRowF 0 5 1 v' (l++[c]).length (byteCells (l++[c]))/\v'.ownBlock≠some b/\(∀ g,v'.ownBlock=some g->v.ownBlock=some g∨w.heap.size<=g)/\aOR w w' b v.ownBlock/\(l++[c]=[]->v=.slice none 0 0->v'=.slice none 0 0):=by
 have hlt:b<w.heap.size:=(Array.getElem?_eq_some_iff.1 hb).1
 go_enter Tryz.func75,Tryz.ntmps75
 go_wp2_with (go_at_call 129;refine(a61 b w p v hp hb).mono ?_)
 rintro e w1 ⟨rfl,iS,j9,hz1,sO⟩
 have bLN:w.grownBy (w1.alloc (.cells #[.int .u8 c.toNat] 5)) (some b):=⟨j9.os,j9.tape,j9.output,by simp;omega,λk hk hkr=>(heap_alloc_old w1 _ (by omega)).trans (j9.block k hk hkr)⟩
 have a97:b<w1.heap.size:=by rw[hz1];exact hlt
 have bPK:(w1.alloc (.cells #[.int .u8 c.toNat] 5)).heap.size=w1.heap.size+1:=by simp
 have aZY:=(hown.kept j9 (Or.inr hne)).alloc (.cells #[.int .u8 c.toNat] 5)
 have hba:(w1.alloc (.cells #[.int .u8 c.toNat] 5)).heap[b]?=some (.cells #[.pointer (some ⟨b,0,none⟩),v] 122 (0,0)):=(heap_alloc_old w1 _ a97).trans iS
 obtain⟨v',w2,hrun,zC,hg2,aZX,hnew⟩:=bFX _ v l.length _ aZY ⟨w1.heap.size,0,none⟩ 1 1 [.int .u8 c.toNat] rfl (λj u hj=>by
  match j,hj with
  |0,hj=>simp at hj;subst hj;simp[Addr.add]) (λu hu=>by simp at hu;subst hu;rfl) hlen
 have c0:w1.cell? ⟨b,0,none⟩=some (.pointer (some ⟨b,0,none⟩)):=by rw[Lib.cell_of_heap iS];rfl
 have c1:w1.cell? ⟨b,1,none⟩=some v:=by rw[Lib.cell_of_heap iS];rfl
 have lR:w2.heap[b]?=some (.cells #[.pointer (some ⟨b,0,none⟩),v] 122 (0,0)):=(hg2.block b (by omega) (Ne.symm hne)).trans hba
 have d0:w2.cell? ⟨b,0,none⟩=some (.pointer (some ⟨b,0,none⟩)):=by rw[Lib.cell_of_heap lR];rfl
 have d1:w2.cell? ⟨b,1,none⟩=some v:=by rw[Lib.cell_of_heap lR];rfl
 have f1:w2.frozen? ⟨b,1,none⟩=false:=Lib.frozen_of_heap lR 1
 obtain⟨ao,n',cap,rfl⟩:∃ ao n' cap,v'=.slice ao n' cap:=by
  rcases zC.2 with⟨hv,_⟩|⟨g,cap,cur,fz,hv,_⟩
  ·exact⟨_,_,_,hv⟩
  ·exact⟨_,_,_,hv⟩
 have hbl:byteCells l++[.int .u8 c.toNat]=byteCells (l++[c]):=by rw[byteCells_append];rfl
 have hll:l.length+1=(l++[c]).length:=by rw[List.length_append];rfl
 rw[hbl,hll]at zC
 have fin:=aZW hlt (by simp[World.shape?,hb]) bLN (by omega) zC hg2 aZX hnew (λq1 q2=>by simp at q1) lR
 rw[hz1]at hrun
 go_wp2_with (at_builtin;refine wpList_append_run _ rfl _ _ _ _ rfl _ _ rfl rfl _ _ hrun ?_)
 go_ret
 exact⟨rfl,fin⟩
set_option maxHeartbeats 1000000 in
theorem aQ6 (b:Nat) (w:World) (p:Value) (hb:w.heap[b]?=some (.cells #[p,.slice none 0 0] 122 (0,0))) :
  Calls Tryz.prog 76 #[.pointer (some ⟨b,0,none⟩)] w λe w'=>e=.returned (.string ⟨#[]⟩)/\w'=w.drew:=by
 have hUS:=Lib.run_unsafeString_none (P:=Tryz.prog) w.drew 185 3 9 none
 have c1:w.drew.cell? ⟨b,1,none⟩=some (.slice none 0 0):=by
  have:w.drew.heap[b]?=some (.cells #[p,.slice none 0 0] 122 (0,0)):=hb
  rw[Lib.cell_of_heap this];rfl
 have hSD:(Builtin.unsafeSliceData_ #[22] 185 #[.slice none 0 0]).run Tryz.prog w.drew=.ok (.pointer none) w.drew:=rfl
 go_enter Tryz.func76,Tryz.ntmps76
 go_wp2
 go_region
 all_goals(go_wp2;go_ret;exact⟨rfl,rfl⟩)
set_option maxHeartbeats 1000000 in
theorem a98 (b:Nat) (l:List UInt8) (w:World) (p v:Value) (hb:w.heap[b]?=some (.cells #[p,v] 122 (0,0))) (hown:w.ownsRowF 0 5 1 v l.length (byteCells l)) (h0:l≠[]) :
  Calls Tryz.prog 76 #[.pointer (some ⟨b,0,none⟩)] w λe w'=>e=.returned (.string ⟨l.toArray⟩)/\aOR w w' b v.ownBlock:=by
 have qN:l.length≠0:=by simpa using h0
 obtain⟨g,cap,cur,fz,rfl,hbg,hg,hfz,hnc,hcm,hcs,htake⟩:∃ g cap cur fz,v=.slice (some ⟨g,0,none⟩) l.length cap/\0<=g/\w.heap[g]?=some (.cells cur 5 fz)/\fz.2<=l.length*1/\l.length<=cap/\cap<=maxLen/\cur.size=cap*1/\cur.toList.take (l.length*1)=byteCells l:=by
  rcases hown.2 with⟨_,hz⟩|⟨g,cap,cur,fz,hv,r⟩
  ·exact absurd hz qN
  ·exact⟨g,cap,cur,fz,hv,r⟩
 have c1:w.drew.cell? ⟨b,1,none⟩=some (.slice (some ⟨g,0,none⟩) l.length cap):=by
  have:w.drew.heap[b]?=some (.cells #[p,.slice (some ⟨g,0,none⟩) l.length cap] 122 (0,0)):=hb
  rw[Lib.cell_of_heap this];rfl
 have hSD:(Builtin.unsafeSliceData_ #[22] 185 #[.slice (some ⟨g,0,none⟩) l.length cap]).run Tryz.prog w.drew=.ok (.pointer (some ⟨g,0,none⟩)) w.drew :=
  Lib.run_unsafeSliceData_row _ _ _ _ _ _ (by omega)
 have hUS:(Builtin.unsafeString_ #[185,3] 9 #[.pointer (some ⟨g,0,none⟩),.int .i64 l.length]).run Tryz.prog w.drew=.ok (.string ⟨l.toArray⟩) (w.drew.freeze ⟨g,0,none⟩ l.length):=by
  refine Lib.run_unsafeString_row w.drew 185 3 9 5 (by kernel_rfl) (by kernel_rfl) g cur.size (by have hg':w.drew.heap[g]?=some (.cells cur 5 fz):=hg;simp[World.shape?,hg']) l h0 (by omega) (by unfold maxLen at hcm;omega) ?_
  intro j x hx
  exact hown.cells (g:=g) rfl j (.int .u8 x.toNat) (by simp[byteCells,hx])
 have fr:aOR w (w.drew.freeze ⟨g,0,none⟩ l.length) b (some g):=by
  have hk:∀ k,k≠g->(w.drew.freeze ⟨g,0,none⟩ l.length).heap[k]?=w.heap[k]?:=λk e=>by
   unfold World.freeze
   rw[if_neg qN]
   show(w.heap.modify g _)[k]?=_
   rw[Array.getElem?_modify,if_neg (λq=>e q.symm)]
  refine⟨?_,λk _ _ e=>hk k λq=>e (by rw[q]),λk _=>?_,?_,?_⟩
  ·unfold World.freeze;rw[if_neg qN];show w.heap.size<=(w.heap.modify g _).size;rw[Array.size_modify];exact Nat.le_refl _
  ·by_cases e:k=g
   ·subst e
    obtain⟨fz',e1⟩:∃ fz',(w.drew.freeze ⟨k,0,none⟩ l.length).heap[k]?=some (.cells cur 5 fz'):=by
     refine⟨if fz.1 == fz.2 then(0,0+l.length)else(min fz.1 0,max fz.2 (0+l.length)),?_⟩
     unfold World.freeze
     rw[if_neg qN]
     show(w.heap.modify k _)[k]?=_
     rw[Array.getElem?_modify,if_pos rfl,hg]
     rfl
    simp only[World.shape?,e1,hg]
   ·exact kX (hk k e)
  ·unfold World.freeze;rw[if_neg qN];rfl
  ·unfold World.freeze;rw[if_neg qN];rfl
 go_enter Tryz.func76,Tryz.ntmps76
 go_wp2
 go_region
 all_goals(go_wp2;go_ret;exact⟨rfl,fr⟩)
end Go.Hl
