/-
  Contracts of functions and laws of the layer over the walk.
-/
import Derived.Test.YtoomflalicffnaaGreatHlA
import Derived.Orders
namespace Go.Hl
set_option linter.unusedVariables false
set_option linter.unusedSimpArgs false
def aI9 : List aD → Nat → List aD → List aD
 |es, _, [] => es
 |es, off, v :: vs => aI9 (es.set off v) (off + 1) vs
theorem u5 : ∀ (vs es : List aD) (off : Nat), (aI9 es off vs).length = es.length
 | [], _, _ => rfl
 |v :: vs, es, off => by simp [aI9, u5 vs]
theorem aJA : ∀ (vs es : List aD) (off k : Nat), off + vs.length ≤ es.length → (aI9 es off vs)[k]? = if off ≤ k ∧ k < off + vs.length then vs[k - off]? else es[k]?
 | [], es, off, k, _ => by
  rw [if_neg]
  ·rfl
  ·simp only [List.length_nil]; omega
 |v :: vs, es, off, k, h => by
  simp only [List.length_cons] at h
  rw [aI9, aJA vs _ _ _ (by simp; omega)]
  by_cases e : k = off
  ·subst e
   rw [if_neg (by omega), if_pos (by simp), List.getElem?_set_self (by omega)]
   try simp
  ·rw [List.getElem?_set_ne (Ne.symm e)]
   by_cases h1 : off + 1 ≤ k ∧ k < off + 1 + vs.length
   ·rw [if_pos h1, if_pos (by simp; omega), show k - off = (k - (off + 1)) + 1 by omega]; simp
   ·rw [if_neg h1, if_neg (by simp; omega)]
def aCQ (place : Nat → Option (Nat × Nat)) (es : List aD) : List (Nat × aD) → List aD
 | [] => es
 |(i, v) :: r => match place i with
  |some (off, _) => aCQ place (aI9 es off v.cells) r
  |none => es
def tA (place : Nat → Option (Nat × Nat)) (n : Nat) : List (Nat × aD) → Bool
 | [] => true
 |(i, v) :: r => (match place i with
  |some (off, sz) => decide (v.cells.length = sz) && decide (off + sz ≤ n)
  |none => false) && v.cells.all aD.flat && tA place n r
theorem bA7 (a : Array Value) : a.toList.length = a.size := rfl
theorem aFQ {E : Env} {h : aB} {w : World} {ρ : Operand → aD} {place : Nat → Option (Nat × Nat)} {ρc : Operand → Value} (hρ : ∀ x, dY E h w (ρ x) (ρc x)) : ∀ (ps : List (Nat × Operand)) (es : List aD) (cs : Array Value), tA place es.length (ps.map fun p => (p.1, ρ p.2)) = true →
  cX E h w es cs.toList → ∃ cs', Instr.fill place cs (ps.map fun p => (p.1, ρc p.2)) = some cs' ∧ cX E h w (aCQ place es (ps.map fun p => (p.1, ρ p.2))) cs'.toList
 | [], es, cs, _, hL => ⟨cs, rfl, hL⟩
 |(i, x) :: ps, es, cs, hf, hL => by
  simp only [List.map_cons, tA, Bool.and_eq_true] at hf
  obtain ⟨⟨hp, hfl⟩, hf⟩ := hf
  cases hpl : place i with
  |none => simp [hpl] at hp
  |some os =>
   obtain ⟨off, sz⟩ := os
   simp only [hpl, Bool.and_eq_true, decide_eq_true_eq] at hp
   obtain ⟨hsz, hfit⟩ := hp
   obtain ⟨hcL, hc1⟩ := (hρ x).zX hfl
   have hvs : (ρc x).cells.size = sz := by have := hcL.length; simp at this; omega
   have hcsz : cs.size = es.length := by have := hL.length; simpa using this.symm
   have hget := fun k => uI (ρc x).cells off cs k (by omega)
   have hsize := r6 (ρc x).cells off cs
   obtain ⟨cs', r1, r2⟩ := aFQ hρ ps (aI9 es off (ρ x).cells) ((ρc x).cells.zipIdx.foldl (fun cs (cj : Value × Nat) => cs.setIfInBounds (off + cj.2) cj.1) cs) (by rw [u5]; exact hf) (by
    refine cX.mk (by rw [u5, bA7, hsize, hcsz]) ?_
    intro k y v hy hv
    rw [aJA _ _ _ _ (by omega)] at hy
    rw [Array.getElem?_toList, hget k] at hv
    by_cases hr : off ≤ k ∧ k < off + (ρ x).cells.length
    ·rw [if_pos hr] at hy
     rw [if_pos (by omega)] at hv
     exact hcL.get _ _ _ hy (by simpa using hv)
    ·rw [if_neg hr] at hy
     rw [if_neg (by omega)] at hv
     exact hL.get _ _ _ hy (by simpa using hv))
   refine ⟨cs', ?_, ?_⟩
   ·simp only [List.map_cons, Instr.fill, hpl, hvs]
    rw [if_neg (by simp; omega)]
    exact r1
   ·simpa only [List.map_cons, aCQ, hpl] using r2
def o6 (P : Program) : TyD → Nat → Option (Nat × Nat)
 | .st fs, i => (fs[i]?).map fun f => (f.1, f.2.2)
 | .arr _ e, i => match gH P e with | some re => some (i * re.sz, re.sz) | none => none
 | _, _ => none
def u6 (P : Program) : TyD → Bool
 | .st _ => true
 | .arr _ e => (gH P e).isSome
 | _ => false
theorem aQG {P : Program} {o : Oper} {ρ : Operand → aD} {h : aB} {K : aD → aB → Prop} (t : TypeId) (ps : Array (Nat × Operand)) (r : jS) (ho : o.op = .build t ps) (ht : gH P t = some r) (hd : u6 P r.d = true) (hz : r.zero ≠ [])
  (hf : tA (o6 P r.d) r.zero.length (ps.toList.map fun p => (p.1, ρ p.2)) = true) (hk : K (.agg (aCQ (o6 P r.d) r.zero (ps.toList.map fun p => (p.1, ρ p.2)))) h) : lU P o ρ h K :=
 bU hk fun E w ρc R hρ => by
  obtain ⟨u, hu, hud, hrun⟩ := bN (w := w) ht
  obtain ⟨z, hzr, hzz⟩ := mO (w := w) ht hz
  have hL : cX E h w r.zero z.cells.toList := by rw [← hzz]; exact nA E h w _
  obtain ⟨cs, h1, h2⟩ := aFQ hρ ps.toList r.zero z.cells hf hL
  refine ⟨.agg cs, ?_, by have := dY.agg (E := E) (h := h) (w := w) _ cs.toList h2.length h2.get; simpa using this⟩
  have hmap : (ps.map fun (i, x) => (i, ρc x)).toList = ps.toList.map fun p => (p.1, ρc p.2) := by simp
  cases hdd : r.d with
  |st fs =>
   obtain ⟨gs, rfl, hall, hgs⟩ := aRY (hud.trans hdd)
   have hpl : ∀ i : Nat, ((gs.toList.map fun f => (f.offset, P.cellsOf f.type)).toArray)[i]? = o6 P r.d i := by
    intro i
    rw [hdd]
    simp only [o6, ← hgs, List.getElem?_toArray, List.getElem?_map, Option.map_map]
    rfl
   have hm : (gs.mapM fun f => (do pure (f.offset, ← sizeOf f.type) : Sem (Nat × Nat))).run P w = .ok (gs.toList.map fun f => (f.offset, P.cellsOf f.type)).toArray w := by
    rw [← Array.toArray_toList (xs := gs), List.mapM_toArray]
    have key : ∀ l : List Field, l.all (fun f => (P.info? f.type).isSome) = true → (l.mapM fun f => (do pure (f.offset, ← sizeOf f.type) : Sem (Nat × Nat))).run P w = .ok (l.map fun f => (f.offset, P.cellsOf f.type)) w := by
     intro l
     induction l with
     |nil => intro _; simp
     |cons f l ih =>
      intro hl
      simp only [List.all_cons, Bool.and_eq_true] at hl
      simp only [List.mapM_cons, Sem.run_bind, uX hl.1, Result.andThen_ok, Sem.run_pure, ih hl.2, List.map_cons]
    have hk' := key _ hall
    simp only [bind_pure_comp] at hk' ⊢
    simp [hk']
   simp only [execOp, ho, Instr.build, Sem.run_bind, hzr, Result.andThen_ok, hrun, hm, hmap]
   have : (fun x => (gs.toList.map fun f => (f.offset, P.cellsOf f.type)).toArray[x]?) = o6 P r.d := funext hpl
   rw [this, h1]
   simp
  |arr n e =>
   obtain rfl := aVQ (hud.trans hdd)
   rw [hdd] at hd
   obtain ⟨re, hre⟩ := Option.isSome_iff_exists.1 hd
   have hsize := fJ (w := w) hre
   simp only [execOp, ho, Instr.build, Sem.run_bind, hzr, Result.andThen_ok, hrun, hsize, hmap]
   have : (fun i => some (i * re.sz, re.sz)) = o6 P r.d := by funext i; rw [hdd]; simp [o6, hre]
   rw [this, h1]
   simp
  | _ => rw [hdd] at hd; simp [u6] at hd
section
variable {P : Program} {o : Oper} {ρ : Operand → aD} {h : aB} {K : aD → aB → Prop}
theorem aE6 (t et : TypeId) (x : Operand) (lo hi : Option Operand) (mx : Operand) (r re : jS) (sz : Nat) (es : List (List aD)) (tg : Bool) (l m M : Int) (ho : o.op = .slice t x lo hi (some mx)) (ht : gH P t = some r) (hd : r.d = .slice et)
  (he : gH P et = some re) (hsz : re.sz = sz) (hx : ρ x = .sl sz es tg) (hhi : hi.isSome = true)
  (hl : iF 0 (lo.map ρ) = some l) (hh : iF es.length (hi.map ρ) = some m) (hM : iF 0 (some (ρ mx)) = some M) (h0 : 0 ≤ l) (h1 : l ≤ m) (h2 : m ≤ M) (h3 : M ≤ es.length)
  (hk : K (.sl sz ((es.take m.toNat).drop l.toNat) (decide (M = m))) h) : lU P o ρ h K :=
 bU hk fun E w ρc R hρ => by
  have hr := hρ x
  rw [hx] at hr
  obtain ⟨u, hu, hud, hrun⟩ := bN (w := w) ht
  obtain rfl := fU (hud.trans hd)
  have hsize := fJ (w := w) he
  have hml : maxLen = 9223372036854775807 := rfl
  have key : ∀ (a : Option Addr) (cap : Nat), ρc x = .slice a es.length cap → es.length ≤ cap →
    (execOp ρc o).run P w = .ok (.value (.slice (if M.toNat = l.toNat then a else a.map (·.add (l.toNat * sz))) (m.toNat - l.toNat) (M.toNat - l.toNat))) w := by
   intro a cap hv hc
   have hM' : iF cap (some (ρ mx)) = some M := by
    generalize ρ mx = z at hM
    cases z <;> simp [iF] at hM ⊢
    exact hM
   have hb := p2 (P := P) R hρ true es.length cap lo hi (some mx) l m M hl hh hM' (fun _ => hhi) h0 h1 h2 (by omega)
   simp only [Option.map_some] at hb
   simp [execOp, ho, Instr.sliceAt, Instr.slice, hrun, hv, hb, hsize, hsz]
  have htk : ∀ i j y, gO ((es.take m.toNat).drop l.toNat) i j = some y → gO es (l.toNat + i) j = some y := by
   intro i j y hy
   obtain ⟨e, h1, h2⟩ := jH hy
   rw [List.getElem?_drop] at h1
   have hlt : l.toNat + i < m.toNat := by have := (List.getElem?_eq_some_iff.1 h1).1; simp at this; omega
   rw [List.getElem?_take_of_lt hlt] at h1
   simp [gO, h1, h2]
  cases hv : ρc x <;> rw [hv] at hr <;> try (cases hr; done)
  cases hr with
  |wW _ _ _ _ htt hmax ha =>
   have hl0 : l = 0 := by simp at h3; omega
   have hm0 : m = 0 := by simp at h3; omega
   have hM0 : M = 0 := by simp at h3; omega
   subst hl0 hm0 hM0
   refine ⟨_, key _ _ (by simpa using hv) (by simp), ?_⟩
   simp only [Int.toNat_zero, List.take_zero, List.drop_nil, Nat.sub_zero, Nat.zero_mul, Nat.sub_self, List.length_nil]
   exact .wW sz _ _ _ (fun _ => rfl) (by omega) trivial
  |sl _ _ _ b o' cap cv hI hcap hmax htt hs hc h1' hrr =>
   rename_i cap
   refine ⟨_, key _ cap hv hcap, ?_⟩
   have hlen : ((es.take m.toNat).drop l.toNat).length = m.toNat - l.toNat := by simp; omega
   by_cases hemp : m.toNat = l.toNat
   ·have e1 : (es.take m.toNat).drop l.toNat = [] := List.drop_eq_nil_of_le (by simp; omega)
    rw [e1, hemp, Nat.sub_self]
    refine .wW sz _ _ _ (fun e => ?_) (by omega) trivial
    simp at e; omega
   ·have hne : ¬ M.toNat = l.toNat := by omega
    rw [if_neg hne, ← hlen]
    simp only [Option.map_some, j7]
    refine .sl sz _ _ b (o' + l.toNat * sz) (M.toNat - l.toNat) (fun i j => cv (l.toNat + i) j) hI (by omega) (by omega) (fun e => ?_) ?_ ?_ ?_ ?_
    ·simp at e; omega
    ·intro e he
     exact hs e (List.mem_of_mem_take (List.mem_of_mem_drop he))
    ·intro i j y hy
     rw [← hc _ _ _ (htk i j y hy)]; congr 2; rw [Nat.add_mul]; omega
    ·intro i j y hy; exact h1' _ _ _ (htk i j y hy)
    ·intro i j y hy; exact hrr _ _ _ (htk i j y hy)
theorem yB (t et : TypeId) (x : Operand) (lo hi : Option Operand) (r re : jS) (n sz i len : Nat) (l m : Int) (ho : o.op = .slice t x lo hi none) (ht : gH P t = some r) (hd : r.d = .slice et)
  (he : gH P et = some re) (hsz : re.sz = sz) (hx : ρ x = .os n sz i len)
  (hl : iF 0 (lo.map ρ) = some l) (hh : iF len (hi.map ρ) = some m) (h0 : 0 ≤ l) (h1 : l < m) (h2 : m ≤ len)
  (hk : K (.os n sz (i + l.toNat) (m.toNat - l.toNat)) h) : lU P o ρ h K :=
 bU hk fun E w ρc R hρ => by
  have hr := hρ x
  rw [hx] at hr
  obtain ⟨u, hu, hud, hrun⟩ := bN (w := w) ht
  obtain rfl := fU (hud.trans hd)
  have hsize := fJ (w := w) he
  have hml : maxLen = 9223372036854775807 := rfl
  have key : ∀ (a : Option Addr) (cap : Nat), ρc x = .slice a len cap → len ≤ cap →
    (execOp ρc o).run P w = .ok (.value (.slice (if cap = l.toNat then a else a.map (·.add (l.toNat * sz))) (m.toNat - l.toNat) (cap - l.toNat))) w := by
   intro a cap hv hc
   have hb := p2 (P := P) R hρ true len cap lo hi none l m cap hl hh rfl (by simp) h0 (by omega) (by omega) (by omega)
   simp only [Option.map_none] at hb
   have e : ((cap : Int)).toNat = cap := by omega
   simp [execOp, ho, Instr.sliceAt, Instr.slice, hrun, hv, hb, hsize, hsz, e]
  cases hv : ρc x <;> rw [hv] at hr <;> try (cases hr; done)
  cases hr with
  |os0 _ _ hd' hl' => simp at h2; omega
  |os _ _ _ _ b o' cap t' mm hd' hl' hlc hmax hsh hm =>
   refine ⟨_, key _ _ hv hlc, ?_⟩
   rename_i cap
   rw [if_neg (by omega)]
   simp only [Option.map_some, j7]
   have e : o' + i * sz + l.toNat * sz = o' + (i + l.toNat) * sz := by rw [Nat.add_mul]; omega
   rw [e]
   refine .os n sz (i + l.toNat) (m.toNat - l.toNat) b o' (cap - l.toNat) t' mm hd' hl' (by omega) (by omega) hsh ?_
   rw [show i + l.toNat + (cap - l.toNat) = i + cap by omega]
   exact hm
theorem aE7 (t et : TypeId) (x : Operand) (lo hi : Option Operand) (r re : jS) (n sz i len : Nat) (l m : Int) (ho : o.op = .slice t x lo hi none) (ht : gH P t = some r) (hd : r.d = .slice et)
  (he : gH P et = some re) (hsz : re.sz = sz) (hx : ρ x = .os n sz i len)
  (hl : iF 0 (lo.map ρ) = some l) (hh : iF len (hi.map ρ) = some m) (h0 : 0 ≤ l) (h1 : l = m) (a5Z : m = len)
  (hk : K (.os n sz (i + len) 0) h) (hk2 : K (.sl sz [] true) h) : lU P o ρ h K :=
 by
  intro E w ρc R hρ
  have hr := hρ x
  rw [hx] at hr
  obtain ⟨u, hu, hud, hrun⟩ := bN (w := w) ht
  obtain rfl := fU (hud.trans hd)
  have hsize := fJ (w := w) he
  have hml : maxLen = 9223372036854775807 := rfl
  have key : ∀ (a : Option Addr) (cap : Nat), ρc x = .slice a len cap → len ≤ cap →
    (execOp ρc o).run P w = .ok (.value (.slice (if cap = l.toNat then a else a.map (·.add (l.toNat * sz))) (m.toNat - l.toNat) (cap - l.toNat))) w := by
   intro a cap hv hc
   have hb := p2 (P := P) R hρ true len cap lo hi none l m cap hl hh rfl (by simp) h0 (by omega) (by omega) (by omega)
   simp only [Option.map_none] at hb
   have e : ((cap : Int)).toNat = cap := by omega
   simp [execOp, ho, Instr.sliceAt, Instr.slice, hrun, hv, hb, hsize, hsz, e]
  cases hv : ρc x <;> rw [hv] at hr <;> try (cases hr; done)
  have e0 : m.toNat - l.toNat = 0 := by omega
  cases hr with
  |os0 _ _ hd' hl' =>
   have hk' := key _ _ hv (Nat.le_refl _)
   refine .hH hk' (.same hk2 R ?_)
   rw [e0]
   have e1 : l.toNat = 0 := by have h2 := a5Z; simp at h2; omega
   rw [e1]
   exact .wW sz true _ _ (fun _ => rfl) (by simp [maxLen]) trivial
  |os _ _ _ _ b o' cap t' mm hd' hl' hlc hmax hsh hm =>
   have hk' := key _ _ hv hlc
   rename_i cap
   by_cases hcl : cap = l.toNat
   ·refine .hH hk' (.same hk2 R ?_)
    rw [e0, if_pos hcl]
    exact .wW sz true _ _ (fun _ => by omega) (by omega) trivial
   ·refine .hH hk' (.same hk R ?_)
    rw [e0, if_neg hcl]
    simp only [Option.map_some, j7]
    have hlm : m = len := a5Z
    have e : o' + i * sz + l.toNat * sz = o' + (i + len) * sz := by
     have : l.toNat = len := by omega
     rw [this, Nat.add_mul]; omega
    rw [e]
    refine .os n sz (i + len) 0 b o' (cap - l.toNat) t' mm hd' hl' (by omega) (by omega) hsh ?_
    rw [show i + len + (cap - l.toNat) = i + cap by omega]
    exact hm
def bytesOf : List (List aD) → Option (List UInt8)
 | [] => some []
 | [.int .u8 n] :: r => (bytesOf r).map (UInt8.ofNat n.toNat :: ·)
 | _ => none
theorem yC : ∀ {es : List (List aD)} {s : List UInt8}, bytesOf es = some s → ∃ ns : List Int, es = ns.map (fun n => [.int .u8 n]) ∧ s = ns.map fun n => UInt8.ofNat n.toNat
 | [], s, h => by simp [bytesOf] at h; subst h; exact ⟨[], rfl, rfl⟩
 |e :: r, s, h => by
  unfold bytesOf at h
  split at h
  ·simp_all
  ·rename_i n r' heq
   obtain ⟨rfl, rfl⟩ := List.cons.inj heq
   obtain ⟨s', hs, rfl⟩ := Option.map_eq_some_iff.1 h
   obtain ⟨ns, rfl, rfl⟩ := yC hs
   exact ⟨n :: ns, rfl, rfl⟩
  ·simp at h
theorem foldl_push : ∀ (ns : List Int) (r : ByteArray), ns.foldl (fun r n => r.push (UInt8.ofNat n.toNat)) r = ⟨(r.data.toList ++ ns.map fun n => UInt8.ofNat n.toNat).toArray⟩
 | [], r => by simp
 |n :: ns, r => by
  rw [List.foldl_cons, foldl_push ns]
  simp [ByteArray.push, List.append_assoc]
theorem aCR (s d et : TypeId) (x : Operand) (rs rd re : jS) (es : List (List aD)) (tg : Bool) (bs : List UInt8) (ho : o.op = .convert s d x) (hs : gH P s = some rs) (hss : rs.d = .slice et) (het : gH P et = some re) (hee : re.d = .int .u8)
  (hd : gH P d = some rd) (hdd : rd.d = .str) (hx : ρ x = .sl 1 es tg) (hb : bytesOf es = some bs) (hk : K (.str bs) h) : lU P o ρ h K :=
 bU hk fun E w ρc R hρ => by
  have hr := hρ x
  rw [hx] at hr
  obtain ⟨u, hu, hud, hrun⟩ := bN (w := w) hs
  obtain rfl := fU (hud.trans hss)
  obtain ⟨u', hu', hud', hrun'⟩ := bN (w := w) hd
  obtain rfl := xZ (hud'.trans hdd)
  obtain ⟨ue, hue, hude, hrune⟩ := bN (w := w) het
  obtain rfl := aNY (hude.trans hee)
  obtain ⟨ns, rfl, rfl⟩ := yC hb
  generalize hes : (ns.map fun n => [aD.int .u8 n]) = es at hr
  cases hv : ρc x <;> rw [hv] at hr <;> try (cases hr; done)
  cases hr with
  |wW _ _ a cap htt hmax ha =>
   have hns : ns = [] := by simpa using hes
   subst hns
   rename_i a cap
   refine ⟨.string ⟨#[]⟩, ?_, .str [] (by simp)⟩
   cases a with
   |none => simp [execOp, ho, convert, hv, hrun, hrun', hrune, Conv.bytesToString]; rfl
   |some a =>
    have := run_bytesToString (P := P) w a 0 cap [] (by simp [loadCells, loadCellsFrom])
    simp [execOp, ho, convert, hv, hrun, hrun', hrune, this]; rfl
  |sl _ _ _ b o' cap cv hI hcap hmax htt hs' hc h1' hrr =>
   rename_i cap
   subst hes
   have hns : (ns.map fun n => UInt8.ofNat n.toNat).length ≤ maxLen := by simp at hcap ⊢; omega
   refine ⟨.string ⟨(ns.map fun n => UInt8.ofNat n.toNat).toArray⟩, ?_, .str _ hns⟩
   have hl : (loadCells ⟨b, o', none⟩ ns.length).run P w = .ok (ns.map (Value.int .u8)).toArray w := by
    have := run_loadCells_list (P := P) (w := w) ⟨b, o', none⟩ (ns.map (Value.int .u8)) (fun j v hj => by
     rw [List.getElem?_map] at hj
     obtain ⟨n, hn, rfl⟩ := Option.map_eq_some_iff.1 hj
     have hat : gO (ns.map fun n => [aD.int .u8 n]) j 0 = some (.int .u8 n) := by simp [gO, hn]
     have h1 := hc j 0 _ hat
     have h2 := jI (hrr j 0 _ hat)
     rw [j7, ← h2, ← h1]
     simp)
    simpa using this
   have := run_bytesToString (P := P) w ⟨b, o', none⟩ ns.length cap ns hl
   simp only [List.length_map] at hv
   simp [execOp, ho, convert, hv, hrun, hrun', hrune, this]
   rw [foldl_push]; simp
theorem aJB (t ty : TypeId) (x y : Operand) (a b : List UInt8) (ho : o.op = .binOp .add t x y ty) (hx : ρ x = .str a) (hy : ρ y = .str b) (hl : a.length + b.length ≤ 9223372036854775807) (hk : K (.str (a ++ b)) h) : lU P o ρ h K :=
 bU hk fun E w ρc R hρ => by
  obtain ⟨e1, h1⟩ := qT (hx ▸ hρ x)
  obtain ⟨e2, h2⟩ := qT (hy ▸ hρ y)
  have hg : (eqGuard .add t x y (ρc x) (ρc y)).run P w = .ok () w := by rw [e1, e2]; simp [eqGuard]
  refine ⟨.string ⟨(a ++ b).toArray⟩, ?_, .str _ (by simp [maxLen] at *; omega)⟩
  simp only [execOp, ho, Sem.run_bind, hg, Result.andThen_ok, e1, e2, binOp, Op.stringOp]
  have hs : ¬ ((((⟨a.toArray⟩ : ByteArray).size + (⟨b.toArray⟩ : ByteArray).size : Nat) : Int) > IntKind.i64.max) := by
   have : IntKind.i64.max = 9223372036854775807 := by decide
   rw [this]; simp [ByteArray.size]; omega
  rw [if_neg hs]
  simp only [Sem.run_pure]
  congr 3
def aMB (op : BinOp) (a b : List UInt8) : Option Bool :=
 match op with
 | .lss => some (Op.bytesLess a b)
 | .leq => some (Op.bytesLess a b || a == b)
 | .gtr => some (!(Op.bytesLess a b || a == b))
 | .geq => some (!(Op.bytesLess a b))
 | _ => none
theorem aJC (op : BinOp) (t ty : TypeId) (x y : Operand) (a b : List UInt8) (c : Bool) (ho : o.op = .binOp op t x y ty) (hx : ρ x = .str a) (hy : ρ y = .str b) (hc : aMB op a b = some c) (hk : K (.bool c) h) : lU P o ρ h K :=
 bU hk fun E w ρc R hρ => by
  obtain ⟨e1, h1⟩ := qT (hx ▸ hρ x)
  obtain ⟨e2, h2⟩ := qT (hy ▸ hρ y)
  refine ⟨.bool c, ?_, .bool c⟩
  have q1 : (⟨a.toArray⟩ : ByteArray).toList = a := by rw [ByteArray.toList_eq]
  have q2 : (⟨b.toArray⟩ : ByteArray).toList = b := by rw [ByteArray.toList_eq]
  have hg : (eqGuard op t x y (ρc x) (ρc y)).run P w = .ok () w := by
   rw [e1, e2]; cases op <;> simp [eqGuard]
  rw [e1, e2] at hg
  cases op <;> simp only [aMB, Option.some.injEq, reduceCtorEq] at hc <;> subst hc <;>
   simp only [execOp, ho, Sem.run_bind, hg, Result.andThen_ok, e1, e2, binOp, Op.stringOp, q1, q2, Sem.run_pure]
theorem tB (op : BinOp) (t ty : TypeId) (x y : Operand) (r : jS) (et : TypeId) (Z Z2 : Prop) (ho : o.op = .binOp op t x y ty) (ht : gH P t = some r) (hd : r.d = .slice et)
  (hx : ∀ E w v, dY E h w (ρ x) v → ∃ a n c, v = .slice a n c ∧ (a = none → Z) ∧ (¬ a = none → Z2)) (hy : ρ y = .bO)
  (hop : op = .eql ∨ op = .neq) (h1 : Z → K (.bool (op == .eql)) h) (h2 : Z2 → K (.bool (op != .eql)) h) : lU P o ρ h K := by
 intro E w ρc R hρ
 have hyv : ρc y = .slice none 0 0 := by have := hy ▸ hρ y; generalize ρc y = v at this; cases this; rfl
 obtain ⟨u, hu, hud, hrun⟩ := bN (w := w) ht
 obtain rfl := fU (hud.trans hd)
 have hg : (eqGuard op t x y (ρc x) (ρc y)).run P w = .ok () w := by
  rw [hyv]; rcases hop with rfl | rfl <;> cases ρc x <;> simp [eqGuard]
 have aR2 : ∀ (d : Nat) (a : Option Addr) (n c : Nat), (Op.equalIn (d + 1) t (.slice a n c) (.slice none 0 0)).run P w = .ok a.isNone w := by
  intro d a n c
  cases a <;> simp [Op.equalIn, hrun]
 have key : ∀ (a : Option Addr) (n c : Nat), (Op.equal t (.slice a n c) (.slice none 0 0)).run P w = .ok a.isNone w := fun a n c => aR2 9999 a n c
 have fin : ∀ (a : Option Addr) (n c : Nat), ρc x = .slice a n c → K (.bool (if op = .eql then a.isNone else !a.isNone)) h → ∃ v, (execOp ρc o).run P w = .ok (.value v) w ∧ dY E h w (.bool (if op = .eql then a.isNone else !a.isNone)) v := by
  intro a n c e hk
  rw [e, hyv] at hg
  refine ⟨.bool (if op = .eql then a.isNone else !a.isNone), ?_, .bool _⟩
  rcases hop with rfl | rfl
  ·simp only [execOp, ho, Sem.run_bind, e, hyv, hg, Result.andThen_ok, binOp, key, Sem.run_pure]; simp
  ·simp only [execOp, ho, Sem.run_bind, e, hyv, hg, Result.andThen_ok, binOp, key, Sem.run_pure]; simp
 obtain ⟨a, n, c, hv, hz, hz2⟩ := hx E w _ (hρ x)
 have h1' : Z → K (.bool (if op = .eql then true else false)) h := fun q => by have := h1 q; rcases hop with rfl | rfl <;> exact this
 have h2' : Z2 → K (.bool (if op = .eql then false else true)) h := fun q => by have := h2 q; rcases hop with rfl | rfl <;> exact this
 cases a with
 |none =>
  have he := hz rfl
  obtain ⟨v, qY, hv2⟩ := fin none n c hv (by simpa using h1' he)
  exact .hH qY (.same (by simpa using h1' he) R (by simpa using hv2))
 |some a =>
  have he := hz2 (by simp)
  obtain ⟨v, qY, hv2⟩ := fin (some a) n c hv (by simpa using h2' he)
  exact .hH qY (.same (by simpa using h2' he) R (by simpa using hv2))
theorem aA3 (op : BinOp) (t ty : TypeId) (x y : Operand) (r : jS) (et : TypeId) (sz : Nat) (es : List (List aD)) (tt : Bool) (ho : o.op = .binOp op t x y ty) (ht : gH P t = some r) (hd : r.d = .slice et) (hx : ρ x = .sl sz es tt) (hy : ρ y = .bO)
  (hop : op = .eql ∨ op = .neq) (h1 : es = [] → K (.bool (op == .eql)) h) (h2 : K (.bool (op != .eql)) h) : lU P o ρ h K :=
 tB op t ty x y r et (es = []) True ho ht hd (fun E w v hr => by
  rw [hx] at hr
  cases v <;> try (cases hr; done)
  exact ⟨_, _, _, rfl, fun q => by subst q; cases hr <;> rfl, fun _ => trivial⟩) hy hop h1 fun _ => h2
theorem yD (op : BinOp) (t ty : TypeId) (x y : Operand) (r : jS) (et : TypeId) (m sz i len : Nat) (ho : o.op = .binOp op t x y ty) (ht : gH P t = some r) (hd : r.d = .slice et) (hx : ρ x = .os m sz i len) (hy : ρ y = .bO)
  (hop : op = .eql ∨ op = .neq) (h1 : len = 0 → K (.bool (op == .eql)) h) (h2 : K (.bool (op != .eql)) h) : lU P o ρ h K :=
 tB op t ty x y r et (len = 0) True ho ht hd (fun E w v hr => by
  rw [hx] at hr
  cases v <;> try (cases hr; done)
  exact ⟨_, _, _, rfl, fun q => by subst q; cases hr; rfl, fun _ => trivial⟩) hy hop h1 fun _ => h2
theorem yE (op : BinOp) (t ty : TypeId) (x y : Operand) (r : jS) (et : TypeId) (ho : o.op = .binOp op t x y ty) (ht : gH P t = some r) (hd : r.d = .slice et) (hx : ρ x = .bO) (hy : ρ y = .bO)
  (hop : op = .eql ∨ op = .neq) (h1 : K (.bool (op == .eql)) h) : lU P o ρ h K :=
 tB op t ty x y r et True False ho ht hd (fun E w v hr => by
  rw [hx] at hr
  cases v <;> try (cases hr; done)
  exact ⟨_, _, _, rfl, fun _ => trivial, fun q => by cases hr; exact q rfl⟩) hy hop (fun _ => h1) fun q => q.elim
def aA4 (P : Program) (t : TypeId) : Bool := match P.underlying t with | some (.interface _) => true | _ => false
def pF : Operand → Bool | .const _ => true | _ => false
theorem qZ (op : BinOp) (t ty : TypeId) (x y : Operand) (b : Bool) (ho : o.op = .binOp op t x y ty) (hi : aA4 P t = true) (hc : pF y = true) (hx : (ρ x = .j6 ∧ b = true) ∨ (∃ ti xi, ρ x = .iface ti xi) ∧ b = false) (hy : ρ y = .j6)
  (hop : op = .eql ∨ op = .neq) (h1 : K (.bool (if op = .eql then b else !b)) h) : lU P o ρ h K := by
 intro E w ρc R hρ
 have hyv : ρc y = .nilIface := by have := hy ▸ hρ y; generalize ρc y = v at this; cases this; rfl
 obtain ⟨ms, hu⟩ : ∃ ms, P.underlying t = some (.interface ms) := by
  unfold aA4 at hi
  split at hi
  ·exact ⟨_, by assumption⟩
  ·cases hi
 have hrun : (underlying t).run P w = .ok (.interface ms) w := by simp [underlying, hu]
 have hyc : ∃ v, y = .const v := by cases y <;> first | exact ⟨_, rfl⟩ | (simp [pF] at hc)
 obtain ⟨yv, rfl⟩ := hyc
 refine .hH (v := .bool (if op = .eql then b else !b)) ?_ (.same h1 R (.bool _))
 rcases hx with ⟨hx, rfl⟩ | ⟨⟨ti, xi, hx⟩, rfl⟩
 ·have hxv : ρc x = .nilIface := by have := hx ▸ hρ x; generalize ρc x = v at this; cases this; rfl
  have hg : (eqGuard op t x (.const yv) (ρc x) (ρc (.const yv))).run P w = .ok () w := by
   rw [hxv, hyv]; rcases hop with rfl | rfl <;> simp [eqGuard]
  have aR2 : ∀ d : Nat, (Op.equalIn (d + 1) t .nilIface .nilIface).run P w = .ok true w := by
   intro d
   simp [Op.equalIn, hrun]
  have key : (Op.equal t .nilIface .nilIface).run P w = .ok true w := aR2 9999
  rw [hxv, hyv] at hg
  rcases hop with rfl | rfl
  ·simp only [execOp, ho, Sem.run_bind, hxv, hyv, hg, Result.andThen_ok, binOp, key, Sem.run_pure]; simp
  ·simp only [execOp, ho, Sem.run_bind, hxv, hyv, hg, Result.andThen_ok, binOp, key, Sem.run_pure]; simp
 ·obtain ⟨xv, hxv⟩ : ∃ xv, ρc x = .iface ti xv := by have := hx ▸ hρ x; generalize ρc x = v at this; cases this; exact ⟨_, rfl⟩
  have hg : (eqGuard op t x (.const yv) (ρc x) (ρc (.const yv))).run P w = .ok () w := by
   rw [hxv, hyv]; rcases hop with rfl | rfl <;> simp [eqGuard]
  have aR2 : ∀ d : Nat, (Op.equalIn (d + 1) t (.iface ti xv) .nilIface).run P w = .ok false w := by
   intro d
   simp [Op.equalIn, hrun]
  have key : (Op.equal t (.iface ti xv) .nilIface).run P w = .ok false w := aR2 9999
  rw [hxv, hyv] at hg
  rcases hop with rfl | rfl
  ·simp only [execOp, ho, Sem.run_bind, hxv, hyv, hg, Result.andThen_ok, binOp, key, Sem.run_pure]; simp
  ·simp only [execOp, ho, Sem.run_bind, hxv, hyv, hg, Result.andThen_ok, binOp, key, Sem.run_pure]; simp
end
variable {ds : List Deferred}
def kS (P : Program) (f : FuncId) : Bool :=
 match P.funcs[f]? with
 |some fn => fn.body.isSome && !(fn.name == "runtime.NumGoroutine")
 |none => false
def eH (P : Program) (f : FuncId) (args : List aD) (h : aB) (K : aD → aB → Prop) : Prop := kS P f = true ∧ aGS P f args h K
theorem eH.mono {P : Program} {f : FuncId} {args : List aD} {h : aB} {K K' : aD → aB → Prop} (a : eH P f args h K) (hk : ∀ r h', K r h' → K' r h') : eH P f args h K' := ⟨a.1, a.2.mono hk⟩
def dV (P : Program) (f : FuncId) (args : List aD) (r : aD) : Prop := ∀ h, eH P f args h fun r' h' => r' = r ∧ h' = h
theorem dV.call {P : Program} {f : FuncId} {args : List aD} {r : aD} (a : dV P f args r) {h : aB} {K : aD → aB → Prop} (hk : K r h) : eH P f args h K :=
 (a h).mono fun _ _ ⟨e, e'⟩ => e ▸ e' ▸ hk
section
variable {P : Program} {o : Oper} {ρ : Operand → aD} {h : aB} {K : aD → aB → Prop}
theorem aR3 (f : Operand) (as : Array Operand) (ats : Array TypeId) (g : FuncId) (first cap : List aD) (ho : o.op = .call { callee := .value f, args := as, argTypes := ats }) (hf : ρ f = .fn (.func g) first cap)
  (hk : eH P g (first ++ as.toList.map ρ ++ cap) h K) : lU P o ρ h K := by
 intro E w ρc R hρ
 have hr := hρ f
 rw [hf] at hr
 obtain ⟨hc, hk⟩ := hk
 cases hv : ρc f <;> rw [hv] at hr <;> try (cases hr; done)
 cases hr with
 |fn _ _ _ vs us hl hrr hl' hrr' =>
  have hL := (cX.append (cX.append (cX.mk hl hrr) (x7 hρ as.toList)) (cX.mk hl' hrr'))
  unfold kS at hc
  cases hfn : P.funcs[g]? with
  |none => simp [hfn] at hc
  |some fn =>
   simp only [hfn, Bool.and_eq_true, Bool.not_eq_true', beq_eq_false_iff_ne, ne_eq] at hc
   have hb : fn.body.isNone = false := by cases hb : fn.body <;> simp_all
   have hrun : (execOp ρc o).run P w = .ok (.enter g (vs ++ as.toList.map ρc ++ us).toArray) w := by
    have hb' : ¬ fn.body = none := by intro e; simp [e] at hb
    simp [execOp, ho, resolve, hv, Deferred.ofValue, invoke, callFunc, hfn, hc.2]
    rw [if_neg hb']
    congr 2
    apply Array.ext'
    simp
   unfold rY
   rw [hrun]
   exact Calls.mono (hk E w _ R hL) fun e w' he => by cases e <;> exact he
end
abbrev bB := List (Nat × aD)
def bJ : bB → Nat → aD
 | [], _ => .any
 |(j, v) :: r, k => if j = k then v else bJ r k
def qQ (τ : bB) : Operand → aD
 | .tmp t => bJ τ t
 | .const v => .ofValue v
 | .global _ => .any
 | .func f => .fn (.func f) [] []
def eY (τ : bB) (d : Option Tmp) (v : aD) : bB :=
 match d with
 |some d => (d, v) :: τ
 |none => τ
def prune (keep : List Nat) (τ : bB) : bB := keep.map fun k => (k, bJ τ k)
structure rN (ds : List Deferred) (E : Env) (h : aB) (w : World) (N : Nat) (τ : bB) (a : Act) : Prop where
 size : a.tmps.size = N
 defers : a.defers = ds
 get : ∀ k, dY E h w (bJ τ k) (a.tmps.getD k undef)
theorem rN.qQ {E : Env} {h : aB} {w : World} {N : Nat} {τ : bB} {a : Act} (r : rN ds E h w N τ a) (x : Operand) : dY E h w (qQ τ x) (a.eval x) := by
 cases x with
 |tmp t => exact r.get t
 |const v => exact .ofValue _ _ _ _
 |global g => exact .any _
 |func f =>
  have := dY.fn (E := E) (h := h) (w := w) (.func f) [] [] [] [] rfl (by simp) rfl (by simp)
  exact this
theorem rN.put {E : Env} {h : aB} {w : World} {N : Nat} {τ : bB} {a : Act} (r : rN ds E h w N τ a) (d : Option Tmp) (hd : ∀ k, d = some k → k < N) {x : aD} {v : Value} (hx : dY E h w x v) :
  rN ds E h w N (eY τ d x) (a.put d v) := by
 cases d with
 |none => exact r
 |some d =>
  have hlt : d < a.tmps.size := by rw [r.size]; exact hd d rfl
  refine ⟨by simpa [Act.put] using r.size, r.defers, fun k => ?_⟩
  simp only [eY, bJ, Act.put]
  by_cases e : d = k
  ·subst e
   simp [hlt]; exact hx
  ·rw [if_neg e]
   have := r.get k
   simpa [Array.getElem?_setIfInBounds_ne e] using this
theorem rN.ev {E E' : Env} {h h' : aB} {w w' : World} {N : Nat} {τ : bB} {a : Act} (r : rN ds E h w N τ a) (ev : Ev E h w E' h' w') : rN ds E' h' w' N τ a :=
 ⟨r.size, r.defers, fun k => (r.get k).ev ev⟩
theorem aMC (keep : List Nat) (τ : bB) (k : Nat) : bJ (prune keep τ) k = .any ∨ bJ (prune keep τ) k = bJ τ k := by
 induction keep with
 |nil => exact .inl rfl
 |cons j keep ih =>
  simp only [prune, List.map_cons, bJ]
  by_cases e : j = k
  ·subst e; simp
  ·rw [if_neg e]; exact ih
theorem rN.prune {E : Env} {h : aB} {w : World} {N : Nat} {τ : bB} {a : Act} (keep : List Nat) (r : rN ds E h w N τ a) : rN ds E h w N (prune keep τ) a :=
 ⟨r.size, r.defers, fun k => by
  rcases aMC keep τ k with e | e
  ·rw [e]; exact .any _
  ·rw [e]; exact r.get k⟩
def o7 (ds : List Deferred) (N : Nat) (Q : Exit → bB → aB → Prop) (E : Env) (h : aB) (w : World) (e : Exit) (a' : Act) (w' : World) : Prop :=
 ∃ τ' h' E', Q e τ' h' ∧ Ev E h w E' h' w' ∧ Rel E' h' w' ∧ rN ds E' h' w' N τ' a'
def mI (P : Program) (N : Nat) (c : Code) (Q : Exit → bB → aB → Prop) (τ : bB) (h : aB) : Prop :=
 ∀ (ds : List Deferred) E w a, Rel E h w → rN ds E h w N τ a → Code.wp P c (o7 ds N Q E h w) a w
theorem o7.trans {N : Nat} {Q : Exit → bB → aB → Prop} {E E' : Env} {h h' : aB} {w w' : World} {e : Exit} {a : Act} {w'' : World} (ev : Ev E h w E' h' w') (x : o7 ds N Q E' h' w' e a w'') : o7 ds N Q E h w e a w'' :=
 let ⟨τ, g, F, q, ev', R, r⟩ := x; ⟨τ, g, F, q, ev.trans ev', R, r⟩
theorem mI.mono {P : Program} {N : Nat} {c : Code} {Q Q' : Exit → bB → aB → Prop} {τ : bB} {h : aB} (hq : ∀ e τ h, Q e τ h → Q' e τ h) (x : mI P N c Q τ h) : mI P N c Q' τ h :=
 fun ds E w a R r => Code.wp_mono (fun e a' w' ⟨τ', h', E', q, rest⟩ => ⟨τ', h', E', hq _ _ _ q, rest⟩) (x ds E w a R r)
theorem mI.prune {P : Program} {N : Nat} {c : Code} {Q : Exit → bB → aB → Prop} {τ : bB} {h : aB} (keep : List Nat) (x : mI P N c Q (prune keep τ) h) : mI P N c Q τ h :=
 fun ds E w a R r => x ds E w a R (r.prune keep)
theorem mI.forget {P : Program} {N : Nat} {c : Code} {Q : Exit → bB → aB → Prop} {τ : bB} {h g : aB} (hl : g.le h) (x : mI P N c Q τ g) : mI P N c Q τ h :=
 fun ds E w a R r => Code.wp_mono (fun e a' w' y => o7.trans ((Ev.refl E h w).forget hl) y) (x ds E w a (R.forget hl) (r.ev ((Ev.refl E h w).forget hl)))
theorem mI.skip {P : Program} {N : Nat} {Q : Exit → bB → aB → Prop} {τ : bB} {h : aB} (hq : Q .normal τ h) : mI P N .skip Q τ h :=
 fun ds E w a R r => wp_skip ⟨τ, h, E, hq, .refl _ _ _, R, r⟩
theorem mI.exit {P : Program} {N id : Nat} {Q : Exit → bB → aB → Prop} {τ : bB} {h : aB} (hq : Q (.exit id) τ h) : mI P N (.exit id) Q τ h :=
 fun ds E w a R r => wp_exit ⟨τ, h, E, hq, .refl _ _ _, R, r⟩
theorem mI.ret {P : Program} {N : Nat} {Q : Exit → bB → aB → Prop} {τ : bB} {h : aB} (hq : Q .ret τ h) : mI P N .ret Q τ h :=
 fun ds E w a R r => wp_ret ⟨τ, h, E, hq, .refl _ _ _, R, r⟩
def r8 (next : bB → aB → Prop) (Q : Exit → bB → aB → Prop) : Exit → bB → aB → Prop
 | .normal, τ, h => next τ h
 | .outgrown, _, _ => False
 |e, τ, h => Q e τ h
theorem mI.seq {P : Program} {N : Nat} {x y : Code} {Q : Exit → bB → aB → Prop} {τ : bB} {h : aB} (hx : mI P N x (r8 (mI P N y Q) Q) τ h) : mI P N (.seq x y) Q τ h := by
 intro ds E w a R r
 refine wp_seq (Code.wp_mono ?_ (hx ds E w a R r))
 rintro e a' w' ⟨τ', h', E', q, ev, R', r'⟩
 cases e <;> simp only [r8] at q
 ·simp only [Exit.then]
  exact Code.wp_mono (fun e a w y => o7.trans ev y) (q ds E' w' a' R' r')
 all_goals first | exact q.elim | exact ⟨τ', h', E', q, ev, R', r'⟩
theorem mI.cond {P : Program} {N : Nat} {c : Operand} {x y : Code} {Q : Exit → bB → aB → Prop} {τ : bB} {h : aB} {b : Bool} (hc : qQ τ c = .bool b)
  (ht : b = true → mI P N x Q τ h) (hf : b = false → mI P N y Q τ h) : mI P N (.cond c x y) Q τ h := by
 intro ds E w a R r
 have := r.qQ c
 rw [hc] at this
 exact wp_cond_split (rZ this) (fun e => ht e ds E w a R r) (fun e => hf e ds E w a R r)
def aGX (id : Nat) (Q : Exit → bB → aB → Prop) : Exit → bB → aB → Prop
 | .exit id', τ, h => if id' = id then Q .normal τ h else Q (.exit id') τ h
 | .outgrown, _, _ => False
 |e, τ, h => Q e τ h
theorem mI.block {P : Program} {N id : Nat} {c : Code} {Q : Exit → bB → aB → Prop} {τ : bB} {h : aB} (hx : mI P N c (aGX id Q) τ h) : mI P N (.block id c) Q τ h := by
 intro ds E w a R r
 refine wp_block (Code.wp_mono ?_ (hx ds E w a R r))
 rintro e a' w' ⟨τ', h', E', q, ev, R', r'⟩
 cases e <;> simp only [aGX] at q <;> simp only [Exit.inBlock]
 case exit id' =>
  split
  ·rename_i e; rw [if_pos e] at q; exact ⟨τ', h', E', q, ev, R', r'⟩
  ·rename_i e; rw [if_neg e] at q; exact ⟨τ', h', E', q, ev, R', r'⟩
 all_goals first | exact q.elim | exact ⟨τ', h', E', q, ev, R', r'⟩
theorem mI.loop {P : Program} {N : Nat} {c : Code} {Q : Exit → bB → aB → Prop} {τ : bB} {h : aB} {α : Type} (I : α → bB → aB → Prop) (μ : α → Nat) (x₀ : α) (h₀ : I x₀ τ h)
  (round : ∀ x τ h, I x τ h → mI P N c (r8 (fun τ' h' => ∃ x', I x' τ' h' ∧ μ x' < μ x) Q) τ h) : mI P N (.loop c) Q τ h := by
 intro ds E w a R r
 have key : ∀ n x τ₁ h₁ E₁ a₁ w₁, μ x = n → I x τ₁ h₁ → Ev E h w E₁ h₁ w₁ → Rel E₁ h₁ w₁ → rN ds E₁ h₁ w₁ N τ₁ a₁ → ∀ b k cs,
   ∃ e a' w', o7 ds N Q E h w e a' w' ∧ Arrives P (lone (b.at a₁ (.code c :: .inLoop c :: k)) cs w₁) b k cs e a' w' := by
  intro n
  induction n using Nat.strongRecOn with
  | _ n ih =>
   intro x τ₁ h₁ E₁ a₁ w₁ hn hI ev₁ R₁ r₁ b k cs
   obtain ⟨e, a₂, w₂, ⟨τ₂, h₂, E₂, q, ev₂, R₂, r₂⟩, harr⟩ := round x τ₁ h₁ hI ds E₁ w₁ a₁ R₁ r₁ b (.inLoop c :: k) cs
   cases e with
   |normal =>
    obtain ⟨x', hI', hlt⟩ := q
    obtain ⟨e₃, a₃, w₃, q₃, harr₃⟩ := ih (μ x') (hn ▸ hlt) x' τ₂ h₂ E₂ a₂ w₂ rfl hI' (ev₁.trans ev₂) R₂ r₂ b k cs
    exact ⟨e₃, a₃, w₃, q₃, .of_steps (Steps.trans harr (.one step_inLoop)) harr₃⟩
   |outgrown => exact q.elim
   |exit id => exact ⟨_, a₂, w₂, ⟨τ₂, h₂, E₂, q, ev₁.trans ev₂, R₂, r₂⟩, .pass (x := .inLoop c) rfl (fun _ _ => .inl (by simp)) harr⟩
   |goto l => exact ⟨_, a₂, w₂, ⟨τ₂, h₂, E₂, q, ev₁.trans ev₂, R₂, r₂⟩, .pass (x := .inLoop c) rfl (fun _ _ => .inl (by simp)) harr⟩
   |ret => exact ⟨_, a₂, w₂, ⟨τ₂, h₂, E₂, q, ev₁.trans ev₂, R₂, r₂⟩, .pass (x := .inLoop c) rfl (fun _ _ => .inl (by simp)) harr⟩
   |panic ch => exact ⟨_, a₂, w₂, ⟨τ₂, h₂, E₂, q, ev₁.trans ev₂, R₂, r₂⟩, .pass (x := .inLoop c) rfl (fun _ _ => .inl (by simp)) harr⟩
 intro b k cs
 obtain ⟨e, a', w', q, harr⟩ := key _ x₀ τ h E a w rfl h₀ (.refl _ _ _) R r b k cs
 exact ⟨e, a', w', q, .of_steps (.one step_loop) harr⟩
def jY (P : Program) (t : TypeId) : Option jS :=
 match gH P t with
 |some r => match r.d with
  | .slice et => gH P et
  | _ => none
 |none => none
theorem kN {P : Program} {t : TypeId} {re : jS} (h : jY P t = some re) : ∃ r et, gH P t = some r ∧ r.d = .slice et ∧ gH P et = some re := by
 unfold jY at h
 split at h
 ·rename_i r hr
  split at h
  ·rename_i et hd; exact ⟨r, et, hr, hd, h⟩
  ·simp at h
 ·simp at h
def uJ (P : Program) (t : TypeId) : Option TyD := (gH P t).map (·.d)
theorem iN {P : Program} {t : TypeId} {d : TyD} (h : uJ P t = some d) : ∃ r, gH P t = some r ∧ r.d = d := by
 unfold uJ at h
 obtain ⟨r, hr, rfl⟩ := Option.map_eq_some_iff.1 h
 exact ⟨r, hr, rfl⟩
def eZ (P : Program) (op : BinOp) (t : TypeId) (x y : aD) (K : aD → Prop) : Prop :=
 match x, y with
 | .bool a, .bool b => uJ P t = some .bool ∧ (match op with | .eql => K (.bool (a == b)) | .neq => K (.bool (a != b)) | _ => False)
 | .int k a, .int k' b =>
  match op with
  | .quo => k = k' ∧ b ≠ 0 ∧ K (.int k (k.wrap (a.tdiv b)))
  | .rem => k = k' ∧ b ≠ 0 ∧ K (.int k (a.tmod b))
  | .shl => 0 ≤ b ∧ K (.int k (k.wrap (a * 2 ^ (min b.toNat k.bits))))
  | .shr => 0 ≤ b ∧ K (.int k (a.fdiv (2 ^ (min b.toNat k.bits))))
  |op => match k6 op (.int k a) (.int k' b) with | some v => K v | none => False
 | .str a, .str b =>
  match op with
  | .add => a.length + b.length ≤ 9223372036854775807 ∧ K (.str (a ++ b))
  | .eql => K (.bool (decide (a = b)))
  | .neq => K (.bool (!decide (a = b)))
  |op => match aMB op a b with | some c => K (.bool c) | none => False
 |x, y => match k6 op x y with | some v => K v | none => False
def r9 (P : Program) (op : BinOp) (t : TypeId) (x y : aD) (K : aD → Prop) : Prop :=
 match x, y with
 | .sl _ es _, .bO => (match uJ P t with | some (.slice _) => True | _ => False) ∧ (match op with | .eql => (es = [] → K (.bool true)) ∧ K (.bool false) | .neq => (es = [] → K (.bool false)) ∧ K (.bool true) | _ => False)
 | .os _ _ _ len, .bO => (match uJ P t with | some (.slice _) => True | _ => False) ∧ (match op with | .eql => (len = 0 → K (.bool true)) ∧ K (.bool false) | .neq => (len = 0 → K (.bool false)) ∧ K (.bool true) | _ => False)
 | .bO, .bO => (match uJ P t with | some (.slice _) => True | _ => False) ∧ (match op with | .eql => K (.bool true) | .neq => K (.bool false) | _ => False)
 |x, y => eZ P op t x y K
def sA (P : Program) (op : BinOp) (t : TypeId) (c : Bool) (x y : aD) (K : aD → Prop) : Prop :=
 match c, x, y with
 |true, .j6, .j6 => aA4 P t = true ∧ (match op with | .eql => K (.bool true) | .neq => K (.bool false) | _ => False)
 |true, .iface _ _, .j6 => aA4 P t = true ∧ (match op with | .eql => K (.bool false) | .neq => K (.bool true) | _ => False)
 | _, x, y => r9 P op t x y K
def z5 (op : UnOp) (x : aD) (K : aD → Prop) : Prop :=
 match op, x with
 | .not, .bool b => K (.bool (!b))
 | .neg, .int k n => K (.int k (k.wrap (0 - n)))
 | _, _ => False
def z7 (d : Option TyD) (f : Nat) (x : aD) (K : aD → Prop) : Prop :=
 match d with
 |some (.st fs) => match fs[f]? with
  |some (off, _, sz') => sz' ≠ 0 ∧ (match x with
   | .op n sz i k => K (.op n sz i (k + off))
   | .ip sz es i k => K (.ip sz es i (k + off))
   | _ => False)
  |none => False
 | _ => False
def z8 (re : Option jS) (x i : aD) (K : aD → Prop) : Prop :=
 match re with
 |some re => match x, i with
  | .sl sz es _, .int _ n => re.sz = sz ∧ 0 ≤ n ∧ n < es.length ∧ K (.ip sz es n.toNat 0)
  | .os m sz i0 len, .int _ n => re.sz = sz ∧ 0 ≤ n ∧ n < len ∧ K (.op m sz (i0 + n.toNat) 0)
  | _, _ => False
 |none => False
def w8 (d : Option TyD) (x i : aD) (K : aD → Prop) : Prop :=
 match d, x, i with
 |some .str, .str s, .int _ n => 0 ≤ n ∧ (match s[n.toNat]? with | some c => K (.int .u8 c.toNat) | none => False)
 | _, _, _ => False
def iG (r : Option jS) (a : aD) (h : aB) (K : aD → Prop) : Prop :=
 match r with
 |some r => match a with
  | .ip _ es i off => match es[i]? with
   |some e => match ld r e off with
    |some x => K x
    |none => False
   |none => False
  | .op n sz i off => match h n with
   |some (.row sz' es) => sz' = sz ∧ (match es[i]? with
    |some e => match aAY r e off with
     |some x => K x
     |none => False
    |none => False)
   | _ => False
  | _ => False
 |none => False
def aGY (r : Option jS) (a v : aD) (h : aB) (K : aB → Prop) : Prop :=
 match r with
 |some r => match a with
  | .op n sz i off => match h n with
   |some (.row sz' es) => sz' = sz ∧ (match es[i]? with
    |some e => v.cells.all aD.flat = true ∧ v.cells.length = r.sz ∧ off + r.sz ≤ e.length ∧ K (a5 h n (.row sz (es.set i (mD e off v.cells))))
    |none => False)
   | _ => False
  | _ => False
 |none => False
def aAA (r : Option jS) (h : aB) (K : aD → aB → Prop) : Prop :=
 match r with
 |some r => r.zero ≠ [] ∧ r.zero.all aD.flat = true ∧ ∀ n, h n = none → K (.op n r.zero.length 0 0) (a5 h n (.row r.zero.length [r.zero.map .v]))
 |none => False
def aN3 (x : aD) (h : aB) (K : aD → aB → Prop) : Prop :=
 x.cells.all aD.flat = true ∧ ∀ n, h n = none → K (.op n x.cells.length 0 0) (a5 h n (.row x.cells.length [x.cells.map .v]))
def a03 (t : TypeId) : Bool := match aRU with | none => false | some r => decide (t = r)
def aN4 (t : TypeId) (x : aD) (h : aB) (K : aD → aB → Prop) : Prop :=
 x.cells = [.iE, .bO] ∧ ∀ n, h n = none → K (.op n 2 0 0) (a5 h n (.raw t #[.pointer none, .slice none 0 0]))
def aCS (re : Option jS) (l c : aD) (h : aB) (K : aD → aB → Prop) : Prop :=
 match re with
 |some re => match l, c with
  | .int _ a, .int _ b => re.zero.length = re.sz ∧ 0 < re.sz ∧ re.zero.all aD.flat = true ∧ 0 ≤ a ∧ a ≤ b ∧ b ≤ 281474976710656 ∧ re.bytes * b ≤ 281474976710656 ∧
    ∀ n, h n = none → K (.os n re.sz 0 a.toNat) (a5 h n (.row re.sz ((List.replicate b.toNat re.zero).map (List.map .v))))
  | _, _ => False
 |none => False
def kY (P : Program) (t : TypeId) (x : aD) (lo hi : Option aD) (K : aD → Prop) : Prop :=
 match x with
 | .str s => uJ P t = some .str ∧ (match iF 0 lo, iF s.length hi with
  |some l, some m => 0 ≤ l ∧ l ≤ m ∧ m ≤ s.length ∧ K (.str ((s.take m.toNat).drop l.toNat))
  | _, _ => False)
 | .sl sz es tg => match jY P t with
  |some re => re.sz = sz ∧ (match iF 0 lo, iF es.length hi with
   |some l, some m => 0 ≤ l ∧ l ≤ m ∧ m ≤ es.length ∧ K (.sl sz ((es.take m.toNat).drop l.toNat) (tg && decide (m = es.length)))
   | _, _ => False)
  |none => False
 | .os n sz i len => match jY P t with
  |some re => re.sz = sz ∧ (match iF 0 lo, iF len hi with
   |some l, some m => 0 ≤ l ∧ l < m ∧ m ≤ len ∧ K (.os n sz (i + l.toNat) (m.toNat - l.toNat))
   | _, _ => False)
  |none => False
 | _ => False
def nV (P : Program) (t : TypeId) (x : aD) (lo hi : Option aD) (K : aD → Prop) : Prop :=
 match x, hi with
 | .os n sz i len, none => (match jY P t with
  |some re => re.sz = sz ∧ (match iF 0 lo with
   |some l => 0 ≤ l ∧ l ≤ len ∧ (l < len → K (.os n sz (i + l.toNat) (len - l.toNat))) ∧ (l = len → K (.os n sz (i + len) 0) ∧ K (.sl sz [] true))
   |none => False)
  |none => False)
 |x, hi => kY P t x lo hi K
def mJ (P : Program) (t : TypeId) (x : aD) (lo : Option aD) (hi mx : aD) (K : aD → Prop) : Prop :=
 match x with
 | .sl sz es tg => match jY P t with
  |some re => re.sz = sz ∧ (match iF 0 lo, iF es.length (some hi), iF 0 (some mx) with
   |some l, some m, some M => 0 ≤ l ∧ l ≤ m ∧ m ≤ M ∧ M ≤ es.length ∧ K (.sl sz ((es.take m.toNat).drop l.toNat) (decide (M = m)))
   | _, _, _ => False)
  |none => False
 | _ => False
def aGZ (P : Program) (t : Option TypeId) (x : aD) (K : aD → Prop) : Prop :=
 match t with
 |some t => match uJ P t, x with
  |some (.slice _), .sl _ es _ => es.length ≤ 9223372036854775807 → K (.int .i64 es.length)
  |some (.slice _), .os _ _ _ n => n ≤ 9223372036854775807 → K (.int .i64 n)
  |some (.slice _), .bO => K (.int .i64 0)
  |some .str, .str s => s.length ≤ 9223372036854775807 → K (.int .i64 s.length)
  | _, _ => False
 |none => False
def pQ (P : Program) (r : Option jS) (ps : List (Nat × aD)) (K : aD → Prop) : Prop :=
 match r with
 |some r => u6 P r.d = true ∧ r.zero ≠ [] ∧ tA (o6 P r.d) r.zero.length ps = true ∧ K (.agg (aCQ (o6 P r.d) r.zero ps))
 |none => False
def p4 (re : Option jS) (len : Nat) (ps : List (Nat × aD)) (K : Nat → List (List aD) → Prop) : Prop :=
 match re with
 |some re => re.zero.length = re.sz ∧ 0 < re.sz ∧ re.zero.all aD.flat = true ∧ len * re.sz ≤ 16777216 ∧ nU len re.sz ps = true ∧ K re.sz (p3 (List.replicate len re.zero) ps)
 |none => False
def tC (P : Program) (re : Option jS) (t1 : Option TypeId) (x y : aD) (h : aB) (K : aD → aB → Prop) : Prop :=
 match re with
 |some re => re.zero.length = re.sz ∧ 0 < re.sz ∧ u3 P t1 = true ∧ (match x with
  | .os n sz i len => re.sz = sz ∧ (match h n with
   |some (.row sz' es) => sz' = sz ∧ i + len ≤ es.length ∧ (match qX h sz y with
    |some ys => (len + ys.length) * re.bytes ≤ 140737488355328 ∧ len + ys.length ≤ 9223372036854775807 ∧
      ∀ b, h b = none → K (.os b sz 0 (len + ys.length)) (a5 (a5 h n .gone) b (.row sz ((es.drop i).take len ++ ys.map (List.map .v))))
    |none => False)
   | _ => False)
  |x => match yA re.sz x, qX h re.sz y with
   |some olds, some ys => (ys = [] → K x h) ∧ (ys ≠ [] → (olds.length + ys.length) * re.bytes ≤ 140737488355328 ∧ olds.length + ys.length ≤ 9223372036854775807 ∧
     ∀ n, h n = none → K (.os n re.sz 0 (olds.length + ys.length)) (a5 h n (.row re.sz ((olds ++ ys).map (List.map .v)))))
   | _, _ => False)
 |none => False
def aVX (P : Program) (t : Option TypeId) : Option jS := match t with | some t => jY P t | none => none
def u7 (P : Program) (c : Call) (ρ : Operand → aD) (h : aB) (K : aD → aB → Prop) : Prop :=
 match c with
 | { callee := .value f, args := as, argTypes := _ } => match ρ f with
  | .fn (.func g) first cap => eH P g (first ++ as.toList.map ρ ++ cap) h K
  | _ => False
 | { callee := .builtin .len, args := as, argTypes := ats } => match as.toList with
  | [x] => aGZ P ats[0]? (ρ x) fun v => K v h
  | _ => False
 | { callee := .builtin .max, args := as, argTypes := _ } => match as.toList with
  | [x, y] => match ρ x, ρ y with
   | .int k a, .int _ b => (match ρ y with | .int k' _ => k' = k | _ => False) ∧ K (.int k (max a b)) h
   | _, _ => False
  | _ => False
 | { callee := .builtin .append, args := as, argTypes := ats } => match as.toList with
  | [x, y] => tC P (aVX P ats[0]?) ats[1]? (ρ x) (ρ y) h K
  | _ => False
 | _ => False
def u9 (P : Program) (s d : TypeId) (x : aD) (K : aD → Prop) : Prop :=
 match uJ P d, x with
 |some (.int k'), .int k n => (uJ P s).isSome = true ∧ K (.int k' (k'.wrap n))
 |some .str, .sl 1 es _ => (match uJ P s with
  |some (.slice et) => uJ P et = some (.int .u8) ∧ (match bytesOf es with | some bs => K (.str bs) | none => False)
  | _ => False)
 | _, _ => False
def step (P : Program) (o : Oper) (ρ : Operand → aD) (h : aB) (K : aD → aB → Prop) : Prop :=
 match o.op with
 | .move x => K (ρ x) h
 | .assign x => K (ρ x) h
 | .pick c a b => match ρ c with
  | .bool t => (t = true → K (ρ a) h) ∧ (t = false → K (ρ b) h)
  | _ => False
 | .binOp op t x y _ => sA P op t (pF y) (ρ x) (ρ y) fun v => K v h
 | .unOp op _ x => z5 op (ρ x) fun v => K v h
 | .convert s d x => u9 P s d (ρ x) fun v => K v h
 | .fieldAddr t x f => z7 (uJ P t) f (ρ x) fun v => K v h
 | .indexAddr t x i => z8 (jY P t) (ρ x) (ρ i) fun v => K v h
 | .index t x i => w8 (uJ P t) (ρ x) (ρ i) fun v => K v h
 | .load t a => iG (gH P t) (ρ a) h fun v => K v h
 | .store t a v => aGY (gH P t) (ρ a) (ρ v) h fun h' => K .any h'
 | .alloc t => aAA (gH P t) h K
 | .box t x => if a03 t then aN4 t (ρ x) h K else aN3 (ρ x) h K
 | .makeSlice t l c => aCS (jY P t) (ρ l) (ρ c) h K
 | .slice t x lo hi none => nV P t (ρ x) (lo.map ρ) (hi.map ρ) fun v => K v h
 | .extract t i => match ρ t with
  | .gN cs => match cs[i]? with | some x => K x h | none => False
  | _ => False
 | .nilCheck x => match ρ x with
  | .op n sz i k => K (.op n sz i k) h
  | .ip sz es i k => K (.ip sz es i k) h
  | _ => False
 | .makeFunc fn fs cs => K (.fn fn (fs.toList.map ρ) (cs.toList.map ρ)) h
 | .call c => u7 P c ρ h K
 | .build t ps => pQ P (gH P t) (ps.toList.map fun p => (p.1, ρ p.2)) fun v => K v h
 | .buildSlice t len ps => p4 (jY P t) len (ps.toList.map fun p => (p.1, ρ p.2)) fun sz es => ∀ n, h n = none → K (.os n sz 0 len) (a5 h n (.row sz (es.map (List.map .v))))
 | .slice t x lo (some hi) (some mx) => mJ P t (ρ x) (lo.map ρ) (ρ hi) (ρ mx) fun v => K v h
 | _ => False
section
variable {P : Program} {o : Oper} {ρ : Operand → aD} {h : aB} {K : aD → aB → Prop}
theorem aE8 (op : BinOp) (t ty : TypeId) (x y : Operand) (ho : o.op = .binOp op t x y ty) (hs : eZ P op t (ρ x) (ρ y) fun v => K v h) : lU P o ρ h K := by
 have gen : ∀ v, k6 op (ρ x) (ρ y) = some v → K v h → lU P o ρ h K := fun v hv hk => aVP op t ty x y v ho hv hk
 unfold eZ at hs
 split at hs
 ·rename_i a b ex ey
  obtain ⟨hd, hs⟩ := hs
  obtain ⟨r, hr, hd⟩ := iN hd
  split at hs
  ·exact x8 .eql t ty x y r a b _ ho hr hd ex ey (.inl ⟨rfl, rfl⟩) hs
  ·exact x8 .neq t ty x y r a b _ ho hr hd ex ey (.inr ⟨rfl, rfl⟩) hs
  ·exact hs.elim
 ·rename_i k a k' b ex ey
  split at hs
  ·obtain ⟨rfl, hb, hk⟩ := hs
   exact aNZ .quo t ty x y k a b _ ho ex ey hb (.inl ⟨rfl, rfl⟩) hk
  ·obtain ⟨rfl, hb, hk⟩ := hs
   exact aNZ .rem t ty x y k a b _ ho ex ey hb (.inr ⟨rfl, rfl⟩) hk
  ·obtain ⟨hb, hk⟩ := hs
   exact aFL .shl t ty x y k k' a b _ ho ex ey hb (.inl ⟨rfl, rfl⟩) hk
  ·obtain ⟨hb, hk⟩ := hs
   exact aFL .shr t ty x y k k' a b _ ho ex ey hb (.inr ⟨rfl, rfl⟩) hk
  ·split at hs
   ·rename_i v hv; exact gen v (by rw [ex, ey]; exact hv) hs
   ·exact hs.elim
 ·rename_i a b ex ey
  split at hs
  ·exact aJB t ty x y a b ho ex ey hs.1 hs.2
  ·exact gen _ (by rw [ex, ey]; rfl) hs
  ·exact gen _ (by rw [ex, ey]; rfl) hs
  ·split at hs
   ·rename_i c hc; exact aJC _ t ty x y a b c ho ex ey hc hs
   ·exact hs.elim
 ·split at hs
  ·rename_i v hv; exact gen v hv hs
  ·exact hs.elim
theorem aCT (op : BinOp) (t ty : TypeId) (x y : Operand) (ho : o.op = .binOp op t x y ty) (hs : r9 P op t (ρ x) (ρ y) fun v => K v h) : lU P o ρ h K := by
 unfold r9 at hs
 split at hs
 ·rename_i sz es tt ex ey
  obtain ⟨hd0, hs⟩ := hs
  split at hd0
  ·rename_i et hd
   obtain ⟨r, hr, hd⟩ := iN hd
   split at hs
   ·exact aA3 .eql t ty x y r et sz es tt ho hr hd ex ey (.inl rfl) hs.1 hs.2
   ·exact aA3 .neq t ty x y r et sz es tt ho hr hd ex ey (.inr rfl) hs.1 hs.2
   ·exact hs.elim
  ·exact hd0.elim
 ·rename_i m sz i len ex ey
  obtain ⟨hd0, hs⟩ := hs
  split at hd0
  ·rename_i et hd
   obtain ⟨r, hr, hd⟩ := iN hd
   split at hs
   ·exact yD .eql t ty x y r et m sz i len ho hr hd ex ey (.inl rfl) hs.1 hs.2
   ·exact yD .neq t ty x y r et m sz i len ho hr hd ex ey (.inr rfl) hs.1 hs.2
   ·exact hs.elim
  ·exact hd0.elim
 ·rename_i ex ey
  obtain ⟨hd0, hs⟩ := hs
  split at hd0
  ·rename_i et hd
   obtain ⟨r, hr, hd⟩ := iN hd
   split at hs
   ·exact yE .eql t ty x y r et ho hr hd ex ey (.inl rfl) hs
   ·exact yE .neq t ty x y r et ho hr hd ex ey (.inr rfl) hs
   ·exact hs.elim
  ·exact hd0.elim
 ·exact aE8 op t ty x y ho hs
theorem aCU (op : BinOp) (t ty : TypeId) (x y : Operand) (ho : o.op = .binOp op t x y ty) (hs : sA P op t (pF y) (ρ x) (ρ y) fun v => K v h) : lU P o ρ h K := by
 unfold sA at hs
 split at hs
 ·rename_i ec ex ey
  obtain ⟨hi, hs⟩ := hs
  split at hs
  ·exact qZ .eql t ty x y true ho hi ec (.inl ⟨ex, rfl⟩) ey (.inl rfl) hs
  ·exact qZ .neq t ty x y true ho hi ec (.inl ⟨ex, rfl⟩) ey (.inr rfl) hs
  ·exact hs.elim
 ·rename_i ti xi ec ex ey
  obtain ⟨hi, hs⟩ := hs
  split at hs
  ·exact qZ .eql t ty x y false ho hi ec (.inr ⟨⟨_, _, ex⟩, rfl⟩) ey (.inl rfl) hs
  ·exact qZ .neq t ty x y false ho hi ec (.inr ⟨⟨_, _, ex⟩, rfl⟩) ey (.inr rfl) hs
  ·exact hs.elim
 ·exact aCT op t ty x y ho hs
theorem aE9 (x y : Operand) (ats : Array TypeId) (ho : o.op = .call { callee := .builtin .append, args := #[x, y], argTypes := ats }) (hs : tC P (aVX P ats[0]?) ats[1]? (ρ x) (ρ y) h K) : lU P o ρ h K := by
 unfold tC at hs
 split at hs
 ·rename_i re hre
  unfold aVX at hre
  split at hre
  ·rename_i t a0
   obtain ⟨r, et, hr, hd, he⟩ := kN hre
   obtain ⟨hz, hz0, h1, hs⟩ := hs
   split at hs
   ·rename_i n sz i len hx
    obtain ⟨hsz, hs⟩ := hs
    split at hs
    ·rename_i sz' es hn
     obtain ⟨rfl, hle, hs⟩ := hs
     split at hs
     ·rename_i ys hy
      exact aE5 x y ats t et r re n sz' i len es ys ho a0 hr hd he hz hz0 h1 hx hsz hn hle hy hs.1 hs.2.1 hs.2.2
     ·exact hs.elim
    ·exact hs.elim
   ·split at hs
    ·rename_i olds ys hx hy
     rcases List.eq_nil_or_concat ys with e | ⟨_, _, e⟩
     ·subst e
      exact aBN x y ats t et r re ho a0 hr hd he h1 (by rw [hx]; rfl) hy (hs.1 rfl)
     ·have hne : ys ≠ [] := by rw [e]; simp
      have hs := hs.2 hne
      exact aCO x y ats t et r re olds ys ho a0 hr hd he hz hz0 h1 hx hy hne hs.1 hs.2.1 hs.2.2
    ·exact hs.elim
  ·simp at hre
 ·exact hs.elim
theorem jT (hs : step P o ρ h K) : lU P o ρ h K := by
 unfold step at hs
 split at hs
 case h_1 x ho => exact aRV x ho hs
 case h_2 x ho => exact aL8 x ho hs
 case h_3 c a b ho =>
  split at hs
  ·rename_i t ht
   refine aRW c a b t ho ht ?_
   cases t
   ·exact hs.2 rfl
   ·exact hs.1 rfl
  ·exact hs.elim
 case h_4 op t x y ty ho => exact aCU op t ty x y ho hs
 case h_5 op t x ho =>
  unfold z5 at hs
  split at hs
  ·rename_i b hb; exact aVT t x b ho hb hs
  ·rename_i k n hn; exact aVU t x k n ho hn hs
  ·exact hs.elim
 case h_6 s d x ho =>
  unfold u9 at hs
  split at hs
  ·rename_i k' k n hd hx
   obtain ⟨jF, hk⟩ := hs
   obtain ⟨rd, hrd, hdd⟩ := iN hd
   obtain ⟨ds, hds⟩ := Option.isSome_iff_exists.1 jF
   obtain ⟨rs, hrs, _⟩ := iN hds
   exact aBM s d x rs rd k k' n ho hrs hrd hdd hx hk
  ·rename_i es tg hd hx
   split at hs
   ·rename_i et hss
    obtain ⟨hee, hs⟩ := hs
    split at hs
    ·rename_i bs hbs
     obtain ⟨rd, hrd, hdd⟩ := iN hd
     obtain ⟨rs, hrs, hsd⟩ := iN hss
     obtain ⟨re, hre, hed⟩ := iN hee
     exact aCR s d et x rs rd re es tg bs ho hrs hsd hre hed hrd hdd hx hbs hs
    ·exact hs.elim
   ·exact hs.elim
  ·exact hs.elim
 case h_7 t x f ho =>
  unfold z7 at hs
  split at hs
  ·rename_i fs hd
   obtain ⟨r, hr, hd⟩ := iN hd
   split at hs
   ·rename_i off ft sz' hf
    obtain ⟨hsz, hs⟩ := hs
    split at hs
    ·rename_i n sz i k hx; exact wP t x f r fs off sz' ft _ ho hr hd hf hsz (.inl ⟨n, sz, i, k, hx, rfl⟩) hs
    ·rename_i sz es i k hx; exact wP t x f r fs off sz' ft _ ho hr hd hf hsz (.inr ⟨sz, es, i, k, hx, rfl⟩) hs
    ·exact hs.elim
   ·exact hs.elim
  ·exact hs.elim
 case h_8 t x i ho =>
  unfold z8 at hs
  split at hs
  ·rename_i re hre
   obtain ⟨r, et, hr, hd, he⟩ := kN hre
   split at hs
   ·rename_i sz es tg k n hx hi
    obtain ⟨hsz, h0, hn, hk⟩ := hs
    exact zY t et x i r re sz es tg k n ho hr hd he hsz hx hi h0 hn hk
   ·rename_i m sz i0 len k n hx hi
    obtain ⟨hsz, h0, hn, hk⟩ := hs
    exact zZ t et x i r re m sz i0 len k n ho hr hd he hsz hx hi h0 hn hk
   ·exact hs.elim
  ·exact hs.elim
 case h_9 t x i ho =>
  unfold w8 at hs
  split at hs
  ·rename_i s k n hd hx hi
   obtain ⟨r, hr, hd⟩ := iN hd
   obtain ⟨h0, hs⟩ := hs
   split at hs
   ·rename_i c hc; exact aE2 t x i r s k n c ho hr hd hx hi h0 hc hs
   ·exact hs.elim
  ·exact hs.elim
 case h_10 t a ho =>
  unfold iG at hs
  split at hs
  ·rename_i r hr
   split at hs
   ·rename_i sz es i off ha
    split at hs
    ·rename_i e he
     split at hs
     ·rename_i x hx; exact aI2 t a r sz i off es e x ho hr ha he hx hs
     ·exact hs.elim
    ·exact hs.elim
   ·rename_i n sz i off ha
    split at hs
    ·rename_i sz' es hn
     obtain ⟨rfl, hs⟩ := hs
     split at hs
     ·rename_i e he
      split at hs
      ·rename_i x hx; exact aI3 t a r n sz' i off es e x ho hr ha hn he hx hs
      ·exact hs.elim
     ·exact hs.elim
    ·exact hs.elim
   ·exact hs.elim
  ·exact hs.elim
 case h_11 t a v ho =>
  unfold aGY at hs
  split at hs
  ·rename_i r hr
   split at hs
   ·rename_i n sz i off ha
    split at hs
    ·rename_i sz' es hn
     obtain ⟨rfl, hs⟩ := hs
     split at hs
     ·rename_i e he
      obtain ⟨hf, hsz, hoff, hk⟩ := hs
      exact aQC t a v r n sz' i off es e ho hr ha hn he hf hsz hoff hk
     ·exact hs.elim
    ·exact hs.elim
   ·exact hs.elim
  ·exact hs.elim
 case h_12 t ho =>
  unfold aAA at hs
  split at hs
  ·rename_i r hr
   obtain ⟨hz, hf, hk⟩ := hs
   exact aQD t r ho hr hz hf hk
  ·exact hs.elim
 case h_13 t x ho =>
  split at hs
  ·exact aI4 t x ho hs.1 hs.2
  ·exact aVS t x ho hs.1 hs.2
 case h_14 t l c ho =>
  unfold aCS at hs
  split at hs
  ·rename_i re hre
   obtain ⟨r, et, hr, hd, he⟩ := kN hre
   split at hs
   ·rename_i k a k' b hl hc
    obtain ⟨hz, hz0, hf, h0, hab, hb, hbb, hk⟩ := hs
    exact aE4 t et l c r re k k' a b ho hr hd he hz hz0 hf hl hc h0 hab hb hbb hk
   ·exact hs.elim
  ·exact hs.elim
 case h_15 t x lo hi ho =>
  unfold nV at hs
  split at hs
  ·rename_i n sz i len hx hhi
   split at hs
   ·rename_i re hre
    obtain ⟨r, et, hr, hd, he⟩ := kN hre
    obtain ⟨hsz, hs⟩ := hs
    split at hs
    ·rename_i l hl
     obtain ⟨h0, h1, h2, h3⟩ := hs
     rcases Int.lt_or_eq_of_le h1 with q | q
     ·have := h2 q
      exact yB t et x lo hi r re n sz i len l len ho hr hd he hsz hx hl (by rw [hhi]; rfl) h0 q (Int.le_refl _) (by simpa using this)
     ·exact aE7 t et x lo hi r re n sz i len l len ho hr hd he hsz hx hl (by rw [hhi]; rfl) h0 q rfl (h3 q).1 (h3 q).2
    ·exact hs.elim
   ·exact hs.elim
  unfold kY at hs
  split at hs
  ·rename_i s hx
   obtain ⟨hd, hs⟩ := hs
   obtain ⟨r, hr, hd⟩ := iN hd
   split at hs
   ·rename_i l m hl hh
    obtain ⟨h0, h1, h2, hk⟩ := hs
    exact aE3 t x lo hi r s l m ho hr hd hx hl hh h0 h1 h2 hk
   ·exact hs.elim
  ·rename_i sz es tg hx
   split at hs
   ·rename_i re hre
    obtain ⟨r, et, hr, hd, he⟩ := kN hre
    obtain ⟨hsz, hs⟩ := hs
    split at hs
    ·rename_i l m hl hh
     obtain ⟨h0, h1, h2, hk⟩ := hs
     exact aGV t et x lo hi r re sz es tg l m ho hr hd he hsz hx hl hh h0 h1 h2 hk
    ·exact hs.elim
   ·exact hs.elim
  ·rename_i n sz i len hx
   split at hs
   ·rename_i re hre
    obtain ⟨r, et, hr, hd, he⟩ := kN hre
    obtain ⟨hsz, hs⟩ := hs
    split at hs
    ·rename_i l m hl hh
     obtain ⟨h0, h1, h2, hk⟩ := hs
     exact yB t et x lo hi r re n sz i len l m ho hr hd he hsz hx hl hh h0 h1 h2 hk
    ·exact hs.elim
   ·exact hs.elim
  ·exact hs.elim
 case h_16 t i ho =>
  split at hs
  ·rename_i cs ht
   split at hs
   ·rename_i x hx; exact aI5 t i cs x ho ht hx hs
   ·exact hs.elim
  ·exact hs.elim
 case h_17 x ho =>
  split at hs
  ·rename_i n sz i k hx; exact x6 x ho (.inl ⟨n, sz, i, k, hx⟩) (hx ▸ hs)
  ·rename_i sz es i k hx; exact x6 x ho (.inr ⟨sz, es, i, k, hx⟩) (hx ▸ hs)
  ·exact hs.elim
 case h_18 fn fs cs ho => exact aGU fn fs cs ho hs
 case h_19 c ho =>
  unfold u7 at hs
  split at hs
  ·rename_i f as ats
   split at hs
   ·rename_i g first cap hf; exact aR3 f as ats g first cap ho hf hs
   ·exact hs.elim
  ·rename_i as ats
   split at hs
   ·rename_i x hax
    have hax' : as = #[x] := by cases as; simp_all
    subst hax'
    unfold aGZ at hs
    split at hs
    ·rename_i t hat
     split at hs
     ·rename_i et sz es tg hd hx
      obtain ⟨r, hr, hd⟩ := iN hd
      exact aBV t x r es.length ats ho hat hr (.inl ⟨_, sz, es, tg, hd, hx, rfl⟩) hs
     ·rename_i et m sz i n hd hx
      obtain ⟨r, hr, hd⟩ := iN hd
      exact aBV t x r n ats ho hat hr (.inr (.inl ⟨_, m, sz, i, hd, hx⟩)) hs
     ·rename_i et hd hx
      obtain ⟨r, hr, hd⟩ := iN hd
      exact aBV t x r 0 ats ho hat hr (.inr (.inr (.inl ⟨_, hd, hx, rfl⟩))) fun _ => hs
     ·rename_i s hd hx
      obtain ⟨r, hr, hd⟩ := iN hd
      exact aBV t x r s.length ats ho hat hr (.inr (.inr (.inr ⟨s, hd, hx, rfl⟩))) hs
     ·exact hs.elim
    ·exact hs.elim
   ·exact hs.elim
  ·rename_i as ats
   split at hs
   ·rename_i x y hax
    have hax' : as = #[x, y] := by cases as; simp_all
    subst hax'
    split at hs
    ·rename_i k a k' b hx hy
     obtain ⟨h1, hk⟩ := hs
     rw [hy] at h1
     simp only at h1
     subst h1
     exact aVV x y ats _ a b ho hx hy hk
    ·exact hs.elim
   ·exact hs.elim
  ·rename_i as ats
   split at hs
   ·rename_i x y hax
    have hax' : as = #[x, y] := by cases as; simp_all
    subst hax'
    exact aE9 x y ats ho hs
   ·exact hs.elim
  ·exact hs.elim
 case h_20 t ps ho =>
  unfold pQ at hs
  split at hs
  ·rename_i r hr
   obtain ⟨h1, h2, h3, hk⟩ := hs
   exact aQG t ps r ho hr h1 h2 h3 hk
  ·exact hs.elim
 case h_21 t len ps ho =>
  unfold p4 at hs
  split at hs
  ·rename_i re hre
   obtain ⟨r, et, hr, hd, he⟩ := kN hre
   obtain ⟨h1, h2, h3, h4, h5, hk⟩ := hs
   exact aCM t et len ps r re ho hr hd he h1 h2 h3 h4 h5 hk
  ·exact hs.elim
 case h_22 t x lo hi mx ho =>
  unfold mJ at hs
  split at hs
  ·rename_i sz es tg hx
   split at hs
   ·rename_i re hre
    obtain ⟨r, et, hr, hd, he⟩ := kN hre
    obtain ⟨hsz, hs⟩ := hs
    split at hs
    ·rename_i l m M hl hh hM
     obtain ⟨h0, h1, h2, h3, hk⟩ := hs
     exact aE6 t et x lo (some hi) mx r re sz es tg l m M ho hr hd he hsz hx rfl hl hh hM h0 h1 h2 h3 hk
    ·exact hs.elim
   ·exact hs.elim
  ·exact hs.elim
 case h_23 => exact hs.elim
def aCV (x : aD) (K : aD → Prop) : Prop := x.cells.all aD.flat = true ∧ K (.ip x.cells.length [x.cells] 0 0)
def a04 (r' : aD) (h' : aB) (r : aD) (h : aB) : Prop :=
 ∀ E w v, Rel E h' w → dY E h' w r' v → ∃ E', Ev E h' w E' h w ∧ Rel E' h w ∧ dY E' h w r v
def aN5 (K : aD → aB → Prop) : aD → aB → Prop := fun v h' => ∃ r g, a04 v h' r g ∧ K r g
theorem lU.seal {P : Program} {o : Oper} {ρ : Operand → aD} {h : aB} {K : aD → aB → Prop} (a : lU P o ρ h (aN5 K)) : lU P o ρ h K := fun E w ρc R hρ =>
 (a E w ρc R hρ).mono fun v w' ⟨r', h', E', ⟨r, g, s, k⟩, ev, R', x⟩ =>
  let ⟨E'', ev', R'', x'⟩ := s E' w' v R' x
  ⟨r, g, E'', k, ev.trans ev', R'', x'⟩
def p5 (P : Program) (ib : List Nat) (o : Oper) (ρ : Operand → aD) (h : aB) (K : aD → aB → Prop) : Prop :=
 match o.dst with
 |some d => if ib.contains d then (match o.op with
   | .box _ x => aCV (ρ x) fun v => K v h
   | .buildSlice t len ps => p4 (jY P t) len (ps.toList.map fun p => (p.1, ρ p.2)) fun sz es => K (.sl sz es true) h
   | .call ⟨.builtin .append, _, _⟩ => step P o ρ h (aN5 K)
   | _ => step P o ρ h K) else step P o ρ h K
 |none => step P o ρ h K
theorem vA {ib : List Nat} (hs : p5 P ib o ρ h K) : lU P o ρ h K := by
 unfold p5 at hs
 split at hs
 ·split at hs
  ·split at hs
   ·rename_i t x ho; exact aI6 t x ho hs.1 hs.2
   ·rename_i t len ps ho
    unfold p4 at hs
    split at hs
    ·rename_i re hre
     obtain ⟨r, et, hr, hd, he⟩ := kN hre
     obtain ⟨h1, h2, h3, h4, h5, hk⟩ := hs
     exact wZ t et len ps r re ho hr hd he h1 h2 h3 h4 h5 hk
    ·exact hs.elim
   ·exact (jT hs).seal
   ·exact jT hs
  ·exact jT hs
 ·exact jT hs
end
variable {ds : List Deferred}
def want (ops : Array Oper) (τ : bB) (o : Oper) : Option Bool :=
 match o.guard with
 |none => some true
 |some (g, b) => match (ops[g]?).bind (·.dst) with
  |some d => match bJ τ d with
   | .bool b' => some (b' == b)
   | .gN [] => some false
   | _ => none
  |none => none
theorem w9 {E : Env} {h : aB} {w : World} {N : Nat} {τ : bB} {a : Act} {ops : Array Oper} {o : Oper} {c : Bool} (r : rN ds E h w N τ a) (hw : want ops τ o = some c) (hd : ∀ (g : Nat) (og : Oper) d, ops[g]? = some og → og.dst = some d → d < N) :
  Region.wanted o (yielded ops a.tmps) = c := by
 unfold want at hw
 unfold Region.wanted
 split at hw
 ·rename_i hg; rw [hg]; exact Option.some.inj hw
 ·rename_i g b hg
  rw [hg]
  split at hw
  ·rename_i d hdd
   obtain ⟨og, hog, hod⟩ := Option.bind_eq_some_iff.1 hdd
   have hlt : d < a.tmps.size := by rw [r.size]; exact hd g og d hog hod
   have hr := r.get d
   have hge : a.tmps[d]? = some a.tmps[d] := Array.getElem?_eq_getElem hlt
   have hgd : a.tmps.getD d undef = a.tmps[d] := by simp [Array.getD, hlt]
   split at hw
   ·rename_i b' hb'
    rw [hb', hgd] at hr
    have := rZ hr
    obtain rfl := Option.some.inj hw
    simp only [yielded, hog, Option.bind_some, hod, hge, this]
    cases b <;> cases b' <;> rfl
   ·rename_i hb'
    rw [hb', hgd] at hr
    obtain rfl := Option.some.inj hw
    have : a.tmps[d] = .tuple #[] := by
     cases hv : a.tmps[d] <;> rw [hv] at hr <;> try (cases hr; done)
     cases hr with
     |gN _ vs hl hrr =>
      have : vs = [] := by cases vs <;> simp_all
      simp [this]
    simp only [yielded, hog, Option.bind_some, hod, hge, this]
    cases b <;> rfl
   ·simp at hw
  ·simp at hw
def yF (P : Program) (ib : List Nat) (ops : Array Oper) : List Oper → bB → aB → (bB → aB → Prop) → Prop
 | [], τ, h, K => K τ h
 |o :: rest, τ, h, K => match o.guard with
  |none => p5 P ib o (qQ τ) h fun v h' => yF P ib ops rest (eY τ o.dst v) h' K
  |some (g, b) => match (ops[g]?).bind (·.dst) with
   |some d => match bJ τ d with
    | .bool b' => (b' = b → p5 P ib o (qQ ((d, .bool b) :: τ)) h fun v h' => yF P ib ops rest (eY ((d, .bool b) :: τ) o.dst v) h' K) ∧
      (b' = !b → yF P ib ops rest (eY ((d, .bool !b) :: τ) o.dst (.gN [])) h K)
    | .gN [] => yF P ib ops rest (eY τ o.dst (.gN [])) h K
    | _ => False
   |none => False
theorem tD {τ : bB} {d : Nat} {v : aD} (hv : bJ τ d = v) (k : Nat) : bJ ((d, v) :: τ) k = bJ τ k := by
 simp only [bJ]; split
 ·rename_i e; rw [← e, hv]
 ·rfl
theorem yF.cases {P : Program} {ib : List Nat} {ops : Array Oper} {o : Oper} {rest : List Oper} {τ : bB} {h : aB} {K : bB → aB → Prop} (r : yF P ib ops (o :: rest) τ h K) :
  ∃ σ, (∀ k, bJ σ k = bJ τ k) ∧ ((want ops τ o = some true ∧ p5 P ib o (qQ σ) h fun v h' => yF P ib ops rest (eY σ o.dst v) h' K) ∨
   (want ops τ o = some false ∧ yF P ib ops rest (eY σ o.dst (.gN [])) h K)) := by
 unfold yF at r
 unfold want
 split at r
 ·rename_i hg; exact ⟨τ, fun _ => rfl, .inl ⟨by simp [hg], r⟩⟩
 ·rename_i g b hg
  try simp only [hg]
  split at r
  ·rename_i d hd
   try simp only [hd]
   split at r
   ·rename_i b' hb'
    by_cases e : b' = b
    ·subst e
     exact ⟨(d, .bool b') :: τ, tD hb', .inl ⟨by simp [hb'], r.1 rfl⟩⟩
    ·have e' : b' = !b := by cases b' <;> cases b <;> simp_all
     subst e'
     exact ⟨(d, .bool !b) :: τ, tD hb', .inr ⟨by first | (cases b <;> rfl) | (simp only [hb']; cases b <;> rfl), r.2 rfl⟩⟩
   ·rename_i hb'; exact ⟨τ, fun _ => rfl, .inr ⟨by simp [hb'], r⟩⟩
   ·exact r.elim
  ·exact r.elim
def xA (N : Nat) (ops : Array Oper) : Bool := ops.toList.all fun o => match o.dst with | some d => decide (d < N) | none => true
theorem tE {N : Nat} {ops : Array Oper} (h : xA N ops = true) (g : Nat) (og : Oper) (d : Nat) (hg : ops[g]? = some og) (hd : og.dst = some d) : d < N := by
 have := List.all_eq_true.1 h og (by rw [← Array.getElem?_toList] at hg; exact List.mem_of_getElem? hg)
 simpa [hd] using this
theorem aG0 {P : Program} {ib : List Nat} {N : Nat} {ops : Array Oper} {Q : Exit → bB → aB → Prop} {K : bB → aB → Prop} (hN : xA N ops = true) (keep : List Nat) (hK : ∀ τ h, K τ h → Q .normal (prune keep τ) h) {E₀ : Env} {h₀ : aB} {w₀ : World} :
  ∀ (l : List Oper), (∀ o ∈ l, o ∈ ops.toList) → ∀ (τ : bB) (h : aB), yF P ib ops l τ h K → ∀ E w a, Ev E₀ h₀ w₀ E h w → Rel E h w → rN ds E h w N τ a → wpList P ops (o7 ds N Q E₀ h₀ w₀) l a w
 | [], _, τ, h, hr, E, w, a, ev, R, r => ⟨prune keep τ, h, E, hK _ _ hr, ev, R, r.prune keep⟩
 |o :: rest, hl, τ, h, hr, E, w, a, ev, R, r => by
  have hdst : ∀ k, o.dst = some k → k < N := fun k hk => by
   have := List.all_eq_true.1 hN o (hl o (by simp))
   simpa [hk] using this
  obtain ⟨σ, hσ, hr⟩ := hr.cases
  have rσ : rN ds E h w N σ a := ⟨r.size, r.defers, fun k => by rw [hσ]; exact r.get k⟩
  rcases hr with ⟨hw, hr⟩ | ⟨hw, hr⟩
  ·have hwant := w9 r hw (tE hN)
   unfold wpList
   rw [hwant, if_pos rfl]
   left
   refine rY.wp ((vA hr E w _ R fun x => rσ.qQ x).mono ?_)
   rintro v w' ⟨x, h', E', k, ev', R', rx⟩
   exact aG0 hN keep hK rest (fun o ho => hl o (by simp [ho])) _ h' k E' w' (a.put o.dst v) (ev.trans ev') R' ((rσ.ev ev').put o.dst hdst rx)
  ·have hwant := w9 r hw (tE hN)
   unfold wpList
   rw [hwant, if_neg (by simp)]
   refine aG0 hN keep hK rest (fun o ho => hl o (by simp [ho])) _ h hr E w _ ev R (rσ.put o.dst hdst ?_)
   exact dY.gN [] [] rfl (by simp)
theorem mI.region {P : Program} {ib : List Nat} {N id : Nat} {ops : Array Oper} {Q : Exit → bB → aB → Prop} {τ : bB} {h : aB} (hN : xA N ops = true) (keep : List Nat) (hr : yF P ib ops ops.toList τ h fun τ' h' => Q .normal (Hl.prune keep τ') h') : mI P N (.region id ops false) Q τ h :=
 fun ds E w a R r => wp_region_list (aG0 hN keep (fun _ _ x => x) ops.toList (fun _ ho => ho) τ h hr E w a (.refl _ _ _) R r)
def aMD (P : Program) (τ : bB) (h : aB) : ResultVar → (aD → Prop) → Prop
 | .tmp t, K => K (bJ τ t)
 | .cell a t, K => iG (gH P t) (bJ τ a) h K
def aR4 (P : Program) (τ : bB) (h : aB) : List ResultVar → (List aD → Prop) → Prop
 | [], K => K []
 |x :: l, K => aMD P τ h x fun v => aR4 P τ h l fun vs => K (v :: vs)
def aVY (P : Program) (rs : Array ResultVar) (τ : bB) (h : aB) (K : aD → aB → Prop) : Prop :=
 aR4 P τ h rs.toList fun vs => match vs with
  | [v] => K v h
  |vs => K (.gN vs) h
def yG (P : Program) (rs : Array ResultVar) (K : aD → aB → Prop) : Exit → bB → aB → Prop
 | .normal, τ, h => aVY P rs τ h K
 | .ret, τ, h => aVY P rs τ h K
 | _, _, _ => False
theorem aME {P : Program} {t : TypeId} {a : aD} {h : aB} {K : aD → Prop} (hs : iG (gH P t) a h K) {E : Env} {w : World} {v : Value} (R : Rel E h w) (hv : dY E h w a v) :
  ∃ (b o : Nat) (x : aD) (c : Value), v = .pointer (some ⟨b, o, none⟩) ∧ (loadVar t ⟨b, o, none⟩).run P w = .ok c w ∧ K x ∧ dY E h w x c := by
 unfold iG at hs
 split at hs
 ·rename_i r hr
  split at hs
  ·rename_i sz es i off
   split at hs
   ·rename_i e he
    split at hs
    ·rename_i x hx
     obtain ⟨b, k, c, h1, h2, h3⟩ := aAZ (P := P) t r sz i off es e x hr hv he hx
     exact ⟨b, k, x, c, h1, h2, hs, h3⟩
    ·exact hs.elim
   ·exact hs.elim
  ·rename_i n sz i off
   split at hs
   ·rename_i sz' es hn
    obtain ⟨rfl, hs⟩ := hs
    split at hs
    ·rename_i e he
     split at hs
     ·rename_i x hx
      obtain ⟨b, k, c, h1, h2, h3⟩ := aA0 (P := P) R t r n sz' i off es e x hr hv hn he hx
      exact ⟨b, k, x, c, h1, h2, hs, h3⟩
     ·exact hs.elim
    ·exact hs.elim
   ·exact hs.elim
  ·exact hs.elim
 ·exact hs.elim
def aCW (P : Program) (tmps : Array Value) : ResultVar → Sem Value
 | .tmp t => pure (tmps.getD t undef)
 | .cell a t => do loadVar t (← asAddr (tmps.getD a undef))
theorem aCX {P : Program} {N : Nat} {τ : bB} {h : aB} {E : Env} {w : World} {a : Act} (R : Rel E h w) (r : rN ds E h w N τ a) : ∀ (l : List ResultVar) (K : List aD → Prop), aR4 P τ h l K →
  ∃ xs vs, (l.mapM (aCW P a.tmps)).run P w = .ok vs w ∧ K xs ∧ cX E h w xs vs
 | [], K, hk => ⟨[], [], by simp, hk, trivial⟩
 |x :: l, K, hk => by
  unfold aR4 at hk
  cases x with
  |tmp t =>
   simp only [aMD] at hk
   obtain ⟨xs, vs, h1, h2, h3⟩ := aCX R r l _ hk
   exact ⟨_ :: xs, _ :: vs, by simp [aCW, h1], h2, r.get t, h3⟩
  |cell p t =>
   simp only [aMD] at hk
   obtain ⟨b, o, x, c, h1, h2, h3, h4⟩ := aME hk R (r.get p)
   obtain ⟨xs, vs, k1, k2, k3⟩ := aCX R r l _ h3
   exact ⟨x :: xs, c :: vs, by simp [aCW, h1, asAddr, h2, k1], k2, h4, k3⟩
theorem aR5 {P : Program} {N : Nat} {τ : bB} {h : aB} {E : Env} {w : World} {a : Act} {fn : Func} {K : aD → aB → Prop} (R : Rel E h w) (r : rN ds E h w N τ a) (hk : aVY P fn.results τ h K) :
  ∃ x v, (results fn a.tmps).run P w = .ok v w ∧ K x h ∧ dY E h w x v := by
 unfold aVY at hk
 obtain ⟨xs, vs, h1, h2, h3⟩ := aCX R r _ _ hk
 have hm : (fn.results.mapM (aCW P a.tmps)).run P w = .ok vs.toArray w := by
  rw [← Array.toArray_toList (xs := fn.results), List.mapM_toArray]
  simp [h1]
 have hres : (results fn a.tmps).run P w = .ok (if h : vs.toArray.size = 1 then vs.toArray[0] else .tuple vs.toArray) w := by
  have e : results fn a.tmps = (do let vs ← fn.results.mapM (aCW P a.tmps); pure (if h : vs.size = 1 then vs[0] else .tuple vs)) := by
   unfold results
   congr 1
  rw [e, Sem.run_bind, hm]
  rfl
 split at h2
 ·rename_i x
  cases vs with
  |nil => exact h3.elim
  |cons v vs =>
   cases vs with
   |nil => exact ⟨x, v, by rw [hres]; simp, h2, h3.1⟩
   |cons _ _ => exact h3.2.elim
 ·rename_i hne
  refine ⟨.gN xs, .tuple vs.toArray, ?_, h2, .gN xs vs h3.length h3.get⟩
  rw [hres, dif_neg]
  intro e
  have hl := h3.length
  simp at e
  rw [e] at hl
  cases xs with
  |nil => simp at hl
  |cons y ys =>
   cases ys with
   |nil => exact hne y rfl
   |cons _ _ => simp at hl
def p6 : Nat → List aD → bB
 | _, [] => []
 |i, x :: xs => (i, x) :: p6 (i + 1) xs
theorem aCY : ∀ (xs : List aD) (i k : Nat), bJ (p6 i xs) k = if i ≤ k then (xs[k - i]?).getD .any else .any
 | [], i, k => by simp [p6, bJ]
 |x :: xs, i, k => by
  simp only [p6, bJ]
  by_cases e : i = k
  ·subst e; simp
  ·rw [if_neg e, aCY xs (i + 1) k]
   by_cases h : i + 1 ≤ k
   ·rw [if_pos h, if_pos (by omega), show k - i = (k - (i + 1)) + 1 by omega]; simp
   ·rw [if_neg h, if_neg (by omega)]
theorem aR6 {P : Program} {f : FuncId} {fn : Func} {c : Code} {N : Nat} {args : List aD} {h : aB} {K : aD → aB → Prop} (hf : P.funcs[f]? = some fn) (hb : fn.body = some c) (hc : kS P f = true) (hN : fn.ntmps = N)
  (hl : args.length ≤ N) {K' : aD → aB → Prop} (hw : mI P N c (yG P fn.results K') (p6 0 args) h) (hk' : ∀ r h', K' r h' → ∃ g : aB, g.le h' ∧ K r g) : eH P f args h K := by
 refine ⟨hc, fun E w vs R hL => calls_of_wp hf hb ?_⟩
 have hlen := hL.length
 refine Code.wp_mono ?_ (hw [] E w _ R ⟨?_, rfl, ?_⟩)
 ·rintro e a' w' ⟨τ', h', E', q, ev, R', r'⟩
  cases e <;> simp only [yG] at q <;> try exact q.elim
  all_goals
   obtain ⟨x, v, h1, hk0, hx⟩ := aR5 R' r' q
   obtain ⟨g, hg, hk⟩ := hk' _ _ hk0
   exact ⟨r'.defers, v, h1, x, g, E', hk, ev.forget hg, R'.forget hg, hx.nS fun b => mH.le hg⟩
 ·simp [hN]; omega
 ·intro k
  rw [aCY]
  simp only [Nat.zero_le, if_true, Nat.sub_zero]
  by_cases hk : k < args.length
  ·have hx : args[k]? = some args[k] := List.getElem?_eq_getElem hk
   have hv : vs[k]? = some (vs[k]'(by omega)) := List.getElem?_eq_getElem (by omega)
   rw [hx]
   have hg : (vs.toArray ++ Array.replicate (fn.ntmps - vs.toArray.size) undef).getD k undef = vs[k]'(by omega) := by
    have hk' : k < vs.length := by omega
    simp [Array.getD, Array.getElem_append, hk']; omega
   rw [hg]
   exact hL.get k _ _ hx hv
  ·rw [List.getElem?_eq_none (by omega)]
   exact .any _
variable {ds : List Deferred}
def o8 (ops : Array Oper) (o : Oper) : List Tmp :=
 (o.op.operands.toList.filterMap fun | .tmp t => some t | _ => none) ++ (match o.guard with | some (g, _) => ((ops[g]?).bind (·.dst)).toList | none => [])
def pG (ops : Array Oper) (o : Oper) (τ : bB) : Operand → aD
 | .tmp t => if (o8 ops o).contains t then bJ τ t else .any
 |x => qQ τ x
theorem mK {ops : Array Oper} {o : Oper} {τ τ' : bB} (h : ∀ t ∈ o8 ops o, bJ τ t = bJ τ' t) : pG ops o τ = pG ops o τ' := by
 funext x
 cases x with
 |tmp t =>
  simp only [pG]
  split
  ·rename_i hc; exact h t (by simpa using hc)
  ·rfl
 | _ => rfl
def p7 (P : Program) (o : Oper) (ρ : Operand → aD) (v : aD) : Prop := ∀ h, lU P o ρ h fun v' h' => v' = v ∧ h' = h
def uQ : List (Nat × Nat) → Nat → Nat → Bool
 | [], _, _ => false
 |(a, b) :: r, x, i => (a == x && b == i) || uQ r x i
def aR7 : List (Nat × Nat) → Nat → Bool
 | [], _ => false
 |(a, _) :: r, x => a == x || aR7 r x
theorem aJD {x i : Nat} : ∀ {cr : List (Nat × Nat)}, aR7 cr x = false → uQ cr x i = false
 | [], _ => rfl
 |(a, b) :: r, h => by
  simp only [aR7, Bool.or_eq_false_iff] at h
  simp only [uQ, h.1, Bool.false_and, Bool.false_or]
  exact aJD h.2
def aMF (o : Oper) : Bool := match o.op with | .load _ _ => true | _ => false
def aG1 (P : Program) (o : Oper) (ρ : Operand → aD) (h : aB) (n : Nat) (v : aD) : Prop := ∀ h', h' n = h n → lU P o ρ h' fun v' h'' => v' = v ∧ h'' = h'
def aCZ (cr : List (Nat × Nat)) (i : Nat) (pr : List (Nat × Nat)) (h h' : aB) : Prop := ∀ p ∈ pr, uQ cr p.1 i = true → h' p.2 = h p.2
inductive o9 where
 |nil
 |op (i : Nat) (p : o9)
 |alt (i : Nat) (p : o9) (j : Nat) (q : o9)
def OpL (P : Program) (ops : Array Oper) (ms : List Nat) (i : Nat) (cr : List (Nat × Nat)) (pr : List (Nat × Nat)) (τ : bB) (h : aB) (C : List (Nat × Nat) → bB → aB → Prop) : Prop :=
 match ops[i]? with
  |none => False
  |some o => match want ops τ o with
   |none => False
   |some true => if ms.contains i then (if aMF o then (∃ n v, aG1 P o (pG ops o τ) h n v ∧ C ((i, n) :: pr) (eY τ o.dst v) h) ∨ ∃ v, p7 P o (pG ops o τ) v ∧ C pr (eY τ o.dst v) h
      else lU P o (pG ops o τ) h fun v h' => aCZ cr i pr h h' ∧ C pr (eY τ o.dst v) h')
     else ∃ v, p7 P o (pG ops o τ) v ∧ C pr (eY τ o.dst v) h
   |some false => C pr (eY τ o.dst (.gN [])) h
def iH (P : Program) (ops : Array Oper) (ms : List Nat) (cr : List (Nat × Nat)) : o9 → List (Nat × Nat) → bB → aB → (bB → aB → Prop) → Prop
 | .nil, _, τ, h, K => K τ h
 | .op i p, pr, τ, h, K => OpL P ops ms i cr pr τ h fun pr τ h => iH P ops ms cr p pr τ h K
 | .alt i p j q, pr, τ, h, K => (OpL P ops ms i cr pr τ h fun pr τ h => iH P ops ms cr p pr τ h K) ∧ OpL P ops ms j cr pr τ h fun pr τ h => iH P ops ms cr q pr τ h K
def TEq (τ τ' : bB) : Prop := ∀ k, bJ τ k = bJ τ' k
theorem sB (τ : bB) (d : Option Tmp) (v : aD) (k : Nat) : bJ (eY τ d v) k = if d = some k then v else bJ τ k := by
 cases d with
 |none => simp [eY]
 |some d => simp only [eY, bJ, Option.some.injEq]
theorem TEq.put {τ τ' : bB} (h : TEq τ τ') (d : Option Tmp) (v : aD) : TEq (eY τ d v) (eY τ' d v) := fun k => by
 rw [sB, sB, h k]
theorem TEq.put_comm (τ : bB) {d e : Option Tmp} (u v : aD) (hne : ∀ k, d = some k → e ≠ some k) : TEq (eY (eY τ d u) e v) (eY (eY τ e v) d u) := fun k => by
 simp only [sB]
 by_cases h1 : e = some k <;> by_cases h2 : d = some k
 ·exact absurd h1 (hne k h2)
 ·simp [h1, h2]
 ·simp [h1, h2]
 ·simp [h1, h2]
theorem tF {ops : Array Oper} {o : Oper} {τ τ' : bB} (h : ∀ t ∈ o8 ops o, bJ τ t = bJ τ' t) : want ops τ o = want ops τ' o := by
 unfold want
 split
 ·rfl
 ·rename_i g b hg
  split
  ·rename_i d hd
   rw [h d (by simp [o8, hg, hd])]
  ·rfl
theorem aCZ.sub {cr : List (Nat × Nat)} {i : Nat} {pr pr' : List (Nat × Nat)} {h h' : aB} (hs : ∀ p ∈ pr', p ∈ pr ∨ ∀ j, uQ cr p.1 j = false) (x : aCZ cr i pr h h') : aCZ cr i pr' h h' := fun p hp hc => by
 rcases hs p hp with h1 | h1
 ·exact x p h1 hc
 ·rw [h1 i] at hc; cases hc
theorem aR8 {cr pr pr' : List (Nat × Nat)} (hs : ∀ p ∈ pr', p ∈ pr ∨ ∀ j, uQ cr p.1 j = false) (q : Nat × Nat) : ∀ p ∈ q :: pr', p ∈ q :: pr ∨ ∀ j, uQ cr p.1 j = false := fun p hp => by
 rcases List.mem_cons.1 hp with rfl | hp
 ·exact .inl List.mem_cons_self
 ·exact (hs p hp).imp (List.mem_cons_of_mem _) id
theorem OpL.congr {P : Program} {ops : Array Oper} {ms : List Nat} {cr : List (Nat × Nat)} {i : Nat} {C C' : List (Nat × Nat) → bB → aB → Prop} {pr pr' : List (Nat × Nat)} {τ τ' : bB} {h : aB}
  (hC : ∀ (pr pr' : List (Nat × Nat)) (τ τ' : bB) (h : aB), (∀ p ∈ pr', p ∈ pr ∨ ∀ j, uQ cr p.1 j = false) → TEq τ τ' → C pr τ h → C' pr' τ' h) (hs : ∀ p ∈ pr', p ∈ pr ∨ ∀ j, uQ cr p.1 j = false) (e : TEq τ τ') (r : OpL P ops ms i cr pr τ h C) : OpL P ops ms i cr pr' τ' h C' := by
 unfold OpL at r ⊢
 cases ho : ops[i]? with
 |none => simp [ho] at r
 |some o =>
  simp only [ho] at r ⊢
  rw [← tF (ops := ops) (o := o) (τ := τ) (τ' := τ') fun t _ => e t]
  cases hw : want ops τ o with
  |none => simp [hw] at r
  |some c =>
   simp only [hw] at r ⊢
   rw [← mK (ops := ops) (o := o) (τ := τ) (τ' := τ') fun t _ => e t]
   cases c with
   |false => exact hC _ _ _ _ h hs (e.put _ _) r
   |true =>
    simp only at r ⊢
    split at r
    ·rename_i hm; rw [if_pos hm]
     split at r
     ·rename_i hl; rw [if_pos hl]
      rcases r with ⟨n, v, hr, x⟩ | ⟨v, hr, x⟩
      ·exact .inl ⟨n, v, hr, hC _ _ _ _ h (aR8 hs _) (e.put _ _) x⟩
      ·exact .inr ⟨v, hr, hC _ _ _ _ h hs (e.put _ _) x⟩
     ·rename_i hl; rw [if_neg hl]
      exact r.mono fun v h' x => ⟨x.1.sub hs, hC _ _ _ _ h' hs (e.put _ _) x.2⟩
    ·rename_i hm; rw [if_neg hm]
     obtain ⟨v, hs', x⟩ := r
     exact ⟨v, hs', hC _ _ _ _ h hs (e.put _ _) x⟩
theorem iH.congr {P : Program} {ops : Array Oper} {ms : List Nat} {cr : List (Nat × Nat)} {K : bB → aB → Prop} (hK : ∀ τ τ' h, TEq τ τ' → K τ h → K τ' h) : ∀ (l : o9) (pr pr' : List (Nat × Nat)) (τ τ' : bB) (h : aB), (∀ p ∈ pr', p ∈ pr ∨ ∀ j, uQ cr p.1 j = false) → TEq τ τ' → iH P ops ms cr l pr τ h K → iH P ops ms cr l pr' τ' h K
 | .nil, pr, pr', τ, τ', h, hs, e, r => hK _ _ _ e r
 | .op i l, pr, pr', τ, τ', h, hs, e, r => OpL.congr (fun pr pr' τ τ' h hs e r => iH.congr hK l pr pr' τ τ' h hs e r) hs e r
 | .alt i l j q, pr, pr', τ, τ', h, hs, e, r => ⟨OpL.congr (fun pr pr' τ τ' h hs e r => iH.congr hK l pr pr' τ τ' h hs e r) hs e r.1, OpL.congr (fun pr pr' τ τ' h hs e r => iH.congr hK q pr pr' τ τ' h hs e r) hs e r.2⟩
def aC1 (ops : Array Oper) (x y : Oper) : Bool :=
 (match x.dst with | some d => !(o8 ops y).contains d && !(y.dst == some d) | none => true) && (match y.dst with | some d => !(o8 ops x).contains d | none => true)
theorem aJE {ops : Array Oper} {x y : Oper} (h : aC1 ops x y = true) : (∀ d, x.dst = some d → d ∉ o8 ops y) ∧ (∀ d, x.dst = some d → y.dst ≠ some d) ∧ (∀ d, y.dst = some d → d ∉ o8 ops x) := by
 unfold aC1 at h
 refine ⟨fun d hd => ?_, fun d hd => ?_, fun d hd => ?_⟩ <;> simp [hd] at h
 ·exact h.1.1
 ·exact h.1.2
 ·exact h.2
def aR9 (ms : List Nat) (cr : List (Nat × Nat)) (x i : Nat) (ox oi : Oper) : Bool := !ms.contains x || (aMF ox && (uQ cr x i || aMF oi || !ms.contains i))
theorem iH.swap {P : Program} {ops : Array Oper} {ms : List Nat} {cr : List (Nat × Nat)} {K : bB → aB → Prop} (hK : ∀ τ τ' h, TEq τ τ' → K τ h → K τ' h) {x i : Nat} {ox oi : Oper} {l : o9} {pr : List (Nat × Nat)} {τ : bB} {h : aB}
  (hx : ops[x]? = some ox) (hi : ops[i]? = some oi) (hm : aR9 ms cr x i ox oi = true) (hap : aC1 ops ox oi = true) (r : iH P ops ms cr (.op x (.op i l)) pr τ h K) : iH P ops ms cr (.op i (.op x l)) pr τ h K := by
 obtain ⟨a1, a2, a3⟩ := aJE hap
 have ei : ∀ v, (∀ t ∈ o8 ops oi, bJ (eY τ ox.dst v) t = bJ τ t) := fun v t ht => by
  rw [sB, if_neg]; intro e; exact a1 t e ht
 have ex : ∀ v, (∀ t ∈ o8 ops ox, bJ (eY τ oi.dst v) t = bJ τ t) := fun v t ht => by
  rw [sB, if_neg]; intro e; exact a3 t e ht
 have hc : ∀ u v, TEq (eY (eY τ ox.dst u) oi.dst v) (eY (eY τ oi.dst v) ox.dst u) := fun u v => TEq.put_comm τ u v a2
 have ids : ∀ pr : List (Nat × Nat), ∀ p ∈ pr, p ∈ pr ∨ ∀ j, uQ cr p.1 j = false := fun _ _ h => .inl h
 have sw : ∀ (a b : Nat × Nat), ∀ p ∈ b :: a :: pr, p ∈ a :: b :: pr ∨ ∀ j, uQ cr p.1 j = false := fun a b p hp => by
  left
  simp only [List.mem_cons] at hp ⊢
  rcases hp with h1 | h1 | h1
  ·exact .inr (.inl h1)
  ·exact .inl h1
  ·exact .inr (.inr h1)
 unfold iH OpL at r
 simp only [hx] at r
 cases hwx : want ops τ ox with
 |none => simp [hwx] at r
 |some cx =>
  simp only [hwx] at r
  have hwx' : ∀ v, want ops (eY τ oi.dst v) ox = some cx := fun v => by rw [tF (ex v)]; exact hwx

  have key : ∀ u, iH P ops ms cr (.op i l) pr (eY τ ox.dst u) h K →
    (∀ τ' h' pr', iH P ops ms cr l pr' (eY (eY τ oi.dst τ') ox.dst u) h' K → iH P ops ms cr (.op x l) pr' (eY τ oi.dst τ') h' K) →
    iH P ops ms cr (.op i (.op x l)) pr τ h K := by
   intro u r hback
   unfold iH OpL at r
   rw [iH]; unfold OpL
   simp only [hi] at r ⊢
   rw [tF (ei u), mK (ei u)] at r
   cases hwi : want ops τ oi with
   |none => simp [hwi] at r
   |some ci =>
    simp only [hwi] at r ⊢
    cases ci with
    |false => exact hback _ _ _ (iH.congr hK l _ _ _ _ h (ids _) (hc _ _) r)
    |true =>
     simp only at r ⊢
     split at r
     ·rename_i hmi; rw [if_pos hmi]
      split at r
      ·rename_i hl; rw [if_pos hl]
       rcases r with ⟨n, v, hr, y⟩ | ⟨v, hr, y⟩
       ·exact .inl ⟨n, v, hr, hback _ _ _ (iH.congr hK l _ _ _ _ h (ids _) (hc _ _) y)⟩
       ·exact .inr ⟨v, hr, hback _ _ _ (iH.congr hK l _ _ _ _ h (ids _) (hc _ _) y)⟩
      ·rename_i hl; rw [if_neg hl]
       exact r.mono fun v h' y => ⟨y.1, hback _ _ _ (iH.congr hK l _ _ _ _ h' (ids _) (hc _ _) y.2)⟩
     ·rename_i hmi; rw [if_neg hmi]
      obtain ⟨v, hs, y⟩ := r
      exact ⟨v, hs, hback _ _ _ (iH.congr hK l _ _ _ _ h (ids _) (hc _ _) y)⟩
  cases cx with
  |false =>
   refine key _ r fun u h' pr' y => ?_
   rw [iH]; unfold OpL; simp only [hx, hwx' u]; exact y
  |true =>
   simp only at r
   by_cases hmx : ms.contains x = true
   ·rw [if_pos hmx] at r
    simp only [aR9, hmx, Bool.not_true, Bool.false_or, Bool.and_eq_true, Bool.or_eq_true, Bool.not_eq_true'] at hm
    obtain ⟨hlx, hm⟩ := hm
    rw [if_pos hlx] at r
    rcases r with ⟨n, v, hr, r⟩ | ⟨v, hs, r⟩
    case inr =>
     refine key v r fun u h' pr' y => ?_
     rw [iH]; unfold OpL; simp only [hx, hwx' u, hmx, hlx, if_true]
     exact .inr ⟨v, by rw [mK (ex u)]; exact hs, y⟩

    have back : ∀ (u : aD) (h' : aB) (pr' : List (Nat × Nat)), h' n = h n → iH P ops ms cr l ((x, n) :: pr') (eY (eY τ oi.dst u) ox.dst v) h' K → iH P ops ms cr (.op x l) pr' (eY τ oi.dst u) h' K := by
     intro u h' pr' e y
     rw [iH]; unfold OpL; simp only [hx, hwx' u, hmx, hlx, if_true]
     exact .inl ⟨n, v, fun h'' e' => by rw [mK (ex u)]; exact hr h'' (e'.trans e), y⟩
    unfold iH OpL at r
    rw [iH]; unfold OpL
    simp only [hi] at r ⊢
    rw [tF (ei v), mK (ei v)] at r
    cases hwi : want ops τ oi with
    |none => simp [hwi] at r
    |some ci =>
     simp only [hwi] at r ⊢
     cases ci with
     |false => exact back _ _ _ rfl (iH.congr hK l _ _ _ _ h (ids _) (hc _ _) r)
     |true =>
      simp only at r ⊢
      split at r
      ·rename_i hmi; rw [if_pos hmi]
       split at r
       ·rename_i hl; rw [if_pos hl]
        rcases r with ⟨m, u, hri, y⟩ | ⟨u, hri, y⟩
        ·exact .inl ⟨m, u, hri, back _ _ _ rfl (iH.congr hK l _ _ _ _ h (sw _ _) (hc _ _) y)⟩
        ·exact .inr ⟨u, hri, back _ _ _ rfl (iH.congr hK l _ _ _ _ h (ids _) (hc _ _) y)⟩
       ·rename_i hl; rw [if_neg hl]
        refine r.mono fun u h' y => ⟨y.1.sub fun p hp => .inl (List.mem_cons_of_mem _ hp), ?_⟩
        have hcx : uQ cr x i = true := by
         rcases hm with (h1 | h1) | h1
         ·exact h1
         ·exact absurd h1 hl
         ·rw [hmi] at h1; cases h1
        exact back _ _ _ (y.1 (x, n) List.mem_cons_self hcx) (iH.congr hK l _ _ _ _ h' (ids _) (hc _ _) y.2)
      ·rename_i hmi; rw [if_neg hmi]
       obtain ⟨u, hs, y⟩ := r
       exact ⟨u, hs, back _ _ _ rfl (iH.congr hK l _ _ _ _ h (ids _) (hc _ _) y)⟩
   ·rw [if_neg hmx] at r
    obtain ⟨v, hs, r⟩ := r
    refine key v r fun u h' pr' y => ?_
    rw [iH]; unfold OpL; simp only [hx, hwx' u]
    rw [if_neg hmx]
    exact ⟨v, by rw [mK (ex u)]; exact hs, y⟩
def blk : List Oper → Nat → List Nat → List Nat
 | [], _, B => B
 |o :: l, j, B => blk l (j + 1) (if o.after.toList.any (fun e => Region.binds .any e && B.contains e.on) then j :: B else B)
theorem aN6 : ∀ (l : List Oper) (j : Nat) (B : List Nat) (b : Nat), b ∈ B → b ∈ blk l j B
 | [], _, _, _, h => h
 |o :: l, j, B, b, h => by
  unfold blk
  refine aN6 l (j + 1) _ b ?_
  split
  ·exact List.mem_cons_of_mem _ h
  ·exact h
theorem aN7 : ∀ (l : List Oper) (j : Nat) (B : List Nat) (b : Nat), b ∈ blk l j B → b ∈ B ∨ ∃ o e, j ≤ b ∧ l[b - j]? = some o ∧ e ∈ o.after.toList ∧ Region.binds .any e = true ∧ e.on ∈ blk l j B
 | [], _, _, _, h => .inl h
 |o :: l, j, B, b, h => by
  unfold blk at h
  rcases aN7 l (j + 1) _ b h with h1 | ⟨o', e, h1, h2, h3, h4, h5⟩
  ·split at h1
   ·rename_i hany
    rcases List.mem_cons.1 h1 with rfl | h1
    ·right
     obtain ⟨e, he, hb⟩ := List.any_eq_true.1 hany
     simp only [Bool.and_eq_true, List.contains_iff_mem] at hb
     exact ⟨o, e, Nat.le_refl _, by simp, he, hb.1, aN6 _ _ _ _ hb.2⟩
    ·exact .inl h1
   ·exact .inl h1
  ·refine .inr ⟨o', e, by omega, ?_, h3, h4, ?_⟩
   ·rw [show b - j = (b - (j + 1)) + 1 by omega]; simpa using h2
   ·unfold blk; exact h5
def pA (ops : Array Oper) (ms : List Nat) (cr : List (Nat × Nat)) : o9 → List Nat → Bool
 | .nil, U => U.isEmpty
 | .op x p, U => U.contains x && (let B := blk ops.toList 0 [x]
   (U.erase x).all fun i => B.contains i || (match ops[x]?, ops[i]? with | some ox, some oi => aR9 ms cr x i ox oi && aC1 ops ox oi | _, _ => false)) && pA ops ms cr p (U.erase x)
 | .alt x p y q, U => U.contains x && U.contains y && (let B := blk ops.toList 0 [x]
   let C := blk ops.toList 0 [y]
   U.all fun i => i == x || i == y || B.contains i || C.contains i) && pA ops ms cr p (U.erase x) && pA ops ms cr q (U.erase y)
def a05 (ops : Array Oper) (ms : List Nat) (p : o9) (cr : List (Nat × Nat)) : Bool :=
 pA ops ms cr p (List.range ops.size) &&
 (List.range ops.size).all fun i => match ops[i]? with | some o => o.after.toList.all fun e => !Region.binds .any e || decide (e.on < i) | none => true
def aG2 (ops : Array Oper) (L : Nat → Prop) : Prop := ∀ (j : Nat) (o : Oper), ops[j]? = some o → L j → ∀ e ∈ o.after.toList, Region.binds .any e = true → L e.on
theorem aC2 {ops : Array Oper} {L : Nat → Prop} (hc : aG2 ops L) {x : Nat} (hx : ¬ L x) : ∀ (l : List Oper) (j : Nat) (B : List Nat), (∀ k o, l[k]? = some o → ops[j + k]? = some o) → (∀ b ∈ B, ¬ L b) → ∀ b ∈ blk l j B, ¬ L b
 | [], _, _, _, hB, b, h => hB b h
 |o :: l, j, B, hl, hB, b, h => by
  unfold blk at h
  refine aC2 hc hx l (j + 1) _ (fun k o hk => by have := hl (k + 1) o (by simpa using hk); rwa [show j + 1 + k = j + (k + 1) by omega]) ?_ b h
  intro b' hb'
  split at hb'
  ·rename_i hany
   rcases List.mem_cons.1 hb' with rfl | hb'
   ·intro hL
    obtain ⟨e, he, hb⟩ := List.any_eq_true.1 hany
    simp only [Bool.and_eq_true, List.contains_iff_mem] at hb
    exact hB _ hb.2 (hc b' o (by simpa using hl 0 o rfl) hL e he hb.1)
   ·exact hB b' hb'
  ·exact hB b' hb'
theorem aQH {ops : Array Oper} {L : Nat → Prop} (hc : aG2 ops L) {x i : Nat} (hx : ¬ L x) (hne : i ≠ x) {oi : Oper} (hi : ops[i]? = some oi) (hr : ∀ e ∈ oi.after.toList, Region.binds .any e = true → L e.on) : (blk ops.toList 0 [x]).contains i = false := by
 cases hb : (blk ops.toList 0 [x]).contains i with
 |false => rfl
 |true =>
  exfalso
  rw [List.contains_iff_mem] at hb
  have hlist := aC2 hc hx ops.toList 0 [x] (fun k o hk => by simpa using hk) (by simpa using hx)
  rcases aN7 _ _ _ _ hb with h1 | ⟨o, e, _, h2, h3, h4, h5⟩
  ·exact hne (by simpa using h1)
  ·have : o = oi := by
    simp only [Nat.sub_zero, Array.getElem?_toList] at h2
    rw [hi] at h2; exact (Option.some.inj h2).symm
   subst this
   exact hlist _ h5 (hr e h3 h4)
inductive aC3 (ops : Array Oper) (ms : List Nat) (cr : List (Nat × Nat)) (i : Nat) (oi : Oper) : o9 → o9 → Prop where
 |here (p : o9) : aC3 ops ms cr i oi (.op i p) p
 |skip {x : Nat} {ox : Oper} {p p' : o9} (hox : ops[x]? = some ox) (hm : aR9 ms cr x i ox oi = true) (hap : aC1 ops ox oi = true) (f : aC3 ops ms cr i oi p p') : aC3 ops ms cr i oi (.op x p) (.op x p')
 |left (p : o9) (j : Nat) (q : o9) : aC3 ops ms cr i oi (.alt i p j q) p
 |right (j : Nat) (p q : o9) : aC3 ops ms cr i oi (.alt j p i q) q
theorem iH.front {P : Program} {ops : Array Oper} {ms : List Nat} {cr : List (Nat × Nat)} {K : bB → aB → Prop} (hK : ∀ τ τ' h, TEq τ τ' → K τ h → K τ' h) {i : Nat} {oi : Oper} (hi : ops[i]? = some oi) {p p' : o9} (f : aC3 ops ms cr i oi p p') :
  ∀ (pr : List (Nat × Nat)) (τ : bB) (h : aB), iH P ops ms cr p pr τ h K → iH P ops ms cr (.op i p') pr τ h K := by
 induction f with
 |here p => intro pr τ h r; exact r
 |left p j q => intro pr τ h r; exact r.1
 |right j p q => intro pr τ h r; exact r.2
 | @skip x ox p p' hox hm hap f ih =>
  intro pr τ h r
  refine iH.swap hK hox hi hm hap ?_
  rw [iH] at r ⊢
  unfold OpL at r ⊢
  simp only [hox] at r ⊢
  cases hw : want ops τ ox with
  |none => simp [hw] at r
  |some c =>
   simp only [hw] at r ⊢
   cases c with
   |false => exact ih _ _ h r
   |true =>
    simp only at r ⊢
    by_cases hmx : ms.contains x = true
    ·rw [if_pos hmx] at r ⊢
     have hlx : aMF ox = true := by
      simp only [aR9, hmx, Bool.not_true, Bool.false_or, Bool.and_eq_true] at hm
      exact hm.1
     rw [if_pos hlx] at r ⊢
     rcases r with ⟨n, v, hs, r⟩ | ⟨v, hs, r⟩
     ·exact .inl ⟨n, v, hs, ih _ _ h r⟩
     ·exact .inr ⟨v, hs, ih _ _ h r⟩
    ·rw [if_neg hmx] at r ⊢
     obtain ⟨v, hs, r⟩ := r; exact ⟨v, hs, ih _ _ h r⟩
theorem aJF {ops : Array Oper} {ms : List Nat} {cr : List (Nat × Nat)} {i : Nat} {oi : Oper} (hoi : ops[i]? = some oi) : ∀ (p : o9) (U : List Nat), pA ops ms cr p U = true → U.Nodup → i ∈ U →
  (∀ x ∈ U, x ≠ i → (blk ops.toList 0 [x]).contains i = false) → ∃ p', aC3 ops ms cr i oi p p' ∧ pA ops ms cr p' (U.erase i) = true
 | .nil, U, hv, _, hi, _ => by
  simp only [pA, List.isEmpty_iff] at hv
  subst hv; cases hi
 | .op x p, U, hv, hnd, hi, hb => by
  simp only [pA, Bool.and_eq_true, List.all_eq_true] at hv
  obtain ⟨⟨hx, hall⟩, hp⟩ := hv
  by_cases e : x = i
  ·subst e; exact ⟨p, .here p, hp⟩
  ·have hie : i ∈ U.erase x := (List.mem_erase_of_ne (Ne.symm e)).2 hi
   have h1 := hall i hie
   have hxU : x ∈ U := by simpa using hx
   rw [hb x hxU e, Bool.false_or] at h1
   cases hox : ops[x]? with
   |none => simp [hox] at h1
   |some ox =>
    simp only [hox, hoi, Bool.and_eq_true] at h1
    obtain ⟨p', f, hp'⟩ := aJF hoi p (U.erase x) hp (hnd.erase x) hie fun y hy hne => hb y (List.mem_of_mem_erase hy) hne
    refine ⟨.op x p', .skip hox h1.1 h1.2 f, ?_⟩
    simp only [pA, Bool.and_eq_true, List.all_eq_true]
    refine ⟨⟨by simpa using (List.mem_erase_of_ne e).2 hxU, fun j hj => hall j ?_⟩, ?_⟩
    ·rw [List.erase_comm] at hj; exact List.mem_of_mem_erase hj
    ·rw [List.erase_comm]; exact hp'
 | .alt x p y q, U, hv, hnd, hi, hb => by
  simp only [pA, Bool.and_eq_true, List.all_eq_true, Bool.or_eq_true, beq_iff_eq] at hv
  obtain ⟨⟨⟨⟨hx, hy⟩, hall⟩, hp⟩, hq⟩ := hv
  by_cases e : x = i
  ·subst e; exact ⟨p, .left p y q, hp⟩
  ·by_cases e2 : y = i
   ·subst e2; exact ⟨q, .right x p q, hq⟩
   ·exfalso
    rcases hall i hi with ((h1 | h1) | h1) | h1
    ·exact e h1.symm
    ·exact e2 h1.symm
    ·rw [hb x (by simpa using hx) e] at h1; cases h1
    ·rw [hb y (by simpa using hy) e2] at h1; cases h1
theorem aJG {P : Program} {N : Nat} {ops : Array Oper} {ms : List Nat} {cr : List (Nat × Nat)} {Q : Exit → bB → aB → Prop} (hN : xA N ops = true) (keep : List Nat) {E₀ : Env} {h₀ : aB} {w₀ : World}
  (hback : ∀ (i : Nat) (o : Oper), ops[i]? = some o → ∀ e ∈ o.after.toList, Region.binds .any e = true → e.on < i) :
  ∀ (fuel : Nat) (listed : Array Bool) (p : o9) (l : List Nat), listed.size = ops.size → l.Nodup → (∀ i, i ∈ l ↔ listed[i]? = some false) → fuel = l.length →
   pA ops ms cr p l = true →
   aG2 ops (fun i => listed[i]? = some true) →
   ∀ (pr : List (Nat × Nat)) (τ : bB) (h : aB), iH P ops ms cr p pr τ h (fun τ' h' => Q .normal (Hl.prune keep τ') h') → ∀ E w a, Ev E₀ h₀ w₀ E h w → Rel E h w → rN ds E h w N τ a →
   wpAny P .any ops (o7 ds N Q E₀ h₀ w₀) fuel listed a w
 |0, listed, p, l, hsz, hnd, hl, hf, hp, hcl, pr, τ, h, r, E, w, a, ev, R, rt => by
  have : l = [] := List.length_eq_zero_iff.1 hf.symm
  subst this
  have : p = .nil := by cases p <;> simp [pA] at hp ⊢
  subst this
  refine ⟨?_, ⟨Hl.prune keep τ, h, E, r, ev, R, rt.prune keep⟩⟩
  unfold Region.ready
  rw [List.filter_eq_nil_iff]
  intro i hi hc
  simp only [List.mem_range] at hi
  simp only [Bool.and_eq_true, Bool.not_eq_true'] at hc
  have hlt : i < listed.size := by omega
  have : listed[i]? = some false := by
   rw [Array.getElem?_eq_getElem hlt]
   have := hc.1
   simp only [Array.getD, hlt, dif_pos] at this
   rw [← this]; rfl
  exact absurd ((hl i).2 this) (by simp)
 |fuel + 1, listed, p, l, hsz, hnd, hl, hf, hp, hcl, pr, τ, h, r, E, w, a, ev, R, rt => by
  have hK : ∀ τ τ' h, TEq τ τ' → Q .normal (Hl.prune keep τ) h → Q .normal (Hl.prune keep τ') h := fun τ τ' h e q => by
   have : Hl.prune keep τ = Hl.prune keep τ' := by unfold Hl.prune; exact List.map_congr_left fun k _ => by rw [e k]
   rwa [← this]
  have hready : ∀ i, i ∈ Region.ready .any ops listed → i ∈ l ∧ ∃ o, ops[i]? = some o ∧ ∀ e ∈ o.after.toList, Region.binds .any e = true → listed[e.on]? = some true := by
   intro i hi
   unfold Region.ready at hi
   rw [List.mem_filter] at hi
   obtain ⟨hi, hc⟩ := hi
   simp only [List.mem_range] at hi
   simp only [Bool.and_eq_true, Bool.not_eq_true'] at hc
   have hlt : i < listed.size := by omega
   have hlf : listed[i]? = some false := by
    rw [Array.getElem?_eq_getElem hlt]
    have := hc.1
    simp only [Array.getD, hlt, dif_pos] at this
    rw [← this]; rfl
   refine ⟨(hl i).2 hlf, ops[i], Array.getElem?_eq_getElem hi, fun e he hb => ?_⟩
   have h2 := hc.2
   simp only [Array.getElem?_eq_getElem hi, Option.map_some, Option.getD_some] at h2
   rw [Array.all_eq_true_iff_forall_mem] at h2
   have := h2 e (by simpa using he)
   simp only [hb, Bool.not_true, Bool.false_or] at this
   by_cases hel : e.on < listed.size
   ·simp only [Array.getD, hel, dif_pos] at this
    rw [Array.getElem?_eq_getElem hel, ← this]; rfl
   ·simp [Array.getD, hel] at this
  refine ⟨fun hnil => ?_, fun i hi => ?_⟩
  ·
   exfalso
   have hne : l ≠ [] := by intro e; simp [e] at hf

   have : ∃ m ∈ l, ∀ j ∈ l, m ≤ j := by
    obtain ⟨x, hx⟩ := List.exists_mem_of_ne_nil l hne
    have key : ∀ n, ∀ x ∈ l, x ≤ n → ∃ m ∈ l, ∀ j ∈ l, m ≤ j := by
     intro n
     induction n with
     |zero => intro x hx hn; exact ⟨x, hx, fun j _ => by omega⟩
     |succ n ih =>
      intro x hx hn
      by_cases hall : ∀ j ∈ l, x ≤ j
      ·exact ⟨x, hx, hall⟩
      ·have : ∃ j ∈ l, j < x := by
        apply Classical.byContradiction
        intro hcon
        exact hall fun j hj => by
         apply Classical.byContradiction
         intro hlt
         exact hcon ⟨j, hj, by omega⟩
       obtain ⟨j, hj, hlt⟩ := this
       exact ih j hj (by omega)
    exact key x x hx (Nat.le_refl _)
   obtain ⟨m, hm, hmin⟩ := this
   have hmf := (hl m).1 hm
   have hmlt : m < listed.size := (Array.getElem?_eq_some_iff.1 hmf).1
   have hmo : m < ops.size := by omega
   have hmem : m ∈ Region.ready .any ops listed := by
    unfold Region.ready
    rw [List.mem_filter]
    refine ⟨by simpa using hmo, ?_⟩
    simp only [Bool.and_eq_true, Bool.not_eq_true']
    refine ⟨?_, ?_⟩
    ·simp only [Array.getD, hmlt, dif_pos]
     have := (Array.getElem?_eq_some_iff.1 hmf).2
     exact this
    ·simp only [Array.getElem?_eq_getElem hmo, Option.map_some, Option.getD_some]
     rw [Array.all_eq_true_iff_forall_mem]
     intro e he
     cases hb : Region.binds .any e with
     |false => rfl
     |true =>
      simp only [Bool.not_true, Bool.false_or]
      have hlt := hback m _ (Array.getElem?_eq_getElem hmo) e (by simpa using he) hb
      have hel : e.on < listed.size := by omega
      simp only [Array.getD, hel, dif_pos]
      cases hv : listed[e.on] with
      |true => exact hv
      |false =>
       have := hmin e.on ((hl e.on).2 (by rw [Array.getElem?_eq_getElem hel, hv]))
       omega
   rw [hnil] at hmem
   simp at hmem
  ·obtain ⟨hil, o, ho, hedges⟩ := hready i hi
   obtain ⟨p', hfr, hp'⟩ := aJF ho p l hp hnd hil fun x hx hne => aQH hcl (x := x) (i := i) (by simp [(hl x).1 hx]) (Ne.symm hne) ho hedges
   have hfront := iH.front hK ho hfr pr τ h r
   unfold wpOp
   simp only [ho]
   have hdst : ∀ k, o.dst = some k → k < N := fun k hk => tE hN i o k ho hk
   have hil' : listed[i]? = some false := (hl i).1 hil
   have hilt : i < listed.size := (Array.getElem?_eq_some_iff.1 hil').1
   have hrest : ∀ (pr' : List (Nat × Nat)) (τ' : bB) (h' : aB), iH P ops ms cr p' pr' τ' h' (fun τ' h' => Q .normal (Hl.prune keep τ') h') → ∀ E' w' a', Ev E₀ h₀ w₀ E' h' w' → Rel E' h' w' → rN ds E' h' w' N τ' a' →
     wpAny P .any ops (o7 ds N Q E₀ h₀ w₀) fuel (listed.setIfInBounds i true) a' w' := by
    intro pr' τ' h' r' E' w' a' ev' R' rt'
    refine aJG hN keep hback fuel _ p' (l.erase i) (by simpa using hsz) (hnd.erase i) ?_ (by rw [List.length_erase_of_mem hil]; omega) hp' ?_ pr' τ' h' r' E' w' a' ev' R' rt'
    ·intro j
     rw [hnd.mem_erase_iff]
     by_cases e : j = i
     ·subst e
      simp [hilt]
     ·rw [Array.getElem?_setIfInBounds_ne (Ne.symm e), ← hl j]
      simp [e]
    ·intro j oj hoj hL e he hb
     by_cases ej : j = i
     ·subst ej
      rw [ho] at hoj
      obtain rfl := Option.some.inj hoj
      have := hedges e he hb
      by_cases e2 : e.on = j
      ·rw [e2] at this; rw [this] at hil'; simp at hil'
      ·rw [Array.getElem?_setIfInBounds_ne (Ne.symm e2)]; exact this
     ·rw [Array.getElem?_setIfInBounds_ne (Ne.symm ej)] at hL
      have := hcl j oj hoj hL e he hb
      by_cases e2 : e.on = i
      ·rw [e2] at this; rw [this] at hil'; simp at hil'
      ·rw [Array.getElem?_setIfInBounds_ne (Ne.symm e2)]; exact this
   rw [iH] at hfront
   unfold OpL at hfront
   simp only [ho] at hfront
   have hmask : ∀ x, dY E h w (pG ops o τ x) (a.eval x) := fun x => by
    cases x with
    |tmp t =>
     simp only [pG]
     split
     ·exact rt.get t
     ·exact .any _
    |const v => exact rt.qQ (.const v)
    |global g => exact rt.qQ (.global g)
    |func f => exact rt.qQ (.func f)
   cases hw : want ops τ o with
   |none => simp [hw] at hfront
   |some c =>
    simp only [hw] at hfront
    have hwant := w9 rt hw (tE hN)
    rw [hwant]
    cases c with
    |false =>
     rw [if_neg (by simp)]
     exact hrest _ _ h hfront E w _ ev R (rt.put o.dst hdst (dY.gN [] [] rfl (by simp)))
    |true =>
     rw [if_pos rfl]
     left
     simp only at hfront
     split at hfront
     ·split at hfront
      ·rcases hfront with ⟨n, v, hs, hfront⟩ | ⟨v, hs, hfront⟩
       ·refine rY.wp ((hs h rfl E w _ R hmask).mono ?_)
        rintro c w' ⟨x, h', E', ⟨rfl, rfl⟩, ev', R', rx⟩
        exact hrest _ _ _ hfront E' w' _ (ev.trans ev') R' ((rt.ev ev').put o.dst hdst rx)
       ·refine rY.wp ((hs h E w _ R hmask).mono ?_)
        rintro c w' ⟨x, h', E', ⟨rfl, rfl⟩, ev', R', rx⟩
        exact hrest _ _ _ hfront E' w' _ (ev.trans ev') R' ((rt.ev ev').put o.dst hdst rx)
      ·refine rY.wp ((hfront E w _ R hmask).mono ?_)
       rintro v w' ⟨x, h', E', k, ev', R', rx⟩
       exact hrest _ _ h' k.2 E' w' _ (ev.trans ev') R' ((rt.ev ev').put o.dst hdst rx)
     ·obtain ⟨v, hs, hfront⟩ := hfront
      refine rY.wp ((hs h E w _ R hmask).mono ?_)
      rintro c w' ⟨x, h', E', ⟨rfl, rfl⟩, ev', R', rx⟩
      exact hrest _ _ _ hfront E' w' _ (ev.trans ev') R' ((rt.ev ev').put o.dst hdst rx)
theorem mI.aJH {P : Program} {N id : Nat} {ops : Array Oper} {ms : List Nat} {ord : o9} {cr : List (Nat × Nat)} {Q : Exit → bB → aB → Prop} {τ : bB} {h : aB} (hmix : P.follows .mixedOrders = true) (hN : xA N ops = true) (hord : a05 ops ms ord cr = true) (keep : List Nat)
  (hr : iH P ops ms cr ord [] τ h fun τ' h' => Q .normal (Hl.prune keep τ') h') : mI P N (.region id ops true) Q τ h := by
 intro ds E w a R r
 simp only [a05, Bool.and_eq_true] at hord
 obtain ⟨h1, h5⟩ := hord
 rw [List.all_eq_true] at h5
 refine wp_region_any hmix ?_
 have ev : Ev E h w E h { w with drawn := w.drawn + 1 } := ⟨Nat.le_refl _, fun _ hb => ⟨rfl, hb⟩, fun _ _ => rfl, fun _ hn => ⟨rfl, hn⟩, rfl, rfl⟩
 have R' : Rel E h { w with drawn := w.drawn + 1 } := ⟨R.fin, R.dom, R.lt, R.apart, fun n o hn => (R.obj n o hn).ev ev rfl rfl fun _ _ _ => rfl, R.laid.ev ev⟩
 refine aJG hN keep ?_ ops.size _ ord (List.range ops.size) (by simp) List.nodup_range ?_ (by simp) h1 ?_ [] τ h hr E _ a ev R' (r.ev ev)
 ·intro i o ho e he hb
  have := h5 i (by simp; exact (Array.getElem?_eq_some_iff.1 ho).1)
  simp only [ho, List.all_eq_true] at this
  have := this e he
  simpa [hb] using this
 ·intro i
  rw [List.mem_range]
  constructor
  ·intro hi; simp [hi]
  ·intro hi; have := (Array.getElem?_eq_some_iff.1 hi).1; simpa using this
 ·intro j o ho hL
  rw [Array.getElem?_replicate] at hL
  split at hL <;> simp at hL
def Det (F : (aD → Prop) → Prop) : Prop := ∀ K, F K → ∃ v, K v ∧ ∀ K' : aD → Prop, K' v → F K'
theorem mR (v : aD) : Det fun K => K v := fun K hk => ⟨v, hk, fun _ h => h⟩
theorem aVZ {c : Prop} {F : (aD → Prop) → Prop} (h : c → Det F) : Det fun K => c ∧ F K := fun K ⟨hc, hk⟩ => let ⟨v, h1, h2⟩ := h hc K hk; ⟨v, h1, fun K' h' => ⟨hc, h2 K' h'⟩⟩
theorem aV0 (P : Program) (op : BinOp) (t : TypeId) (x y : aD) : Det (eZ P op t x y) := by
 intro K hk
 unfold eZ at hk ⊢
 split at hk
 ·obtain ⟨hd, hk⟩ := hk
  split at hk
  ·exact ⟨_, hk, fun K' h => ⟨hd, h⟩⟩
  ·exact ⟨_, hk, fun K' h => ⟨hd, h⟩⟩
  ·exact hk.elim
 ·split at hk
  ·exact ⟨_, hk.2.2, fun K' h => ⟨hk.1, hk.2.1, h⟩⟩
  ·exact ⟨_, hk.2.2, fun K' h => ⟨hk.1, hk.2.1, h⟩⟩
  ·exact ⟨_, hk.2, fun K' h => ⟨hk.1, h⟩⟩
  ·exact ⟨_, hk.2, fun K' h => ⟨hk.1, h⟩⟩
  ·split at hk
   ·rename_i v hv; exact ⟨v, hk, fun K' h => by first | exact h | (simp only [hv]; exact h)⟩
   ·exact hk.elim
 ·split at hk
  ·exact ⟨_, hk.2, fun K' h => ⟨hk.1, h⟩⟩
  ·exact ⟨_, hk, fun K' h => h⟩
  ·exact ⟨_, hk, fun K' h => h⟩
  ·split at hk
   ·rename_i v hv; exact ⟨_, hk, fun K' h => by first | exact h | (simp only [hv]; exact h)⟩
   ·exact hk.elim
 ·split at hk
  ·rename_i v hv; exact ⟨v, hk, fun K' h => by first | exact h | (simp only [hv]; exact h)⟩
  ·exact hk.elim
theorem aQI {P : Program} {op : BinOp} {t : TypeId} {x y : aD} {K : aD → Prop} (h : eZ P op t x y K) : r9 P op t x y K := by
 unfold r9
 split
 ·simp [eZ, k6] at h
 ·simp [eZ, k6] at h
 ·simp [eZ, k6] at h
 ·exact h
theorem aQJ {P : Program} {op : BinOp} {t : TypeId} {c : Bool} {x y : aD} {K : aD → Prop} (h : eZ P op t x y K) : sA P op t c x y K := by
 unfold sA
 split
 ·simp [eZ, k6] at h
 ·simp [eZ, k6] at h
 ·exact aQI h
theorem a06 (op : UnOp) (x : aD) : Det (z5 op x) := by
 intro K hk
 unfold z5 at hk ⊢
 split at hk
 ·exact ⟨_, hk, fun K' h => h⟩
 ·exact ⟨_, hk, fun K' h => h⟩
 ·exact hk.elim
theorem aSA (P : Program) (s d : TypeId) (x : aD) : Det (u9 P s d x) := by
 intro K hk
 unfold u9 at hk ⊢
 split at hk
 ·rename_i hd; exact ⟨_, hk.2, fun K' h => by first | exact ⟨hk.1, h⟩ | (simp only [hd]; exact ⟨hk.1, h⟩)⟩
 ·rename_i hd
  split at hk
  ·rename_i h1
   obtain ⟨h2, hk⟩ := hk
   split at hk
   ·rename_i h3
    exact ⟨_, hk, fun K' h => by exact ⟨h2, h⟩⟩
   ·exact hk.elim
  ·exact hk.elim
 ·exact hk.elim
theorem a07 (d : Option TyD) (f : Nat) (x : aD) : Det (z7 d f x) := by
 intro K hk
 unfold z7 at hk ⊢
 split at hk
 ·split at hk
  ·rename_i hf
   obtain ⟨h1, hk⟩ := hk
   split at hk
   ·exact ⟨_, hk, fun K' h => by first | exact ⟨h1, h⟩ | (simp only [hf]; exact ⟨h1, h⟩)⟩
   ·exact ⟨_, hk, fun K' h => by first | exact ⟨h1, h⟩ | (simp only [hf]; exact ⟨h1, h⟩)⟩
   ·exact hk.elim
  ·exact hk.elim
 ·exact hk.elim
theorem a08 (re : Option jS) (x i : aD) : Det (z8 re x i) := by
 intro K hk
 unfold z8 at hk ⊢
 split at hk
 ·split at hk
  ·exact ⟨_, hk.2.2.2, fun K' h => ⟨hk.1, hk.2.1, hk.2.2.1, h⟩⟩
  ·exact ⟨_, hk.2.2.2, fun K' h => ⟨hk.1, hk.2.1, hk.2.2.1, h⟩⟩
  ·exact hk.elim
 ·exact hk.elim
theorem a09 (d : Option TyD) (x i : aD) : Det (w8 d x i) := by
 intro K hk
 unfold w8 at hk ⊢
 split at hk
 ·obtain ⟨h1, hk⟩ := hk
  split at hk
  ·rename_i c hc; exact ⟨_, hk, fun K' h => by first | exact ⟨h1, h⟩ | (simp only [hc]; exact ⟨h1, h⟩)⟩
  ·exact hk.elim
 ·exact hk.elim
theorem aSB (r : Option jS) (sz i off : Nat) (es : List (List aD)) (h : aB) : Det (iG r (.ip sz es i off) h) := by
 intro K hk
 unfold iG at hk ⊢
 split at hk
 ·simp only at hk ⊢
  split at hk
  ·rename_i he
   split at hk
   ·rename_i x hx; exact ⟨x, hk, fun K' h => by first | exact h | (simp only [he, hx]; exact h)⟩
   ·exact hk.elim
  ·exact hk.elim
 ·exact hk.elim
theorem aN8 (r : Option jS) (sz i off : Nat) (es : List (List aD)) (h h' : aB) (K : aD → Prop) : iG r (.ip sz es i off) h K = iG r (.ip sz es i off) h' K := by
 unfold iG; rfl
theorem aJJ {P : Program} {t : TypeId} {x : aD} {lo hi : Option aD} {K : aD → Prop} (h : kY P t x lo hi K) : nV P t x lo hi K := by
 unfold nV
 split
 ·simp only [kY] at h
  split at h
  ·rename_i re hre
   obtain ⟨h1, h⟩ := h
   split at h
   ·rename_i l m hl hm
    obtain rfl : _ = m := Option.some.inj hm
    obtain ⟨a, b, c, d⟩ := h
    try rw [hre]
    simp only [hl]
    exact ⟨h1, a, Int.le_of_lt b, fun _ => by simpa using d, fun q => absurd b (by omega)⟩
   ·exact h.elim
  ·exact h.elim
 ·exact h
theorem aQK (P : Program) (t : TypeId) (x : aD) (lo hi : Option aD) : Det (kY P t x lo hi) := by
 intro K hk
 unfold kY at hk ⊢
 split at hk
 ·obtain ⟨h1, hk⟩ := hk
  split at hk
  ·rename_i e1 e2; exact ⟨_, hk.2.2.2, fun K' h => by first | exact ⟨h1, hk.1, hk.2.1, hk.2.2.1, h⟩ | (simp only [e1, e2]; exact ⟨h1, hk.1, hk.2.1, hk.2.2.1, h⟩)⟩
  ·exact hk.elim
 ·split at hk
  ·rename_i e0
   obtain ⟨h1, hk⟩ := hk
   split at hk
   ·rename_i e1 e2; exact ⟨_, hk.2.2.2, fun K' h => by first | exact ⟨h1, hk.1, hk.2.1, hk.2.2.1, h⟩ | (simp only [e0, e1, e2]; exact ⟨h1, hk.1, hk.2.1, hk.2.2.1, h⟩)⟩
   ·exact hk.elim
  ·exact hk.elim
 ·split at hk
  ·rename_i e0
   obtain ⟨h1, hk⟩ := hk
   split at hk
   ·rename_i e1 e2; exact ⟨_, hk.2.2.2, fun K' h => by first | exact ⟨h1, hk.1, hk.2.1, hk.2.2.1, h⟩ | (simp only [e0, e1, e2]; exact ⟨h1, hk.1, hk.2.1, hk.2.2.1, h⟩)⟩
   ·exact hk.elim
  ·exact hk.elim
 ·exact hk.elim
theorem aMG (P : Program) (t : TypeId) (x : aD) (lo : Option aD) (hi mx : aD) : Det (mJ P t x lo hi mx) := by
 intro K hk
 unfold mJ at hk ⊢
 split at hk
 ·split at hk
  ·rename_i e0
   obtain ⟨h1, hk⟩ := hk
   split at hk
   ·rename_i e1 e2 e3
    obtain ⟨a, b, c, d, hk⟩ := hk
    exact ⟨_, hk, fun K' h => by exact ⟨h1, a, b, c, d, h⟩⟩
   ·exact hk.elim
  ·exact hk.elim
 ·exact hk.elim
theorem aQL (P : Program) (r : Option jS) (ps : List (Nat × aD)) : Det (pQ P r ps) := by
 intro K hk
 unfold pQ at hk ⊢
 split at hk
 ·exact ⟨_, hk.2.2.2, fun K' h => ⟨hk.1, hk.2.1, hk.2.2.1, h⟩⟩
 ·exact hk.elim
theorem a1A (re : Option jS) (len : Nat) (ps : List (Nat × aD)) : Det fun K => p4 re len ps fun sz es => K (.sl sz es true) := by
 intro K hk
 unfold p4 at hk
 split at hk
 ·exact ⟨_, hk.2.2.2.2.2, fun K' h => by unfold p4; exact ⟨hk.1, hk.2.1, hk.2.2.1, hk.2.2.2.1, hk.2.2.2.2.1, h⟩⟩
 ·exact hk.elim
def aJK (P : Program) (t : Option TypeId) (x : aD) (K : aD → Prop) : Prop :=
 match t with
 |some t => match uJ P t, x with
  |some (.slice _), .sl _ es _ => K (.int .i64 es.length)
  |some (.slice _), .os _ _ _ n => K (.int .i64 n)
  |some (.slice _), .bO => K (.int .i64 0)
  |some .str, .str s => K (.int .i64 s.length)
  | _, _ => False
 |none => False
def aJL (P : Program) (g : FuncId) (args : List aD) (K : aD → Prop) : Prop := ∃ r, dV P g args r ∧ K r
theorem aJL.mk {P : Program} {g : FuncId} {args : List aD} {r : aD} {K : aD → Prop} (a : dV P g args r) (k : K r) : aJL P g args K := ⟨r, a, k⟩
def aA5 (P : Program) (o : Oper) (ρ : Operand → aD) (K : aD → Prop) : Prop :=
 match o.op with
 | .move x => K (ρ x)
 | .assign x => K (ρ x)
 | .pick c a b => match ρ c with
  | .bool t => (t = true → K (ρ a)) ∧ (t = false → K (ρ b))
  | _ => False
 | .binOp op t x y _ => eZ P op t (ρ x) (ρ y) K
 | .unOp op _ x => z5 op (ρ x) K
 | .convert s d x => u9 P s d (ρ x) K
 | .fieldAddr t x f => z7 (uJ P t) f (ρ x) K
 | .indexAddr t x i => z8 (jY P t) (ρ x) (ρ i) K
 | .index t x i => w8 (uJ P t) (ρ x) (ρ i) K
 | .load t a => match ρ a with
  | .ip sz es i off => iG (gH P t) (.ip sz es i off) (fun _ => none) K
  | _ => False
 | .slice t x lo hi none => kY P t (ρ x) (lo.map ρ) (hi.map ρ) K
 | .extract t i => match ρ t with
  | .gN cs => match cs[i]? with | some x => K x | none => False
  | _ => False
 | .nilCheck x => match ρ x with
  | .op n sz i k => K (.op n sz i k)
  | .ip sz es i k => K (.ip sz es i k)
  | _ => False
 | .makeFunc fn fs cs => K (.fn fn (fs.toList.map ρ) (cs.toList.map ρ))
 | .build t ps => pQ P (gH P t) (ps.toList.map fun p => (p.1, ρ p.2)) K
 | .call { callee := .value f, args := as, argTypes := _ } => match ρ f with
  | .fn (.func g) first cap => aJL P g (first ++ as.toList.map ρ ++ cap) K
  | _ => False
 | .call { callee := .builtin .len, args := as, argTypes := ats } => match as.toList with
  | [x] => aJK P ats[0]? (ρ x) K
  | _ => False
 | .call { callee := .builtin .max, args := as, argTypes := _ } => match as.toList with
  | [x, y] => match ρ x, ρ y with
   | .int k a, .int _ b => (match ρ y with | .int k' _ => k' = k | _ => False) ∧ K (.int k (max a b))
   | _, _ => False
  | _ => False
 | .slice t x lo (some hi) (some mx) => mJ P t (ρ x) (lo.map ρ) (ρ hi) (ρ mx) K
 | _ => False
theorem jK {P : Program} {o : Oper} {ρ : Operand → aD} {F : (aD → Prop) → Prop} {K : aD → Prop} (hd : Det F) (hk : F K) (hs : ∀ h K', F (fun v => K' v h) → step P o ρ h K') : ∃ v, p7 P o ρ v ∧ K v := by
 obtain ⟨v, h1, h2⟩ := hd K hk
 exact ⟨v, fun h => jT (hs h _ (h2 (fun v' => v' = v ∧ h = h) ⟨rfl, rfl⟩)), h1⟩
theorem vB {P : Program} {o : Oper} {ρ : Operand → aD} {K : aD → Prop} (hs : aA5 P o ρ K) : ∃ v, p7 P o ρ v ∧ K v := by
 unfold aA5 at hs
 split at hs
 case h_1 x ho => exact jK (mR _) hs fun h K' f => by unfold step; rw [ho]; exact f
 case h_2 x ho => exact jK (mR _) hs fun h K' f => by unfold step; rw [ho]; exact f
 case h_3 c a b ho =>
  split at hs
  ·rename_i t ht
   refine ⟨if t then ρ a else ρ b, fun h => jT ?_, ?_⟩
   ·unfold step; rw [ho]; simp only [ht]
    cases t <;> simp
   ·cases t
    ·exact hs.2 rfl
    ·exact hs.1 rfl
  ·exact hs.elim
 case h_4 op t x y ty ho => exact jK (aV0 P op t _ _) hs fun h K' f => by unfold step; rw [ho]; exact aQJ f
 case h_5 op t x ho => exact jK (a06 op _) hs fun h K' f => by unfold step; rw [ho]; exact f
 case h_6 s d x ho => exact jK (aSA P s d _) hs fun h K' f => by unfold step; rw [ho]; exact f
 case h_7 t x f ho => exact jK (a07 _ f _) hs fun h K' f => by unfold step; rw [ho]; exact f
 case h_8 t x i ho => exact jK (a08 _ _ _) hs fun h K' f => by unfold step; rw [ho]; exact f
 case h_9 t x i ho => exact jK (a09 _ _ _) hs fun h K' f => by unfold step; rw [ho]; exact f
 case h_10 t a ho =>
  split at hs
  ·rename_i sz es i off ha
   refine jK (aSB _ sz i off es _) hs fun h K' f => ?_
   unfold step; rw [ho]; simp only [ha]; rw [aN8 _ _ _ _ _ h (fun _ => none)]; exact f
  ·exact hs.elim
 case h_11 t x lo hi ho => exact jK (aQK P t _ _ _) hs fun h K' f => by unfold step; rw [ho]; exact aJJ f
 case h_12 t i ho =>
  split at hs
  ·rename_i cs ht
   split at hs
   ·rename_i x hx
    exact jK (mR _) hs fun h K' f => by unfold step; rw [ho]; simp only [ht, hx]; exact f
   ·exact hs.elim
  ·exact hs.elim
 case h_13 x ho =>
  split at hs
  ·rename_i n sz i k hx; exact jK (mR _) hs fun h K' f => by unfold step; rw [ho]; simp only [hx]; exact f
  ·rename_i sz es i k hx; exact jK (mR _) hs fun h K' f => by unfold step; rw [ho]; simp only [hx]; exact f
  ·exact hs.elim
 case h_14 fn fs cs ho => exact jK (mR _) hs fun h K' f => by unfold step; rw [ho]; exact f
 case h_15 t ps ho => exact jK (aQL P _ _) hs fun h K' f => by unfold step; rw [ho]; exact f
 case h_16 f as ats ho =>
  split at hs
  ·rename_i g first cap hf
   obtain ⟨r, hr, hk⟩ := hs
   refine ⟨r, fun h => jT ?_, hk⟩
   unfold step; rw [ho]; simp only [u7, hf]
   exact hr h
  ·exact hs.elim
 case h_17 as ats ho =>
  split at hs
  ·rename_i x hax
   unfold aJK at hs
   split at hs
   ·rename_i t hat
    split at hs
    all_goals first
     |exact hs.elim
     |(rename_i e1 e2; refine jK (mR _) hs fun h K' f => ?_; unfold step; rw [ho]; simp only [u7, hax, aGZ, hat, e1, e2]; first | exact fun _ => f | exact f)
   ·exact hs.elim
  ·exact hs.elim
 case h_18 as ats ho =>
  split at hs
  ·rename_i x y hax
   split at hs
   ·rename_i k a k' b hx hy
    refine ⟨_, fun h => jT ?_, hs.2⟩
    unfold step; rw [ho]; simp only [u7, hax, hx, hy]
    have := hs.1; simp only [hy] at this; simp [this]
   ·exact hs.elim
  ·exact hs.elim
 case h_19 t x lo hi mx ho => exact jK (aMG P t _ _ _ _) hs fun h K' f => by unfold step; rw [ho]; exact f
 case h_20 => exact hs.elim
def aAB (P : Program) (ib : List Nat) (o : Oper) (ρ : Operand → aD) (K : aD → Prop) : Prop :=
 match o.dst with
 |some d => if ib.contains d then (match o.op with
   | .box _ x => aCV (ρ x) K
   | .buildSlice t len ps => p4 (jY P t) len (ps.toList.map fun p => (p.1, ρ p.2)) fun sz es => K (.sl sz es true)
   | _ => aA5 P o ρ K) else aA5 P o ρ K
 |none => aA5 P o ρ K
theorem aJM {P : Program} {ib : List Nat} {o : Oper} {ρ : Operand → aD} {F : (aD → Prop) → Prop} {K : aD → Prop} (hd : Det F) (hk : F K) (hs : ∀ h K', F (fun v => K' v h) → p5 P ib o ρ h K') : ∃ v, p7 P o ρ v ∧ K v := by
 obtain ⟨v, h1, h2⟩ := hd K hk
 exact ⟨v, fun h => vA (hs h _ (h2 (fun v' => v' = v ∧ h = h) ⟨rfl, rfl⟩)), h1⟩
theorem aG3 {P : Program} {ib : List Nat} {o : Oper} {ρ : Operand → aD} {K : aD → Prop} (hs : aAB P ib o ρ K) : ∃ v, p7 P o ρ v ∧ K v := by
 unfold aAB at hs
 split at hs
 ·rename_i d hd
  split at hs
  ·rename_i hib
   split at hs
   ·rename_i t x ho
    exact aJM (ib := ib) (aVZ fun _ => mR _) hs fun h K' f => by unfold p5; rw [hd]; simp only [hib, if_true, ho]; exact f
   ·rename_i t len ps ho
    exact aJM (ib := ib) (a1A _ _ _) hs fun h K' f => by unfold p5; rw [hd]; simp only [hib, if_true, ho]; exact f
   ·exact vB hs
  ·exact vB hs
 ·exact vB hs
def aJN (P : Program) (o : Oper) (ρ : Operand → aD) (h : aB) (K : Option Nat → aD → Prop) : Prop :=
 match o.op with
 | .load t a => match ρ a with
  | .op n sz i off => iG (gH P t) (.op n sz i off) h fun v => K (some n) v
  | .ip sz es i off => iG (gH P t) (.ip sz es i off) h fun v => K none v
  | _ => False
 | _ => False
theorem aV1 (r : Option jS) (n sz i off : Nat) (h : aB) : Det (iG r (.op n sz i off) h) := by
 intro K hk
 unfold iG at hk ⊢
 split at hk
 ·simp only at hk
  split at hk
  ·rename_i sz' es e0
   obtain ⟨h1, hk⟩ := hk
   split at hk
   ·rename_i e e1
    split at hk
    ·rename_i x e2
     exact ⟨x, hk, fun K' q => by simp only [e0, e1, e2]; exact ⟨h1, q⟩⟩
    ·exact hk.elim
   ·exact hk.elim
  ·exact hk.elim
 ·exact hk.elim
theorem aSC (r : Option jS) (n sz i off : Nat) (h h' : aB) (e : h' n = h n) (K : aD → Prop) : iG r (.op n sz i off) h' K = iG r (.op n sz i off) h K := by
 unfold iG; simp only [e]
theorem aJO {P : Program} {o : Oper} {ρ : Operand → aD} {h : aB} {K : Option Nat → aD → Prop} (hs : aJN P o ρ h K) : (∃ n v, aG1 P o ρ h n v ∧ K (some n) v) ∨ ∃ v, p7 P o ρ v ∧ K none v := by
 unfold aJN at hs
 split at hs
 ·rename_i t a ho
  split at hs
  ·rename_i n sz i off ha
   obtain ⟨v, h1, h2⟩ := aV1 _ n sz i off h _ hs
   refine .inl ⟨n, v, fun h' e => jT ?_, h1⟩
   unfold step; rw [ho]; simp only [ha]
   rw [aSC _ _ _ _ _ h h' e]
   have := h2 (fun v' => v' = v ∧ h' = h') ⟨rfl, rfl⟩
   simpa using this
  ·rename_i sz es i off ha
   obtain ⟨v, h1, h2⟩ := aSB _ sz i off es h _ hs
   refine .inr ⟨v, fun h' => jT ?_, h1⟩
   unfold step; rw [ho]; simp only [ha]
   rw [aN8 _ _ _ _ _ h' h]
   have := h2 (fun v' => v' = v ∧ h' = h') ⟨rfl, rfl⟩
   simpa using this
  ·exact hs.elim
 ·exact hs.elim
def aJP (cr : List (Nat × Nat)) (i : Nat) : Option Nat → List (Nat × Nat) → List (Nat × Nat)
 |some n, pr => if aR7 cr i then (i, n) :: pr else pr
 |none, pr => pr
def gP (cr : List (Nat × Nat)) (i : Nat) : List (Nat × Nat) → aB → aB → Prop
 | [], _, _ => True
 |(x, n) :: pr, h, h' => (if uQ cr x i then h' n = h n else True) ∧ gP cr i pr h h'
theorem aN9 {cr : List (Nat × Nat)} {i : Nat} {h h' : aB} : ∀ {pr : List (Nat × Nat)}, gP cr i pr h h' → aCZ cr i pr h h'
 | [], _ => fun p hp => by simp at hp
 |(x, n) :: pr, q => fun p hp hc => by
  simp only [gP] at q
  rcases List.mem_cons.1 hp with rfl | hp
  ·have := q.1; rw [if_pos hc] at this; exact this
  ·exact aN9 q.2 p hp hc
def aA6 (P : Program) (ib : List Nat) (cr : List (Nat × Nat)) (i : Nat) (m : Bool) (o : Oper) (ρ : Operand → aD) (pr : List (Nat × Nat)) (h : aB) (K : List (Nat × Nat) → aD → aB → Prop) : Prop :=
 if m then (if aMF o then aJN P o ρ h (fun n v => K (aJP cr i n pr) v h) else p5 P ib o ρ h (fun v h' => gP cr i pr h h' ∧ K pr v h'))
 else aAB P ib o ρ (fun v => K pr v h)
def OpD (P : Program) (ib : List Nat) (ops : Array Oper) (ms : List Nat) (cr : List (Nat × Nat)) (i : Nat) (pr : List (Nat × Nat)) (τ : bB) (h : aB) (C : List (Nat × Nat) → bB → aB → Prop) : Prop :=
 match ops[i]? with
  |none => False
  |some o => match o.guard with
   |none => aA6 P ib cr i (ms.contains i) o (pG ops o τ) pr h (fun pr' v h' => C pr' (eY τ o.dst v) h')
   |some (g, b) => match (ops[g]?).bind (·.dst) with
    |some d => match bJ τ d with
     | .bool b' => (b' = b → aA6 P ib cr i (ms.contains i) o (pG ops o ((d, .bool b) :: τ)) pr h (fun pr' v h' => C pr' (eY ((d, .bool b) :: τ) o.dst v) h')) ∧
       (b' = !b → C pr (eY ((d, .bool !b) :: τ) o.dst (.gN [])) h)
     | .gN [] => C pr (eY τ o.dst (.gN [])) h
     | _ => False
    |none => False
def aAC (P : Program) (ib : List Nat) (ops : Array Oper) (ms : List Nat) (cr : List (Nat × Nat)) : o9 → List (Nat × Nat) → bB → aB → (bB → aB → Prop) → Prop
 | .nil, _, τ, h, K => K τ h
 | .op i l, pr, τ, h, K => OpD P ib ops ms cr i pr τ h fun pr τ h => aAC P ib ops ms cr l pr τ h K
 | .alt i l j q, pr, τ, h, K => (OpD P ib ops ms cr i pr τ h fun pr τ h => aAC P ib ops ms cr l pr τ h K) ∧ OpD P ib ops ms cr j pr τ h fun pr τ h => aAC P ib ops ms cr q pr τ h K
theorem OpD.sound {P : Program} {ib : List Nat} {ops : Array Oper} {ms : List Nat} {cr : List (Nat × Nat)} {i : Nat} {C C' : List (Nat × Nat) → bB → aB → Prop}
  (hC : ∀ (pr pr' : List (Nat × Nat)) (τ τ' : bB) (h : aB), (∀ p ∈ pr', p ∈ pr ∨ ∀ j, uQ cr p.1 j = false) → TEq τ τ' → C pr τ h → C' pr' τ' h) (pr : List (Nat × Nat)) (τ : bB) (h : aB) (r : OpD P ib ops ms cr i pr τ h C) : OpL P ops ms i cr pr τ h C' := by
  have ids : ∀ pr : List (Nat × Nat), ∀ p ∈ pr, p ∈ pr ∨ ∀ j, uQ cr p.1 j = false := fun _ _ h => .inl h
  unfold OpD at r
  unfold OpL
  cases ho : ops[i]? with
  |none => simp [ho] at r
  |some o =>
   simp only [ho] at r ⊢
   have go : ∀ σ : bB, (∀ k, bJ σ k = bJ τ k) → want ops τ o = some true → aA6 P ib cr i (ms.contains i) o (pG ops o σ) pr h (fun pr' v h' => C pr' (eY σ o.dst v) h') → (match want ops τ o with
      |none => False
      |some true => if ms.contains i then (if aMF o then (∃ n v, aG1 P o (pG ops o τ) h n v ∧ C' ((i, n) :: pr) (eY τ o.dst v) h) ∨ ∃ v, p7 P o (pG ops o τ) v ∧ C' pr (eY τ o.dst v) h
         else lU P o (pG ops o τ) h fun v h' => aCZ cr i pr h h' ∧ C' pr (eY τ o.dst v) h')
        else ∃ v, p7 P o (pG ops o τ) v ∧ C' pr (eY τ o.dst v) h
      |some false => C' pr (eY τ o.dst (.gN [])) h) := by
    intro σ hσ hw r
    rw [hw]
    simp only
    rw [mK (ops := ops) (o := o) (τ := σ) (τ' := τ) fun t _ => hσ t] at r
    unfold aA6 at r
    split at r
    ·rename_i hm; rw [if_pos hm]
     split at r
     ·rename_i hl; rw [if_pos hl]
      rcases aJO r with ⟨n, v, h1, h2⟩ | ⟨v, h1, h2⟩
      ·refine .inl ⟨n, v, h1, hC _ _ _ _ h ?_ (TEq.put hσ _ _) h2⟩
       intro p hp
       simp only [aJP]
       split
       ·exact .inl hp
       ·rename_i hn
        rcases List.mem_cons.1 hp with rfl | hp
        ·exact .inr fun j => aJD (by simpa using hn)
        ·exact .inl hp
      ·exact .inr ⟨v, h1, hC _ _ _ _ h (ids _) (TEq.put hσ _ _) h2⟩
     ·rename_i hl; rw [if_neg hl]
      exact (vA r).mono fun v h' x => ⟨aN9 x.1, hC _ _ _ _ h' (ids _) (TEq.put hσ _ _) x.2⟩
    ·rename_i hm; rw [if_neg hm]
     obtain ⟨v, h1, h2⟩ := aG3 r
     exact ⟨v, h1, hC _ _ _ _ h (ids _) (TEq.put hσ _ _) h2⟩
   have skip : ∀ σ : bB, (∀ k, bJ σ k = bJ τ k) → want ops τ o = some false → C pr (eY σ o.dst (.gN [])) h → (match want ops τ o with
      |none => False
      |some true => if ms.contains i then (if aMF o then (∃ n v, aG1 P o (pG ops o τ) h n v ∧ C' ((i, n) :: pr) (eY τ o.dst v) h) ∨ ∃ v, p7 P o (pG ops o τ) v ∧ C' pr (eY τ o.dst v) h
         else lU P o (pG ops o τ) h fun v h' => aCZ cr i pr h h' ∧ C' pr (eY τ o.dst v) h')
        else ∃ v, p7 P o (pG ops o τ) v ∧ C' pr (eY τ o.dst v) h
      |some false => C' pr (eY τ o.dst (.gN [])) h) := by
    intro σ hσ hw r
    rw [hw]
    exact hC _ _ _ _ h (ids _) (TEq.put hσ _ _) r
   cases hg : o.guard with
   |none => simp only [hg] at r; exact go τ (fun _ => rfl) (by simp [want, hg]) r
   |some gb =>
    obtain ⟨g, b⟩ := gb
    simp only [hg] at r
    split at r
    ·rename_i d hd
     split at r
     ·rename_i b' hb'
      by_cases e : b' = b
      ·subst e
       exact go _ (tD hb') (by simp [want, hg, hd, hb']) (r.1 rfl)
      ·have e' : b' = !b := by cases b' <;> cases b <;> simp_all
       subst e'
       exact skip _ (tD hb') (by simp only [want, hg, hd, hb']; cases b <;> rfl) (r.2 rfl)
     ·rename_i hb'; exact skip τ (fun _ => rfl) (by simp [want, hg, hd, hb']) r
     ·exact r.elim
    ·exact r.elim
theorem aAC.sound {P : Program} {ib : List Nat} {ops : Array Oper} {ms : List Nat} {cr : List (Nat × Nat)} {K : bB → aB → Prop} (hK : ∀ τ τ' h, TEq τ τ' → K τ h → K τ' h) : ∀ (l : o9) (pr : List (Nat × Nat)) (τ : bB) (h : aB), aAC P ib ops ms cr l pr τ h K → iH P ops ms cr l pr τ h K
 | .nil, _, _, _, r => r
 | .op i l, pr, τ, h, r => OpD.sound (fun pr pr' τ τ' h hs e r => iH.congr hK l _ _ _ _ h hs e (aAC.sound hK l pr τ h r)) pr τ h r
 | .alt i l j q, pr, τ, h, r => ⟨OpD.sound (fun pr pr' τ τ' h hs e r => iH.congr hK l _ _ _ _ h hs e (aAC.sound hK l pr τ h r)) pr τ h r.1, OpD.sound (fun pr pr' τ τ' h hs e r => iH.congr hK q _ _ _ _ h hs e (aAC.sound hK q pr τ h r)) pr τ h r.2⟩
abbrev Marks := Nat → List Nat × o9 × List (Nat × Nat)
def aC4 (id : Nat) (K : bB → aB → Prop) (Q : Exit → bB → aB → Prop) : Exit → bB → aB → Prop
 | .exit i, τ, h => if i = id then K τ h else Q (.exit i) τ h
 |e, τ, h => Q e τ h
def hwp (P : Program) (N : Nat) (keep ib : List Nat) (mk : Marks) : Code → (bB → aB → Prop) → (Exit → bB → aB → Prop) → bB → aB → Prop
 | .skip, K, Q, τ, h => K τ h
 | .region id ops false, K, Q, τ, h => yF P ib ops ops.toList τ h fun τ' h' => K (Hl.prune keep τ') h'
 | .region id ops true, K, Q, τ, h => aAC P ib ops (mk id).1 (mk id).2.2 (mk id).2.1 [] τ h fun τ' h' => K (Hl.prune keep τ') h'
 | .seq a b, K, Q, τ, h => hwp P N keep ib mk a (fun τ h => hwp P N keep ib mk b K Q τ h) Q τ h
 | .cond c a b, K, Q, τ, h => match qQ τ c with
  | .bool t => (t = true → hwp P N keep ib mk a K Q τ h) ∧ (t = false → hwp P N keep ib mk b K Q τ h)
  | _ => False
 | .block id c, K, Q, τ, h => hwp P N keep ib mk c K (aC4 id K Q) τ h
 | .loop c, K, Q, τ, h => mI P N (.loop c) (r8 K Q) τ h
 | .exit id, K, Q, τ, h => Q (.exit id) τ h
 | .ret, K, Q, τ, h => Q .ret τ h
 | _, _, _, _, _ => False
def iS (N : Nat) (mk : Marks) : Code → Bool
 | .region _ ops false => xA N ops
 | .region id ops true => xA N ops && a05 ops (mk id).1 (mk id).2.1 (mk id).2.2
 | .seq a b => iS N mk a && iS N mk b
 | .cond _ a b => iS N mk a && iS N mk b
 | .block _ c => iS N mk c
 | .loop c => iS N mk c
 | _ => true
theorem nW {P : Program} {N : Nat} {keep ib : List Nat} {mk : Marks} (hmix : P.follows .mixedOrders = true) : ∀ (c : Code) (K : bB → aB → Prop) (Q : Exit → bB → aB → Prop) (τ : bB) (h : aB), iS N mk c = true → hwp P N keep ib mk c K Q τ h → mI P N c (r8 K Q) τ h
 | .skip, K, Q, τ, h, _, hw => .skip hw
 | .region id ops false, K, Q, τ, h, hc, hw => .region hc keep hw
 | .region id ops true, K, Q, τ, h, hc, hw => by
  simp only [iS, Bool.and_eq_true] at hc
  exact .aJH hmix hc.1 hc.2 keep (aAC.sound (fun τ τ' h e q => by
   have : Hl.prune keep τ = Hl.prune keep τ' := by unfold Hl.prune; exact List.map_congr_left fun k _ => by rw [e k]
   rwa [← this]) _ _ _ _ hw)
 | .seq a b, K, Q, τ, h, hc, hw => by
  simp only [iS, Bool.and_eq_true] at hc
  refine .seq ((nW hmix a _ _ τ h hc.1 hw).mono ?_)
  intro e τ' h' q
  cases e <;> simp only [r8] at q ⊢ <;> first | exact q | exact nW hmix b _ _ _ _ hc.2 q
 | .cond c a b, K, Q, τ, h, hc, hw => by
  simp only [iS, Bool.and_eq_true] at hc
  unfold hwp at hw
  split at hw
  ·rename_i t ht
   exact .cond ht (fun e => nW hmix a _ _ _ _ hc.1 (hw.1 e)) (fun e => nW hmix b _ _ _ _ hc.2 (hw.2 e))
  ·exact hw.elim
 | .block id c, K, Q, τ, h, hc, hw => .block ((nW hmix c _ _ τ h hc hw).mono fun e τ' h' q => by
   cases e <;> simp only [r8, aC4, aGX] at q ⊢ <;> first | exact q | (split at q <;> rename_i hi <;> simp_all [r8, aGX]))
 | .loop c, K, Q, τ, h, hc, hw => hw
 | .exit id, K, Q, τ, h, hc, hw => .exit hw
 | .ret, K, Q, τ, h, hc, hw => .ret hw
 | .rangeFunc _ _ _ _, _, _, _, _, _, hw => hw.elim
 | .scope _, _, _, _, _, _, hw => hw.elim
 | .label _, _, _, _, _, _, hw => hw.elim
 | .goto _, _, _, _, _, _, hw => hw.elim
 | .refuse _, _, _, _, _, _, hw => hw.elim
theorem aC5 {P : Program} {f : FuncId} {fn : Func} {c : Code} (N : Nat) (keep ib : List Nat) (mk : Marks) {args : List aD} {h : aB} {K : aD → aB → Prop} (hmix : P.follows .mixedOrders = true) (hf : P.funcs[f]? = some fn) (hb : fn.body = some c)
  (hck : (kS P f && decide (fn.ntmps = N) && iS N mk c) = true) (hl : args.length ≤ N) {K' : aD → aB → Prop}
  (hw : hwp P N keep ib mk c (yG P fn.results K' .normal) (yG P fn.results K') (p6 0 args) h) (hk : ∀ r h', K' r h' → ∃ g : aB, g.le h' ∧ K r g) : eH P f args h K := by
 simp only [Bool.and_eq_true, decide_eq_true_eq] at hck
 refine aR6 hf hb hck.1.1 hck.1.2 hl ((nW hmix c _ _ _ _ hck.2 hw).mono ?_) hk
 intro e τ h q
 cases e <;> exact q
theorem aV2 {P : Program} {f : FuncId} {fn : Func} {c : Code} (N : Nat) (keep ib : List Nat) (mk : Marks) {args : List aD} {r : aD} (hmix : P.follows .mixedOrders = true) (hf : P.funcs[f]? = some fn) (hb : fn.body = some c)
  (hck : (kS P f && decide (fn.ntmps = N) && iS N mk c) = true) (hl : args.length ≤ N)
  (hw : ∀ h, hwp P N keep ib mk c (yG P fn.results (fun r' h' => r' = r ∧ h.le h') .normal) (yG P fn.results fun r' h' => r' = r ∧ h.le h') (p6 0 args) h) : dV P f args r :=
 fun h => aC5 N keep ib mk hmix hf hb hck hl (hw h) fun _ _ hx => ⟨h, hx.2, hx.1, rfl⟩
theorem bF {h h' : aB} {n : Nat} {o : bL} (hn : h n = none) : h.le (a5 h' n o) ↔ h.le h' := by
 constructor
 ·intro hl m
  by_cases e : m = n
  ·subst e; exact .inl hn
  ·have := hl m; rwa [aF _ _ _ _ e] at this
 ·exact aB.bF hn
theorem b9 {h : aB} {n m : Nat} {o : bL} : a5 h n o m = none ↔ m ≠ n ∧ h m = none := by
 simp only [a5]; split <;> simp_all
def b8 : bB → bB → Prop
 | [], _ => True
 |(k, v) :: r, τ => bJ τ k = v ∧ b8 r τ
theorem b8.get : ∀ {l τ : bB}, b8 l τ → ∀ k, bJ l k = .any ∨ bJ l k = bJ τ k
 | [], τ, _, k => .inl rfl
 |(j, v) :: r, τ, h, k => by
  simp only [bJ]
  by_cases e : j = k
  ·subst e; right; rw [if_pos rfl]; exact h.1.symm
  ·rw [if_neg e]; exact b8.get h.2 k
theorem mI.weaken {P : Program} {N : Nat} {c : Code} {Q : Exit → bB → aB → Prop} {σ τ : bB} {g h : aB} (hs : b8 σ τ) (hl : g.le h) (x : mI P N c Q σ g) : mI P N c Q τ h :=
 mI.forget hl fun ds E w a R r => x ds E w a R ⟨r.size, r.defers, fun k => by
  rcases hs.get k with e | e
  ·rw [e]; exact .any _
  ·rw [e]; exact r.get k⟩
theorem mI.bX {P : Program} {N : Nat} {c : Code} {Q : Exit → bB → aB → Prop} {τ : bB} {h : aB} {α : Type} (S : α → bB) (H : α → aB) (side : α → Prop) (μ : α → Nat) (x₀ : α)
  (h₀ : b8 (S x₀) τ ∧ (H x₀).le h ∧ side x₀)
  (round : ∀ x, side x → mI P N c (r8 (fun τ' h' => ∃ x', b8 (S x') τ' ∧ (H x').le h' ∧ side x' ∧ μ x' < μ x) Q) (S x) (H x)) : mI P N (.loop c) Q τ h :=
 mI.loop (fun x τ h => b8 (S x) τ ∧ (H x).le h ∧ side x) μ x₀ h₀ fun x τ h ⟨h1, h2, h3⟩ =>
  mI.weaken h1 h2 ((round x h3).mono fun e τ h q => by
   cases e <;> simp only [r8] at q ⊢ <;> first | exact q | (obtain ⟨x', a, b, c, d⟩ := q; exact ⟨x', ⟨a, b, c⟩, d⟩))
end Go.Hl
